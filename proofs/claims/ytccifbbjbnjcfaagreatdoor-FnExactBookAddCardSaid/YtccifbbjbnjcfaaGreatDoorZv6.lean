/- A part of the proof of FnExactBookAdd: texts U2 U3 U4 U5 W17 W18 D7d W19 W20 W21 W22 W23 W24 W25 W26 W27 W30 W31 W32 W33 U6 U7 U8 N28 N29 U9 U10 N17. -/
import Derived.Test.YtccifbbjbnjcfaaGreatDoorZv5
import Derived.Test.YtccifbbjbnjcfaaGreatDoorZv3
import Derived.Test.YtccifbbjbnjcfaaGreatDoorZv4
import Derived.Test.YtccifbbjbnjcfaaGreatDoorZv1
import Derived.Test.YtccifbbjbnjcfaaGreatDoorZvp
import Derived.Maps.OwnSet
import Derived.Maps.Views
import Derived.Carry
set_option linter.unusedSimpArgs false
set_option linter.unusedVariables false
/-
  Walks: frames: the first frame of a list.
-/
namespace Go.Proofs.YtccifbbjbnjcfaaGreatDoor
open Go Go.RowKit Go.Proofs
def frA (l : List Int) : AV := match headF l with | none => .v (.slice none 0 0) | some b => intsA b
attribute [local irreducible] RWp AW run kPe pe Kt effA gd gu br retR RDp runD kPeD brW gW effD
set_option maxRecDepth 100000
theorem frame_nil : PC Tryz.prog 110 [intsA []] (vX (.v (.slice none 0 0))) := by
  refine pc_enter Tryz.func110 rfl rfl fun w0 fb => ?_
  first
    | (refine go_on_n 20 ?_; (try simp only [Tryz.ntmps110, show eqI 0 0 = true from rfl, push_cast, simprocAttr]); rw [run_0]; refine at_more ?_; refine aw_asgV rfl ?_)
    | (refine go_on_n 21 ?_; (try simp only [Tryz.ntmps110, show eqI 0 0 = true from rfl, push_cast, simprocAttr]); rw [run_0]; refine at_more ?_; refine aw_asgV rfl ?_)
    | (refine go_on_n 22 ?_; (try simp only [Tryz.ntmps110, show eqI 0 0 = true from rfl, push_cast, simprocAttr]); rw [run_0]; refine at_more ?_; refine aw_asgV rfl ?_)
    | (refine go_on_n 23 ?_; (try simp only [Tryz.ntmps110, show eqI 0 0 = true from rfl, push_cast, simprocAttr]); rw [run_0]; refine at_more ?_; refine aw_asgV rfl ?_)
    | (refine go_on_n 24 ?_; (try simp only [Tryz.ntmps110, show eqI 0 0 = true from rfl, push_cast, simprocAttr]); rw [run_0]; refine at_more ?_; refine aw_asgV rfl ?_)
    | (refine go_on_n 25 ?_; (try simp only [Tryz.ntmps110, show eqI 0 0 = true from rfl, push_cast, simprocAttr]); rw [run_0]; refine at_more ?_; refine aw_asgV rfl ?_)
    | (refine go_on_n 26 ?_; (try simp only [Tryz.ntmps110, show eqI 0 0 = true from rfl, push_cast, simprocAttr]); rw [run_0]; refine at_more ?_; refine aw_asgV rfl ?_)
    | (refine go_on_n 27 ?_; (try simp only [Tryz.ntmps110, show eqI 0 0 = true from rfl, push_cast, simprocAttr]); rw [run_0]; refine at_more ?_; refine aw_asgV rfl ?_)
    | (refine go_on_n 28 ?_; (try simp only [Tryz.ntmps110, show eqI 0 0 = true from rfl, push_cast, simprocAttr]); rw [run_0]; refine at_more ?_; refine aw_asgV rfl ?_)
    | (refine go_on_n 29 ?_; (try simp only [Tryz.ntmps110, show eqI 0 0 = true from rfl, push_cast, simprocAttr]); rw [run_0]; refine at_more ?_; refine aw_asgV rfl ?_)
    | (refine go_on_n 30 ?_; (try simp only [Tryz.ntmps110, show eqI 0 0 = true from rfl, push_cast, simprocAttr]); rw [run_0]; refine at_more ?_; refine aw_asgV rfl ?_)
    | (refine go_on_n 31 ?_; (try simp only [Tryz.ntmps110, show eqI 0 0 = true from rfl, push_cast, simprocAttr]); rw [run_0]; refine at_more ?_; refine aw_asgV rfl ?_)
    | (refine go_on_n 32 ?_; (try simp only [Tryz.ntmps110, show eqI 0 0 = true from rfl, push_cast, simprocAttr]); rw [run_0]; refine at_more ?_; refine aw_asgV rfl ?_)
    | (refine go_on_n 33 ?_; (try simp only [Tryz.ntmps110, show eqI 0 0 = true from rfl, push_cast, simprocAttr]); rw [run_0]; refine at_more ?_; refine aw_asgV rfl ?_)
    | (refine go_on_n 34 ?_; (try simp only [Tryz.ntmps110, show eqI 0 0 = true from rfl, push_cast, simprocAttr]); rw [run_0]; refine at_more ?_; refine aw_asgV rfl ?_)
    | (refine go_on_n 35 ?_; (try simp only [Tryz.ntmps110, show eqI 0 0 = true from rfl, push_cast, simprocAttr]); rw [run_0]; refine at_more ?_; refine aw_asgV rfl ?_)
    | (refine go_on_n 36 ?_; (try simp only [Tryz.ntmps110, show eqI 0 0 = true from rfl, push_cast, simprocAttr]); rw [run_0]; refine at_more ?_; refine aw_asgV rfl ?_)
    | (refine go_on_n 37 ?_; (try simp only [Tryz.ntmps110, show eqI 0 0 = true from rfl, push_cast, simprocAttr]); rw [run_0]; refine at_more ?_; refine aw_asgV rfl ?_)
    | (refine go_on_n 38 ?_; (try simp only [Tryz.ntmps110, show eqI 0 0 = true from rfl, push_cast, simprocAttr]); rw [run_0]; refine at_more ?_; refine aw_asgV rfl ?_)
    | (refine go_on_n 39 ?_; (try simp only [Tryz.ntmps110, show eqI 0 0 = true from rfl, push_cast, simprocAttr]); rw [run_0]; refine at_more ?_; refine aw_asgV rfl ?_)
    | (refine go_on_n 40 ?_; (try simp only [Tryz.ntmps110, show eqI 0 0 = true from rfl, push_cast, simprocAttr]); rw [run_0]; refine at_more ?_; refine aw_asgV rfl ?_)
    | (refine go_on_n 41 ?_; (try simp only [Tryz.ntmps110, show eqI 0 0 = true from rfl, push_cast, simprocAttr]); rw [run_0]; refine at_more ?_; refine aw_asgV rfl ?_)
    | (refine go_on_n 42 ?_; (try simp only [Tryz.ntmps110, show eqI 0 0 = true from rfl, push_cast, simprocAttr]); rw [run_0]; refine at_more ?_; refine aw_asgV rfl ?_)
    | (refine go_on_n 43 ?_; (try simp only [Tryz.ntmps110, show eqI 0 0 = true from rfl, push_cast, simprocAttr]); rw [run_0]; refine at_more ?_; refine aw_asgV rfl ?_)
    | (refine go_on_n 44 ?_; (try simp only [Tryz.ntmps110, show eqI 0 0 = true from rfl, push_cast, simprocAttr]); rw [run_0]; refine at_more ?_; refine aw_asgV rfl ?_)
    | (refine go_on_n 45 ?_; (try simp only [Tryz.ntmps110, show eqI 0 0 = true from rfl, push_cast, simprocAttr]); rw [run_0]; refine at_more ?_; refine aw_asgV rfl ?_)
    | (refine go_on_n 46 ?_; (try simp only [Tryz.ntmps110, show eqI 0 0 = true from rfl, push_cast, simprocAttr]); rw [run_0]; refine at_more ?_; refine aw_asgV rfl ?_)
    | (refine go_on_n 47 ?_; (try simp only [Tryz.ntmps110, show eqI 0 0 = true from rfl, push_cast, simprocAttr]); rw [run_0]; refine at_more ?_; refine aw_asgV rfl ?_)
    | (refine go_on_n 48 ?_; (try simp only [Tryz.ntmps110, show eqI 0 0 = true from rfl, push_cast, simprocAttr]); rw [run_0]; refine at_more ?_; refine aw_asgV rfl ?_)
    | (refine go_on_n 49 ?_; (try simp only [Tryz.ntmps110, show eqI 0 0 = true from rfl, push_cast, simprocAttr]); rw [run_0]; refine at_more ?_; refine aw_asgV rfl ?_)
    | (refine go_on_n 50 ?_; (try simp only [Tryz.ntmps110, show eqI 0 0 = true from rfl, push_cast, simprocAttr]); rw [run_0]; refine at_more ?_; refine aw_asgV rfl ?_)
    | (refine go_on_n 51 ?_; (try simp only [Tryz.ntmps110, show eqI 0 0 = true from rfl, push_cast, simprocAttr]); rw [run_0]; refine at_more ?_; refine aw_asgV rfl ?_)
    | (refine go_on_n 52 ?_; (try simp only [Tryz.ntmps110, show eqI 0 0 = true from rfl, push_cast, simprocAttr]); rw [run_0]; refine at_more ?_; refine aw_asgV rfl ?_)
    | (refine go_on_n 53 ?_; (try simp only [Tryz.ntmps110, show eqI 0 0 = true from rfl, push_cast, simprocAttr]); rw [run_0]; refine at_more ?_; refine aw_asgV rfl ?_)
    | (refine go_on_n 54 ?_; (try simp only [Tryz.ntmps110, show eqI 0 0 = true from rfl, push_cast, simprocAttr]); rw [run_0]; refine at_more ?_; refine aw_asgV rfl ?_)
    | (refine go_on_n 55 ?_; (try simp only [Tryz.ntmps110, show eqI 0 0 = true from rfl, push_cast, simprocAttr]); rw [run_0]; refine at_more ?_; refine aw_asgV rfl ?_)
    | (refine go_on_n 56 ?_; (try simp only [Tryz.ntmps110, show eqI 0 0 = true from rfl, push_cast, simprocAttr]); rw [run_0]; refine at_more ?_; refine aw_asgV rfl ?_)
    | (refine go_on_n 57 ?_; (try simp only [Tryz.ntmps110, show eqI 0 0 = true from rfl, push_cast, simprocAttr]); rw [run_0]; refine at_more ?_; refine aw_asgV rfl ?_)
    | (refine go_on_n 58 ?_; (try simp only [Tryz.ntmps110, show eqI 0 0 = true from rfl, push_cast, simprocAttr]); rw [run_0]; refine at_more ?_; refine aw_asgV rfl ?_)
    | (refine go_on_n 59 ?_; (try simp only [Tryz.ntmps110, show eqI 0 0 = true from rfl, push_cast, simprocAttr]); rw [run_0]; refine at_more ?_; refine aw_asgV rfl ?_)
  refine go_on ?_
  (try simp only [push_cast, simprocAttr])
  refine at_ret ?_; simp only [Tryz.results110, push_cast, simprocAttr]
  simp [vX]
theorem frame_in (l : List Int) (hl : l.length < 4294967281) (n : Int) (r : List Int) (hlr : l = n :: r) (h : inR n 1 16 = false) : PC Tryz.prog 110 [intsA l] (vX (.v (.slice none 0 0))) := by
  have hI := in_pc n 1 16
  have e0 : eqI (l.length : Int) 0 = false := eqI_f (by rw [hlr]; simp; omega)
  have i1 : toIx 0 l.length = some 0 := by unfold toIx; rw [if_pos ⟨by omega, by rw [hlr]; simp⟩]; rfl
  have i2 : (l.map inC)[0]? = some [iA n] := by rw [hlr]; rfl
  refine pc_enter Tryz.func110 rfl rfl fun w0 fb => go_on ?_
  (try simp only [Tryz.ntmps110, e0, i1, i2, push_cast, simprocAttr])
  refine at_call ?_
  (try simp only [push_cast, simprocAttr])
  refine rwc_v hI ?_
  first
    | (refine go_on_n 4 ?_; (try simp only [h, Bool.not_false, push_cast, simprocAttr]); rw [run_0]; refine at_more ?_; refine aw_asgV rfl ?_)
    | (refine go_on_n 5 ?_; (try simp only [h, Bool.not_false, push_cast, simprocAttr]); rw [run_0]; refine at_more ?_; refine aw_asgV rfl ?_)
    | (refine go_on_n 6 ?_; (try simp only [h, Bool.not_false, push_cast, simprocAttr]); rw [run_0]; refine at_more ?_; refine aw_asgV rfl ?_)
    | (refine go_on_n 7 ?_; (try simp only [h, Bool.not_false, push_cast, simprocAttr]); rw [run_0]; refine at_more ?_; refine aw_asgV rfl ?_)
    | (refine go_on_n 8 ?_; (try simp only [h, Bool.not_false, push_cast, simprocAttr]); rw [run_0]; refine at_more ?_; refine aw_asgV rfl ?_)
    | (refine go_on_n 9 ?_; (try simp only [h, Bool.not_false, push_cast, simprocAttr]); rw [run_0]; refine at_more ?_; refine aw_asgV rfl ?_)
    | (refine go_on_n 10 ?_; (try simp only [h, Bool.not_false, push_cast, simprocAttr]); rw [run_0]; refine at_more ?_; refine aw_asgV rfl ?_)
    | (refine go_on_n 11 ?_; (try simp only [h, Bool.not_false, push_cast, simprocAttr]); rw [run_0]; refine at_more ?_; refine aw_asgV rfl ?_)
    | (refine go_on_n 12 ?_; (try simp only [h, Bool.not_false, push_cast, simprocAttr]); rw [run_0]; refine at_more ?_; refine aw_asgV rfl ?_)
    | (refine go_on_n 13 ?_; (try simp only [h, Bool.not_false, push_cast, simprocAttr]); rw [run_0]; refine at_more ?_; refine aw_asgV rfl ?_)
    | (refine go_on_n 14 ?_; (try simp only [h, Bool.not_false, push_cast, simprocAttr]); rw [run_0]; refine at_more ?_; refine aw_asgV rfl ?_)
    | (refine go_on_n 15 ?_; (try simp only [h, Bool.not_false, push_cast, simprocAttr]); rw [run_0]; refine at_more ?_; refine aw_asgV rfl ?_)
    | (refine go_on_n 16 ?_; (try simp only [h, Bool.not_false, push_cast, simprocAttr]); rw [run_0]; refine at_more ?_; refine aw_asgV rfl ?_)
    | (refine go_on_n 17 ?_; (try simp only [h, Bool.not_false, push_cast, simprocAttr]); rw [run_0]; refine at_more ?_; refine aw_asgV rfl ?_)
    | (refine go_on_n 18 ?_; (try simp only [h, Bool.not_false, push_cast, simprocAttr]); rw [run_0]; refine at_more ?_; refine aw_asgV rfl ?_)
    | (refine go_on_n 19 ?_; (try simp only [h, Bool.not_false, push_cast, simprocAttr]); rw [run_0]; refine at_more ?_; refine aw_asgV rfl ?_)
    | (refine go_on_n 20 ?_; (try simp only [h, Bool.not_false, push_cast, simprocAttr]); rw [run_0]; refine at_more ?_; refine aw_asgV rfl ?_)
    | (refine go_on_n 21 ?_; (try simp only [h, Bool.not_false, push_cast, simprocAttr]); rw [run_0]; refine at_more ?_; refine aw_asgV rfl ?_)
    | (refine go_on_n 22 ?_; (try simp only [h, Bool.not_false, push_cast, simprocAttr]); rw [run_0]; refine at_more ?_; refine aw_asgV rfl ?_)
    | (refine go_on_n 23 ?_; (try simp only [h, Bool.not_false, push_cast, simprocAttr]); rw [run_0]; refine at_more ?_; refine aw_asgV rfl ?_)
    | (refine go_on_n 24 ?_; (try simp only [h, Bool.not_false, push_cast, simprocAttr]); rw [run_0]; refine at_more ?_; refine aw_asgV rfl ?_)
    | (refine go_on_n 25 ?_; (try simp only [h, Bool.not_false, push_cast, simprocAttr]); rw [run_0]; refine at_more ?_; refine aw_asgV rfl ?_)
    | (refine go_on_n 26 ?_; (try simp only [h, Bool.not_false, push_cast, simprocAttr]); rw [run_0]; refine at_more ?_; refine aw_asgV rfl ?_)
    | (refine go_on_n 27 ?_; (try simp only [h, Bool.not_false, push_cast, simprocAttr]); rw [run_0]; refine at_more ?_; refine aw_asgV rfl ?_)
    | (refine go_on_n 28 ?_; (try simp only [h, Bool.not_false, push_cast, simprocAttr]); rw [run_0]; refine at_more ?_; refine aw_asgV rfl ?_)
    | (refine go_on_n 29 ?_; (try simp only [h, Bool.not_false, push_cast, simprocAttr]); rw [run_0]; refine at_more ?_; refine aw_asgV rfl ?_)
  refine go_on ?_
  (try simp only [push_cast, simprocAttr])
  refine at_ret ?_; simp only [Tryz.results110, push_cast, simprocAttr]
  simp [vX]
theorem frame_len (l : List Int) (hl : l.length < 4294967281) (n : Int) (r : List Int) (hlr : l = n :: r) (h : inR n 1 16 = true) (hn : (l.length : Int) < n + 2) : PC Tryz.prog 110 [intsA l] (vX (.v (.slice none 0 0))) := by
  have hI := in_pc n 1 16
  have hb : 1 ≤ n ∧ n ≤ 16 := by simpa [inR] using h
  have e0 : eqI (l.length : Int) 0 = false := eqI_f (by rw [hlr]; simp; omega)
  have i1 : toIx 0 l.length = some 0 := by unfold toIx; rw [if_pos ⟨by omega, by rw [hlr]; simp⟩]; rfl
  have i2 : (l.map inC)[0]? = some [iA n] := by rw [hlr]; rfl
  have w2 : IntKind.i64.wrap (n + 2) = n + 2 := wr _ (by omega)
  have e1 : ltI (l.length : Int) (n + 2) = true := ltI_t hn
  refine pc_enter Tryz.func110 rfl rfl fun w0 fb => go_on ?_
  (try simp only [Tryz.ntmps110, e0, i1, i2, push_cast, simprocAttr])
  refine at_call ?_
  (try simp only [push_cast, simprocAttr])
  refine rwc_v hI ?_
  first
    | (refine go_on_n 10 ?_; (try simp only [h, Bool.not_true, i1, i2, w2, e1, push_cast, simprocAttr]); rw [run_0]; refine at_more ?_; refine aw_asgV rfl ?_)
    | (refine go_on_n 11 ?_; (try simp only [h, Bool.not_true, i1, i2, w2, e1, push_cast, simprocAttr]); rw [run_0]; refine at_more ?_; refine aw_asgV rfl ?_)
    | (refine go_on_n 12 ?_; (try simp only [h, Bool.not_true, i1, i2, w2, e1, push_cast, simprocAttr]); rw [run_0]; refine at_more ?_; refine aw_asgV rfl ?_)
    | (refine go_on_n 13 ?_; (try simp only [h, Bool.not_true, i1, i2, w2, e1, push_cast, simprocAttr]); rw [run_0]; refine at_more ?_; refine aw_asgV rfl ?_)
    | (refine go_on_n 14 ?_; (try simp only [h, Bool.not_true, i1, i2, w2, e1, push_cast, simprocAttr]); rw [run_0]; refine at_more ?_; refine aw_asgV rfl ?_)
    | (refine go_on_n 15 ?_; (try simp only [h, Bool.not_true, i1, i2, w2, e1, push_cast, simprocAttr]); rw [run_0]; refine at_more ?_; refine aw_asgV rfl ?_)
    | (refine go_on_n 16 ?_; (try simp only [h, Bool.not_true, i1, i2, w2, e1, push_cast, simprocAttr]); rw [run_0]; refine at_more ?_; refine aw_asgV rfl ?_)
    | (refine go_on_n 17 ?_; (try simp only [h, Bool.not_true, i1, i2, w2, e1, push_cast, simprocAttr]); rw [run_0]; refine at_more ?_; refine aw_asgV rfl ?_)
    | (refine go_on_n 18 ?_; (try simp only [h, Bool.not_true, i1, i2, w2, e1, push_cast, simprocAttr]); rw [run_0]; refine at_more ?_; refine aw_asgV rfl ?_)
    | (refine go_on_n 19 ?_; (try simp only [h, Bool.not_true, i1, i2, w2, e1, push_cast, simprocAttr]); rw [run_0]; refine at_more ?_; refine aw_asgV rfl ?_)
    | (refine go_on_n 20 ?_; (try simp only [h, Bool.not_true, i1, i2, w2, e1, push_cast, simprocAttr]); rw [run_0]; refine at_more ?_; refine aw_asgV rfl ?_)
    | (refine go_on_n 21 ?_; (try simp only [h, Bool.not_true, i1, i2, w2, e1, push_cast, simprocAttr]); rw [run_0]; refine at_more ?_; refine aw_asgV rfl ?_)
    | (refine go_on_n 22 ?_; (try simp only [h, Bool.not_true, i1, i2, w2, e1, push_cast, simprocAttr]); rw [run_0]; refine at_more ?_; refine aw_asgV rfl ?_)
    | (refine go_on_n 23 ?_; (try simp only [h, Bool.not_true, i1, i2, w2, e1, push_cast, simprocAttr]); rw [run_0]; refine at_more ?_; refine aw_asgV rfl ?_)
    | (refine go_on_n 24 ?_; (try simp only [h, Bool.not_true, i1, i2, w2, e1, push_cast, simprocAttr]); rw [run_0]; refine at_more ?_; refine aw_asgV rfl ?_)
    | (refine go_on_n 25 ?_; (try simp only [h, Bool.not_true, i1, i2, w2, e1, push_cast, simprocAttr]); rw [run_0]; refine at_more ?_; refine aw_asgV rfl ?_)
    | (refine go_on_n 26 ?_; (try simp only [h, Bool.not_true, i1, i2, w2, e1, push_cast, simprocAttr]); rw [run_0]; refine at_more ?_; refine aw_asgV rfl ?_)
    | (refine go_on_n 27 ?_; (try simp only [h, Bool.not_true, i1, i2, w2, e1, push_cast, simprocAttr]); rw [run_0]; refine at_more ?_; refine aw_asgV rfl ?_)
    | (refine go_on_n 28 ?_; (try simp only [h, Bool.not_true, i1, i2, w2, e1, push_cast, simprocAttr]); rw [run_0]; refine at_more ?_; refine aw_asgV rfl ?_)
    | (refine go_on_n 29 ?_; (try simp only [h, Bool.not_true, i1, i2, w2, e1, push_cast, simprocAttr]); rw [run_0]; refine at_more ?_; refine aw_asgV rfl ?_)
    | (refine go_on_n 30 ?_; (try simp only [h, Bool.not_true, i1, i2, w2, e1, push_cast, simprocAttr]); rw [run_0]; refine at_more ?_; refine aw_asgV rfl ?_)
    | (refine go_on_n 31 ?_; (try simp only [h, Bool.not_true, i1, i2, w2, e1, push_cast, simprocAttr]); rw [run_0]; refine at_more ?_; refine aw_asgV rfl ?_)
    | (refine go_on_n 32 ?_; (try simp only [h, Bool.not_true, i1, i2, w2, e1, push_cast, simprocAttr]); rw [run_0]; refine at_more ?_; refine aw_asgV rfl ?_)
    | (refine go_on_n 33 ?_; (try simp only [h, Bool.not_true, i1, i2, w2, e1, push_cast, simprocAttr]); rw [run_0]; refine at_more ?_; refine aw_asgV rfl ?_)
    | (refine go_on_n 34 ?_; (try simp only [h, Bool.not_true, i1, i2, w2, e1, push_cast, simprocAttr]); rw [run_0]; refine at_more ?_; refine aw_asgV rfl ?_)
    | (refine go_on_n 35 ?_; (try simp only [h, Bool.not_true, i1, i2, w2, e1, push_cast, simprocAttr]); rw [run_0]; refine at_more ?_; refine aw_asgV rfl ?_)
    | (refine go_on_n 36 ?_; (try simp only [h, Bool.not_true, i1, i2, w2, e1, push_cast, simprocAttr]); rw [run_0]; refine at_more ?_; refine aw_asgV rfl ?_)
    | (refine go_on_n 37 ?_; (try simp only [h, Bool.not_true, i1, i2, w2, e1, push_cast, simprocAttr]); rw [run_0]; refine at_more ?_; refine aw_asgV rfl ?_)
    | (refine go_on_n 38 ?_; (try simp only [h, Bool.not_true, i1, i2, w2, e1, push_cast, simprocAttr]); rw [run_0]; refine at_more ?_; refine aw_asgV rfl ?_)
    | (refine go_on_n 39 ?_; (try simp only [h, Bool.not_true, i1, i2, w2, e1, push_cast, simprocAttr]); rw [run_0]; refine at_more ?_; refine aw_asgV rfl ?_)
    | (refine go_on_n 40 ?_; (try simp only [h, Bool.not_true, i1, i2, w2, e1, push_cast, simprocAttr]); rw [run_0]; refine at_more ?_; refine aw_asgV rfl ?_)
    | (refine go_on_n 41 ?_; (try simp only [h, Bool.not_true, i1, i2, w2, e1, push_cast, simprocAttr]); rw [run_0]; refine at_more ?_; refine aw_asgV rfl ?_)
    | (refine go_on_n 42 ?_; (try simp only [h, Bool.not_true, i1, i2, w2, e1, push_cast, simprocAttr]); rw [run_0]; refine at_more ?_; refine aw_asgV rfl ?_)
    | (refine go_on_n 43 ?_; (try simp only [h, Bool.not_true, i1, i2, w2, e1, push_cast, simprocAttr]); rw [run_0]; refine at_more ?_; refine aw_asgV rfl ?_)
    | (refine go_on_n 44 ?_; (try simp only [h, Bool.not_true, i1, i2, w2, e1, push_cast, simprocAttr]); rw [run_0]; refine at_more ?_; refine aw_asgV rfl ?_)
    | (refine go_on_n 45 ?_; (try simp only [h, Bool.not_true, i1, i2, w2, e1, push_cast, simprocAttr]); rw [run_0]; refine at_more ?_; refine aw_asgV rfl ?_)
    | (refine go_on_n 46 ?_; (try simp only [h, Bool.not_true, i1, i2, w2, e1, push_cast, simprocAttr]); rw [run_0]; refine at_more ?_; refine aw_asgV rfl ?_)
    | (refine go_on_n 47 ?_; (try simp only [h, Bool.not_true, i1, i2, w2, e1, push_cast, simprocAttr]); rw [run_0]; refine at_more ?_; refine aw_asgV rfl ?_)
    | (refine go_on_n 48 ?_; (try simp only [h, Bool.not_true, i1, i2, w2, e1, push_cast, simprocAttr]); rw [run_0]; refine at_more ?_; refine aw_asgV rfl ?_)
    | (refine go_on_n 49 ?_; (try simp only [h, Bool.not_true, i1, i2, w2, e1, push_cast, simprocAttr]); rw [run_0]; refine at_more ?_; refine aw_asgV rfl ?_)
  refine go_on ?_
  (try simp only [push_cast, simprocAttr])
  refine at_ret ?_; simp only [Tryz.results110, push_cast, simprocAttr]
  simp [vX]
theorem frame_body (l : List Int) (hl : l.length < 4294967281) (n : Int) (r : List Int) (hlr : l = n :: r) (h : inR n 1 16 = true) (hn : n + 2 ≤ (l.length : Int)) : PC Tryz.prog 110 [intsA l] (vX (frA l)) := by
  have hI := in_pc n 1 16
  have hb : 1 ≤ n ∧ n ≤ 16 := by simpa [inR] using h
  have e0 : eqI (l.length : Int) 0 = false := eqI_f (by rw [hlr]; simp; omega)
  have i1 : toIx 0 l.length = some 0 := by unfold toIx; rw [if_pos ⟨by omega, by rw [hlr]; simp⟩]; rfl
  have i2 : (l.map inC)[0]? = some [iA n] := by rw [hlr]; rfl
  have w2 : IntKind.i64.wrap (n + 2) = n + 2 := wr _ (by omega)
  have w1 : IntKind.i64.wrap (n + 1) = n + 1 := wr _ (by omega)
  have e1 : ltI (l.length : Int) (n + 2) = false := ltI_f (by omega)
  have hrl : n.toNat + 1 ≤ r.length := by rw [hlr] at hn; simp at hn; omega
  obtain ⟨B, hBd⟩ : ∃ B, r.take n.toNat = B := ⟨_, rfl⟩
  have hBl : B.length = n.toNat := by rw [← hBd, List.length_take]; omega
  have hBB : bodyB B = bytesB B := by
    unfold bodyB
    rw [hBl, show inR ((n.toNat : Nat) : Int) 1 16 = true from by rw [show ((n.toNat : Nat) : Int) = n by omega]; exact h, Bool.and_true]
  have hc : 1 ≤ n + 1 ∧ n + 1 ≤ (l.length : Int) := by omega
  have hB : List.drop 1 (List.take (n + 1).toNat (List.map inC l)) = List.map inC B := by
    rw [hlr, show (n + 1).toNat = n.toNat + 1 by omega, List.map_cons, List.take_succ_cons, List.drop_succ_cons, List.drop_zero, ← List.map_take, hBd]
  have hIB := isBody_pc B (by omega)
  obtain ⟨x, hxr⟩ : ∃ x, r[n.toNat]? = some x := ⟨r[n.toNat]'(by omega), List.getElem?_eq_getElem _⟩
  have i3 : toIx (n + 1) l.length = some (n + 1).toNat := by unfold toIx; rw [if_pos ⟨by omega, by omega⟩]
  have i4 : (l.map inC)[(n + 1).toNat]? = some [iA x] := by
    rw [hlr, show (n + 1).toNat = n.toNat + 1 by omega, List.map_cons, List.getElem?_cons_succ, List.getElem?_map, hxr]; rfl
  refine pc_enter Tryz.func110 rfl rfl fun w0 fb => go_on ?_; (try simp only [Tryz.ntmps110, push_cast, simprocAttr])
  (try simp only [e0, i1, i2, push_cast, simprocAttr])
  (refine at_call ?_; (try simp only [push_cast, simprocAttr]); refine rwc_v (hI) (go_on ?_); (try simp only [push_cast, simprocAttr]))
  (try simp only [h, Bool.not_true, i1, i2, w2, w1, e1, hc, if_true, hB, push_cast, simprocAttr])
  refine at_draw rfl (by kernel_rfl) ?_; simp only [push_cast, simprocAttr]
  (try simp only [i1, i2, w1, push_cast, simprocAttr])
  (refine at_callD (by simp [clB, idsL, idsA, hget]) ?_; (try simp only [push_cast, simprocAttr]); refine rcd_v hIB ?_; (try simp only [push_cast, simprocAttr]))
  cases hb2 : bodyB B with
  | false =>
    have hF : frA l = .v (.slice none 0 0) := by
      unfold frA
      rw [hlr, headF, if_neg]
      intro hc
      simp only [Bool.and_eq_true] at hc
      rw [hBB] at hb2
      rw [hBd, hb2] at hc
      exact absurd hc.1.2 (by simp)
    rw [hF]
    (try simp only [hb2, Bool.not_false, i1, i2, w1, push_cast, simprocAttr])
    refine at_done (by kernel_rfl) (by kernel_rfl) ?_
    first
      | (refine go_on_n 1 ?_; (try simp only [push_cast, simprocAttr]); rw [run_0]; refine at_more ?_; refine aw_asgV rfl ?_)
      | (refine go_on_n 2 ?_; (try simp only [push_cast, simprocAttr]); rw [run_0]; refine at_more ?_; refine aw_asgV rfl ?_)
      | (refine go_on_n 3 ?_; (try simp only [push_cast, simprocAttr]); rw [run_0]; refine at_more ?_; refine aw_asgV rfl ?_)
      | (refine go_on_n 4 ?_; (try simp only [push_cast, simprocAttr]); rw [run_0]; refine at_more ?_; refine aw_asgV rfl ?_)
      | (refine go_on_n 5 ?_; (try simp only [push_cast, simprocAttr]); rw [run_0]; refine at_more ?_; refine aw_asgV rfl ?_)
      | (refine go_on_n 6 ?_; (try simp only [push_cast, simprocAttr]); rw [run_0]; refine at_more ?_; refine aw_asgV rfl ?_)
      | (refine go_on_n 7 ?_; (try simp only [push_cast, simprocAttr]); rw [run_0]; refine at_more ?_; refine aw_asgV rfl ?_)
      | (refine go_on_n 8 ?_; (try simp only [push_cast, simprocAttr]); rw [run_0]; refine at_more ?_; refine aw_asgV rfl ?_)
      | (refine go_on_n 9 ?_; (try simp only [push_cast, simprocAttr]); rw [run_0]; refine at_more ?_; refine aw_asgV rfl ?_)
      | (refine go_on_n 10 ?_; (try simp only [push_cast, simprocAttr]); rw [run_0]; refine at_more ?_; refine aw_asgV rfl ?_)
      | (refine go_on_n 11 ?_; (try simp only [push_cast, simprocAttr]); rw [run_0]; refine at_more ?_; refine aw_asgV rfl ?_)
      | (refine go_on_n 12 ?_; (try simp only [push_cast, simprocAttr]); rw [run_0]; refine at_more ?_; refine aw_asgV rfl ?_)
      | (refine go_on_n 13 ?_; (try simp only [push_cast, simprocAttr]); rw [run_0]; refine at_more ?_; refine aw_asgV rfl ?_)
      | (refine go_on_n 14 ?_; (try simp only [push_cast, simprocAttr]); rw [run_0]; refine at_more ?_; refine aw_asgV rfl ?_)
      | (refine go_on_n 15 ?_; (try simp only [push_cast, simprocAttr]); rw [run_0]; refine at_more ?_; refine aw_asgV rfl ?_)
      | (refine go_on_n 16 ?_; (try simp only [push_cast, simprocAttr]); rw [run_0]; refine at_more ?_; refine aw_asgV rfl ?_)
      | (refine go_on_n 17 ?_; (try simp only [push_cast, simprocAttr]); rw [run_0]; refine at_more ?_; refine aw_asgV rfl ?_)
      | (refine go_on_n 18 ?_; (try simp only [push_cast, simprocAttr]); rw [run_0]; refine at_more ?_; refine aw_asgV rfl ?_)
      | (refine go_on_n 19 ?_; (try simp only [push_cast, simprocAttr]); rw [run_0]; refine at_more ?_; refine aw_asgV rfl ?_)
    refine go_on ?_
    (try simp only [push_cast, simprocAttr])
    refine at_ret ?_; simp only [Tryz.results110, push_cast, simprocAttr]
    simp [vX]
  | true =>
    have hSum := BodySum_pc B hb2
    (try simp only [hb2, Bool.not_true, i1, i2, i3, i4, w1, push_cast, simprocAttr])
    (refine at_callD (by simp [clB, idsL, idsA, hget]) ?_; (try simp only [push_cast, simprocAttr]); refine rcd_v hSum ?_; (try simp only [push_cast, simprocAttr]))
    by_cases hx : x = sumB B
    · have e5 : eqI x (sumB B) = true := eqI_t hx
      have hF : frA l = intsA B := by
        unfold frA
        rw [hlr, headF, hBd, if_pos]
        rw [hBB] at hb2
        simp only [Bool.and_eq_true, decide_eq_true_eq]
        exact ⟨⟨⟨h, by rw [hlr] at hn; simp at hn; omega⟩, hb2⟩, by rw [hxr, hx]⟩
      rw [hF]
      (try simp only [e5, Bool.not_true, i1, i2, i3, i4, w1, push_cast, simprocAttr])
      refine at_done (by kernel_rfl) (by kernel_rfl) (go_on ?_)
      (try simp only [push_cast, simprocAttr])
      refine at_ret ?_; simp only [Tryz.results110, push_cast, simprocAttr]
      simp [vX]
    · have e5 : eqI x (sumB B) = false := eqI_f hx
      have hF : frA l = .v (.slice none 0 0) := by
        unfold frA
        rw [hlr, headF, hBd, if_neg]
        intro hc
        simp only [Bool.and_eq_true, decide_eq_true_eq] at hc
        have := hc.2
        rw [hxr] at this
        exact hx (Option.some.inj this)
      rw [hF]
      (try simp only [e5, Bool.not_false, i1, i2, i3, i4, w1, push_cast, simprocAttr])
      refine at_done (by kernel_rfl) (by kernel_rfl) ?_
      first
        | (refine go_on_n 1 ?_; (try simp only [push_cast, simprocAttr]); rw [run_0]; refine at_more ?_; refine aw_asgV rfl ?_)
        | (refine go_on_n 2 ?_; (try simp only [push_cast, simprocAttr]); rw [run_0]; refine at_more ?_; refine aw_asgV rfl ?_)
        | (refine go_on_n 3 ?_; (try simp only [push_cast, simprocAttr]); rw [run_0]; refine at_more ?_; refine aw_asgV rfl ?_)
        | (refine go_on_n 4 ?_; (try simp only [push_cast, simprocAttr]); rw [run_0]; refine at_more ?_; refine aw_asgV rfl ?_)
        | (refine go_on_n 5 ?_; (try simp only [push_cast, simprocAttr]); rw [run_0]; refine at_more ?_; refine aw_asgV rfl ?_)
        | (refine go_on_n 6 ?_; (try simp only [push_cast, simprocAttr]); rw [run_0]; refine at_more ?_; refine aw_asgV rfl ?_)
        | (refine go_on_n 7 ?_; (try simp only [push_cast, simprocAttr]); rw [run_0]; refine at_more ?_; refine aw_asgV rfl ?_)
        | (refine go_on_n 8 ?_; (try simp only [push_cast, simprocAttr]); rw [run_0]; refine at_more ?_; refine aw_asgV rfl ?_)
        | (refine go_on_n 9 ?_; (try simp only [push_cast, simprocAttr]); rw [run_0]; refine at_more ?_; refine aw_asgV rfl ?_)
        | (refine go_on_n 10 ?_; (try simp only [push_cast, simprocAttr]); rw [run_0]; refine at_more ?_; refine aw_asgV rfl ?_)
        | (refine go_on_n 11 ?_; (try simp only [push_cast, simprocAttr]); rw [run_0]; refine at_more ?_; refine aw_asgV rfl ?_)
        | (refine go_on_n 12 ?_; (try simp only [push_cast, simprocAttr]); rw [run_0]; refine at_more ?_; refine aw_asgV rfl ?_)
        | (refine go_on_n 13 ?_; (try simp only [push_cast, simprocAttr]); rw [run_0]; refine at_more ?_; refine aw_asgV rfl ?_)
        | (refine go_on_n 14 ?_; (try simp only [push_cast, simprocAttr]); rw [run_0]; refine at_more ?_; refine aw_asgV rfl ?_)
        | (refine go_on_n 15 ?_; (try simp only [push_cast, simprocAttr]); rw [run_0]; refine at_more ?_; refine aw_asgV rfl ?_)
        | (refine go_on_n 16 ?_; (try simp only [push_cast, simprocAttr]); rw [run_0]; refine at_more ?_; refine aw_asgV rfl ?_)
        | (refine go_on_n 17 ?_; (try simp only [push_cast, simprocAttr]); rw [run_0]; refine at_more ?_; refine aw_asgV rfl ?_)
        | (refine go_on_n 18 ?_; (try simp only [push_cast, simprocAttr]); rw [run_0]; refine at_more ?_; refine aw_asgV rfl ?_)
        | (refine go_on_n 19 ?_; (try simp only [push_cast, simprocAttr]); rw [run_0]; refine at_more ?_; refine aw_asgV rfl ?_)
      refine go_on ?_
      (try simp only [push_cast, simprocAttr])
      refine at_ret ?_; simp only [Tryz.results110, push_cast, simprocAttr]
      simp [vX]
theorem frame_pc (l : List Int) (hl : l.length < 4294967281) : PC Tryz.prog 110 [intsA l] (vX (frA l)) := by
  cases hlr : l with
  | nil => exact frame_nil
  | cons n r =>
    rw [← hlr]
    cases h : inR n 1 16 with
    | false =>
      have hF : frA l = .v (.slice none 0 0) := by unfold frA; rw [hlr, headF, h]; rfl
      rw [hF]
      exact frame_in l hl n r hlr h
    | true =>
      by_cases hn : (l.length : Int) < n + 2
      · have hF : frA l = .v (.slice none 0 0) := by
          unfold frA
          rw [hlr, headF, if_neg]
          intro hc
          simp only [Bool.and_eq_true, decide_eq_true_eq, inR] at hc h
          rw [hlr] at hn
          simp at hn
          omega
        rw [hF]
        exact frame_len l hl n r hlr h hn
      · exact frame_body l hl n r hlr h (by omega)
end Go.Proofs.YtccifbbjbnjcfaaGreatDoor
/-
  Walks: frames: all frames of a list.
-/
namespace Go.Proofs.YtccifbbjbnjcfaaGreatDoor
open Go Go.RowKit Go.Proofs
section
variable {P : Program} {Q : Exit → Act → World → Prop} {w0 : World} {lent : Lent} {s : AS} {k : List It} {l : List SO}
theorem aw_mvV {d : Tmp} {ty : TypeId} {x : Operand} {u : Value} (hx : evA s.t x = .v u) (h : AW P w0 lent Q (.ops l :: k) ⟨setA s.t d (.v u), s.h⟩) : AW P w0 lent Q (.ops (⟨some d, .move x, ty, none⟩ :: l) :: k) s := by
  intro loc a w hR
  have hv : a.eval x = u := by
    have := evA_ok hR x
    rw [hx] at this
    exact this.v_inv
  show wpSO P (Kt P w0 lent Q k) _ a w
  unfold wpSO
  simp only
  unfold Oper.wp
  have : (execOp a.eval (SO.oper ⟨some d, .move x, ty, none⟩)).run P w = .ok (.value u) w := by
    simp [execOp, SO.oper, hv]
  rw [this]
  exact h loc _ w (hR.put (some d) (.cl .v))
end
/-- How many numbers the frames have. -/
def scanAt (l : List Int) : Nat := ((scanF l).map fun b => b.length + 2).sum
theorem scanAt_none {l : List Int} (h : headF l = none) : scanAt l = 0 := by unfold scanAt; rw [scanF_none h]; rfl
theorem scanAt_some {l b : List Int} (h : headF l = some b) : scanAt l = b.length + 2 + scanAt (l.drop (b.length + 2)) := by unfold scanAt; rw [scanF_some h]; rfl
theorem headF_len {l b : List Int} (h : headF l = some b) : 1 ≤ b.length ∧ b.length ≤ 16 ∧ b.length + 2 ≤ l.length := by
  obtain ⟨h1, rest, h2, _⟩ := headF_spec h
  obtain ⟨_, h4, h5⟩ := body_bytes h1
  have := congrArg List.length h2
  rw [List.length_append, frameB_len h1] at this
  exact ⟨h4, h5, by omega⟩
/-- Where a scan stands. -/
structure SJ (l : List Int) (A : Nat) (out : List (List Int)) : Prop where
  le : A ≤ l.length
  n : out.length ≤ A
  e : scanF l = out ++ scanF (l.drop A)
  a : scanAt l = A + scanAt (l.drop A)
theorem SJ.init (l : List Int) : SJ l 0 [] := ⟨Nat.zero_le _, Nat.le_refl _, by simp, by simp⟩
theorem SJ.step {l : List Int} {A : Nat} {out : List (List Int)} (h : SJ l A out) {b : List Int} (hb : headF (l.drop A) = some b) : SJ l (A + (b.length + 2)) (out ++ [b]) := by
  have hl := headF_len hb
  rw [List.length_drop] at hl
  refine ⟨by omega, by have := h.n; simp; omega, ?_, ?_⟩
  · rw [h.e, scanF_some hb, List.drop_drop]; simp
  · rw [h.a, scanAt_some hb, List.drop_drop]; omega
theorem SJ.done {l : List Int} {A : Nat} {out : List (List Int)} (h : SJ l A out) (hb : headF (l.drop A) = none) : scanF l = out ∧ scanAt l = A := by
  refine ⟨by rw [h.e, scanF_none hb, List.append_nil], by rw [h.a, scanAt_none hb, Nat.add_zero]⟩
theorem frw_Z {ids : List Nat} {h : Hp} {E : TypeId} {l : List (List Int)} : frwRow ids h ⟨E, 1, l.map szC, true⟩ = ⟨E, 1, l.map szC, true⟩ := by
  unfold frwRow
  rw [if_pos]
  rw [List.all_map, List.all_eq_true]
  intro d _
  simp [szC, idsA]
attribute [local irreducible] RWp AW run kPe pe Kt effA gd gu br retR RDp runD kPeD brW gW effD
set_option maxRecDepth 100000
theorem cloneInts_d (xs : List Int) (hn : xs.length ≤ 4194304) : PC Tryz.prog 129 [intsA xs] (vX (intsA xs)) := by
  have := (cloneInts_pc xs hn).frzX
  simpa [viewN, hpOf, hget, isC, tk] using this
abbrev rowZZ (l : List (List Int)) : Row := ⟨62, 1, l.map szC, true⟩
theorem FramesScan_pc (l : List Int) (hl : l.length < 4294967281) : PC Tryz.prog 132 [intsA l] (rX (.tup [.o 0 (scanF l).length, iA (scanAt l)]) [rowZZ (scanF l)]) := by
  refine pc_enter Tryz.func132 rfl rfl fun w0 fb => go_on ?_; (try simp only [Tryz.ntmps132, push_cast, simprocAttr])
  refine at_loop (X := Nat × List (List Int)) (fun x => [(2, .any), (4, .o 4 x.2.length), (5, iA x.1)]) (fun x => [(4, rowZZ x.2)]) (fun x => SJ l x.1 x.2) (fun x => l.length - x.1) (0, []) (SJ.init l) ?_ ?_
  · (refine wk_ok ?_ ?_ ?_ ?_ <;> simp [leL, leH, idsL, idsA, idsR, inH, hget, sameRow, upA, hvA, dsts, dstO, setA_0, setA_1, setA_8, List.append, List.cons_append, List.nil_append])
  · rintro ⟨A, out⟩ hJ
    have hA := hJ.le
    have hon := hJ.n
    dsimp only at hA hon
    simp only [upA, hvA, dsts, dstO, setA_0, setA_1, setA_8, List.append, List.cons_append, List.nil_append]
    have hc : 0 ≤ (A : Int) ∧ (A : Int) ≤ l.length := by omega
    have hsl : List.drop A (List.take l.length (List.map inC l)) = List.map inC (l.drop A) := by
      rw [List.take_of_length_le (by simp), List.map_drop]
    have hF := frame_pc (l.drop A) (by rw [List.length_drop]; omega)
    rw [show intsA (List.drop A l) = .sl 1 (List.drop A (List.map inC l)) from by rw [← List.map_drop]] at hF
    refine go_on ?_
    (try simp only [hc, and_self, if_true, hsl, List.length_map, push_cast, simprocAttr])
    cases hh : headF (l.drop A) with
    | none =>
      obtain ⟨e1, e2⟩ := hJ.done hh
      dsimp only at e1 e2
      unfold frA at hF
      rw [hh] at hF
      simp only at hF
      refine at_call ?_
      (try simp only [push_cast, simprocAttr])
      refine rwc_v hF ?_
      first
        | (refine aw_asgV rfl ?_)
        | (refine go_on_n 1 ?_; (try simp only [push_cast, simprocAttr]); rw [run_0]; refine at_more ?_; refine aw_asgV rfl ?_)
        | (refine go_on_n 2 ?_; (try simp only [push_cast, simprocAttr]); rw [run_0]; refine at_more ?_; refine aw_asgV rfl ?_)
        | (refine go_on_n 3 ?_; (try simp only [push_cast, simprocAttr]); rw [run_0]; refine at_more ?_; refine aw_asgV rfl ?_)
        | (refine go_on_n 4 ?_; (try simp only [push_cast, simprocAttr]); rw [run_0]; refine at_more ?_; refine aw_asgV rfl ?_)
        | (refine go_on_n 5 ?_; (try simp only [push_cast, simprocAttr]); rw [run_0]; refine at_more ?_; refine aw_asgV rfl ?_)
        | (refine go_on_n 6 ?_; (try simp only [push_cast, simprocAttr]); rw [run_0]; refine at_more ?_; refine aw_asgV rfl ?_)
        | (refine go_on_n 7 ?_; (try simp only [push_cast, simprocAttr]); rw [run_0]; refine at_more ?_; refine aw_asgV rfl ?_)
      first
        | (refine aw_mvV rfl ?_)
        | (refine go_on_n 1 ?_; (try simp only [push_cast, simprocAttr]); rw [run_0]; refine at_more ?_; refine aw_mvV rfl ?_)
        | (refine go_on_n 2 ?_; (try simp only [push_cast, simprocAttr]); rw [run_0]; refine at_more ?_; refine aw_mvV rfl ?_)
        | (refine go_on_n 3 ?_; (try simp only [push_cast, simprocAttr]); rw [run_0]; refine at_more ?_; refine aw_mvV rfl ?_)
        | (refine go_on_n 4 ?_; (try simp only [push_cast, simprocAttr]); rw [run_0]; refine at_more ?_; refine aw_mvV rfl ?_)
        | (refine go_on_n 5 ?_; (try simp only [push_cast, simprocAttr]); rw [run_0]; refine at_more ?_; refine aw_mvV rfl ?_)
        | (refine go_on_n 6 ?_; (try simp only [push_cast, simprocAttr]); rw [run_0]; refine at_more ?_; refine aw_mvV rfl ?_)
        | (refine go_on_n 7 ?_; (try simp only [push_cast, simprocAttr]); rw [run_0]; refine at_more ?_; refine aw_mvV rfl ?_)
      first
        | (refine aw_eqNil_t Tryz.underlying62 rfl ?_)
        | (refine go_on_n 1 ?_; (try simp only [push_cast, simprocAttr]); rw [run_0]; refine at_more ?_; refine aw_eqNil_t Tryz.underlying62 rfl ?_)
        | (refine go_on_n 2 ?_; (try simp only [push_cast, simprocAttr]); rw [run_0]; refine at_more ?_; refine aw_eqNil_t Tryz.underlying62 rfl ?_)
        | (refine go_on_n 3 ?_; (try simp only [push_cast, simprocAttr]); rw [run_0]; refine at_more ?_; refine aw_eqNil_t Tryz.underlying62 rfl ?_)
        | (refine go_on_n 4 ?_; (try simp only [push_cast, simprocAttr]); rw [run_0]; refine at_more ?_; refine aw_eqNil_t Tryz.underlying62 rfl ?_)
        | (refine go_on_n 5 ?_; (try simp only [push_cast, simprocAttr]); rw [run_0]; refine at_more ?_; refine aw_eqNil_t Tryz.underlying62 rfl ?_)
        | (refine go_on_n 6 ?_; (try simp only [push_cast, simprocAttr]); rw [run_0]; refine at_more ?_; refine aw_eqNil_t Tryz.underlying62 rfl ?_)
        | (refine go_on_n 7 ?_; (try simp only [push_cast, simprocAttr]); rw [run_0]; refine at_more ?_; refine aw_eqNil_t Tryz.underlying62 rfl ?_)
      refine go_on ?_
      (try simp only [push_cast, simprocAttr])
      refine at_ret ?_; simp only [Tryz.results132, push_cast, simprocAttr]
      rw [e1, e2]
      simp [rX, ixOf]
    | some b =>
      obtain ⟨b1, b2, b3⟩ := headF_len hh
      unfold frA at hF
      rw [hh] at hF
      simp only at hF
      have hCl := cloneInts_d b (by omega)
      have w1 : IntKind.i64.wrap ((b.length : Int) + 2) = (b.length : Int) + 2 := wr _ (by omega)
      have w2 : IntKind.i64.wrap ((A : Int) + ((b.length : Int) + 2)) = (A : Int) + ((b.length : Int) + 2) := wr _ (by omega)
      rw [List.length_drop] at b3
      (try simp only [push_cast, simprocAttr])
      refine at_share2 (by simp [isC2, isC]) (by first | rfl | simp [ren]) hF ?_
      first
        | (refine aw_eqNil_f Tryz.underlying62 rfl (by simp; omega) ?_)
        | (refine go_on_n 1 ?_; (try simp only [push_cast, simprocAttr]); rw [run_0]; refine at_more ?_; refine aw_eqNil_f Tryz.underlying62 rfl (by simp; omega) ?_)
        | (refine go_on_n 2 ?_; (try simp only [push_cast, simprocAttr]); rw [run_0]; refine at_more ?_; refine aw_eqNil_f Tryz.underlying62 rfl (by simp; omega) ?_)
        | (refine go_on_n 3 ?_; (try simp only [push_cast, simprocAttr]); rw [run_0]; refine at_more ?_; refine aw_eqNil_f Tryz.underlying62 rfl (by simp; omega) ?_)
        | (refine go_on_n 4 ?_; (try simp only [push_cast, simprocAttr]); rw [run_0]; refine at_more ?_; refine aw_eqNil_f Tryz.underlying62 rfl (by simp; omega) ?_)
        | (refine go_on_n 5 ?_; (try simp only [push_cast, simprocAttr]); rw [run_0]; refine at_more ?_; refine aw_eqNil_f Tryz.underlying62 rfl (by simp; omega) ?_)
        | (refine go_on_n 6 ?_; (try simp only [push_cast, simprocAttr]); rw [run_0]; refine at_more ?_; refine aw_eqNil_f Tryz.underlying62 rfl (by simp; omega) ?_)
        | (refine go_on_n 7 ?_; (try simp only [push_cast, simprocAttr]); rw [run_0]; refine at_more ?_; refine aw_eqNil_f Tryz.underlying62 rfl (by simp; omega) ?_)
        | (refine go_on_n 8 ?_; (try simp only [push_cast, simprocAttr]); rw [run_0]; refine at_more ?_; refine aw_eqNil_f Tryz.underlying62 rfl (by simp; omega) ?_)
        | (refine go_on_n 9 ?_; (try simp only [push_cast, simprocAttr]); rw [run_0]; refine at_more ?_; refine aw_eqNil_f Tryz.underlying62 rfl (by simp; omega) ?_)
        | (refine go_on_n 10 ?_; (try simp only [push_cast, simprocAttr]); rw [run_0]; refine at_more ?_; refine aw_eqNil_f Tryz.underlying62 rfl (by simp; omega) ?_)
        | (refine go_on_n 11 ?_; (try simp only [push_cast, simprocAttr]); rw [run_0]; refine at_more ?_; refine aw_eqNil_f Tryz.underlying62 rfl (by simp; omega) ?_)
        | (refine go_on_n 12 ?_; (try simp only [push_cast, simprocAttr]); rw [run_0]; refine at_more ?_; refine aw_eqNil_f Tryz.underlying62 rfl (by simp; omega) ?_)
        | (refine go_on_n 13 ?_; (try simp only [push_cast, simprocAttr]); rw [run_0]; refine at_more ?_; refine aw_eqNil_f Tryz.underlying62 rfl (by simp; omega) ?_)
      refine go_on ?_
      (try simp only [push_cast, simprocAttr])
      ((try simp only [push_cast, simprocAttr]); refine at_share2 (by simp [isC2, isC]) (by first | rfl | simp [ren]) (hCl) (go_on ?_); (try simp only [push_cast, simprocAttr]))
      refine at_chk (by omega) ?_
      (try simp only [w1, w2, push_cast, simprocAttr])
      refine at_fin ⟨(A + (b.length + 2), out ++ [b]), hJ.step hh, by dsimp only; omega, ?_⟩
      (refine wk_ok ?_ ?_ ?_ ?_ <;> simp [szC, leL, leH, idsL, idsA, idsR, inH, hget, sameRow, upA, hvA, dsts, dstO, setA_0, setA_1, setA_8, List.append, List.cons_append, List.nil_append])
end Go.Proofs.YtccifbbjbnjcfaaGreatDoor
/-
  Walks: frames: the reference's scan.
-/
namespace Go.Proofs.YtccifbbjbnjcfaaGreatDoor
open Go Go.RowKit Go.Proofs
attribute [local irreducible] RWp AW run kPe pe Kt effA gd gu br retR RDp runD kPeD brW gW effD
set_option maxRecDepth 100000
theorem specFramesScan_pc (l : List Int) (hl : l.length < 4294967281) : PC Tryz.prog 117 [intsA l] (rX (.tup [.o 0 (scanF l).length, iA (scanAt l)]) [rowZZ (scanF l)]) := by
  refine pc_enter Tryz.func117 rfl rfl fun w0 fb => go_on ?_; (try simp only [Tryz.ntmps117, push_cast, simprocAttr])
  refine at_loop (X := Nat × List (List Int)) (fun x => [(2, .any), (4, .o 7 x.2.length), (5, iA x.1), (7, .any)]) (fun x => [(7, rowZZ x.2)]) (fun x => SJ l x.1 x.2) (fun x => l.length - x.1) (0, []) (SJ.init l) ?_ ?_
  · (refine wk_ok ?_ ?_ ?_ ?_ <;> simp [leL, leH, idsL, idsA, idsR, inH, hget, sameRow, upA, hvA, dsts, dstO, setA_0, setA_1, setA_8, List.append, List.cons_append, List.nil_append])
  · rintro ⟨A, out⟩ hJ
    have hA := hJ.le
    have hon := hJ.n
    dsimp only at hA hon
    simp only [upA, hvA, dsts, dstO, setA_0, setA_1, setA_8, List.append, List.cons_append, List.nil_append]
    have fin : ∀ (hh : headF (l.drop A) = none), scanF l = out ∧ scanAt l = A := fun hh => hJ.done hh
    by_cases hlt : A < l.length
    · obtain ⟨n, hn⟩ : ∃ n, l[A]? = some n := ⟨l[A], List.getElem?_eq_getElem hlt⟩
      have e0 : ltI (A : Int) l.length = true := ltI_t (by omega)
      have i1 := ix_n hn
      have i2 := map_get inC hn
      simp only [inC] at i2
      have hd : l.drop A = n :: l.drop (A + 1) := drop_of_get hn
      have hI := l6In_pc n 1 16
      have hrl : (l.drop (A + 1)).length = l.length - (A + 1) := List.length_drop
      cases h : inR n 1 16 with
      | false =>
        obtain ⟨e1, e2⟩ := fin (by rw [hd, headF, h]; rfl)
        refine go_on ?_
        (try simp only [e0, i1, i2, List.length_map, push_cast, simprocAttr])
        (refine at_call ?_; (try simp only [push_cast, simprocAttr]); refine rwc_v (hI) (go_on ?_); (try simp only [push_cast, simprocAttr]))
        (try simp only [h, push_cast, simprocAttr])
        refine at_ret ?_; simp only [Tryz.results117, push_cast, simprocAttr]
        rw [e1, e2]
        simp [rX, ixOf]
      | true =>
        have hb : 1 ≤ n ∧ n ≤ 16 := by simpa [inR] using h
        have w1 : IntKind.i64.wrap ((A : Int) + n) = (A : Int) + n := wr _ (by omega)
        have w2 : IntKind.i64.wrap ((A : Int) + n + 1) = (A : Int) + n + 1 := wr _ (by omega)
        by_cases hlen : (A : Int) + n + 1 < l.length
        · have e1 : ltI ((A : Int) + n + 1) l.length = true := ltI_t hlen
          obtain ⟨B, hBd⟩ : ∃ B, (l.drop (A + 1)).take n.toNat = B := ⟨_, rfl⟩
          have hBl : B.length = n.toNat := by rw [← hBd, List.length_take]; omega
          have hBB : bodyB B = bytesB B := by
            unfold bodyB
            rw [hBl, show inR ((n.toNat : Nat) : Int) 1 16 = true from by rw [show ((n.toNat : Nat) : Int) = n by omega]; exact h, Bool.and_true]
          have hc : 0 ≤ (A : Int) + 1 ∧ (A : Int) + 1 ≤ (A : Int) + 1 + n ∧ (A : Int) + 1 + n ≤ l.length := by omega
          have hB : List.drop ((A : Int) + 1).toNat (List.take ((A : Int) + 1 + n).toNat (List.map inC l)) = List.map inC B := by
            rw [show ((A : Int) + 1).toNat = A + 1 by omega, show ((A : Int) + 1 + n).toNat = (A + 1) + n.toNat by omega, ← hBd, ← List.map_take, ← List.map_drop, List.drop_take]
            congr 2
            omega
          have hIB := l4Body_pc B (by omega)
          obtain ⟨x, hxr⟩ : ∃ x, l[A + 1 + n.toNat]? = some x := ⟨l[A + 1 + n.toNat]'(by omega), List.getElem?_eq_getElem _⟩
          have hxr2 : (l.drop (A + 1))[n.toNat]? = some x := by rw [List.getElem?_drop]; exact hxr
          have w3 : IntKind.i64.wrap ((A : Int) + 1) = (A : Int) + 1 := wr _ (by omega)
          have w4 : IntKind.i64.wrap ((A : Int) + 1 + n) = (A : Int) + 1 + n := wr _ (by omega)
          have w5 : IntKind.i64.wrap ((A : Int) + 1 + B.length) = (A : Int) + 1 + B.length := wr _ (by omega)
          have w6 : IntKind.i64.wrap ((A : Int) + B.length) = (A : Int) + B.length := wr _ (by omega)
          have w7 : IntKind.i64.wrap ((A : Int) + B.length + 2) = (A : Int) + B.length + 2 := wr _ (by omega)
          have i3 : toIx ((A : Int) + 1 + B.length) l.length = some (A + 1 + n.toNat) := by unfold toIx; rw [if_pos ⟨by omega, by omega⟩, show ((A : Int) + 1 + B.length).toNat = A + 1 + n.toNat by omega]
          have i4 := map_get inC hxr
          simp only [inC] at i4
          have hT : List.take B.length (List.map inC B) = List.map inC B := List.take_of_length_le (by simp)
          refine go_on ?_
          (try simp only [e0, i1, i2, List.length_map, push_cast, simprocAttr])
          (refine at_call ?_; (try simp only [push_cast, simprocAttr]); refine rwc_v (hI) (go_on ?_); (try simp only [push_cast, simprocAttr]))
          (try simp only [h, e1, i1, i2, w1, w2, w3, w4, hc, and_self, if_true, hB, List.length_map, push_cast, simprocAttr])
          refine at_chk (by first | omega | (simp; omega)) ?_
          (try simp only [hT, List.length_map, Nat.zero_add, push_cast, simprocAttr])
          refine at_draw rfl (by kernel_rfl) ?_; simp only [push_cast, simprocAttr]
          (try simp only [push_cast, simprocAttr])
          (refine at_callD (by simp [clB, idsL, idsA, hget]) ?_; (try simp only [push_cast, simprocAttr]); (try simp only [hT]); refine rcd_v hIB ?_; (try simp only [push_cast, simprocAttr]))
          cases hb2 : bodyB B with
          | false =>
            obtain ⟨e2, e3⟩ := fin (by
              rw [hd, headF, if_neg]
              intro hc
              rw [hBB] at hb2
              rw [hBd, hb2] at hc
              simp at hc)
            (try simp only [hb2, Bool.not_false, push_cast, simprocAttr])
            refine at_done (by kernel_rfl) (by kernel_rfl) (go_on ?_)
            (try simp only [push_cast, simprocAttr])
            refine at_ret ?_; simp only [Tryz.results117, push_cast, simprocAttr]
            rw [e2, e3]
            simp [rX, ixOf]
          | true =>
            have hS := l4Sum_pc B (by rw [← hBB]; exact hb2) (by omega)
            (try simp only [hb2, Bool.not_true, push_cast, simprocAttr])
            (refine at_callD (by simp [clB, idsL, idsA, hget]) ?_; (try simp only [push_cast, simprocAttr]); (try simp only [hT]); refine rcd_v hS ?_; (try simp only [push_cast, simprocAttr]))
            by_cases hx : x = sumB B
            · have e5 : eqI (sumB B) x = true := eqI_t hx.symm
              have hh : headF (l.drop A) = some B := by
                rw [hd, headF, hBd, if_pos]
                rw [hBB] at hb2
                simp only [Bool.and_eq_true, decide_eq_true_eq]
                exact ⟨⟨⟨h, by omega⟩, hb2⟩, by rw [hxr2, hx]⟩
              (try simp only [e5, Bool.not_true, i1, i2, i3, i4, w3, w5, List.length_map, push_cast, simprocAttr])
              refine at_done (by kernel_rfl) (by kernel_rfl) ?_
              (refine at_frwS [31] (by refine wk_frz ?_ ?_ ?_ ?_ <;> simp [frw_Z, frwS, frwH, frzT, hasN, delL, hdel, leF, leHF, rowF, frzB, idsL, idsA, idsR, inH, hget, sameRow, viewN, tk]) ?_; simp only [frw_Z, frwS, frwH, frzT, hasN, delL, hdel, idsA, idsL, viewN, hget, tk, isC, List.map_cons, List.map_nil, List.all_cons, List.all_nil, List.append_nil, List.drop, List.getElem?_cons_zero, List.getElem?_cons_succ, Bool.not_false, Bool.not_true, Bool.and_true, if_true, if_false, Nat.zero_add, List.length_map, simprocAttr])
              refine go_on ?_
              (try simp only [hT, push_cast, simprocAttr])
              refine at_chk (by omega) ?_
              (try simp only [w6, w7, List.length_map, push_cast, simprocAttr])
              refine at_fin ⟨(A + (B.length + 2), out ++ [B]), hJ.step hh, by dsimp only; omega, ?_⟩
              (refine wk_ok ?_ ?_ ?_ ?_ <;> simp [szC, leL, leH, idsL, idsA, idsR, inH, hget, sameRow, upA, hvA, dsts, dstO, setA_0, setA_1, setA_8, List.append, List.cons_append, List.nil_append])
              omega
            · have e5 : eqI (sumB B) x = false := eqI_f (fun e => hx e.symm)
              obtain ⟨e2, e3⟩ := fin (by
                rw [hd, headF, hBd, if_neg]
                intro hc
                simp only [Bool.and_eq_true, decide_eq_true_eq] at hc
                have := hc.2
                rw [hxr2] at this
                exact hx (Option.some.inj this))
              (try simp only [e5, Bool.not_false, i1, i2, i3, i4, w3, w5, List.length_map, push_cast, simprocAttr])
              refine at_done (by kernel_rfl) (by kernel_rfl) (go_on ?_)
              (try simp only [push_cast, simprocAttr])
              refine at_ret ?_; simp only [Tryz.results117, push_cast, simprocAttr]
              rw [e2, e3]
              simp [rX, ixOf]
        · have e1 : ltI ((A : Int) + n + 1) l.length = false := ltI_f (by omega)
          obtain ⟨e2, e3⟩ := fin (by
            rw [hd, headF, if_neg]
            intro hc
            simp only [Bool.and_eq_true, decide_eq_true_eq] at hc
            omega)
          refine go_on ?_
          (try simp only [e0, i1, i2, List.length_map, push_cast, simprocAttr])
          (refine at_call ?_; (try simp only [push_cast, simprocAttr]); refine rwc_v (hI) (go_on ?_); (try simp only [push_cast, simprocAttr]))
          (try simp only [h, e1, i1, i2, w1, w2, List.length_map, push_cast, simprocAttr])
          refine at_ret ?_; simp only [Tryz.results117, push_cast, simprocAttr]
          rw [e2, e3]
          simp [rX, ixOf]
    · have e0 : ltI (A : Int) l.length = false := ltI_f (by omega)
      obtain ⟨e1, e2⟩ := fin (by rw [List.drop_of_length_le (by omega)]; rfl)
      refine go_on ?_
      (try simp only [e0, List.length_map, push_cast, simprocAttr])
      refine at_ret ?_; simp only [Tryz.results117, push_cast, simprocAttr]
      rw [e1, e2]
      simp [rX, ixOf]
end Go.Proofs.YtccifbbjbnjcfaaGreatDoor
/-
  Walks: the bytes of commands.
-/
namespace Go.Proofs.YtccifbbjbnjcfaaGreatDoor
open Go Go.RowKit Go.Proofs
theorem strI_take {s : Str} {k : Nat} {a : UInt8} (h : s[k]? = some a) : strI (s.take (k + 1)) = strI (s.take k) ++ [(a.toNat : Int)] := by
  unfold strI
  rw [List.take_add_one, h, List.map_append]; rfl
/-- The kinds and values of both contents. -/
def cmH (c : Cm) : List Int := [c.a.k, c.a.v, c.b.k, c.b.v]
theorem cmdB_v {c : Cm} (h : cmV c = true) : cmdB c = cmH c ++ strI c.p := by unfold cmdB; rw [if_pos h]; rfl
theorem cmdB_f {c : Cm} (h : cmV c = false) : cmdB c = [] := by unfold cmdB; rw [h]; rfl
theorem cmV_p {c : Cm} (h : cmV c = true) : c.p.length ≤ 8 := by
  unfold cmV at h
  simp only [Bool.and_eq_true, decide_eq_true_eq] at h
  exact (pV_len h.1.1.1.1 h.1.1.1.2).2
theorem strI_len (s : Str) : (strI s).length = s.length := by unfold strI; simp
attribute [local irreducible] RWp AW run kPe pe Kt effA gd gu br retR RDp runD kPeD brW gW effD
set_option maxRecDepth 100000
theorem CommandBytes_pc (c : Cm) (hp : c.p.length < 4294967281) : PC Tryz.prog 50 [cmdA c] (rX (.o 0 (cmdB c).length) [rowZ (cmdB c)]) := by
  have hV := CommandValid_pc c hp
  unfold cmdA cmC at hV ⊢
  cases hv : cmV c with
  | false =>
    rw [cmdB_f hv]
    refine pc_enter Tryz.func50 rfl rfl fun w0 fb => go_on ?_; (try simp only [Tryz.ntmps50, push_cast, simprocAttr])
    refine at_call ?_
    (try simp only [push_cast, simprocAttr])
    refine rwc_v hV ?_
    (try simp only [push_cast, simprocAttr])
    (refine at_dropS [2] (by refine wk_ok ?_ ?_ ?_ ?_ <;> simp [dropS, dropT, hasN, delL, hdel, leL, leH, idsL, idsA, idsR, inH, hget, sameRow]) ?_; simp only [dropS, dropT, hasN, delL, hdel, idsA, idsL, hget, List.map_cons, List.map_nil, List.all_cons, List.all_nil, List.append_nil, Bool.not_false, Bool.not_true, Bool.and_true, if_true, if_false, simprocAttr])
    refine go_on ?_
    (try simp only [hv, Bool.not_false, push_cast, simprocAttr])
    refine at_ret ?_; simp only [Tryz.results50, push_cast, simprocAttr]
    simp [rX, ixOf]
  | true =>
    have hp8 := cmV_p hv
    rw [cmdB_v hv]
    refine pc_enter Tryz.func50 rfl rfl fun w0 fb => go_on ?_; (try simp only [Tryz.ntmps50, push_cast, simprocAttr])
    refine at_call ?_
    (try simp only [push_cast, simprocAttr])
    refine rwc_v hV ?_
    (try simp only [push_cast, simprocAttr])
    (refine at_dropS [2] (by refine wk_ok ?_ ?_ ?_ ?_ <;> simp [dropS, dropT, hasN, delL, hdel, leL, leH, idsL, idsA, idsR, inH, hget, sameRow]) ?_; simp only [dropS, dropT, hasN, delL, hdel, idsA, idsL, hget, List.map_cons, List.map_nil, List.all_cons, List.all_nil, List.append_nil, Bool.not_false, Bool.not_true, Bool.and_true, if_true, if_false, simprocAttr])
    refine go_on ?_
    (try simp only [hv, Bool.not_true, push_cast, simprocAttr])
    refine at_loop (X := Nat) (fun k => [(3, .o 20 (cmH c ++ strI (c.p.take k)).length), (24, iA k), (20, .any)]) (fun k => [(1, ⟨35, 5, [[sA c.p, iA c.a.k, iA c.a.v, iA c.b.k, iA c.b.v]], true⟩), (20, rowZ (cmH c ++ strI (c.p.take k)))]) (fun k => k ≤ c.p.length) (fun k => c.p.length - k) 0 (Nat.zero_le _) ?_ ?_
    · (refine wk_ok ?_ ?_ ?_ ?_ <;> simp [strI, cmH, inC, leL, leH, idsL, idsA, idsR, inH, hget, sameRow, upA, hvA, dsts, dstO, setA_0, setA_1, setA_8, List.append, List.cons_append, List.nil_append])
    · rintro k q1
      simp only [upA, hvA, dsts, dstO, setA_0, setA_1, setA_8, List.append, List.cons_append, List.nil_append]
      refine go_on ?_
      (try simp only [push_cast, simprocAttr])
      refine at_b (fun hg => ?_) (fun hg => ?_)
      · have hlt := lt_tt hg
        obtain ⟨x, hx⟩ := get_of_lt hlt
        have hxl : x.toNat < 256 := x.toNat_lt
        have w0' : IntKind.i64.wrap (x.toNat : Int) = x.toNat := wr _ (by omega)
        have w1 := wr ((k : Int) + 1) (by omega)
        have hT : List.take (cmH c ++ strI (c.p.take k)).length (List.map inC (cmH c ++ strI (c.p.take k))) = List.map inC (cmH c ++ strI (c.p.take k)) := List.take_of_length_le (by simp)
        (try simp only [hg, hx, w0', push_cast, simprocAttr])
        refine at_chk (by simp [cmH, strI_len]; omega) ?_
        (try simp only [w1, hT, push_cast, simprocAttr])
        refine at_fin ⟨k + 1, by omega, by omega, ?_⟩
        rw [strI_take hx, ← List.append_assoc]
        (refine wk_ok ?_ ?_ ?_ ?_ <;> simp [inC, leL, leH, idsL, idsA, idsR, inH, hget, sameRow, upA, hvA, dsts, dstO, setA_0, setA_1, setA_8, List.append, List.cons_append, List.nil_append])
        omega
      · have h3 := lt_ff hg
        obtain rfl : k = c.p.length := by omega
        rw [List.take_length]
        (try simp only [hg, push_cast, simprocAttr])
        refine at_ret ?_; simp only [Tryz.results50, push_cast, simprocAttr]
        simp [rX, ixOf]
theorem CommandBytes_d (c : Cm) (hp : c.p.length < 4294967281) : PC Tryz.prog 50 [cmdA c] (vX (intsA (cmdB c))) := by
  have := (CommandBytes_pc c hp).frzX
  simp [viewN, hpOf, hget, isC, tk] at this
  exact this
theorem specCommandBytes_pc (c : Cm) (hp : c.p.length < 4294967281) : PC Tryz.prog 40 [cmdA c] (rX (.o 0 (cmdB c).length) [rowZ (cmdB c)]) := by
  have hV := specCommandValid_pc c hp
  unfold cmdA cmC at hV ⊢
  cases hv : cmV c with
  | false =>
    rw [cmdB_f hv]
    refine pc_enter Tryz.func40 rfl rfl fun w0 fb => go_on ?_; (try simp only [Tryz.ntmps40, push_cast, simprocAttr])
    (refine at_call ?_; (try simp only [push_cast, simprocAttr]); refine rwc_v (hV) (go_on ?_); (try simp only [push_cast, simprocAttr]))
    (try simp only [hv, Bool.not_false, push_cast, simprocAttr])
    refine at_ret ?_; simp only [Tryz.results40, push_cast, simprocAttr]
    simp [rX, ixOf]
  | true =>
    have hp8 := cmV_p hv
    rw [cmdB_v hv]
    refine pc_enter Tryz.func40 rfl rfl fun w0 fb => go_on ?_; (try simp only [Tryz.ntmps40, push_cast, simprocAttr])
    (refine at_call ?_; (try simp only [push_cast, simprocAttr]); refine rwc_v (hV) (go_on ?_); (try simp only [push_cast, simprocAttr]))
    (try simp only [hv, Bool.not_true, push_cast, simprocAttr])
    refine at_loop (X := Nat) (fun k => [(2, .any), (3, .o 21 (cmH c ++ strI (c.p.take k)).length), (4, iA k), (21, .any)]) (fun k => [(1, ⟨35, 5, [[sA c.p, iA c.a.k, iA c.a.v, iA c.b.k, iA c.b.v]], true⟩), (21, rowZ (cmH c ++ strI (c.p.take k)))]) (fun k => k ≤ c.p.length) (fun k => c.p.length - k) 0 (Nat.zero_le _) ?_ ?_
    · (refine wk_ok ?_ ?_ ?_ ?_ <;> simp [strI, cmH, inC, leL, leH, idsL, idsA, idsR, inH, hget, sameRow, upA, hvA, dsts, dstO, setA_0, setA_1, setA_8, List.append, List.cons_append, List.nil_append])
    · rintro k q1
      simp only [upA, hvA, dsts, dstO, setA_0, setA_1, setA_8, List.append, List.cons_append, List.nil_append]
      refine go_on ?_
      (try simp only [push_cast, simprocAttr])
      refine at_b (fun hg => ?_) (fun hg => ?_)
      · have hlt := lt_tt hg
        obtain ⟨x, hx⟩ := get_of_lt hlt
        have hxl : x.toNat < 256 := x.toNat_lt
        have w0' : IntKind.i64.wrap (x.toNat : Int) = x.toNat := wr _ (by omega)
        have w1 := wr ((k : Int) + 1) (by omega)
        have hT : List.take (cmH c ++ strI (c.p.take k)).length (List.map inC (cmH c ++ strI (c.p.take k))) = List.map inC (cmH c ++ strI (c.p.take k)) := List.take_of_length_le (by simp)
        (try simp only [hg, hx, w0', push_cast, simprocAttr])
        refine at_chk (by simp [cmH, strI_len]; omega) ?_
        (try simp only [w1, hT, push_cast, simprocAttr])
        refine at_fin ⟨k + 1, by omega, by omega, ?_⟩
        rw [strI_take hx, ← List.append_assoc]
        (refine wk_ok ?_ ?_ ?_ ?_ <;> simp [inC, leL, leH, idsL, idsA, idsR, inH, hget, sameRow, upA, hvA, dsts, dstO, setA_0, setA_1, setA_8, List.append, List.cons_append, List.nil_append])
        omega
      · have h3 := lt_ff hg
        obtain rfl : k = c.p.length := by omega
        rw [List.take_length]
        (try simp only [hg, push_cast, simprocAttr])
        refine at_ret ?_; simp only [Tryz.results40, push_cast, simprocAttr]
        simp [rX, ixOf]
theorem specCommandBytes_d (c : Cm) (hp : c.p.length < 4294967281) : PC Tryz.prog 40 [cmdA c] (vX (intsA (cmdB c))) := by
  have := (specCommandBytes_pc c hp).frzX
  simp [viewN, hpOf, hget, isC, tk] at this
  exact this
end Go.Proofs.YtccifbbjbnjcfaaGreatDoor
/-
  Walks: SiteDo, twice.
-/
namespace Go.Proofs.YtccifbbjbnjcfaaGreatDoor
open Go Go.RowKit Go.Proofs
attribute [local irreducible] RWp AW run kPe pe Kt effA gd gu br retR RDp runD kPeD brW gW effD
set_option maxRecDepth 100000
end Go.Proofs.YtccifbbjbnjcfaaGreatDoor
/-
  Walks: spec.SiteDo.
-/
namespace Go.Proofs.YtccifbbjbnjcfaaGreatDoor
open Go Go.RowKit Go.Proofs
attribute [local irreducible] RWp AW run kPe pe Kt effA gd gu br retR RDp runD kPeD brW gW effD
set_option maxRecDepth 100000
end Go.Proofs.YtccifbbjbnjcfaaGreatDoor
/-
  Walks: the sides that the laws draw (DrawSiteDo).
-/
namespace Go.Proofs.YtccifbbjbnjcfaaGreatDoor
open Go Go.RowKit Go.Proofs
attribute [local irreducible] RWp AW run kPe pe Kt effA gd gu br retR RDp runD kPeD brW gW effD
set_option maxRecDepth 100000
end Go.Proofs.YtccifbbjbnjcfaaGreatDoor
/-
  Walks: what the functions of sides leave, read as data.
-/
namespace Go.Proofs.YtccifbbjbnjcfaaGreatDoor
open Go Go.RowKit Go.Proofs
end Go.Proofs.YtccifbbjbnjcfaaGreatDoor
/-
  Walks: slices.DeleteFunc at commands.
-/
namespace Go.Proofs.YtccifbbjbnjcfaaGreatDoor
open Go Go.RowKit Go.Proofs
attribute [local irreducible] RWp AW run kPe pe Kt effA gd gu br retR RDp runD kPeD brW gW effD
set_option maxRecDepth 100000
end Go.Proofs.YtccifbbjbnjcfaaGreatDoor
/-
  Walks: slices.SortFunc at commands.
-/
namespace Go.Proofs.YtccifbbjbnjcfaaGreatDoor
open Go Go.RowKit Go.Proofs
open Go.Sort (grow SWO PermIn SortedIn)
instance : Inhabited Cm := ⟨cm0⟩
set_option maxRecDepth 100000
set_option maxHeartbeats 1000000
end Go.Proofs.YtccifbbjbnjcfaaGreatDoor
/-
  Walks: slices.SortFunc at commands: a contract with a lent row.
-/
namespace Go.Proofs.YtccifbbjbnjcfaaGreatDoor
open Go Go.RowKit Go.Proofs
open Go.Sort (grow SWO PermIn SortedIn)
set_option maxRecDepth 100000
set_option maxHeartbeats 1000000
end Go.Proofs.YtccifbbjbnjcfaaGreatDoor
/-
  Walks: impl.LogCanon.
-/
namespace Go.Proofs.YtccifbbjbnjcfaaGreatDoor
open Go Go.RowKit Go.Proofs
attribute [local irreducible] RWp AW run kPe pe Kt effA gd gu br retR RDp runD kPeD brW gW effD
set_option maxRecDepth 100000
end Go.Proofs.YtccifbbjbnjcfaaGreatDoor
/-
  Walks: the reference's canonical order and sort.
-/
namespace Go.Proofs.YtccifbbjbnjcfaaGreatDoor
open Go Go.RowKit Go.Proofs
attribute [local irreducible] RWp AW run kPe pe Kt effA gd gu br retR RDp runD kPeD brW gW effD
set_option maxRecDepth 100000
end Go.Proofs.YtccifbbjbnjcfaaGreatDoor
/-
  Walks: spec.LogCanon.
-/
namespace Go.Proofs.YtccifbbjbnjcfaaGreatDoor
open Go Go.RowKit Go.Proofs
attribute [local irreducible] RWp AW run kPe pe Kt effA gd gu br retR RDp runD kPeD brW gW effD
set_option maxRecDepth 100000
end Go.Proofs.YtccifbbjbnjcfaaGreatDoor
/-
  Walks: SiteCanon, SiteShort, twice.
-/
namespace Go.Proofs.YtccifbbjbnjcfaaGreatDoor
open Go Go.RowKit Go.Proofs
attribute [local irreducible] RWp AW run kPe pe Kt effA gd gu br retR RDp runD kPeD brW gW effD
set_option maxRecDepth 100000
end Go.Proofs.YtccifbbjbnjcfaaGreatDoor
/-
  Walks: canonical logs are short.
-/
namespace Go.Proofs.YtccifbbjbnjcfaaGreatDoor
open Go Go.RowKit Go.Proofs
end Go.Proofs.YtccifbbjbnjcfaaGreatDoor
/-
  Walks: conflicts of commands.
-/
namespace Go.Proofs.YtccifbbjbnjcfaaGreatDoor
open Go Go.RowKit Go.Proofs
attribute [local irreducible] RWp AW run kPe pe Kt effA gd gu br retR RDp runD kPeD brW gW effD
set_option maxRecDepth 100000
end Go.Proofs.YtccifbbjbnjcfaaGreatDoor
/-
  Walks: slices of commands and nodes: Index, Contains, Equal, IsSortedFunc.
-/
namespace Go.Proofs.YtccifbbjbnjcfaaGreatDoor
open Go Go.RowKit Go.Proofs
attribute [local irreducible] RWp AW run kPe pe Kt effA gd gu br retR RDp runD kPeD brW gW effD
set_option maxRecDepth 100000
end Go.Proofs.YtccifbbjbnjcfaaGreatDoor
/-
  Walks: the canonical order as a comparing function; IsSortedFunc, ContainsFunc, disputed, slices.Equal at commands.
-/
namespace Go.Proofs.YtccifbbjbnjcfaaGreatDoor
open Go Go.RowKit Go.Proofs
attribute [local irreducible] RWp AW run kPe pe Kt effA gd gu br retR RDp runD kPeD brW gW effD
set_option maxRecDepth 100000
end Go.Proofs.YtccifbbjbnjcfaaGreatDoor
/-
  Walks: impl.oneEach (a set of paths in a map of the call's own).
-/
namespace Go.Proofs.YtccifbbjbnjcfaaGreatDoor
open Go Go.RowKit Go.Proofs
open Go.Maps (Keyed)
/-- The map's datum says which paths the list has. -/
def Seen (D : DataW Unit) (l : List Cm) : Prop := ∀ s : Str, D.atKey (.string s) (.lit (.bool false)) = .lit (.bool (l.any fun c => decide (c.p = s)))
theorem Seen.nil : Seen (.map []) [] := fun s => rfl
theorem Seen.put {D : DataW Unit} {l : List Cm} (h : Seen D l) (hm : Maps.IsMap D) (c : Cm) : Seen (D.put (.string c.p) (.lit (.bool true))) (l ++ [c]) := fun s => by
  by_cases e : c.p = s
  · subst e
    rw [Maps.atKey_put_same hm (by simp [WideAt.IsKeyLit])]
    simp
  · rw [Maps.atKey_put_other (by simpa using fun h => e h.symm), h s]
    simp [e]
set_option maxRecDepth 100000
set_option maxHeartbeats 1000000
end Go.Proofs.YtccifbbjbnjcfaaGreatDoor
/-
  Walks: the command of bytes.
-/
namespace Go.Proofs.YtccifbbjbnjcfaaGreatDoor
open Go Go.RowKit Go.Proofs
theorem u8_wrap {x : Int} (h : byteB x = true) : IntKind.u8.wrap x = x := by
  simp only [byteB, inB, Bool.and_eq_true, decide_eq_true_eq] at h
  simp [IntKind.wrap, IntKind.signed, IntKind.bits]
  omega
theorem bytesA_map : ∀ l : List Int, bytesA (l.map byC) = some (iStr l)
  | [] => rfl
  | x :: l => by
    simp only [List.map_cons, byC, bytesA, bytesA_map l, Option.map_some]
    rfl
theorem five_or (b : List Int) (h : 4 ≤ b.length) : ∃ x0 x1 x2 x3 p, b = x0 :: x1 :: x2 :: x3 :: p := by
  match b, h with
  | x0 :: x1 :: x2 :: x3 :: p, _ => exact ⟨x0, x1, x2, x3, p, rfl⟩
theorem cmdF_eq {b : List Int} {x0 x1 x2 x3 : Int} {p : List Int} (hb : b = x0 :: x1 :: x2 :: x3 :: p) : cmdF b = if bodyB b && cmV ⟨iStr p, ⟨x0, x1⟩, ⟨x2, x3⟩⟩ then some ⟨iStr p, ⟨x0, x1⟩, ⟨x2, x3⟩⟩ else none := by subst hb; rfl
/-- What CommandFrom returns. -/
def cfR (b : List Int) : AV := .tup [cmdA ((cmdF b).getD cm0), bA (cmdF b).isSome]
theorem cfR_none {b : List Int} (h : cmdF b = none) : cfR b = .tup [cmdA cm0, bA false] := by unfold cfR; rw [h]; rfl
theorem cfR_some {b : List Int} {c : Cm} (h : cmdF b = some c) : cfR b = .tup [cmdA c, bA true] := by unfold cfR; rw [h]; rfl
attribute [local irreducible] RWp AW run kPe pe Kt effA gd gu br retR RDp runD kPeD brW gW effD
set_option maxRecDepth 100000
theorem CommandFrom_pc (b : List Int) (hl : b.length < 4294967281) : PC Tryz.prog 133 [intsA b] (vX (cfR b)) := by
  have hI := isBody_pc b hl
  by_cases h4 : b.length < 4
  · have e0 : ltI (b.length : Int) 4 = true := ltI_t (by omega)
    have hn : cmdF b = none := by
      unfold cmdF
      split
      · rename_i x0 x1 x2 x3 p
        simp at h4
        omega
      · rfl
    rw [cfR_none hn]
    refine pc_enter Tryz.func133 rfl rfl fun w0 fb => go_on ?_; (try simp only [Tryz.ntmps133, push_cast, simprocAttr])
    (try simp only [e0, push_cast, simprocAttr])
    refine at_ret ?_; simp only [Tryz.results133, push_cast, simprocAttr]
    simp [vX, cmC, cm0, ct0]
  · have e0 : ltI (b.length : Int) 4 = false := ltI_f (by omega)
    obtain ⟨x0, x1, x2, x3, p, hb⟩ := five_or b (by omega)
    cases hv : bodyB b with
    | false =>
      have hn : cmdF b = none := by rw [cmdF_eq hb, hv]; rfl
      rw [cfR_none hn]
      refine pc_enter Tryz.func133 rfl rfl fun w0 fb => go_on ?_; (try simp only [Tryz.ntmps133, push_cast, simprocAttr])
      (try simp only [e0, push_cast, simprocAttr])
      (refine at_call ?_; (try simp only [push_cast, simprocAttr]); refine rwc_v (hI) (go_on ?_); (try simp only [push_cast, simprocAttr]))
      (try simp only [hv, Bool.not_false, push_cast, simprocAttr])
      refine at_ret ?_; simp only [Tryz.results133, push_cast, simprocAttr]
      simp [vX, cmC, cm0, ct0]
    | true =>
      obtain ⟨hby, h1, h16⟩ := body_bytes hv
      have hc : 0 ≤ (4 : Int) ∧ (4 : Int) ≤ b.length := by omega
      have hpl : p.length = b.length - 4 := by rw [hb]; simp
      have hsl : List.drop 4 (List.take b.length (List.map inC b)) = List.map inC p := by
        rw [List.take_of_length_le (by simp), hb]; rfl
      have hsl2 : List.drop 4 (List.map inC b) = List.map inC p := by rw [hb]; rfl
      have hpb : ∀ x ∈ p, byteB x = true := fun x hx => List.all_eq_true.1 hby x (by rw [hb]; simp [hx])
      refine pc_enter Tryz.func133 rfl rfl fun w0 fb => go_on ?_; (try simp only [Tryz.ntmps133, push_cast, simprocAttr])
      (try simp only [e0, push_cast, simprocAttr])
      (refine at_call ?_; (try simp only [push_cast, simprocAttr]); refine rwc_v (hI) (go_on ?_); (try simp only [push_cast, simprocAttr]))
      (try simp only [hv, Bool.not_true, hc, and_self, if_true, hsl, hsl2, List.length_map, ← hpl, push_cast, simprocAttr])
      refine at_loop (X := Nat) (fun k => [(4, .o 4 k), (20, iA k)]) (fun k => [(2, ⟨35, 5, [[sA [], iA 0, iA 0, iA 0, iA 0]], true⟩), (4, ⟨5, 1, (p.take k).map byC, true⟩)]) (fun k => k ≤ p.length) (fun k => p.length - k) 0 (Nat.zero_le _) ?_ ?_
      · (refine wk_ok ?_ ?_ ?_ ?_ <;> simp [leL, leH, idsL, idsA, idsR, inH, hget, sameRow, upA, hvA, dsts, dstO, setA_0, setA_1, setA_8, List.append, List.cons_append, List.nil_append])
      · rintro k q1
        simp only [upA, hvA, dsts, dstO, setA_0, setA_1, setA_8, List.append, List.cons_append, List.nil_append]
        refine go_on ?_
        (try simp only [List.length_map, push_cast, simprocAttr])
        refine at_b (fun hg => ?_) (fun hg => ?_)
        · have hlt := lt_tt hg
          obtain ⟨x, hx⟩ := get_of_lt hlt
          have i1 := ix_n hx
          have i2 := map_get inC hx
          simp only [inC] at i2
          have wu := u8_wrap (hpb x (mem_of_get hx))
          have w1 := wr ((k : Int) + 1) (by omega)
          have htk : (p.take (k + 1)).map byC = (p.take k).map byC ++ [byC x] := by rw [List.take_add_one, hx, List.map_append]; rfl
          (try simp only [hg, i1, i2, wu, push_cast, simprocAttr])
          refine at_chk (by omega) ?_
          (try simp only [w1, push_cast, simprocAttr])
          refine at_fin ⟨k + 1, by omega, by omega, ?_⟩
          rw [htk]
          (refine wk_ok ?_ ?_ ?_ ?_ <;> simp [byC, List.take_take, leL, leH, idsL, idsA, idsR, inH, hget, sameRow, upA, hvA, dsts, dstO, setA_0, setA_1, setA_8, List.append, List.cons_append, List.nil_append])
        · have h3 := lt_ff hg
          obtain rfl : k = p.length := by omega
          rw [List.take_length]
          have hT : List.take p.length (List.map byC p) = List.map byC p := List.take_of_length_le (by simp)
          have hTb := bytesA_map p
          have a0 : toIx 0 b.length = some 0 := by unfold toIx; rw [if_pos ⟨by omega, by omega⟩]; rfl
          have a1 : toIx 1 b.length = some 1 := by unfold toIx; rw [if_pos ⟨by omega, by omega⟩]; rfl
          have a2 : toIx 2 b.length = some 2 := by unfold toIx; rw [if_pos ⟨by omega, by omega⟩]; rfl
          have a3 : toIx 3 b.length = some 3 := by unfold toIx; rw [if_pos ⟨by omega, by omega⟩]; rfl
          have b0 : (b.map inC)[0]? = some [iA x0] := by rw [hb]; rfl
          have b1 : (b.map inC)[1]? = some [iA x1] := by rw [hb]; rfl
          have b2 : (b.map inC)[2]? = some [iA x2] := by rw [hb]; rfl
          have b3 : (b.map inC)[3]? = some [iA x3] := by rw [hb]; rfl
          have hC := CommandValid_pc ⟨iStr p, ⟨x0, x1⟩, ⟨x2, x3⟩⟩ (by simp only [iStr, List.length_map]; omega)
          have hE := cmdF_eq hb
          rw [hv, Bool.true_and] at hE
          unfold cmdA cmC at hC
          (try simp only [hg, push_cast, simprocAttr])
          refine at_draw rfl (by kernel_rfl) ?_; simp only [push_cast, simprocAttr]
          (try simp only [hT, hTb, a0, a1, a2, a3, b0, b1, b2, b3, rowsA, cvS, bytesA, push_cast, simprocAttr])
          refine at_done (by kernel_rfl) (by kernel_rfl) (go_on ?_)
          (try simp only [push_cast, simprocAttr])
          (refine at_call ?_; (try simp only [push_cast, simprocAttr]); refine rwc_v (hC) (go_on ?_); (try simp only [push_cast, simprocAttr]))
          cases hcv : cmV ⟨iStr p, ⟨x0, x1⟩, ⟨x2, x3⟩⟩ with
          | false =>
            rw [hcv] at hE
            rw [cfR_none hE]
            (try simp only [hcv, Bool.not_false, push_cast, simprocAttr])
            refine at_ret ?_; simp only [Tryz.results133, push_cast, simprocAttr]
            simp [vX, cmC, cm0, ct0]
          | true =>
            rw [hcv] at hE
            rw [cfR_some hE]
            (try simp only [hcv, Bool.not_true, push_cast, simprocAttr])
            refine at_ret ?_; simp only [Tryz.results133, push_cast, simprocAttr]
            simp [vX, cmC]
theorem iStr_take {p : List Int} {k : Nat} {x : Int} (h : p[k]? = some x) : iStr (p.take (k + 1)) = iStr (p.take k) ++ [UInt8.ofNat x.toNat] := by
  unfold iStr
  rw [List.take_add_one, h, List.map_append]; rfl
theorem iStr_len (p : List Int) : (iStr p).length = p.length := by unfold iStr; simp
theorem specCommandFrom_pc (b : List Int) (hl : b.length < 4294967281) : PC Tryz.prog 136 [intsA b] (vX (cfR b)) := by
  have hI := l4Body_pc b hl
  by_cases h4 : b.length < 5
  · have e0 : ltI (b.length : Int) 5 = true := ltI_t (by omega)
    have hn : cmdF b = none := by
      unfold cmdF
      split
      · rename_i x0 x1 x2 x3 p
        have : p = [] := List.eq_nil_of_length_eq_zero (by simp at h4; omega)
        subst this
        rw [if_neg]
        intro hc
        rw [Bool.and_eq_true] at hc
        have := hc.2
        unfold cmV pV at this
        simp [iStr, root] at this
      · rfl
    rw [cfR_none hn]
    refine pc_enter Tryz.func136 rfl rfl fun w0 fb => go_on ?_; (try simp only [Tryz.ntmps136, push_cast, simprocAttr])
    (try simp only [e0, push_cast, simprocAttr])
    refine at_ret ?_; simp only [Tryz.results136, push_cast, simprocAttr]
    simp [vX, cmC, cm0, ct0]
  · have e0 : ltI (b.length : Int) 5 = false := ltI_f (by omega)
    obtain ⟨x0, x1, x2, x3, p, hb⟩ := five_or b (by omega)
    cases hv : bodyB b with
    | false =>
      have hn : cmdF b = none := by rw [cmdF_eq hb, hv]; rfl
      rw [cfR_none hn]
      refine pc_enter Tryz.func136 rfl rfl fun w0 fb => go_on ?_; (try simp only [Tryz.ntmps136, push_cast, simprocAttr])
      (try simp only [e0, push_cast, simprocAttr])
      (refine at_call ?_; (try simp only [push_cast, simprocAttr]); refine rwc_v (hI) (go_on ?_); (try simp only [push_cast, simprocAttr]))
      (try simp only [hv, Bool.not_false, push_cast, simprocAttr])
      refine at_ret ?_; simp only [Tryz.results136, push_cast, simprocAttr]
      simp [vX, cmC, cm0, ct0]
    | true =>
      obtain ⟨hby, h1, h16⟩ := body_bytes hv
      have hpl : p.length = b.length - 4 := by rw [hb]; simp
      have hpb : ∀ x ∈ p, byteB x = true := fun x hx => List.all_eq_true.1 hby x (by rw [hb]; simp [hx])
      refine pc_enter Tryz.func136 rfl rfl fun w0 fb => go_on ?_; (try simp only [Tryz.ntmps136, push_cast, simprocAttr])
      (try simp only [e0, push_cast, simprocAttr])
      (refine at_call ?_; (try simp only [push_cast, simprocAttr]); refine rwc_v (hI) (go_on ?_); (try simp only [push_cast, simprocAttr]))
      (try simp only [hv, Bool.not_true, push_cast, simprocAttr])
      refine at_loop (X := Nat) (fun k => [(4, sA (iStr (p.take k))), (5, iA ((4 + k : Nat) : Int))]) (fun k => [(2, ⟨35, 5, [[sA [], iA 0, iA 0, iA 0, iA 0]], true⟩)]) (fun k => k ≤ p.length) (fun k => p.length - k) 0 (Nat.zero_le _) ?_ ?_
      · (refine wk_ok ?_ ?_ ?_ ?_ <;> simp [iStr, leL, leH, idsL, idsA, idsR, inH, hget, sameRow, upA, hvA, dsts, dstO, setA_0, setA_1, setA_8, List.append, List.cons_append, List.nil_append])
      · rintro k q1
        simp only [upA, hvA, dsts, dstO, setA_0, setA_1, setA_8, List.append, List.cons_append, List.nil_append]
        refine go_on ?_
        by_cases hlt : k < p.length
        · obtain ⟨x, hx⟩ := get_of_lt hlt
          have hxb : b[4 + k]? = some x := by rw [hb, show 4 + k = k + 4 by omega]; simpa using hx
          have i1 := ix_n hxb
          have i2 := map_get inC hxb
          simp only [inC] at i2
          have g0 : ltI ((4 + k : Nat) : Int) b.length = true := ltI_t (by omega)
          have wu := u8_wrap (hpb x (mem_of_get hx))
          have w1 := wr (((4 + k : Nat) : Int) + 1) (by omega)
          push_cast at i1 g0 w1
          have hsz : (iStr (p.take k)).length + 1 ≤ 9223372036854775807 := by rw [iStr_len, List.length_take]; omega
          (try simp only [g0, i1, i2, wu, w1, bytesA, cvS, rowsA, app_l, hsz, List.length_map, push_cast, simprocAttr])
          refine at_fin ⟨k + 1, by omega, by omega, ?_⟩
          rw [iStr_take hx]
          (refine wk_ok ?_ ?_ ?_ ?_ <;> simp [leL, leH, idsL, idsA, idsR, inH, hget, sameRow, upA, hvA, dsts, dstO, setA_0, setA_1, setA_8, List.append, List.cons_append, List.nil_append])
          omega
        · obtain rfl : k = p.length := by omega
          rw [List.take_length]
          have g0 : ltI ((4 + p.length : Nat) : Int) b.length = false := ltI_f (by omega)
          push_cast at g0
          have a0 : toIx 0 b.length = some 0 := by unfold toIx; rw [if_pos ⟨by omega, by omega⟩]; rfl
          have a1 : toIx 1 b.length = some 1 := by unfold toIx; rw [if_pos ⟨by omega, by omega⟩]; rfl
          have a2 : toIx 2 b.length = some 2 := by unfold toIx; rw [if_pos ⟨by omega, by omega⟩]; rfl
          have a3 : toIx 3 b.length = some 3 := by unfold toIx; rw [if_pos ⟨by omega, by omega⟩]; rfl
          have b0 : (b.map inC)[0]? = some [iA x0] := by rw [hb]; rfl
          have b1 : (b.map inC)[1]? = some [iA x1] := by rw [hb]; rfl
          have b2 : (b.map inC)[2]? = some [iA x2] := by rw [hb]; rfl
          have b3 : (b.map inC)[3]? = some [iA x3] := by rw [hb]; rfl
          have hC := specCommandValid_pc ⟨iStr p, ⟨x0, x1⟩, ⟨x2, x3⟩⟩ (by simp only [iStr, List.length_map]; omega)
          have hE := cmdF_eq hb
          rw [hv, Bool.true_and] at hE
          unfold cmdA cmC at hC
          (try simp only [g0, List.length_map, push_cast, simprocAttr])
          refine at_draw rfl (by kernel_rfl) ?_; simp only [push_cast, simprocAttr]
          (try simp only [a0, a1, a2, a3, b0, b1, b2, b3, push_cast, simprocAttr])
          refine at_done (by kernel_rfl) (by kernel_rfl) (go_on ?_)
          (try simp only [push_cast, simprocAttr])
          (refine at_call ?_; (try simp only [push_cast, simprocAttr]); refine rwc_v (hC) (go_on ?_); (try simp only [push_cast, simprocAttr]))
          cases hcv : cmV ⟨iStr p, ⟨x0, x1⟩, ⟨x2, x3⟩⟩ with
          | false =>
            rw [hcv] at hE
            rw [cfR_none hE]
            (try simp only [hcv, Bool.not_false, push_cast, simprocAttr])
            refine at_ret ?_; simp only [Tryz.results136, push_cast, simprocAttr]
            simp [vX, cmC, cm0, ct0]
          | true =>
            rw [hcv] at hE
            rw [cfR_some hE]
            (try simp only [hcv, Bool.not_true, push_cast, simprocAttr])
            refine at_ret ?_; simp only [Tryz.results136, push_cast, simprocAttr]
            simp [vX, cmC]
end Go.Proofs.YtccifbbjbnjcfaaGreatDoor
/-
  Walks: the bytes of logs and books.
-/
namespace Go.Proofs.YtccifbbjbnjcfaaGreatDoor
open Go Go.RowKit Go.Proofs
def bkC (b : Bk) : List AV := [iA b.ep, cmA b.log]
abbrev bkA (b : Bk) : AV := .agg (bkC b)
abbrev logF (l : List Cm) : List Int := l.flatMap fun c => frameB (cmdB c)
theorem frameB_le (c : Cm) : (frameB (cmdB c)).length ≤ 18 := by
  unfold frameB
  split
  · rename_i h
    have := (body_bytes h).2.2
    simp; omega
  · simp
theorem logF_take {l : List Cm} {k : Nat} {x : Cm} (h : l[k]? = some x) : logF (l.take (k + 1)) = logF (l.take k) ++ frameB (cmdB x) := by
  unfold logF
  rw [List.take_add_one, h]; simp
theorem logF_len : ∀ (l : List Cm), (logF l).length ≤ 18 * l.length
  | [] => by simp
  | c :: l => by
    have h1 := frameB_le c
    have h2 := logF_len l
    unfold logF at h2 ⊢
    rw [List.flatMap_cons, List.length_append, List.length_cons]; omega
theorem cmdB_le (c : Cm) : (cmdB c).length ≤ 12 := by
  cases h : cmV c with
  | false => rw [cmdB_f h]; simp
  | true =>
    rw [cmdB_v h, List.length_append, strI_len]
    have := cmV_p h
    simp [cmH]; omega
theorem lV_n {l : List Cm} (h : lV l = true) : l.length ≤ 20 := by
  unfold lV at h
  rw [Bool.and_eq_true, decide_eq_true_eq] at h
  exact h.2
theorem logB_f {l : List Cm} (h : lV l = false) : logB l = ([], false) := by unfold logB; rw [h]; rfl
theorem logB_t {l : List Cm} (h : lV l = true) : logB l = (logF l, true) := by unfold logB; rw [h]; rfl
attribute [local irreducible] RWp AW run kPe pe Kt effA gd gu br retR RDp runD kPeD brW gW effD
set_option maxRecDepth 100000
theorem LogBytes_pc (l : List Cm) (hs : SmL l) : PC Tryz.prog 94 [cmA l] (rX (.tup [.o 0 (logB l).1.length, bA (logB l).2]) [rowZ (logB l).1]) := by
  have hV := LogValid_pc l hs
  have hln := hs.n
  cases hv : lV l with
  | false =>
    rw [logB_f hv]
    refine pc_enter Tryz.func94 rfl rfl fun w0 fb => go_on ?_; (try simp only [Tryz.ntmps94, push_cast, simprocAttr])
    refine at_call ?_
    (try simp only [push_cast, simprocAttr])
    refine rwc_v hV ?_
    (try simp only [push_cast, simprocAttr])
    (refine at_dropS [2] (by refine wk_ok ?_ ?_ ?_ ?_ <;> simp [dropS, dropT, hasN, delL, hdel, leL, leH, idsL, idsA, idsR, inH, hget, sameRow]) ?_; simp only [dropS, dropT, hasN, delL, hdel, idsA, idsL, hget, List.map_cons, List.map_nil, List.all_cons, List.all_nil, List.append_nil, Bool.not_false, Bool.not_true, Bool.and_true, if_true, if_false, simprocAttr])
    refine go_on ?_
    (try simp only [hv, Bool.not_false, push_cast, simprocAttr])
    refine at_ret ?_; simp only [Tryz.results94, push_cast, simprocAttr]
    simp [rX, ixOf]
  | true =>
    have h20 := lV_n hv
    rw [logB_t hv]
    refine pc_enter Tryz.func94 rfl rfl fun w0 fb => go_on ?_; (try simp only [Tryz.ntmps94, push_cast, simprocAttr])
    (refine at_call ?_; (try simp only [push_cast, simprocAttr]); refine rwc_v (hV) (go_on ?_); (try simp only [push_cast, simprocAttr]))
    (try simp only [hv, Bool.not_true, push_cast, simprocAttr])
    refine at_loop (X := Nat) (fun k => [(2, .any), (4, .o 4 (logF (l.take k)).length), (12, iA k)]) (fun k => [(4, rowZ (logF (l.take k)))]) (fun k => k ≤ l.length) (fun k => l.length - k) 0 (Nat.zero_le _) ?_ ?_
    · (refine wk_ok ?_ ?_ ?_ ?_ <;> simp [leL, leH, idsL, idsA, idsR, inH, hget, sameRow, upA, hvA, dsts, dstO, setA_0, setA_1, setA_8, List.append, List.cons_append, List.nil_append])
    · rintro k q1
      simp only [upA, hvA, dsts, dstO, setA_0, setA_1, setA_8, List.append, List.cons_append, List.nil_append]
      refine go_on ?_
      have hlt2 := logF_len (l.take k)
      have hlk : (l.take k).length ≤ k := by rw [List.length_take]; omega
      (try simp only [List.length_map, push_cast, simprocAttr])
      refine at_b (fun hg => ?_) (fun hg => ?_)
      · have hlt := lt_tt hg
        obtain ⟨x, hx⟩ := get_of_lt hlt
        have i1 := ix_n hx
        have i2 := map_get cmC hx
        have hB := CommandBytes_d x (by have := hs.p x (mem_of_get hx); omega)
        have hF := FrameOf_d (cmdB x) (by have := cmdB_le x; omega)
        have hfl := frameB_le x
        unfold cmdA at hB
        simp only [cmC] at i2 hB
        have w1 := wr ((k : Int) + 1) (by omega)
        have hT : List.take (logF (l.take k)).length (List.map inC (logF (l.take k))) = List.map inC (logF (l.take k)) := List.take_of_length_le (by simp)
        (try simp only [hg, i1, i2, push_cast, simprocAttr])
        ((try simp only [push_cast, simprocAttr]); refine at_share2 (by simp [isC2, isC]) (by first | rfl | simp [ren]) (hB) (go_on ?_); (try simp only [push_cast, simprocAttr]))
        ((try simp only [push_cast, simprocAttr]); refine at_share2 (by simp [isC2, isC]) (by first | rfl | simp [ren]) (hF) (go_on ?_); (try simp only [push_cast, simprocAttr]))
        refine at_chk (by first | omega | (simp; omega)) ?_
        (try simp only [w1, hT, push_cast, simprocAttr])
        refine at_fin ⟨k + 1, by omega, by omega, ?_⟩
        rw [logF_take hx, List.length_append]
        (refine wk_ok ?_ ?_ ?_ ?_ <;> simp [leL, leH, idsL, idsA, idsR, inH, hget, sameRow, upA, hvA, dsts, dstO, setA_0, setA_1, setA_8, List.append, List.cons_append, List.nil_append])
      · have h3 := lt_ff hg
        obtain rfl : k = l.length := by omega
        rw [List.take_length]
        (try simp only [hg, push_cast, simprocAttr])
        refine at_ret ?_; simp only [Tryz.results94, push_cast, simprocAttr]
        simp [rX, ixOf]
theorem LogBytes_d (l : List Cm) (hs : SmL l) : PC Tryz.prog 94 [cmA l] (vX (.tup [intsA (logB l).1, bA (logB l).2])) := by
  have := (LogBytes_pc l hs).frzX
  simp [viewN, hpOf, hget, isC, tk] at this
  exact this
theorem specLogBytes_pc (l : List Cm) (hs : SmL l) : PC Tryz.prog 83 [cmA l] (rX (.tup [.o 0 (logB l).1.length, bA (logB l).2]) [rowZ (logB l).1]) := by
  have hV := specLogValid_pc l hs
  have hln := hs.n
  cases hv : lV l with
  | false =>
    rw [logB_f hv]
    refine pc_enter Tryz.func83 rfl rfl fun w0 fb => go_on ?_; (try simp only [Tryz.ntmps83, push_cast, simprocAttr])
    (refine at_call ?_; (try simp only [push_cast, simprocAttr]); refine rwc_v (hV) (go_on ?_); (try simp only [push_cast, simprocAttr]))
    (try simp only [hv, Bool.not_false, push_cast, simprocAttr])
    refine at_ret ?_; simp only [Tryz.results83, push_cast, simprocAttr]
    simp [rX, ixOf]
  | true =>
    have h20 := lV_n hv
    rw [logB_t hv]
    refine pc_enter Tryz.func83 rfl rfl fun w0 fb => go_on ?_; (try simp only [Tryz.ntmps83, push_cast, simprocAttr])
    (refine at_call ?_; (try simp only [push_cast, simprocAttr]); refine rwc_v (hV) (go_on ?_); (try simp only [push_cast, simprocAttr]))
    (try simp only [hv, Bool.not_true, push_cast, simprocAttr])
    refine at_loop (X := Nat) (fun k => [(2, .any), (4, .o 6 (logF (l.take k)).length), (5, iA k), (6, .any)]) (fun k => [(6, rowZ (logF (l.take k)))]) (fun k => k ≤ l.length) (fun k => l.length - k) 0 (Nat.zero_le _) ?_ ?_
    · (refine wk_ok ?_ ?_ ?_ ?_ <;> simp [leL, leH, idsL, idsA, idsR, inH, hget, sameRow, upA, hvA, dsts, dstO, setA_0, setA_1, setA_8, List.append, List.cons_append, List.nil_append])
    · rintro k q1
      simp only [upA, hvA, dsts, dstO, setA_0, setA_1, setA_8, List.append, List.cons_append, List.nil_append]
      refine go_on ?_
      have hlt2 := logF_len (l.take k)
      have hlk : (l.take k).length ≤ k := by rw [List.length_take]; omega
      (try simp only [List.length_map, push_cast, simprocAttr])
      refine at_b (fun hg => ?_) (fun hg => ?_)
      · have hlt := lt_tt hg
        obtain ⟨x, hx⟩ := get_of_lt hlt
        have i1 := ix_n hx
        have i2 := map_get cmC hx
        have hB := specCommandBytes_d x (by have := hs.p x (mem_of_get hx); omega)
        have hF := specFrameOf_d (cmdB x) (by have := cmdB_le x; omega)
        have hfl := frameB_le x
        unfold cmdA at hB
        simp only [cmC] at i2 hB
        have w1 := wr ((k : Int) + 1) (by omega)
        have hT : List.take (logF (l.take k)).length (List.map inC (logF (l.take k))) = List.map inC (logF (l.take k)) := List.take_of_length_le (by simp)
        (try simp only [hg, i1, i2, push_cast, simprocAttr])
        ((try simp only [push_cast, simprocAttr]); refine at_share2 (by simp [isC2, isC]) (by first | rfl | simp [ren]) (hB) (go_on ?_); (try simp only [push_cast, simprocAttr]))
        ((try simp only [push_cast, simprocAttr]); refine at_share2 (by simp [isC2, isC]) (by first | rfl | simp [ren]) (hF) (go_on ?_); (try simp only [push_cast, simprocAttr]))
        refine at_chk (by first | omega | (simp; omega)) ?_
        (try simp only [w1, hT, push_cast, simprocAttr])
        refine at_fin ⟨k + 1, by omega, by omega, ?_⟩
        rw [logF_take hx, List.length_append]
        (refine wk_ok ?_ ?_ ?_ ?_ <;> simp [leL, leH, idsL, idsA, idsR, inH, hget, sameRow, upA, hvA, dsts, dstO, setA_0, setA_1, setA_8, List.append, List.cons_append, List.nil_append])
      · have h3 := lt_ff hg
        obtain rfl : k = l.length := by omega
        rw [List.take_length]
        (try simp only [hg, push_cast, simprocAttr])
        refine at_ret ?_; simp only [Tryz.results83, push_cast, simprocAttr]
        simp [rX, ixOf]
theorem specLogBytes_d (l : List Cm) (hs : SmL l) : PC Tryz.prog 83 [cmA l] (vX (.tup [intsA (logB l).1, bA (logB l).2])) := by
  have := (specLogBytes_pc l hs).frzX
  simp [viewN, hpOf, hget, isC, tk] at this
  exact this
theorem bookB_f {b : Bk} (h : (lV b.log && inR b.ep 0 99) = false) : bookB b = ([], false) := by unfold bookB; rw [h]; rfl
theorem bookB_t {b : Bk} (h : (lV b.log && inR b.ep 0 99) = true) : bookB b = (frameB [b.ep] ++ (logB b.log).1, true) := by unfold bookB; rw [h]; rfl
theorem BookBytes_pc (b : Bk) (hs : SmL b.log) : PC Tryz.prog 46 [bkA b] (rX (.tup [.o 0 (bookB b).1.length, bA (bookB b).2]) [rowZ (bookB b).1]) := by
  have hL := LogBytes_d b.log hs
  have hE := isEpoch_pc b.ep
  have hF := FrameOf_pc [b.ep] (by simp)
  have hb2 : (logB b.log).2 = lV b.log := by unfold logB; split <;> simp_all
  rw [hb2] at hL
  unfold bkA bkC
  cases hv : lV b.log with
  | false =>
    rw [bookB_f (by rw [hv]; rfl)]
    rw [hv] at hL
    refine pc_enter Tryz.func46 rfl rfl fun w0 fb => go_on ?_; (try simp only [Tryz.ntmps46, push_cast, simprocAttr])
    (try simp only [push_cast, simprocAttr])
    refine at_share2 (by simp [isC2, isC]) (by first | rfl | simp [ren]) hL ?_
    simp only [push_cast, simprocAttr]
    (refine at_dropS [2] (by refine wk_ok ?_ ?_ ?_ ?_ <;> simp [dropS, dropT, hasN, delL, hdel, leL, leH, idsL, idsA, idsR, inH, hget, sameRow]) ?_; simp only [dropS, dropT, hasN, delL, hdel, idsA, idsL, hget, List.map_cons, List.map_nil, List.all_cons, List.all_nil, List.append_nil, Bool.not_false, Bool.not_true, Bool.and_true, if_true, if_false, simprocAttr])
    refine go_on ?_
    (try simp only [Bool.not_false, push_cast, simprocAttr])
    refine at_ret ?_; simp only [Tryz.results46, push_cast, simprocAttr]
    simp [rX, ixOf]
  | true =>
    rw [hv] at hL
    cases he : inR b.ep 0 99 with
    | false =>
      rw [bookB_f (by rw [hv, he]; rfl)]
      refine pc_enter Tryz.func46 rfl rfl fun w0 fb => go_on ?_; (try simp only [Tryz.ntmps46, push_cast, simprocAttr])
      (try simp only [push_cast, simprocAttr])
      refine at_share2 (by simp [isC2, isC]) (by first | rfl | simp [ren]) hL ?_
      simp only [push_cast, simprocAttr]
      (refine at_dropS [2] (by refine wk_ok ?_ ?_ ?_ ?_ <;> simp [dropS, dropT, hasN, delL, hdel, leL, leH, idsL, idsA, idsR, inH, hget, sameRow]) ?_; simp only [dropS, dropT, hasN, delL, hdel, idsA, idsL, hget, List.map_cons, List.map_nil, List.all_cons, List.all_nil, List.append_nil, Bool.not_false, Bool.not_true, Bool.and_true, if_true, if_false, simprocAttr])
      refine go_on ?_
      (try simp only [Bool.not_true, push_cast, simprocAttr])
      (refine at_call ?_; (try simp only [push_cast, simprocAttr]); refine rwc_v (hE) (go_on ?_); (try simp only [push_cast, simprocAttr]))
      (try simp only [he, Bool.not_false, push_cast, simprocAttr])
      refine at_ret ?_; simp only [Tryz.results46, push_cast, simprocAttr]
      simp [rX, ixOf]
    | true =>
      rw [bookB_t (by rw [hv, he]; rfl)]
      have hfl : (frameB [b.ep]).length = 3 := frameB_len (ep_body he)
      have h20 := lV_n hv
      have hll := logF_len b.log
      rw [← show (logB b.log).1 = logF b.log from by rw [logB_t hv]] at hll
      have hT : List.take (frameB [b.ep]).length (List.map inC (frameB [b.ep])) = List.map inC (frameB [b.ep]) := List.take_of_length_le (by simp)
      refine pc_enter Tryz.func46 rfl rfl fun w0 fb => go_on ?_; (try simp only [Tryz.ntmps46, push_cast, simprocAttr])
      ((try simp only [push_cast, simprocAttr]); refine at_share2 (by simp [isC2, isC]) (by first | rfl | simp [ren]) (hL) (go_on ?_); (try simp only [push_cast, simprocAttr]))
      (try simp only [Bool.not_true, push_cast, simprocAttr])
      (refine at_call ?_; (try simp only [push_cast, simprocAttr]); refine rwc_v (hE) (go_on ?_); (try simp only [push_cast, simprocAttr]))
      (try simp only [he, Bool.not_true, push_cast, simprocAttr])
      (refine at_call ?_; (try simp only [push_cast, simprocAttr]); refine rwc_r (hF) (by simp [flatV, flatL]) (flat_i _) (by simp [frB, baseOf]) (go_on ?_); (try simp only [push_cast, simprocAttr]))
      refine at_chk (by omega) ?_
      (try simp only [hT, push_cast, simprocAttr])
      refine at_ret ?_; simp only [Tryz.results46, push_cast, simprocAttr]
      simp [rX, ixOf]
theorem BookBytes_d (b : Bk) (hs : SmL b.log) : PC Tryz.prog 46 [bkA b] (vX (.tup [intsA (bookB b).1, bA (bookB b).2])) := by
  have := (BookBytes_pc b hs).frzX
  simp [viewN, hpOf, hget, isC, tk] at this
  exact this
theorem specBookBytes_pc (b : Bk) (hs : SmL b.log) : PC Tryz.prog 37 [bkA b] (rX (.tup [.o 0 (bookB b).1.length, bA (bookB b).2]) [rowZ (bookB b).1]) := by
  have hL := specLogBytes_d b.log hs
  have hE := l6In_pc b.ep 0 99
  have hF := specFrameOf_pc [b.ep] (by simp)
  have hb2 : (logB b.log).2 = lV b.log := by unfold logB; split <;> simp_all
  rw [hb2] at hL
  unfold bkA bkC
  cases hv : lV b.log with
  | false =>
    rw [bookB_f (by rw [hv]; rfl)]
    rw [hv] at hL
    refine pc_enter Tryz.func37 rfl rfl fun w0 fb => go_on ?_; (try simp only [Tryz.ntmps37, push_cast, simprocAttr])
    ((try simp only [push_cast, simprocAttr]); refine at_share2 (by simp [isC2, isC]) (by first | rfl | simp [ren]) (hL) (go_on ?_); (try simp only [push_cast, simprocAttr]))
    (try simp only [Bool.not_false, push_cast, simprocAttr])
    refine at_ret ?_; simp only [Tryz.results37, push_cast, simprocAttr]
    simp [rX, ixOf]
  | true =>
    rw [hv] at hL
    cases he : inR b.ep 0 99 with
    | false =>
      rw [bookB_f (by rw [hv, he]; rfl)]
      refine pc_enter Tryz.func37 rfl rfl fun w0 fb => go_on ?_; (try simp only [Tryz.ntmps37, push_cast, simprocAttr])
      ((try simp only [push_cast, simprocAttr]); refine at_share2 (by simp [isC2, isC]) (by first | rfl | simp [ren]) (hL) (go_on ?_); (try simp only [push_cast, simprocAttr]))
      (try simp only [Bool.not_true, push_cast, simprocAttr])
      (refine at_call ?_; (try simp only [push_cast, simprocAttr]); refine rwc_v (hE) (go_on ?_); (try simp only [push_cast, simprocAttr]))
      (try simp only [he, Bool.not_false, push_cast, simprocAttr])
      refine at_ret ?_; simp only [Tryz.results37, push_cast, simprocAttr]
      simp [rX, ixOf]
    | true =>
      rw [bookB_t (by rw [hv, he]; rfl)]
      have hfl : (frameB [b.ep]).length = 3 := frameB_len (ep_body he)
      have h20 := lV_n hv
      have hll := logF_len b.log
      rw [← show (logB b.log).1 = logF b.log from by rw [logB_t hv]] at hll
      have hT : List.take (frameB [b.ep]).length (List.map inC (frameB [b.ep])) = List.map inC (frameB [b.ep]) := List.take_of_length_le (by simp)
      refine pc_enter Tryz.func37 rfl rfl fun w0 fb => go_on ?_; (try simp only [Tryz.ntmps37, push_cast, simprocAttr])
      ((try simp only [push_cast, simprocAttr]); refine at_share2 (by simp [isC2, isC]) (by first | rfl | simp [ren]) (hL) (go_on ?_); (try simp only [push_cast, simprocAttr]))
      (try simp only [Bool.not_true, push_cast, simprocAttr])
      (refine at_call ?_; (try simp only [push_cast, simprocAttr]); refine rwc_v (hE) (go_on ?_); (try simp only [push_cast, simprocAttr]))
      (try simp only [he, Bool.not_true, push_cast, simprocAttr])
      (refine at_call ?_; (try simp only [push_cast, simprocAttr]); refine rwc_r (hF) (by simp [flatV, flatL]) (flat_i _) (by simp [frB, baseOf]) (go_on ?_); (try simp only [push_cast, simprocAttr]))
      refine at_chk (by omega) ?_
      (try simp only [hT, push_cast, simprocAttr])
      refine at_ret ?_; simp only [Tryz.results37, push_cast, simprocAttr]
      simp [rX, ixOf]
theorem specBookBytes_d (b : Bk) (hs : SmL b.log) : PC Tryz.prog 37 [bkA b] (vX (.tup [intsA (bookB b).1, bA (bookB b).2])) := by
  have := (specBookBytes_pc b hs).frzX
  simp [viewN, hpOf, hget, isC, tk] at this
  exact this
end Go.Proofs.YtccifbbjbnjcfaaGreatDoor
/-
  Walks: the log of bytes; the book of bytes; the book of a disk.
-/
namespace Go.Proofs.YtccifbbjbnjcfaaGreatDoor
open Go Go.RowKit Go.Proofs
theorem scanF_facts : ∀ (n : Nat) (l : List Int), l.length ≤ n → (scanF l).length ≤ l.length ∧ ∀ b ∈ scanF l, bodyB b = true
  | n, l, h => by
    induction n generalizing l with
    | zero =>
      have : l = [] := List.eq_nil_of_length_eq_zero (by omega)
      subst this
      rw [scanF_none rfl]
      simp
    | succ n ih =>
      cases hh : headF l with
      | none => rw [scanF_none hh]; simp
      | some b =>
        have hl := headF_len hh
        obtain ⟨h1, h2⟩ := ih (l.drop (b.length + 2)) (by rw [List.length_drop]; omega)
        rw [List.length_drop] at h1
        rw [scanF_some hh]
        refine ⟨by simp; omega, fun x hx => ?_⟩
        rcases List.mem_cons.1 hx with rfl | hx
        · exact (headF_spec hh).1
        · exact h2 x hx
/-- Where the loading of a log stands. -/
structure LJ (Bs : List (List Int)) (k : Nat) (out : List Cm) (used : Int) : Prop where
  le : k ≤ Bs.length
  n : out.length = k
  m : k ≤ 20
  e : takeC 20 Bs = out ++ takeC (20 - k) (Bs.drop k)
  u : usedC 20 Bs = used + usedC (20 - k) (Bs.drop k)
  u0 : 0 ≤ used
  u1 : used ≤ 18 * k
theorem LJ.init (Bs : List (List Int)) : LJ Bs 0 [] 0 := ⟨Nat.zero_le _, rfl, by omega, by simp, by simp, by omega, by omega⟩
theorem LJ.step {Bs : List (List Int)} {k : Nat} {out : List Cm} {used : Int} (h : LJ Bs k out used) {b : List Int} (hb : Bs[k]? = some b) (hk : k ≠ 20) {c : Cm} (hc : cmdF b = some c) (hbl : b.length ≤ 16) : LJ Bs (k + 1) (out ++ [c]) (used + ((b.length : Int) + 2)) := by
  have hm := h.m
  have h0 := h.u0
  have h1 := h.u1
  obtain ⟨j, hj⟩ : ∃ j, 20 - k = j + 1 := ⟨20 - k - 1, by omega⟩
  refine ⟨lt_of_some hb, by rw [List.length_append, h.n]; rfl, by omega, ?_, ?_, by omega, by omega⟩
  · rw [h.e, drop_of_get hb, hj, takeC, hc, show 20 - (k + 1) = j by omega]
    simp
  · rw [h.u, drop_of_get hb, hj, usedC, hc, show 20 - (k + 1) = j by omega]
    simp only
    omega
theorem LJ.stop {Bs : List (List Int)} {k : Nat} {out : List Cm} {used : Int} (h : LJ Bs k out used) (hs : Bs[k]? = none ∨ k = 20 ∨ ∃ b, Bs[k]? = some b ∧ cmdF b = none) : takeC 20 Bs = out ∧ usedC 20 Bs = used := by
  have e := h.e
  have u := h.u
  rcases hs with hs | rfl | ⟨b, hb, hc⟩
  · have : Bs.drop k = [] := List.drop_of_length_le (List.getElem?_eq_none_iff.1 hs)
    rw [this] at e u
    have t0 : ∀ n, takeC n [] = [] := fun n => by cases n <;> rfl
    have t1 : ∀ n, usedC n [] = 0 := fun n => by cases n <;> rfl
    rw [t0, List.append_nil] at e
    rw [t1, Int.add_zero] at u
    exact ⟨e, u⟩
  · simp only [Nat.sub_self, takeC, usedC, List.append_nil, Int.add_zero] at e u
    exact ⟨e, u⟩
  · rw [drop_of_get hb] at e u
    cases hn : 20 - k with
    | zero =>
      rw [hn] at e u
      simp only [takeC, usedC, List.append_nil, Int.add_zero] at e u
      exact ⟨e, u⟩
    | succ j =>
      rw [hn, takeC, hc] at e
      rw [hn, usedC, hc] at u
      simp only [List.append_nil, Int.add_zero] at e u
      exact ⟨e, u⟩
theorem loadC_v (l : List Int) : lV (loadC l) = true := by
  unfold lV loadC
  rw [(takeC_spec 20 l).1]
  simpa using takeC_len 20 (scanF l)
theorem lV_sm {l : List Cm} (h : lV l = true) : SmL l := by
  have hn := lV_n h
  refine ⟨by omega, fun c hc => ?_⟩
  unfold lV at h
  rw [Bool.and_eq_true] at h
  have := cmV_p (List.all_eq_true.1 h.1 c hc)
  omega
abbrev rowCm (l : List Cm) : Row := ⟨35, 5, l.map cmC, true⟩
attribute [local irreducible] RWp AW run kPe pe Kt effA gd gu br retR RDp runD kPeD brW gW effD
set_option maxRecDepth 100000
theorem FramesScan_d (l : List Int) (hl : l.length < 4294967281) : PC Tryz.prog 132 [intsA l] (vX (.tup [.sl 1 ((scanF l).map szC), iA (scanAt l)])) := by
  have := (FramesScan_pc l hl).frzX
  simp [viewN, hpOf, hget, isC, tk] at this
  exact this
theorem specFramesScan_d (l : List Int) (hl : l.length < 4294967281) : PC Tryz.prog 117 [intsA l] (vX (.tup [.sl 1 ((scanF l).map szC), iA (scanAt l)])) := by
  have := (specFramesScan_pc l hl).frzX
  simp [viewN, hpOf, hget, isC, tk] at this
  exact this
theorem LogLoad_pc (l : List Int) (hl : l.length < 4294967281) : PC Tryz.prog 111 [intsA l] (rX (.tup [.o 0 (loadC l).length, iA (usedC 20 (scanF l))]) [rowCm (loadC l)]) := by
  have hS := FramesScan_d l hl
  obtain ⟨f1, f2⟩ := scanF_facts _ l (Nat.le_refl _)
  have hE : loadC l = takeC 20 (scanF l) := rfl
  rw [hE]
  obtain ⟨Bs, hBs⟩ : ∃ Bs, Bs = scanF l := ⟨_, rfl⟩
  rw [← hBs] at f1 f2 hS ⊢
  obtain ⟨T, hTd⟩ : ∃ T, T = takeC 20 Bs := ⟨_, rfl⟩
  obtain ⟨U, hUd⟩ : ∃ U, U = usedC 20 Bs := ⟨_, rfl⟩
  rw [← hTd, ← hUd]
  refine pc_enter Tryz.func111 rfl rfl fun w0 fb => go_on ?_; (try simp only [Tryz.ntmps111, push_cast, simprocAttr])
  ((try simp only [push_cast, simprocAttr]); refine at_share2 (by simp [isC2, isC]) (by first | rfl | simp [ren]) (hS) (go_on ?_); (try simp only [push_cast, simprocAttr]))
  refine at_loop (X := Nat × List Cm × Int) (fun x => [(2, .any), (6, .o 6 x.2.1.length), (7, iA x.2.2), (19, iA x.1)]) (fun x => [(6, rowCm x.2.1)]) (fun x => LJ Bs x.1 x.2.1 x.2.2) (fun x => Bs.length - x.1) (0, [], 0) (LJ.init Bs) ?_ ?_
  · (refine wk_ok ?_ ?_ ?_ ?_ <;> simp [leL, leH, idsL, idsA, idsR, inH, hget, sameRow, upA, hvA, dsts, dstO, setA_0, setA_1, setA_8, List.append, List.cons_append, List.nil_append])
  · rintro ⟨k, out, used⟩ hJ
    have h1 := hJ.le
    have h2 := hJ.n
    have h3 := hJ.m
    have h4 := hJ.u0
    have h5 := hJ.u1
    dsimp only at h1 h2 h3 h4 h5
    simp only [upA, hvA, dsts, dstO, setA_0, setA_1, setA_8, List.append, List.cons_append, List.nil_append]
    refine go_on ?_
    cases hb : Bs[k]? with
    | none =>
      obtain ⟨e1, e2⟩ := hJ.stop (.inl hb)
      dsimp only at e1 e2
      have g0 : ltI (k : Int) Bs.length = false := ltI_f (by have := List.getElem?_eq_none_iff.1 hb; omega)
      as_aux_lemma =>
        (try simp only [g0, List.length_map, push_cast, simprocAttr])
        refine at_ret ?_; simp only [Tryz.results111, push_cast, simprocAttr]
        rw [hTd, hUd, e1, e2]
        simp [rX, ixOf]
    | some b =>
      have hlt := lt_of_some hb
      have g0 : ltI (k : Int) Bs.length = true := ltI_t (by omega)
      have i1 := ix_n hb
      have i2 := map_get szC hb
      simp only [szC] at i2
      have hbl := (body_bytes (f2 b (mem_of_get hb))).2.2
      have hC := CommandFrom_pc b (by omega)
      have w1 := wr ((k : Int) + 1) (by omega)
      have w2 : IntKind.i64.wrap ((b.length : Int) + 2) = (b.length : Int) + 2 := wr _ (by omega)
      have w3 : IntKind.i64.wrap (used + ((b.length : Int) + 2)) = used + ((b.length : Int) + 2) := wr _ (by omega)
      cases hc : cmdF b with
      | none =>
        obtain ⟨e1, e2⟩ := hJ.stop (.inr (.inr ⟨b, hb, hc⟩))
        dsimp only at e1 e2
        rw [cfR_none hc] at hC
        unfold cmdA cmC at hC
        as_aux_lemma =>
          (try simp only [g0, i1, i2, List.length_map, push_cast, simprocAttr])
          ((try simp only [push_cast, simprocAttr]); refine at_share2 (by simp [isC2, isC]) (by first | rfl | simp [ren]) (hC) (go_on ?_); (try simp only [push_cast, simprocAttr]))
          (try simp only [Bool.not_false, push_cast, simprocAttr])
          refine at_ret ?_; simp only [Tryz.results111, push_cast, simprocAttr]
          rw [hTd, hUd, e1, e2]
          simp [rX, ixOf]
      | some c =>
        rw [cfR_some hc] at hC
        unfold cmdA cmC at hC
        by_cases hk : k = 20
        · obtain ⟨e1, e2⟩ := hJ.stop (.inr (.inl hk))
          dsimp only at e1 e2
          have q0 : eqI (out.length : Int) 20 = true := eqI_t (by omega)
          as_aux_lemma =>
            (try simp only [g0, i1, i2, List.length_map, push_cast, simprocAttr])
            ((try simp only [push_cast, simprocAttr]); refine at_share2 (by simp [isC2, isC]) (by first | rfl | simp [ren]) (hC) (go_on ?_); (try simp only [push_cast, simprocAttr]))
            (try simp only [Bool.not_true, q0, push_cast, simprocAttr])
            refine at_ret ?_; simp only [Tryz.results111, push_cast, simprocAttr]
            rw [hTd, hUd, e1, e2]
            simp [rX, ixOf]
        · have q0 : eqI (out.length : Int) 20 = false := eqI_f (by omega)
          have hT : List.take out.length (List.map cmC out) = List.map cmC out := List.take_of_length_le (by simp)
          as_aux_lemma =>
            (try simp only [g0, i1, i2, List.length_map, push_cast, simprocAttr])
            ((try simp only [push_cast, simprocAttr]); refine at_share2 (by simp [isC2, isC]) (by first | rfl | simp [ren]) (hC) (go_on ?_); (try simp only [push_cast, simprocAttr]))
            as_aux_lemma =>
              (try simp -implicitDefEqProofs only [Bool.not_true, q0, push_cast, simprocAttr])
              refine at_chk (by omega) ?_
              as_aux_lemma =>
                (try simp -implicitDefEqProofs only [w1, w2, w3, hT, List.length_map, push_cast, simprocAttr])
                as_aux_lemma =>
                  refine at_fin ⟨(k + 1, out ++ [c], used + ((b.length : Int) + 2)), hJ.step hb hk hc hbl, by dsimp only; omega, ?_⟩
                  (refine wk_ok ?_ ?_ ?_ ?_ <;> simp [cmC, leL, leH, idsL, idsA, idsR, inH, hget, sameRow, upA, hvA, dsts, dstO, setA_0, setA_1, setA_8, List.append, List.cons_append, List.nil_append])
theorem LogLoad_d (l : List Int) (hl : l.length < 4294967281) : PC Tryz.prog 111 [intsA l] (vX (.tup [cmA (loadC l), iA (usedC 20 (scanF l))])) := by
  have := (LogLoad_pc l hl).frzX
  simp [viewN, hpOf, hget, isC, tk] at this
  exact this
theorem specLogLoad_pc (l : List Int) (hl : l.length < 4294967281) : PC Tryz.prog 118 [intsA l] (rX (.tup [.o 0 (loadC l).length, iA (usedC 20 (scanF l))]) [rowCm (loadC l)]) := by
  have hS := specFramesScan_d l hl
  obtain ⟨f1, f2⟩ := scanF_facts _ l (Nat.le_refl _)
  have hE : loadC l = takeC 20 (scanF l) := rfl
  rw [hE]
  obtain ⟨Bs, hBs⟩ : ∃ Bs, Bs = scanF l := ⟨_, rfl⟩
  rw [← hBs] at f1 f2 hS ⊢
  obtain ⟨T, hTd⟩ : ∃ T, T = takeC 20 Bs := ⟨_, rfl⟩
  obtain ⟨U, hUd⟩ : ∃ U, U = usedC 20 Bs := ⟨_, rfl⟩
  rw [← hTd, ← hUd]
  refine pc_enter Tryz.func118 rfl rfl fun w0 fb => go_on ?_; (try simp only [Tryz.ntmps118, push_cast, simprocAttr])
  ((try simp only [push_cast, simprocAttr]); refine at_share2 (by simp [isC2, isC]) (by first | rfl | simp [ren]) (hS) (go_on ?_); (try simp only [push_cast, simprocAttr]))
  refine at_loop (X := Nat × List Cm × Int) (fun x => [(2, .any), (4, .o 11 x.2.1.length), (7, iA x.2.2), (8, iA x.1), (11, .any)]) (fun x => [(11, rowCm x.2.1)]) (fun x => LJ Bs x.1 x.2.1 x.2.2) (fun x => Bs.length - x.1) (0, [], 0) (LJ.init Bs) ?_ ?_
  · (refine wk_ok ?_ ?_ ?_ ?_ <;> simp [leL, leH, idsL, idsA, idsR, inH, hget, sameRow, upA, hvA, dsts, dstO, setA_0, setA_1, setA_8, List.append, List.cons_append, List.nil_append])
  · rintro ⟨k, out, used⟩ hJ
    have h1 := hJ.le
    have h2 := hJ.n
    have h3 := hJ.m
    have h4 := hJ.u0
    have h5 := hJ.u1
    dsimp only at h1 h2 h3 h4 h5
    simp only [upA, hvA, dsts, dstO, setA_0, setA_1, setA_8, List.append, List.cons_append, List.nil_append]
    refine go_on ?_
    cases hb : Bs[k]? with
    | none =>
      obtain ⟨e1, e2⟩ := hJ.stop (.inl hb)
      dsimp only at e1 e2
      have g0 : ltI (k : Int) Bs.length = false := ltI_f (by have := List.getElem?_eq_none_iff.1 hb; omega)
      (try simp only [g0, List.length_map, push_cast, simprocAttr])
      refine at_ret ?_; simp only [Tryz.results118, push_cast, simprocAttr]
      rw [hTd, hUd, e1, e2]
      simp [rX, ixOf]
    | some b =>
      have hlt := lt_of_some hb
      have g0 : ltI (k : Int) Bs.length = true := ltI_t (by omega)
      have i1 := ix_n hb
      have i2 := map_get szC hb
      simp only [szC] at i2
      have hbl := (body_bytes (f2 b (mem_of_get hb))).2.2
      have hC := specCommandFrom_pc b (by omega)
      have w1 := wr ((k : Int) + 1) (by omega)
      have w2 : IntKind.i64.wrap (used + (b.length : Int)) = used + (b.length : Int) := wr _ (by omega)
      have w3 : IntKind.i64.wrap (used + (b.length : Int) + 2) = used + ((b.length : Int) + 2) := by rw [wr _ (by omega)]; omega
      by_cases hk : k = 20
      · obtain ⟨e1, e2⟩ := hJ.stop (.inr (.inl hk))
        dsimp only at e1 e2
        have q0 : ltI (out.length : Int) 20 = false := ltI_f (by omega)
        (try simp only [g0, q0, List.length_map, push_cast, simprocAttr])
        refine at_ret ?_; simp only [Tryz.results118, push_cast, simprocAttr]
        rw [hTd, hUd, e1, e2]
        simp [rX, ixOf]
      · have q0 : ltI (out.length : Int) 20 = true := ltI_t (by omega)
        cases hc : cmdF b with
        | none =>
          obtain ⟨e1, e2⟩ := hJ.stop (.inr (.inr ⟨b, hb, hc⟩))
          dsimp only at e1 e2
          rw [cfR_none hc] at hC
          unfold cmdA cmC at hC
          (try simp only [g0, q0, i1, i2, List.length_map, push_cast, simprocAttr])
          ((try simp only [push_cast, simprocAttr]); refine at_share2 (by simp [isC2, isC]) (by first | rfl | simp [ren]) (hC) (go_on ?_); (try simp only [push_cast, simprocAttr]))
          (try simp only [Bool.not_false, push_cast, simprocAttr])
          refine at_ret ?_; simp only [Tryz.results118, push_cast, simprocAttr]
          rw [hTd, hUd, e1, e2]
          simp [rX, ixOf]
        | some c =>
          rw [cfR_some hc] at hC
          unfold cmdA cmC at hC
          have hT : List.take out.length (List.map cmC out) = List.map cmC out := List.take_of_length_le (by simp)
          (try simp only [g0, q0, i1, i2, List.length_map, push_cast, simprocAttr])
          ((try simp only [push_cast, simprocAttr]); refine at_share2 (by simp [isC2, isC]) (by first | rfl | simp [ren]) (hC) (go_on ?_); (try simp only [push_cast, simprocAttr]))
          (try simp only [Bool.not_true, push_cast, simprocAttr])
          refine at_chk (by omega) ?_
          (try simp only [w1, w2, w3, i1, i2, hT, List.length_map, push_cast, simprocAttr])
          refine at_fin ⟨(k + 1, out ++ [c], used + ((b.length : Int) + 2)), hJ.step hb hk hc hbl, by dsimp only; omega, ?_⟩
          (refine wk_ok ?_ ?_ ?_ ?_ <;> simp [cmC, leL, leH, idsL, idsA, idsR, inH, hget, sameRow, upA, hvA, dsts, dstO, setA_0, setA_1, setA_8, List.append, List.cons_append, List.nil_append])
theorem specLogLoad_d (l : List Int) (hl : l.length < 4294967281) : PC Tryz.prog 118 [intsA l] (vX (.tup [cmA (loadC l), iA (usedC 20 (scanF l))])) := by
  have := (specLogLoad_pc l hl).frzX
  simp [viewN, hpOf, hget, isC, tk] at this
  exact this
end Go.Proofs.YtccifbbjbnjcfaaGreatDoor
/-
  Walks: DiskSync.
-/
namespace Go.Proofs.YtccifbbjbnjcfaaGreatDoor
open Go Go.RowKit Go.Proofs
theorem syncP_false {bs : List BD} {nm : Int} (h : diskB bs = false) : syncP bs nm = ([], false) := by unfold syncP; rw [h]; rfl
theorem syncP_none {bs : List BD} {nm : Int} (h : getB bs nm = none) : syncP bs nm = ([], false) := by
  unfold syncP
  rw [h]
  split <;> rfl
theorem ownNil {w0 w1 w : World} {lent1 : Lent} {s : AS} {loc : Loc} {a : Act} {R : Nat} {v : Value} (hch : Ch w0 w1 lent1) (hr : hget s.h R = some (rowB [])) (hR : Rel w1 lent1 s loc a w) (hG : G s.h loc w (.tup [.o R 0, bA false]) v) :
    ∃ x, (∀ lv lo W, C lv lo W x v) ∧ otB [] false w (fun b => w0.heap.size ≤ b ∧ b < w.heap.size) x := by
  obtain ⟨v0, h1, h2⟩ := hG.tupOB
  exact ⟨_, h2, v0, [], rfl, hR.toOT hch (bs := []) (us := []) hr Gh.nil h1⟩
attribute [local irreducible] RWp AW run kPe pe Kt effA gd gu br retR RDp runD kPeD brW gW effD
set_option maxRecDepth 100000
theorem DiskSync_o (bs : List BD) (hs : SmB bs) (nm : Int) : PO Tryz.prog 51 [blsA bs, iA nm] (otB (syncP bs nm).1 (syncP bs nm).2) := by
  have hV := DiskValid_pc bs hs
  have hF := file_pc bs hs.n nm
  have hn := hs.n
  cases hv : diskB bs with
  | false =>
    rw [syncP_false hv]
    refine po_enter Tryz.func51 rfl rfl fun w0 => go_on ?_; (try simp only [Tryz.ntmps51, push_cast, simprocAttr])
    (refine at_call ?_; (try simp only [push_cast, simprocAttr]); refine rwc_v (hF) (go_on ?_); (try simp only [push_cast, simprocAttr]))
    refine at_call ?_
    (try simp only [push_cast, simprocAttr])
    refine rwc_v hV ?_
    (try simp only [push_cast, simprocAttr])
    (refine at_dropS [4] (by refine wk_ok ?_ ?_ ?_ ?_ <;> simp [dropS, dropT, hasN, delL, hdel, leL, leH, idsL, idsA, idsR, inH, hget, sameRow]) ?_; simp only [dropS, dropT, hasN, delL, hdel, idsA, idsL, hget, List.map_cons, List.map_nil, List.all_cons, List.all_nil, List.append_nil, Bool.not_false, Bool.not_true, Bool.and_true, if_true, if_false, simprocAttr])
    refine go_on ?_
    (try simp only [hv, Bool.not_false, push_cast, simprocAttr])
    (refine at_retO (Ch.refl w0) (l := [.o 4 0, bA false]) (by simp only [Tryz.results51, push_cast, simprocAttr]) ?_)
    exact fun loc a w v hR hG => ownNil (Ch.refl w0) rfl hR hG
  | true =>
    rcases ixB_cases bs nm with ⟨h1, h2⟩ | ⟨j, d, h1, h2, h3⟩
    · rw [syncP_none h2]
      refine po_enter Tryz.func51 rfl rfl fun w0 => go_on ?_; (try simp only [Tryz.ntmps51, push_cast, simprocAttr])
      (refine at_call ?_; (try simp only [push_cast, simprocAttr]); refine rwc_v (hF) (go_on ?_); (try simp only [push_cast, simprocAttr]))
      refine at_call ?_
      (try simp only [push_cast, simprocAttr])
      refine rwc_v hV ?_
      (try simp only [push_cast, simprocAttr])
      (refine at_dropS [4] (by refine wk_ok ?_ ?_ ?_ ?_ <;> simp [dropS, dropT, hasN, delL, hdel, leL, leH, idsL, idsA, idsR, inH, hget, sameRow]) ?_; simp only [dropS, dropT, hasN, delL, hdel, idsA, idsL, hget, List.map_cons, List.map_nil, List.all_cons, List.all_nil, List.append_nil, Bool.not_false, Bool.not_true, Bool.and_true, if_true, if_false, simprocAttr])
      refine go_on ?_
      (try simp only [hv, Bool.not_true, h1, show ltI (-1) 0 = true from rfl, push_cast, simprocAttr])
      (refine at_retO (Ch.refl w0) (l := [.o 4 0, bA false]) (by simp only [Tryz.results51, push_cast, simprocAttr]) ?_)
      exact fun loc a w v hR hG => ownNil (Ch.refl w0) rfl hR hG
    · have hjl := lt_of_some h2
      have hdm := (getB_name h3).1
      have i0 : ltI (j : Int) 0 = false := ltI_f (by omega)
      have i1 := ix_n h2
      have hok := disk_okF hv (mem_of_get h2)
      have h400 : d.safe.length + d.fresh.length ≤ 400 := by simp only [okF, Bool.and_eq_true, decide_eq_true_eq] at hok; exact hok.2
      have hC := Concat_pc [d.safe, d.fresh] (by simp) (by simp; omega)
      simp only [List.map_cons, List.map_nil, szC, List.flatten_cons, List.flatten_nil, List.append_nil] at hC
      have hsy : syncP bs nm = (bs.set j ⟨d.name, d.safe ++ d.fresh, []⟩, true) := by
        unfold syncP
        rw [hv, h3, set_with ((diskB_iff _).1 hv).2 h2 (d' := ⟨d.name, d.safe ++ d.fresh, []⟩) rfl, hdm]
        rfl
      rw [hsy]
      refine po_enter Tryz.func51 rfl rfl fun w0 => go_on ?_; (try simp only [Tryz.ntmps51, push_cast, simprocAttr])
      (refine at_call ?_; (try simp only [push_cast, simprocAttr]); refine rwc_v (hF) (go_on ?_); (try simp only [push_cast, simprocAttr]))
      refine at_call ?_
      (try simp only [push_cast, simprocAttr])
      refine rwc_v hV ?_
      (try simp only [push_cast, simprocAttr])
      (refine at_dropS [4] (by refine wk_ok ?_ ?_ ?_ ?_ <;> simp [dropS, dropT, hasN, delL, hdel, leL, leH, idsL, idsA, idsR, inH, hget, sameRow]) ?_; simp only [dropS, dropT, hasN, delL, hdel, idsA, idsL, hget, List.map_cons, List.map_nil, List.all_cons, List.all_nil, List.append_nil, Bool.not_false, Bool.not_true, Bool.and_true, if_true, if_false, simprocAttr])
      refine go_on ?_
      (try simp only [hv, Bool.not_true, h1, i0, push_cast, simprocAttr])
      refine call_PO rfl [blsA bs] ⟨ga_c rfl, trivial⟩ (cloneDisk_o bs hs) ?_
      rintro w2 lent2 X x hN ⟨u, us, rfl, hO⟩
      have hlen := hO.gh.len
      obtain ⟨q, hq⟩ := hO.gh.at h2
      refine AW.re rfl fun loc a w hR => ?_
      obtain ⟨lent3, loc3, hR3, hgh, hch3, _, hkp3, _⟩ := hR.adopt' 19 rfl hO hN.xfb
      have hqi := hgh.inn j d q h2 hq
      obtain ⟨lent4, loc4, hR4, hfb4, hkp4, hch4, hpin⟩ := hR3.free (R := 500000) (E0 := esT bs us) rfl (by decide) esT_c (esT_at h2 hq) hqi.1 hqi.2
      have hch := hch4 _ _ (hch3 _ _ (hN.ch _ _ (Ch.refl w0)))
      have hin : ∀ (i : Nat) e r, bs[i]? = some e → us[i]? = some r → i ≠ j → OwI w lent4.fb r.1 e.safe ∧ OwI w lent4.fb r.2 e.fresh := fun i e r k1 k2 hne => by
        have := hgh.inn i e r k1 k2
        have n1 := fun v (hv : v = r.1 ∨ v = r.2) => apart_ne hgh.apart k2 hq hne hv (v' := q.1) (.inl rfl)
        have n2 := fun v (hv : v = r.1 ∨ v = r.2) => apart_ne hgh.apart k2 hq hne hv (v' := q.2) (.inr rfl)
        rw [hfb4]
        exact ⟨⟨this.1.1, fun g hg => ⟨this.1.2 g hg, n1 _ (.inl rfl) g hg, n2 _ (.inl rfl) g hg⟩⟩, ⟨this.2.1, fun g hg => ⟨this.2.2 g hg, n1 _ (.inr rfl) g hg, n2 _ (.inr rfl) g hg⟩⟩⟩
      refine ⟨w, lent4, _, loc4, hR4, ?_⟩
      clear hR hR3 hR4
      simp only [AS.put, setA, cl0, clS, isC, List.map_cons, List.map_nil, List.set_cons_succ, List.set_cons_zero, if_true, if_false, simprocAttr]
      have hel : (esT bs us).length = bs.length := esT_len hlen
      have i3 : ∀ z, ((esT bs us).set j z)[j]? = some z := fun z => by rw [List.getElem?_set_self (by omega)]
      refine go_on ?_
      (try simp only [push_cast, simprocAttr])
      refine at_draw rfl (by kernel_rfl) ?_; simp only [push_cast, simprocAttr]
      (try simp only [i1, i3, List.set_set, push_cast, simprocAttr])
      (refine at_callD (by simp [clB, idsL, idsA, hget]) ?_; (try simp only [push_cast, simprocAttr]); refine rcd_r hC (by simp [flatV, flatL]) (flat_i _) (by simp [frB, baseOf]) ?_; (try simp only [push_cast, simprocAttr]))
      (try simp only [i1, i3, List.set_set, push_cast, simprocAttr])
      refine at_done (by kernel_rfl) (by kernel_rfl) (go_on_n 6 ?_)
      (try simp only [i1, i3, List.set_set, push_cast, simprocAttr])
      rw [run_0]
      refine at_more ?_
      refine aw_storeN 500003 hpin rfl (h' := [(500000, ⟨79, 3, (esT bs us).set j [iA d.name, .o 34000 (d.safe ++ d.fresh).length, .o 500003 0], false⟩), (500003, rowZ []), (32, ⟨62, 1, [[intsA d.safe], [intsA d.fresh]], true⟩), (34000, rowZ (d.safe ++ d.fresh))]) (by simp only [i3, List.set_set, push_cast, simprocAttr]) ?_
      refine go_on ?_
      (try simp only [push_cast, simprocAttr])
      (refine at_retO hch (l := [.o 500000 bs.length, bA true]) (by simp only [Tryz.results51, push_cast, simprocAttr]) ?_)
      intro loc5 a5 w5 v hR hG
      obtain ⟨v0, hv0, hv1⟩ := hG.tupOB
      obtain ⟨u1, u2, lent6, loc6, hR6, o1, o2, hap, n1, n2, hsub, hkp, hch6, _, _, _, _, hl6⟩ := hR.unlink (R := 500000) (x := .o 34000 (d.safe ++ d.fresh).length) (y := .o 500003 ([] : List Int).length) (nm := d.name) rfl rfl rfl (.o rfl) (.o rfl) (by simp [idsA]) (by simp [idsA]) (by simp [idsA])
        (fun u1 u2 => (esT bs us).set j [iA d.name, .v u1, .v u2]) (fun u1 u2 => set_rel esT_c (by omega))
      rw [esT_set2 (d := ⟨d.name, d.safe ++ d.fresh, []⟩) (p := (u1, u2)) hlen hjl] at hR6
      refine ⟨_, hv1, v0, us.set j (u1, u2), rfl, ?_⟩
      exact hR6.toOT (R := 500000) (bs := bs.set j ⟨d.name, d.safe ++ d.fresh, []⟩) (us := us.set j (u1, u2)) (hch6 _ _ hch) rfl (Gh.set hlen hjl hin hgh.apart hkp hsub o1 o2 hap n1 n2) (by rw [hv0, List.length_set]; simp only [rowVal, hl6])
end Go.Proofs.YtccifbbjbnjcfaaGreatDoor
/-
  Walks: the reference's DiskSync.
-/
namespace Go.Proofs.YtccifbbjbnjcfaaGreatDoor
open Go Go.RowKit Go.Proofs
attribute [local irreducible] RWp AW run kPe pe Kt effA gd gu br retR RDp runD kPeD brW gW effD
set_option maxRecDepth 100000
theorem l31All_pc (d : BD) (h : d.safe.length + d.fresh.length ≤ 4194304) : PC Tryz.prog 82 [blobA d] (rX (.o 0 (d.safe ++ d.fresh).length) [rowZ (d.safe ++ d.fresh)]) := by
  unfold blobA bC
  refine pc_enter Tryz.func82 rfl rfl fun w0 fb => go_on ?_; (try simp only [Tryz.ntmps82, push_cast, simprocAttr])
  refine at_draw rfl (by kernel_rfl) ?_; simp only [push_cast, simprocAttr]
  (try simp only [effD_app2, push_cast, simprocAttr])
  refine at_chkD (by omega) ?_
  (try simp only [effD_app2, push_cast, simprocAttr])
  refine at_chkD (by simp; omega) ?_
  (try simp only [push_cast, simprocAttr])
  refine at_done (by kernel_rfl) (by kernel_rfl) (go_on ?_)
  (try simp only [push_cast, simprocAttr])
  refine at_ret ?_; simp only [Tryz.results82, push_cast, simprocAttr]
  have hT : List.take d.safe.length (List.map inC d.safe) = List.map inC d.safe := List.take_of_length_le (by simp)
  simp [rX, ixOf, hT]
theorem l31All_d (d : BD) (h : d.safe.length + d.fresh.length ≤ 4194304) : PC Tryz.prog 82 [blobA d] (vX (intsA (d.safe ++ d.fresh))) := by
  have := (l31All_pc d h).frzX
  simpa [viewN, hpOf, hget, isC, tk, intsA, List.map_append] using this
theorem specDiskSync_d (bs : List BD) (hs : SmB bs) (nm : Int) : PC Tryz.prog 41 [blsA bs, iA nm] (vX (.tup [blsA (syncP bs nm).1, bA (syncP bs nm).2])) := by
  have hV := specDiskValid_pc bs hs
  have hF := l31Find_pc bs hs.n nm
  have emp : ∀ {q : PC Tryz.prog 41 [blsA bs, iA nm] (rX (.tup [.o 0 0, bA false]) [rowB []])}, PC Tryz.prog 41 [blsA bs, iA nm] (vX (.tup [blsA [], bA false])) := fun {q} => by
    have := q.frzX
    simp [viewN, hpOf, hget, isC, tk] at this
    exact this
  cases hv : diskB bs with
  | false =>
    rw [syncP_false hv]
    refine emp (q := ?_)
    refine pc_enter Tryz.func41 rfl rfl fun w0 fb => go_on ?_; (try simp only [Tryz.ntmps41, push_cast, simprocAttr])
    (refine at_call ?_; (try simp only [push_cast, simprocAttr]); refine rwc_v (hV) (go_on ?_); (try simp only [push_cast, simprocAttr]))
    (try simp only [hv, Bool.not_false, push_cast, simprocAttr])
    refine at_ret ?_; simp only [Tryz.results41, push_cast, simprocAttr]
    simp [rX, ixOf]
  | true =>
    have h3n := disk_len hv
    rcases ixB_cases bs nm with ⟨h1, h2⟩ | ⟨j, d, h1, h2, h3⟩
    · rw [syncP_none h2]
      refine emp (q := ?_)
      refine pc_enter Tryz.func41 rfl rfl fun w0 fb => go_on ?_; (try simp only [Tryz.ntmps41, push_cast, simprocAttr])
      (refine at_call ?_; (try simp only [push_cast, simprocAttr]); refine rwc_v (hV) (go_on ?_); (try simp only [push_cast, simprocAttr]))
      (try simp only [hv, Bool.not_true, push_cast, simprocAttr])
      (refine at_call ?_; (try simp only [push_cast, simprocAttr]); refine rwc_v (hF) (go_on ?_); (try simp only [push_cast, simprocAttr]))
      (try simp only [h1, show ltI (-1) 0 = true from rfl, push_cast, simprocAttr])
      refine at_ret ?_; simp only [Tryz.results41, push_cast, simprocAttr]
      simp [rX, ixOf]
    · have hdm := (getB_name h3).1
      have i0 : ltI (j : Int) 0 = false := ltI_f (by omega)
      have i1 := ix_n h2
      have i2 := map_get bC h2
      have hok := disk_okF hv (mem_of_get h2)
      have h400 : d.safe.length + d.fresh.length ≤ 400 := by simp only [okF, Bool.and_eq_true, decide_eq_true_eq] at hok; exact hok.2
      have hA := l31All_d d (by omega)
      have hW := l31With_d bs hs (by omega) ⟨nm, d.safe ++ d.fresh, []⟩ ⟨by simp only [List.length_append]; omega, by simp⟩
      unfold blobA at hA hW
      simp only [bC, List.map_nil] at i2 hA hW
      have hsy : syncP bs nm = (withB bs ⟨nm, d.safe ++ d.fresh, []⟩, true) := by
        unfold syncP
        rw [hv, h3]
        rfl
      rw [hsy]
      refine pc_enter Tryz.func41 rfl rfl fun w0 fb => go_on ?_; (try simp only [Tryz.ntmps41, push_cast, simprocAttr])
      (refine at_call ?_; (try simp only [push_cast, simprocAttr]); refine rwc_v (hV) (go_on ?_); (try simp only [push_cast, simprocAttr]))
      (try simp only [hv, Bool.not_true, push_cast, simprocAttr])
      (refine at_call ?_; (try simp only [push_cast, simprocAttr]); refine rwc_v (hF) (go_on ?_); (try simp only [push_cast, simprocAttr]))
      (try simp only [h1, i0, push_cast, simprocAttr])
      (refine at_call ?_; (try simp only [push_cast, simprocAttr]); refine rwc_v (hF) (go_on ?_); (try simp only [push_cast, simprocAttr]))
      (try simp only [h1, i1, i2, push_cast, simprocAttr])
      ((try simp only [push_cast, simprocAttr]); refine at_share2 (by simp [isC2, isC]) (by first | rfl | simp [ren]) (hA) (go_on ?_); (try simp only [push_cast, simprocAttr]))
      (refine at_callW [27] (by refine wk_frz ?_ ?_ ?_ ?_ <;> simp [frwS, frwH, frwRow, frzT, hasN, delL, hdel, leF, leHF, rowF, frzB, idsL, idsA, idsR, inH, hget, sameRow, viewN, tk]) ?_; simp only [frwS, frwH, frwRow, frzT, hasN, delL, hdel, idsA, idsL, viewN, hget, tk, isC, List.map_cons, List.map_nil, List.all_cons, List.all_nil, List.append_nil, List.drop, List.getElem?_cons_zero, List.getElem?_cons_succ, Bool.not_false, Bool.not_true, Bool.and_true, if_true, if_false, Nat.zero_add, List.length_map, simprocAttr])
      ((try simp only [push_cast, simprocAttr]); refine at_share2 (by simp [isC2, isC]) (by first | rfl | simp [ren]) (hW) (go_on ?_); (try simp only [push_cast, simprocAttr]))
      refine at_ret ?_; simp only [Tryz.results41, push_cast, simprocAttr]
      simp [vX]
end Go.Proofs.YtccifbbjbnjcfaaGreatDoor
/-
  Walks: the book of bytes; the book of a disk.
-/
namespace Go.Proofs.YtccifbbjbnjcfaaGreatDoor
open Go Go.RowKit Go.Proofs
/-- What BookLoad and BookOpen return. -/
def bkR (o : Option Bk) : AV := .tup [bkA (o.getD bk0), bA o.isSome]
abbrev bk00 : AV := .tup [.agg [iA 0, .v (.slice none 0 0)], bA false]
theorem bkR_nil {P : Program} {f : FuncId} {args : List AV} (h : PC P f args (vX bk00)) : PC P f args (vX (bkR none)) :=
  h.less fun h loc w v hg => hg.tup2 rfl fun j x y u h1 h2 h3 => by
    rcases j with _ | _ | j
    · cases h1; cases h2
      refine h3.agg2 rfl fun j x y u h1 h2 h3 => ?_
      rcases j with _ | _ | j
      · cases h1; cases h2; exact h3
      · cases h1; cases h2; exact h3.nil2
      · cases h1
    · cases h1; cases h2; exact h3
    · cases h1
theorem bookL_n {l : List Int} (h : headF l = none) : bookL l = none := by unfold bookL; rw [h]
theorem bookL_l {l b : List Int} (h : headF l = some b) (hb : b.length ≠ 1) : bookL l = none := by
  unfold bookL; rw [h]
  match b, hb with
  | [], _ => rfl
  | [x], hb => exact absurd rfl hb
  | _ :: _ :: _, _ => rfl
theorem bookL_e {l : List Int} {e : Int} (h : headF l = some [e]) (he : inR e 0 99 = false) : bookL l = none := by unfold bookL; rw [h]; simp only; rw [he]; rfl
theorem bookL_s {l : List Int} {e : Int} (h : headF l = some [e]) (he : inR e 0 99 = true) : bookL l = some ⟨e, loadC (l.drop 3)⟩ := by unfold bookL; rw [h]; simp only; rw [he]; rfl
attribute [local irreducible] RWp AW run kPe pe Kt effA gd gu br retR RDp runD kPeD brW gW effD
set_option maxRecDepth 100000
theorem BookLoad_pc (l : List Int) (hl : l.length < 4294967281) : PC Tryz.prog 71 [intsA l] (vX (bkR (bookL l))) := by
  have hF := frame_pc l hl
  unfold frA at hF
  cases hh : headF l with
  | none =>
    rw [bookL_n hh]
    rw [hh] at hF
    simp only at hF
    refine bkR_nil ?_
    refine pc_enter Tryz.func71 rfl rfl fun w0 fb => go_on ?_; (try simp only [Tryz.ntmps71, push_cast, simprocAttr])
    (refine at_call ?_; (try simp only [push_cast, simprocAttr]); refine rwc_v (hF) (go_on ?_); (try simp only [push_cast, simprocAttr]))
    (try simp only [show eqI 0 1 = false from rfl, Bool.not_false, push_cast, simprocAttr])
    refine at_ret ?_; simp only [Tryz.results71, push_cast, simprocAttr]
    simp [vX]
  | some b =>
    rw [hh] at hF
    simp only at hF
    obtain ⟨q1, q2, q3⟩ := headF_len hh
    by_cases hb : b.length = 1
    · obtain ⟨e, rfl⟩ : ∃ e, b = [e] := List.length_eq_one_iff.1 hb
      have hE := isEpoch_pc e
      have g0 : eqI ((List.map inC [e]).length : Int) 1 = true := rfl
      have i1 : toIx 0 1 = some 0 := rfl
      cases he : inR e 0 99 with
      | false =>
        rw [bookL_e hh he]
        refine bkR_nil ?_
        refine pc_enter Tryz.func71 rfl rfl fun w0 fb => go_on ?_; (try simp only [Tryz.ntmps71, push_cast, simprocAttr])
        ((try simp only [push_cast, simprocAttr]); refine at_share2 (by simp [isC2, isC]) (by first | rfl | simp [ren]) (hF) (go_on ?_); (try simp only [push_cast, simprocAttr]))
        (try simp only [inC, show eqI 1 1 = true from rfl, Bool.not_true, i1, push_cast, simprocAttr])
        (refine at_call ?_; (try simp only [push_cast, simprocAttr]); refine rwc_v (hE) (go_on ?_); (try simp only [push_cast, simprocAttr]))
        (try simp only [he, Bool.not_false, push_cast, simprocAttr])
        refine at_ret ?_; simp only [Tryz.results71, push_cast, simprocAttr]
        simp [vX]
      | true =>
        rw [bookL_s hh he]
        have hL := LogLoad_d (l.drop 3) (by rw [List.length_drop]; omega)
        rw [show intsA (List.drop 3 l) = .sl 1 (List.drop 3 (List.map inC l)) from by rw [← List.map_drop]] at hL
        have hc : 0 ≤ (3 : Int) ∧ (3 : Int) ≤ l.length := by simp at q3; omega
        have hsl : List.take l.length (List.map inC l) = List.map inC l := List.take_of_length_le (by simp)
        refine pc_enter Tryz.func71 rfl rfl fun w0 fb => go_on ?_; (try simp only [Tryz.ntmps71, push_cast, simprocAttr])
        ((try simp only [push_cast, simprocAttr]); refine at_share2 (by simp [isC2, isC]) (by first | rfl | simp [ren]) (hF) (go_on ?_); (try simp only [push_cast, simprocAttr]))
        (try simp only [inC, show eqI 1 1 = true from rfl, Bool.not_true, i1, push_cast, simprocAttr])
        (refine at_call ?_; (try simp only [push_cast, simprocAttr]); refine rwc_v (hE) (go_on ?_); (try simp only [push_cast, simprocAttr]))
        (try simp only [he, Bool.not_true, hc, and_self, if_true, hsl, List.length_map, show (3 : Int).toNat = 3 from rfl, push_cast, simprocAttr])
        ((try simp only [push_cast, simprocAttr]); refine at_share2 (by simp [isC2, isC]) (by first | rfl | simp [ren]) (hL) (go_on ?_); (try simp only [push_cast, simprocAttr]))
        (try simp only [inC, i1, push_cast, simprocAttr])
        refine at_ret ?_; simp only [Tryz.results71, push_cast, simprocAttr]
        simp [vX, bkR, bkC]
    · rw [bookL_l hh hb]
      refine bkR_nil ?_
      have g0 : eqI (b.length : Int) 1 = false := eqI_f (by omega)
      refine pc_enter Tryz.func71 rfl rfl fun w0 fb => go_on ?_; (try simp only [Tryz.ntmps71, push_cast, simprocAttr])
      ((try simp only [push_cast, simprocAttr]); refine at_share2 (by simp [isC2, isC]) (by first | rfl | simp [ren]) (hF) (go_on ?_); (try simp only [push_cast, simprocAttr]))
      (try simp only [g0, Bool.not_false, List.length_map, push_cast, simprocAttr])
      refine at_ret ?_; simp only [Tryz.results71, push_cast, simprocAttr]
      simp [vX]
theorem specBookLoad_pc (l : List Int) (hl : l.length < 4294967281) : PC Tryz.prog 78 [intsA l] (vX (bkR (bookL l))) := by
  have hF := specFramesScan_d l hl
  cases hh : headF l with
  | none =>
    rw [bookL_n hh]
    rw [scanF_none hh] at hF
    refine bkR_nil ?_
    refine pc_enter Tryz.func78 rfl rfl fun w0 fb => go_on ?_; (try simp only [Tryz.ntmps78, push_cast, simprocAttr])
    ((try simp only [push_cast, simprocAttr]); refine at_share2 (by simp [isC2, isC]) (by first | rfl | simp [ren]) (hF) (go_on ?_); (try simp only [push_cast, simprocAttr]))
    (try simp only [show eqI 0 0 = true from rfl, push_cast, simprocAttr])
    refine at_ret ?_; simp only [Tryz.results78, push_cast, simprocAttr]
    simp [vX]
  | some b =>
    obtain ⟨q1, q2, q3⟩ := headF_len hh
    obtain ⟨R, hR⟩ : ∃ R, R = scanF (l.drop (b.length + 2)) := ⟨_, rfl⟩
    rw [scanF_some hh, ← hR] at hF
    have hRl : (R.length : Int) < 4294967281 := by
      have := (scanF_facts _ (l.drop (b.length + 2)) (Nat.le_refl _)).1
      rw [← hR, List.length_drop] at this; omega
    have g1 : eqI ((R.length : Int) + 1) 0 = false := eqI_f (by omega)
    have i0 : toIx 0 (R.length + 1) = some 0 := by unfold toIx; rw [if_pos ⟨by omega, by omega⟩]; rfl
    have i1 : toIx 0 1 = some 0 := rfl
    simp only [List.map_cons, szC] at hF
    by_cases hb : b.length = 1
    · obtain ⟨e, rfl⟩ : ∃ e, b = [e] := List.length_eq_one_iff.1 hb
      have hbe := (body_bytes (headF_spec hh).1).1
      unfold bytesB byteB inB at hbe
      simp only [List.all_cons, List.all_nil, Bool.and_true, Bool.and_eq_true, decide_eq_true_eq] at hbe
      cases he : inR e 0 99 with
      | false =>
        rw [bookL_e hh he]
        refine bkR_nil ?_
        have g2 : ltI 99 e = true := ltI_t (by unfold inR at he; simp at he; omega)
        refine pc_enter Tryz.func78 rfl rfl fun w0 fb => go_on ?_; (try simp only [Tryz.ntmps78, push_cast, simprocAttr])
        ((try simp only [push_cast, simprocAttr]); refine at_share2 (by simp [isC2, isC]) (by first | rfl | simp [ren]) (hF) (go_on ?_); (try simp only [push_cast, simprocAttr]))
        (try simp only [g1, i0, i1, inC, List.length_map, show eqI 1 1 = true from rfl, Bool.not_true, g2, push_cast, simprocAttr])
        refine at_ret ?_; simp only [Tryz.results78, push_cast, simprocAttr]
        simp [vX]
      | true =>
        rw [bookL_s hh he]
        have g2 : ltI 99 e = false := ltI_f (by unfold inR at he; simp at he; omega)
        have hL := specLogLoad_d (l.drop 3) (by rw [List.length_drop]; omega)
        rw [show intsA (List.drop 3 l) = .sl 1 (List.drop 3 (List.map inC l)) from by rw [← List.map_drop]] at hL
        have hc : 0 ≤ (3 : Int) ∧ (3 : Int) ≤ l.length := by simp at q3; omega
        have hsl : List.take l.length (List.map inC l) = List.map inC l := List.take_of_length_le (by simp)
        refine pc_enter Tryz.func78 rfl rfl fun w0 fb => go_on ?_; (try simp only [Tryz.ntmps78, push_cast, simprocAttr])
        ((try simp only [push_cast, simprocAttr]); refine at_share2 (by simp [isC2, isC]) (by first | rfl | simp [ren]) (hF) (go_on ?_); (try simp only [push_cast, simprocAttr]))
        (try simp only [g1, i0, i1, inC, List.length_map, show eqI 1 1 = true from rfl, Bool.not_true, g2, hc, and_self, if_true, hsl, show (3 : Int).toNat = 3 from rfl, push_cast, simprocAttr])
        ((try simp only [push_cast, simprocAttr]); refine at_share2 (by simp [isC2, isC]) (by first | rfl | simp [ren]) (hL) (go_on ?_); (try simp only [push_cast, simprocAttr]))
        (try simp only [g1, i0, i1, inC, List.length_map, push_cast, simprocAttr])
        refine at_ret ?_; simp only [Tryz.results78, push_cast, simprocAttr]
        simp [vX, bkR, bkC]
    · rw [bookL_l hh hb]
      refine bkR_nil ?_
      have g0 : eqI (b.length : Int) 1 = false := eqI_f (by omega)
      refine pc_enter Tryz.func78 rfl rfl fun w0 fb => go_on ?_; (try simp only [Tryz.ntmps78, push_cast, simprocAttr])
      ((try simp only [push_cast, simprocAttr]); refine at_share2 (by simp [isC2, isC]) (by first | rfl | simp [ren]) (hF) (go_on ?_); (try simp only [push_cast, simprocAttr]))
      (try simp only [g1, i0, i1, g0, Bool.not_false, List.length_map, push_cast, simprocAttr])
      refine at_ret ?_; simp only [Tryz.results78, push_cast, simprocAttr]
      simp [vX]
theorem bookO_t {bs : List BD} (h : (readD bs 1).2 = true) : bookO bs = bookL (readD bs 1).1 := by unfold bookO; rw [h]; rfl
theorem bookO_f {bs : List BD} (h : (readD bs 1).2 = false) : bookO bs = none := by unfold bookO; rw [h]; rfl
theorem readD_len {bs : List BD} (hs : SmB bs) (nm : Int) : (readD bs nm).1.length < 4294967281 := by
  unfold readD
  split
  · split
    · rename_i d hg
      have := hs.d d (getB_name hg).2
      have h1 := this.s
      have h2 := this.f
      simp only [List.length_append]; omega
    · simp
  · simp
theorem specDiskRead_d (bs : List BD) (hs : SmB bs) (nm : Int) : PC Tryz.prog 36 [blsA bs, iA nm] (vX (.tup [intsA (readD bs nm).1, bA (readD bs nm).2])) := by
  have hV := specDiskValid_pc bs hs
  have hF := l31Find_pc bs hs.n nm
  have emp : ∀ {q : PC Tryz.prog 36 [blsA bs, iA nm] (rX (.tup [.o 0 0, bA false]) [rowZ []])}, PC Tryz.prog 36 [blsA bs, iA nm] (vX (.tup [intsA [], bA false])) := fun {q} => by
    have := q.frzX
    simp [viewN, hpOf, hget, isC, tk] at this
    exact this
  cases hv : diskB bs with
  | false =>
    have hr : readD bs nm = ([], false) := by unfold readD; rw [hv]; rfl
    rw [hr]
    refine emp (q := ?_)
    refine pc_enter Tryz.func36 rfl rfl fun w0 fb => go_on ?_; (try simp only [Tryz.ntmps36, push_cast, simprocAttr])
    (refine at_call ?_; (try simp only [push_cast, simprocAttr]); refine rwc_v (hV) (go_on ?_); (try simp only [push_cast, simprocAttr]))
    (try simp only [hv, Bool.not_false, push_cast, simprocAttr])
    refine at_ret ?_; simp only [Tryz.results36, push_cast, simprocAttr]
    simp [rX, ixOf]
  | true =>
    rcases ixB_cases bs nm with ⟨h1, h2⟩ | ⟨j, d, h1, h2, h3⟩
    · have hr : readD bs nm = ([], false) := by rw [readD_v hv, h2]
      rw [hr]
      refine emp (q := ?_)
      refine pc_enter Tryz.func36 rfl rfl fun w0 fb => go_on ?_; (try simp only [Tryz.ntmps36, push_cast, simprocAttr])
      (refine at_call ?_; (try simp only [push_cast, simprocAttr]); refine rwc_v (hV) (go_on ?_); (try simp only [push_cast, simprocAttr]))
      (try simp only [hv, Bool.not_true, push_cast, simprocAttr])
      (refine at_call ?_; (try simp only [push_cast, simprocAttr]); refine rwc_v (hF) (go_on ?_); (try simp only [push_cast, simprocAttr]))
      (try simp only [h1, show ltI (-1) 0 = true from rfl, push_cast, simprocAttr])
      refine at_ret ?_; simp only [Tryz.results36, push_cast, simprocAttr]
      simp [rX, ixOf]
    · have i0 : ltI (j : Int) 0 = false := ltI_f (by omega)
      have i1 := ix_n h2
      have i2 := map_get bC h2
      have hok := disk_okF hv (mem_of_get h2)
      have h400 : d.safe.length + d.fresh.length ≤ 400 := by simp only [okF, Bool.and_eq_true, decide_eq_true_eq] at hok; exact hok.2
      have hA := l31All_d d (by omega)
      unfold blobA at hA
      simp only [bC] at i2 hA
      have hr : readD bs nm = (d.safe ++ d.fresh, true) := by rw [readD_v hv, h3]
      rw [hr]
      refine pc_enter Tryz.func36 rfl rfl fun w0 fb => go_on ?_; (try simp only [Tryz.ntmps36, push_cast, simprocAttr])
      (refine at_call ?_; (try simp only [push_cast, simprocAttr]); refine rwc_v (hV) (go_on ?_); (try simp only [push_cast, simprocAttr]))
      (try simp only [hv, Bool.not_true, push_cast, simprocAttr])
      (refine at_call ?_; (try simp only [push_cast, simprocAttr]); refine rwc_v (hF) (go_on ?_); (try simp only [push_cast, simprocAttr]))
      (try simp only [h1, i0, push_cast, simprocAttr])
      (refine at_call ?_; (try simp only [push_cast, simprocAttr]); refine rwc_v (hF) (go_on ?_); (try simp only [push_cast, simprocAttr]))
      (try simp only [h1, i1, i2, push_cast, simprocAttr])
      ((try simp only [push_cast, simprocAttr]); refine at_share2 (by simp [isC2, isC]) (by first | rfl | simp [ren]) (hA) (go_on ?_); (try simp only [push_cast, simprocAttr]))
      refine at_ret ?_; simp only [Tryz.results36, push_cast, simprocAttr]
      simp [vX]
theorem BookOpen_pc (bs : List BD) (hs : SmB bs) : PC Tryz.prog 28 [blsA bs] (vX (bkR (bookO bs))) := by
  have hD := DiskRead_d bs hs 1
  have hB := BookLoad_pc (readD bs 1).1 (readD_len hs 1)
  obtain ⟨x, ok, hx⟩ : ∃ x ok, readD bs 1 = (x, ok) := ⟨_, _, rfl⟩
  cases ok with
  | false =>
    rw [bookO_f (by rw [hx])]
    rw [hx] at hD
    refine bkR_nil ?_
    refine pc_enter Tryz.func28 rfl rfl fun w0 fb => go_on ?_; (try simp only [Tryz.ntmps28, push_cast, simprocAttr])
    ((try simp only [push_cast, simprocAttr]); refine at_share2 (by simp [isC2, isC]) (by first | rfl | simp [ren]) (hD) (go_on ?_); (try simp only [push_cast, simprocAttr]))
    (try simp only [Bool.not_false, push_cast, simprocAttr])
    refine at_ret ?_; simp only [Tryz.results28, push_cast, simprocAttr]
    simp [vX]
  | true =>
    rw [bookO_t (by rw [hx])]
    rw [hx] at hD hB ⊢
    simp only at hD hB ⊢
    unfold bkR bkA bkC at hB ⊢
    refine pc_enter Tryz.func28 rfl rfl fun w0 fb => go_on ?_; (try simp only [Tryz.ntmps28, push_cast, simprocAttr])
    ((try simp only [push_cast, simprocAttr]); refine at_share2 (by simp [isC2, isC]) (by first | rfl | simp [ren]) (hD) (go_on ?_); (try simp only [push_cast, simprocAttr]))
    (try simp only [Bool.not_true, push_cast, simprocAttr])
    ((try simp only [push_cast, simprocAttr]); refine at_share2 (by simp [isC2, isC]) (by first | rfl | simp [ren]) (hB) (go_on ?_); (try simp only [push_cast, simprocAttr]))
    refine at_ret ?_; simp only [Tryz.results28, push_cast, simprocAttr]
    simp [vX]
theorem specBookOpen_pc (bs : List BD) (hs : SmB bs) : PC Tryz.prog 34 [blsA bs] (vX (bkR (bookO bs))) := by
  have hD := specDiskRead_d bs hs 1
  have hB := specBookLoad_pc (readD bs 1).1 (readD_len hs 1)
  obtain ⟨x, ok, hx⟩ : ∃ x ok, readD bs 1 = (x, ok) := ⟨_, _, rfl⟩
  cases ok with
  | false =>
    rw [bookO_f (by rw [hx])]
    rw [hx] at hD
    refine bkR_nil ?_
    refine pc_enter Tryz.func34 rfl rfl fun w0 fb => go_on ?_; (try simp only [Tryz.ntmps34, push_cast, simprocAttr])
    ((try simp only [push_cast, simprocAttr]); refine at_share2 (by simp [isC2, isC]) (by first | rfl | simp [ren]) (hD) (go_on ?_); (try simp only [push_cast, simprocAttr]))
    (try simp only [Bool.not_false, push_cast, simprocAttr])
    refine at_ret ?_; simp only [Tryz.results34, push_cast, simprocAttr]
    simp [vX]
  | true =>
    rw [bookO_t (by rw [hx])]
    rw [hx] at hD hB ⊢
    simp only at hD hB ⊢
    unfold bkR bkA bkC at hB ⊢
    refine pc_enter Tryz.func34 rfl rfl fun w0 fb => go_on ?_; (try simp only [Tryz.ntmps34, push_cast, simprocAttr])
    ((try simp only [push_cast, simprocAttr]); refine at_share2 (by simp [isC2, isC]) (by first | rfl | simp [ren]) (hD) (go_on ?_); (try simp only [push_cast, simprocAttr]))
    (try simp only [Bool.not_true, push_cast, simprocAttr])
    ((try simp only [push_cast, simprocAttr]); refine at_share2 (by simp [isC2, isC]) (by first | rfl | simp [ren]) (hB) (go_on ?_); (try simp only [push_cast, simprocAttr]))
    refine at_ret ?_; simp only [Tryz.results34, push_cast, simprocAttr]
    simp [vX]
end Go.Proofs.YtccifbbjbnjcfaaGreatDoor
/-
  Walks: slices.DeleteFunc at files, slices.Equal at numbers.
-/
namespace Go.Proofs.YtccifbbjbnjcfaaGreatDoor
open Go Go.RowKit Go.Proofs
attribute [local irreducible] RWp AW run kPe pe Kt effA gd gu br retR RDp runD kPeD brW gW effD
set_option maxRecDepth 100000
theorem EqualI_pc (a b : List Int) (hl : a.length < 4294967281) : PC Tryz.prog 47 [intsA a, intsA b] (vB (decide (a = b))) := by
  refine pc_enter Tryz.func47 rfl rfl fun w0 fb => go_on ?_; (try simp only [Tryz.ntmps47, push_cast, simprocAttr])
  refine at_b (fun hb => ?_) (fun hb => ?_)
  · have h1 := of_eqI_f (not_t hb)
    have h2 : a ≠ b := by rintro rfl; exact h1 rfl
    (try simp only [hb, push_cast, simprocAttr])
    refine at_ret ?_; simp only [Tryz.results47, push_cast, simprocAttr]
    simp [vX, h2]
  · have h1 : a.length = b.length := by have := of_eqI_t (not_f hb); omega
    (try simp only [hb, push_cast, simprocAttr])
    refine at_loop (X := Nat) (fun k => [(13, iA k)]) (fun _ => []) (fun k => k ≤ a.length ∧ decide (a = b) = decide (a.drop k = b.drop k)) (fun k => a.length - k) 0 ⟨Nat.zero_le _, rfl⟩ ?_ ?_
    · (refine wk_ok ?_ ?_ ?_ ?_ <;> simp [leL, leH, idsL, idsA, idsR, inH, hget, sameRow, upA, hvA, dsts, dstO, setA_0, setA_1, setA_8, List.append, List.cons_append, List.nil_append])
    · rintro k ⟨q1, q2⟩
      simp only [upA, hvA, dsts, dstO, setA_0, setA_1, setA_8, List.append, List.cons_append, List.nil_append]
      refine go_on ?_
      (try simp only [push_cast, simprocAttr])
      refine at_b (fun hg => ?_) (fun hg => ?_)
      · have hlt := lt_tt hg
        obtain ⟨x, hx⟩ := get_of_lt hlt
        obtain ⟨y, hy⟩ := get_of_lt (l := b) (k := k) (by omega)
        have i1 := ix_n hx
        have i3 := ix_n hy
        have i2 := map_get inC hx
        have i4 := map_get inC hy
        simp only [inC] at i2 i4
        rw [drop_of_get hx, drop_of_get hy] at q2
        have w2 := wr ((k : Int) + 1) (by omega)
        (try simp only [hg, push_cast, simprocAttr])
        refine at_draw rfl (by kernel_rfl) ?_
        (try simp only [i1, i2, i3, i4, push_cast, simprocAttr])
        refine at_done (by kernel_rfl) (by kernel_rfl) (go_on ?_)
        have e : eqI x y = decide (x = y) := by rw [eqI_d]
        (try simp only [e, push_cast, simprocAttr])
        refine at_b (fun hn => ?_) (fun hn => ?_)
        · have hxy : x ≠ y := by simpa using hn
          (try simp only [hn, push_cast, simprocAttr])
          refine at_ret ?_; simp only [Tryz.results47, push_cast, simprocAttr]
          simp [vX, q2, hxy]
        · have hxy : x = y := by simpa using hn
          (try simp only [hn, w2, push_cast, simprocAttr])
          refine at_fin ⟨k + 1, ⟨by omega, ?_⟩, by omega, ?_⟩
          · rw [q2]; simp [hxy]
          · (refine wk_ok ?_ ?_ ?_ ?_ <;> simp [leL, leH, idsL, idsA, idsR, inH, hget, sameRow, upA, hvA, dsts, dstO, setA_0, setA_1, setA_8, List.append, List.cons_append, List.nil_append])
      · have h3 := lt_ff hg
        (try simp only [hg, push_cast, simprocAttr])
        refine at_ret ?_; simp only [Tryz.results47, push_cast, simprocAttr]
        rw [List.drop_of_length_le h3, List.drop_of_length_le (by omega)] at q2
        simp [vX, q2]
end Go.Proofs.YtccifbbjbnjcfaaGreatDoor
/-
  Walks: disks: a copy of a disk, of which one file's fresh bytes stay a row.
-/
namespace Go.Proofs.YtccifbbjbnjcfaaGreatDoor
open Go Go.RowKit Go.Proofs
def lnkC (d : BD) (p q : Nat) : List AV := [iA d.name, .o p d.safe.length, .o q d.fresh.length]
def lnkR (bs : List BD) (j : Nat) (d : BD) (p q : Nat) : Row := ⟨79, 3, (bs.map bC).set j (lnkC d p q), false⟩
def atD (bs : List BD) (j : Nat) (d : BD) (rv : AV) (lr' rows : List Row) : Prop := rv = .o 0 bs.length ∧ lr' = [] ∧ rows = [lnkR bs j d 1 2, rowZ d.safe, rowZ d.fresh]
def clnH (bs : List BD) (j : Nat) (d : BD) (k : Nat) : Bool → Hp
  | false => [(2, ⟨79, 3, [], true⟩), (3, rowB (bs.take k))]
  | true => [(2, ⟨79, 3, [], true⟩), (15000, rowZ d.safe), (15001, rowZ d.fresh), (3, lnkR (bs.take k) j d 15000 15001)]
theorem mem_set_or {α : Type} {l : List α} {j : Nat} {x y : α} (h : y ∈ l.set j x) : y ∈ l ∨ y = x := List.mem_or_eq_of_mem_set h
theorem bC_ids {d : BD} {x : AV} (h : x ∈ bC d) : idsA x = [] := by
  simp only [bC, List.mem_cons, List.not_mem_nil, or_false] at h
  rcases h with rfl | rfl | rfl <;> simp [idsA]
theorem lnk_ids {bs : List BD} {j : Nat} {d : BD} {p q : Nat} {e : List AV} (he : e ∈ (lnkR bs j d p q).es) {x : AV} (hx : x ∈ e) : ∀ r ∈ idsA x, r = p ∨ r = q := by
  intro r hr
  rcases mem_set_or he with h | h
  · obtain ⟨y, _, rfl⟩ := List.mem_map.1 h
    rw [bC_ids hx] at hr; cases hr
  · subst h
    simp only [lnkC, List.mem_cons, List.not_mem_nil, or_false] at hx
    rcases hx with rfl | rfl | rfl <;> simp [idsA] at hr
    · exact .inl hr
    · exact .inr hr
theorem lnk_in {σ : List Nat} {bs : List BD} {j : Nat} {d : BD} {p q : Nat} (hp : σ.contains p = true) (hq : σ.contains q = true) : inRow σ (lnkR bs j d p q) = true := by
  unfold inRow
  rw [Bool.or_eq_true]
  refine .inr (List.all_eq_true.2 fun e he => List.all_eq_true.2 fun x hx => List.all_eq_true.2 fun r hr => ?_)
  rcases lnk_ids he hx r hr with rfl | rfl
  · exact hp
  · exact hq
theorem lnk_rf (f : Nat → Nat) {bs : List BD} {j : Nat} {d : BD} {p q : Nat} (hj : j < bs.length) : rfRow f (lnkR bs j d p q) = lnkR bs j d (f p) (f q) := by
  have hc : cloRow (lnkR bs j d p q) = false := by
    unfold cloRow
    simp only [lnkR, Bool.false_or]
    rw [Bool.eq_false_iff]
    intro h
    have := List.all_eq_true.1 h (lnkC d p q) (List.mem_iff_getElem.2 ⟨j, by simpa using hj, by simp⟩)
    simp [lnkC, isC] at this
  unfold rfRow
  rw [hc]
  simp only [Bool.false_eq_true, if_false, lnkR, Row.mk.injEq, true_and, and_true]
  rw [List.map_set, List.map_map]
  have e1 : (lnkC d p q).map (rfA f) = lnkC d (f p) (f q) := by simp [lnkC, rfA]
  have e2 : ((fun x => x.map (rfA f)) ∘ bC : BD → List AV) = bC := by funext x; simp [bC, rfA]
  rw [e1]
  congr 1
  exact congrArg (fun g => bs.map g) e2
theorem lnk_idsR {h : Hp} {bs : List BD} {j : Nat} {d : BD} {p q : Nat} (hp : inH h p = true) (hq : inH h q = true) : ((lnkR bs j d p q).es.all fun e => (idsL e).all fun r => inH h r) = true := by
  refine List.all_eq_true.2 fun e he => List.all_eq_true.2 fun r hr => ?_
  have : ∃ x ∈ e, r ∈ idsA x := by
    clear he
    induction e with
    | nil => simp [idsL] at hr
    | cons y l ih =>
      simp only [idsL, List.mem_append] at hr
      rcases hr with hr | hr
      · exact ⟨y, List.mem_cons_self, hr⟩
      · obtain ⟨x, h1, h2⟩ := ih hr
        exact ⟨x, List.mem_cons_of_mem _ h1, h2⟩
  obtain ⟨x, h1, h2⟩ := this
  rcases lnk_ids he h1 r h2 with rfl | rfl
  · exact hp
  · exact hq
theorem kill_bC (r : Nat) : ((fun x => List.map (killA r) x) ∘ bC : BD → List AV) = bC := by funext x; simp [bC, killA]
theorem lnk_kill {bs : List BD} {j : Nat} {d : BD} {p q r : Nat} (hp : p ≠ r) (hq : q ≠ r) : (lnkR bs j d p q).es.map (fun x => List.map (killA r) x) = (lnkR bs j d p q).es := by
  simp only [lnkR]
  rw [List.map_set, List.map_map, kill_bC]
  simp [lnkC, killA, hp, hq]
theorem rowZ_in (σ : List Nat) (l : List Int) : inRow σ (rowZ l) = true := rfl
theorem rowZ_rf (f : Nat → Nat) (l : List Int) : rfRow f (rowZ l) = rowZ l := rfl
theorem set_end {α : Type} (l : List α) (x y : α) : (l ++ [x]).set l.length y = l ++ [y] := by simp
attribute [local irreducible] RWp AW run kPe pe Kt effA gd gu br retR RDp runD kPeD brW gW effD
set_option maxRecDepth 100000
theorem cloneDisk_at (bs : List BD) (hs : SmB bs) (j : Nat) (d : BD) (hj : bs[j]? = some d) : PCX Tryz.prog 62 [] [blsA bs] (atD bs j d) := by
  have hn := hs.n
  have hjl := lt_of_some hj
  refine pcx_enter Tryz.func62 rfl rfl (by simp) fun w0 fb loc => go_on ?_
  simp only [Tryz.ntmps62, hpX, rfA, push_cast, simprocAttr]
  refine at_loop (X := Nat × Bool) (fun x => [(3, .o 3 x.1), (8, iA x.1)]) (fun x => clnH bs j d x.1 x.2) (fun x => x.1 ≤ bs.length ∧ (x.2 = false ∧ x.1 ≤ j ∨ x.2 = true ∧ j < x.1)) (fun x => bs.length - x.1) (0, false) ⟨Nat.zero_le _, .inl ⟨rfl, by dsimp only; omega⟩⟩ ?_ ?_
  · (refine wk_ok ?_ ?_ ?_ ?_ <;> simp [clnH, leL, leH, idsL, idsA, idsR, inH, hget, sameRow, upA, hvA, dsts, dstO, setA_0, setA_1, setA_8, List.append, List.cons_append, List.nil_append])
  · rintro ⟨k, ph⟩ ⟨hk, hp⟩
    simp only at hk hp
    simp only [upA, hvA, dsts, dstO, setA_0, setA_1, setA_8, List.append, List.cons_append, List.nil_append]
    refine go_on ?_
    (try simp only [List.length_map, push_cast, simprocAttr])
    have el : (bs.take k).length = k := by rw [List.length_take]; omega
    refine at_b (fun hg => ?_) (fun hg => ?_)
    · have hlt := lt_tt hg
      obtain ⟨x, hx⟩ := get_of_lt hlt
      have i1 := ix_n hx
      have i2 := map_get bC hx
      have hC := blobClone_d x (hs.d x (mem_of_get hx))
      have hC0 := blobClone_pc x (hs.d x (mem_of_get hx))
      unfold blobA at hC hC0
      simp only [bC] at i2 hC hC0
      have e : bs.take (k + 1) = bs.take k ++ [x] := by rw [List.take_add_one, hx]; rfl
      have w1 := wr ((k : Int) + 1) (by omega)
      rcases hp with ⟨rfl, hkj⟩ | ⟨rfl, hkj⟩
      · simp only [clnH]
        by_cases hkj2 : k = j
        · have hxd : x = d := by rw [hkj2, hj] at hx; exact (Option.some.inj hx).symm
          subst hxd
          have hL : lnkR (bs.take (k + 1)) j x 15000 15001 = ⟨79, 3, (bs.take k).map bC ++ [[iA x.name, .o 15000 x.safe.length, .o 15001 x.fresh.length]], false⟩ := by
            unfold lnkR
            rw [e, List.map_append, ← hkj2]
            have := set_end ((bs.take k).map bC) (bC x) (lnkC x 15000 15001)
            rw [List.length_map, el] at this
            rw [show [x].map bC = [bC x] from rfl, this]
            rfl
          (try simp only [hg, i1, i2, push_cast, simprocAttr])
          (refine at_call ?_; (try simp only [push_cast, simprocAttr]); refine rwc_r (hC0) rfl (flat_z2 _ _) (by simp [frB, baseOf]) (go_on ?_); (try simp only [push_cast, simprocAttr]))
          refine at_chk (by omega) ?_
          (try simp only [w1, push_cast, simprocAttr])
          refine at_fin ⟨(k + 1, true), ⟨by dsimp only; omega, .inr ⟨rfl, by dsimp only; omega⟩⟩, by dsimp only; omega, ?_⟩
          simp only [clnH]
          rw [hL]
          refine wk_ok ?_ ?_ ?_ ?_
          · simp [leL, upA, hvA, dsts, dstO, setA_0, setA_1, setA_8, List.append, List.cons_append, List.nil_append]
          · simp [leH, hget, sameRow, List.take_take, kill_bC, killA]
          · simp [idsL, idsA, inH, hget, upA, hvA, dsts, dstO, setA_0, setA_1, setA_8, List.append, List.cons_append, List.nil_append]
          · rw [← hL]
            simp [idsR, lnk_idsR, inH, hget]
        · (try simp only [hg, i1, i2, push_cast, simprocAttr])
          ((try simp only [push_cast, simprocAttr]); refine at_share2 (by simp [isC2, isC]) (by first | rfl | simp [ren]) (hC) (go_on ?_); (try simp only [push_cast, simprocAttr]))
          refine at_chk (by omega) ?_
          (try simp only [w1, push_cast, simprocAttr])
          refine at_fin ⟨(k + 1, false), ⟨by dsimp only; omega, .inl ⟨rfl, by dsimp only; omega⟩⟩, by dsimp only; omega, ?_⟩
          simp only [clnH]
          rw [e]
          (refine wk_ok ?_ ?_ ?_ ?_ <;> simp [bC, el, List.take_take, leL, leH, idsL, idsA, idsR, inH, hget, sameRow, upA, hvA, dsts, dstO, setA_0, setA_1, setA_8, List.append, List.cons_append, List.nil_append])
      · simp only [clnH]
        obtain ⟨ES, hES⟩ : ∃ ES, ES = (lnkR (bs.take k) j d 15000 15001).es := ⟨_, rfl⟩
        have hrow : lnkR (bs.take k) j d 15000 15001 = ⟨79, 3, ES, false⟩ := by rw [hES]; rfl
        have hESl : ES.length = k := by rw [hES]; simp [lnkR]; omega
        have hTk : List.take k ES = ES := List.take_of_length_le (by omega)
        have hKl : ES.map (fun x => List.map (killA 3) x) = ES := by rw [hES]; exact lnk_kill (by decide) (by decide)
        have hL : lnkR (bs.take (k + 1)) j d 15000 15001 = ⟨79, 3, ES ++ [[iA x.name, intsA x.safe, intsA x.fresh]], false⟩ := by
          rw [hES]
          unfold lnkR
          rw [e, List.map_append, List.set_append_left _ _ (by simp; omega)]
          rfl
        rw [hrow]
        (try simp only [hg, i1, i2, push_cast, simprocAttr])
        ((try simp only [push_cast, simprocAttr]); refine at_share2 (by simp [isC2, isC]) (by first | rfl | simp [ren]) (hC) (go_on ?_); (try simp only [push_cast, simprocAttr]))
        refine at_chk (by omega) ?_
        (try simp only [w1, hTk, hKl, push_cast, simprocAttr])
        refine at_fin ⟨(k + 1, true), ⟨by dsimp only; omega, .inr ⟨rfl, by dsimp only; omega⟩⟩, by dsimp only; omega, ?_⟩
        simp only [clnH]
        rw [hL]
        refine wk_ok ?_ ?_ ?_ ?_
        · simp [leL, upA, hvA, dsts, dstO, setA_0, setA_1, setA_8, List.append, List.cons_append, List.nil_append]
        · simp [leH, hget, sameRow, hTk, hKl, killA]
        · simp [idsL, idsA, inH, hget, upA, hvA, dsts, dstO, setA_0, setA_1, setA_8, List.append, List.cons_append, List.nil_append]
        · rw [← hL]
          simp [idsR, lnk_idsR, inH, hget]
    · have h3 := lt_ff hg
      have hk' : k = bs.length := by omega
      subst hk'
      rcases hp with ⟨rfl, hkj⟩ | ⟨rfl, hkj⟩
      · omega
      · simp only [clnH, List.take_length]
        (try simp only [hg, push_cast, simprocAttr])
        refine at_retX [3, 15000, 15001] ?_
        have hin := lnk_in (σ := [3, 15000, 15001]) (bs := bs) (j := j) (d := d) (p := 15000) (q := 15001) rfl rfl
        have hrf := lnk_rf (ixOf [3, 15000, 15001]) (d := d) (p := 15000) (q := 15001) hjl
        have hrx : ∀ h : Hp, hget h 3 = some (lnkR bs j d 15000 15001) → hget h 15000 = some (rowZ d.safe) → hget h 15001 = some (rowZ d.fresh) → rowsX h [3, 15000, 15001] [3, 15000, 15001] = some [lnkR bs j d 1 2, rowZ d.safe, rowZ d.fresh] := fun h a b c => by
          simp only [rowsX, a, b, c, hin, hrf, rowZ_in, rowZ_rf, if_true]
          rfl
        simp only [Tryz.results62, retX, push_cast, simprocAttr]
        simp only [show ((List.range 0).map nmX ++ [3, 15000, 15001]) = [3, 15000, 15001] from rfl]
        rw [hrx _ rfl rfl rfl, if_pos (by decide)]
        exact ⟨by simp [rfA, ixOf], rfl, rfl⟩
end Go.Proofs.YtccifbbjbnjcfaaGreatDoor
