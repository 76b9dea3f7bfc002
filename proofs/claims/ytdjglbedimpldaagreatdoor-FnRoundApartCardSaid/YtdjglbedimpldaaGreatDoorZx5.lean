/- A part of the proof of the session laws: texts D3 D4 Y2 D5 D6 D7 W14 W15 W16 M33 W17 W18 M31 M32 D7d W19 Y3 W20 W21 W22 W23 W24 W25 W26 W27 W30 W31 W32 W33 W34 W35 W36 W37. -/
import Derived.Test.YtdjglbedimpldaaGreatDoorZx4
import Derived.Test.YtdjglbedimpldaaGreatDoorZxp
import Derived.Test.YtdjglbedimpldaaGreatDoorZx3
import Derived.Test.YtdjglbedimpldaaGreatDoorZx1
import Derived.Maps.OwnSet
import Derived.Maps.Views
import Derived.Carry
set_option linter.unusedSimpArgs false
set_option linter.unusedVariables false
/-
  Walks: the draws: a tree, a path in a tree, a command.
-/
namespace Go.Proofs.YtdjglbedimpldaaGreatDoor
open Go Go.RowKit Go.Proofs
def treeD (z : List Int) (p c : Nat) (rv : AV) (lr' rows : List Row) : Prop := ∃ t, tV t = true ∧ rv = ndA t ∧ RdD z p c lr' ∧ rows = []
def cmdD (z : List Int) (p c : Nat) (rv : AV) (lr' rows : List Row) : Prop := ∃ x : Cm, x.p.length ≤ 10 ∧ rv = cmdA x ∧ RdD z p c lr' ∧ rows = []
theorem tPut_tv {t t' : List Nd} {q : Str} {c : Ct} (h : tPut t q c = some t') : tV t' = true := by
  unfold tPut at h
  split at h
  · rename_i hc
    simp only [Bool.and_eq_true] at hc
    cases h
    exact hc.2
  · cases h
attribute [local irreducible] RWp AW run kPe pe Kt effA gd gu br retR RDp runD kPeD brW gW effD
set_option maxRecDepth 100000
theorem l91Tree_pcl (z : List Int) (p n : Nat) (hn : n ≤ 20) (hr : RdOk z (p + 12 * n)) : PCL Tryz.prog 117 [rdR z p] (mvF none) [.p 0 0 0, iA n] (treeD z p (12 * n)) := by
  refine pcl_enter Tryz.func117 rfl rfl (by simp) fun w0 fb loc => go_on ?_; simp only [Tryz.ntmps117, hpL, nmL, mvF, renL, decide_true, decide_false, push_cast, simprocAttr]
  refine at_loop (X := Nat × List Nd × Nat) (fun x => [(4, .any), (5, ndA x.2.1), (6, iA x.1), (9, .any)]) (fun x => [(500000, rdR z x.2.2)]) (fun x => x.1 ≤ n ∧ tV x.2.1 = true ∧ p ≤ x.2.2 ∧ x.2.2 ≤ p + 12 * x.1) (fun x => n - x.1) (0, [], p) ⟨by omega, rfl, by dsimp only; omega, by dsimp only; omega⟩ ?_ ?_
  · (refine wk_frz ?_ ?_ ?_ ?_ <;> simp [rdR, leF, leHF, frzB, idsL, idsA, idsR, inH, hget, sameRow, viewN, tk, upA, hvA, dsts, dstO, setA_0, setA_1, setA_8, List.append, List.cons_append, List.nil_append])
  · rintro ⟨i, t, q⟩ ⟨q1, q2, q3, q4⟩
    simp only at q1 q2 q3 q4
    simp only [upA, hvA, dsts, dstO, setA_0, setA_1, setA_8, List.append, List.cons_append, List.nil_append]
    have hT := (tV_iff t).1 q2
    have hTl := hT.le
    have hSm := (sm_tv hT).s
    refine go_on ?_
    (try simp only [push_cast, simprocAttr])
    refine at_b (fun hg => ?_) (fun hg => ?_)
    · have hlt := lt_tt hg
      have w1 := wr ((i : Int) + 1) (by omega)
      (try simp only [hg, push_cast, simprocAttr])
      (try simp only [push_cast, simprocAttr]); refine call_lend [500000] none (lr := [rdR z q]) (by simp [ndB]) (by first | rfl | simp [rowsOf, hget, rdR, rowS, rowN, rowC, sC, ndC, cmC]) (by simp [idsL, idsA]) (by simp [mvN]) (by simpa [rnA, ixOf] using l91Path_pcl z q (hr.le (by omega))) ?_
      rintro rv lr' rows ⟨s, hs, rfl, ⟨u, rfl, g1, g2⟩, rfl⟩
      (refine ⟨by simp [shB, mvF, rdR, rowS, rowN, rowC], by simp [frB, baseOf], go_on ?_⟩; simp only [killA, killH, killRow, push_cast, simprocAttr])
      (try simp only [push_cast, simprocAttr]); refine call_lend [500000] none (lr := [rdR z u]) (by simp [ndB]) (by first | rfl | simp [rowsOf, hget, rdR, rowS, rowN, rowC, sC, ndC, cmC]) (by simp [idsL, idsA]) (by simp [mvN]) (by simpa [rnA, ixOf] using l91Content_pcl z u (hr.le (by omega))) ?_
      rintro rv lr' rows ⟨c, rfl, ⟨v, rfl, g3, g4⟩, rfl⟩
      (refine ⟨by simp [shB, mvF, rdR, rowS, rowN, rowC], by simp [frB, baseOf], go_on ?_⟩; simp only [killA, killH, killRow, push_cast, simprocAttr])
      have hput := specTreePut_pc t hSm (by omega) s (by omega) c
      unfold optN at hput
      cases h : tPut t s c with
      | none =>
        rw [h] at hput
        simp only [Option.getD_none, Option.isSome_none, List.length_nil] at hput
        (refine at_call ?_; (try simp only [push_cast, simprocAttr]); refine rwc_r (hput) (by simp [flatV, flatL]) (flat_n []) (by simp [frB, baseOf]) (go_on ?_); (try simp only [push_cast, simprocAttr]))
        (try simp only [w1, push_cast, simprocAttr])
        refine at_fin ⟨(i + 1, t, v), ⟨by dsimp only; omega, q2, by dsimp only; omega, by dsimp only; omega⟩, by dsimp only; omega, ?_⟩
        (refine wk_frz ?_ ?_ ?_ ?_ <;> simp [rdR, leF, leHF, frzB, idsL, idsA, idsR, inH, hget, sameRow, viewN, tk, upA, hvA, dsts, dstO, setA_0, setA_1, setA_8, List.append, List.cons_append, List.nil_append])
      | some t' =>
        rw [h] at hput
        simp only [Option.getD_some, Option.isSome_some] at hput
        (refine at_call ?_; (try simp only [push_cast, simprocAttr]); refine rwc_r (hput) (by simp [flatV, flatL]) (flat_n _) (by simp [frB, baseOf]) (go_on ?_); (try simp only [push_cast, simprocAttr]))
        (try simp only [w1, push_cast, simprocAttr])
        refine at_fin ⟨(i + 1, t', v), ⟨by dsimp only; omega, tPut_tv h, by dsimp only; omega, by dsimp only; omega⟩, by dsimp only; omega, ?_⟩
        (refine wk_frz ?_ ?_ ?_ ?_ <;> simp [rdR, leF, leHF, frzB, idsL, idsA, idsR, inH, hget, sameRow, viewN, tk, upA, hvA, dsts, dstO, setA_0, setA_1, setA_8, List.append, List.cons_append, List.nil_append])
    · have h3 := lt_ff hg
      have hfin : treeD z p (12 * n) (ndA t) [rdR z q] [] := ⟨t, q2, rfl, ⟨_, rfl, by omega, by omega⟩, rfl⟩
      (try simp only [hg, push_cast, simprocAttr])
      (refine at_retL ?_; simp only [Tryz.results117, retL, push_cast, simprocAttr]; simpa [show List.range 1 = [0] from rfl, show List.range 2 = [0, 1] from rfl, show List.range 3 = [0, 1, 2] from rfl, nmL, mvF, ndB, ixOf, rowsOf, hget, rdR, rowS, rowN, rowC] using  hfin)
theorem l91In_pcl (z : List Int) (p : Nat) (t : List Nd) (ht : tV t = true) (hr : RdOk z (p + 11)) : PCL Tryz.prog 164 [rdR z p] (mvF none) [.p 0 0 0, ndA t] (strD z p 11 10) := by
  have hT := (tV_iff t).1 ht
  have hTl := hT.le
  refine pcl_enter Tryz.func164 rfl rfl (by simp) fun w0 fb loc => go_on ?_; simp only [Tryz.ntmps164, hpL, nmL, mvF, renL, decide_true, decide_false, push_cast, simprocAttr]
  by_cases h0 : 0 < t.length
  · have i0 : ltI 0 (t.length : Int) = true := ltI_t (by omega)
    (try simp only [i0, push_cast, simprocAttr])
    (try simp only [push_cast, simprocAttr]); refine call_lend [500000] none (lr := [rdR z p]) (by simp [ndB]) (by first | rfl | simp [rowsOf, hget, rdR, rowS, rowN, rowC, sC, ndC, cmC]) (by simp [idsL, idsA]) (by simp [mvN]) (by simpa [rnA, ixOf] using pick_pcl z p 4 (hr.le (by omega)) (by omega)) ?_
    rintro rv lr' rows ⟨k, rfl, hk, rfl, rfl⟩
    (refine ⟨by simp [shB, mvF, rdR, rowS, rowN, rowC], by simp [frB, baseOf], go_on ?_⟩; simp only [killA, killH, killRow, push_cast, simprocAttr])
    refine at_b (fun hb => ?_) (fun hb => ?_)
    · (try simp only [hb, push_cast, simprocAttr])
      (try simp only [push_cast, simprocAttr]); refine call_lend [500000] none (lr := [rdR z (p + 1)]) (by simp [ndB]) (by first | rfl | simp [rowsOf, hget, rdR, rowS, rowN, rowC, sC, ndC, cmC]) (by simp [idsL, idsA]) (by simp [mvN]) (by simpa [rnA, ixOf] using pick_pcl z (p + 1) t.length (hr.le (by omega)) (by omega)) ?_
      rintro rv lr' rows ⟨k2, rfl, hk2, rfl, rfl⟩
      obtain ⟨x, hx⟩ := get_of_lt (hk2 h0)
      have i1 := ix_n hx
      have i2 := map_get ndC hx
      simp only [ndC] at i2
      have hxl : x.p.length ≤ 8 := (pV_len (hT.nd x (mem_of_get hx)).1 (hT.nd x (mem_of_get hx)).2.1).2
      (refine ⟨by simp [shB, mvF, rdR, rowS, rowN, rowC], by simp [frB, baseOf], go_on ?_⟩; simp only [i1, i2, killA, killH, killRow, push_cast, simprocAttr])
      (try simp only [push_cast, simprocAttr]); refine call_lend [500000] none (lr := [rdR z (p + 1 + 1)]) (by simp [ndB]) (by first | rfl | simp [rowsOf, hget, rdR, rowS, rowN, rowC, sC, ndC, cmC]) (by simp [idsL, idsA]) (by simp [mvN]) (by simpa [rnA, ixOf] using pick_pcl z (p + 1 + 1) 4 (hr.le (by omega)) (by omega)) ?_
      rintro rv lr' rows ⟨k3, rfl, hk3, rfl, rfl⟩
      (refine ⟨by simp [shB, mvF, rdR, rowS, rowN, rowC], by simp [frB, baseOf], go_on ?_⟩; simp only [killA, killH, killRow, push_cast, simprocAttr])
      refine at_b (fun hc => ?_) (fun hc => ?_)
      · have c1 : x.p.length ≤ 9223372036854775806 := by omega
        have c2 := app_l x.p [47]
        (try simp only [hc, c1, c2, push_cast, simprocAttr])
        (try simp only [push_cast, simprocAttr]); refine call_lend [500000, 28] none (lr := [rdR z (p + 1 + 1 + 1), rowS [[97], [98]]]) (by simp [ndB]) (by first | rfl | simp [rowsOf, hget, rdR, rowS, rowN, rowC, sC, ndC, cmC]) (by simp [idsL, idsA]) (by simp [mvN]) (by simpa [rnA, ixOf] using of_pcl z (p + 1 + 1 + 1) [[97], [98]] (hr.le (by omega)) (by simp) (by simp)) ?_
        rintro rv lr' rows ⟨s, hs, rfl, rfl, rfl⟩
        have hl : s.length = 1 := by
          simp only [List.mem_cons, List.not_mem_nil, or_false] at hs
          rcases hs with rfl | rfl <;> rfl
        have c3 : (x.p ++ [47]).length + s.length ≤ 9223372036854775807 := by simp; omega
        have c4 := app_l (x.p ++ [47]) s
        have hfin : strD z p 11 10 (sA (x.p ++ [47] ++ s)) [rdR z (p + 1 + 1 + 1 + 1)] [] := ⟨_, by simp; omega, rfl, ⟨_, rfl, by omega, by omega⟩, rfl⟩
        (refine ⟨by simp [shB, mvF, rdR, rowS, rowN, rowC], by simp [frB, baseOf], go_on ?_⟩; simp only [c3, c4, killA, killH, killRow, push_cast, simprocAttr])
        (refine at_retL ?_; simp only [Tryz.results164, retL, push_cast, simprocAttr]; simpa [show List.range 1 = [0] from rfl, show List.range 2 = [0, 1] from rfl, show List.range 3 = [0, 1, 2] from rfl, nmL, mvF, ndB, ixOf, rowsOf, hget, rdR, rowS, rowN, rowC] using  hfin)
      · have hfin : strD z p 11 10 (sA x.p) [rdR z (p + 1 + 1 + 1)] [] := ⟨_, by omega, rfl, ⟨_, rfl, by omega, by omega⟩, rfl⟩
        (try simp only [hc, push_cast, simprocAttr])
        (refine at_retL ?_; simp only [Tryz.results164, retL, push_cast, simprocAttr]; simpa [show List.range 1 = [0] from rfl, show List.range 2 = [0, 1] from rfl, show List.range 3 = [0, 1, 2] from rfl, nmL, mvF, ndB, ixOf, rowsOf, hget, rdR, rowS, rowN, rowC] using  hfin)
    · (try simp only [hb, push_cast, simprocAttr])
      (try simp only [push_cast, simprocAttr]); refine call_lend [500000] none (lr := [rdR z (p + 1)]) (by simp [ndB]) (by first | rfl | simp [rowsOf, hget, rdR, rowS, rowN, rowC, sC, ndC, cmC]) (by simp [idsL, idsA]) (by simp [mvN]) (by simpa [rnA, ixOf] using l91Path_pcl z (p + 1) (hr.le (by omega))) ?_
      rintro rv lr' rows ⟨s, hs, rfl, ⟨u, rfl, g1, g2⟩, rfl⟩
      have hfin : strD z p 11 10 (sA s) [rdR z u] [] := ⟨_, hs, rfl, ⟨_, rfl, by omega, by omega⟩, rfl⟩
      (refine ⟨by simp [shB, mvF, rdR, rowS, rowN, rowC], by simp [frB, baseOf], go_on ?_⟩; simp only [killA, killH, killRow, push_cast, simprocAttr])
      (refine at_retL ?_; simp only [Tryz.results164, retL, push_cast, simprocAttr]; simpa [show List.range 1 = [0] from rfl, show List.range 2 = [0, 1] from rfl, show List.range 3 = [0, 1, 2] from rfl, nmL, mvF, ndB, ixOf, rowsOf, hget, rdR, rowS, rowN, rowC] using  hfin)
  · have i0 : ltI 0 (t.length : Int) = false := ltI_f (by omega)
    (try simp only [i0, push_cast, simprocAttr])
    (try simp only [push_cast, simprocAttr]); refine call_lend [500000] none (lr := [rdR z p]) (by simp [ndB]) (by first | rfl | simp [rowsOf, hget, rdR, rowS, rowN, rowC, sC, ndC, cmC]) (by simp [idsL, idsA]) (by simp [mvN]) (by simpa [rnA, ixOf] using l91Path_pcl z p (hr.le (by omega))) ?_
    rintro rv lr' rows ⟨s, hs, rfl, ⟨u, rfl, g1, g2⟩, rfl⟩
    have hfin : strD z p 11 10 (sA s) [rdR z u] [] := ⟨_, hs, rfl, ⟨_, rfl, by omega, by omega⟩, rfl⟩
    (refine ⟨by simp [shB, mvF, rdR, rowS, rowN, rowC], by simp [frB, baseOf], go_on ?_⟩; simp only [killA, killH, killRow, push_cast, simprocAttr])
    (refine at_retL ?_; simp only [Tryz.results164, retL, push_cast, simprocAttr]; simpa [show List.range 1 = [0] from rfl, show List.range 2 = [0, 1] from rfl, show List.range 3 = [0, 1, 2] from rfl, nmL, mvF, ndB, ixOf, rowsOf, hget, rdR, rowS, rowN, rowC] using  hfin)
theorem l91Command_pcl (z : List Int) (p : Nat) (t : List Nd) (ht : tV t = true) (hr : RdOk z (p + 20)) : PCL Tryz.prog 118 [rdR z p] (mvF none) [.p 0 0 0, ndA t] (cmdD z p 20) := by
  have hT := (tV_iff t).1 ht
  have hTl := hT.le
  refine pcl_enter Tryz.func118 rfl rfl (by simp) fun w0 fb loc => go_on ?_; simp only [Tryz.ntmps118, hpL, nmL, mvF, renL, decide_true, decide_false, push_cast, simprocAttr]
  (try simp only [push_cast, simprocAttr]); refine call_lend [500000] none (lr := [rdR z p]) (by simp [ndB]) (by first | rfl | simp [rowsOf, hget, rdR, rowS, rowN, rowC, sC, ndC, cmC]) (by simp [idsL, idsA]) (by simp [mvN]) (by simpa [rnA, ixOf] using l91In_pcl z p t ht (hr.le (by omega))) ?_
  rintro rv lr' rows ⟨s, hs, rfl, ⟨u, rfl, g1, g2⟩, rfl⟩
  (refine ⟨by simp [shB, mvF, rdR, rowS, rowN, rowC], by simp [frB, baseOf], go_on ?_⟩; simp only [killA, killH, killRow, push_cast, simprocAttr])
  (try simp only [push_cast, simprocAttr]); refine call_lend [500000] none (lr := [rdR z u]) (by simp [ndB]) (by first | rfl | simp [rowsOf, hget, rdR, rowS, rowN, rowC, sC, ndC, cmC]) (by simp [idsL, idsA]) (by simp [mvN]) (by simpa [rnA, ixOf] using l91Content_pcl z u (hr.le (by omega))) ?_
  rintro rv lr' rows ⟨c, rfl, ⟨v, rfl, g3, g4⟩, rfl⟩
  (refine ⟨by simp [shB, mvF, rdR, rowS, rowN, rowC], by simp [frB, baseOf], go_on ?_⟩; simp only [killA, killH, killRow, push_cast, simprocAttr])
  (refine at_call ?_; (try simp only [push_cast, simprocAttr]); refine rwc_d (l3Get_pc t (by omega) s) (by simp [flatV, flatL, ctC, ndC, cmC]) (by simp [ren, ctC, ndC, cmC]) (go_on ?_); (try simp only [push_cast, simprocAttr]))
  (try simp only [push_cast, simprocAttr]); refine call_lend [500000] none (lr := [rdR z v]) (by simp [ndB]) (by first | rfl | simp [rowsOf, hget, rdR, rowS, rowN, rowC, sC, ndC, cmC]) (by simp [idsL, idsA]) (by simp [mvN]) (by simpa [rnA, ixOf] using pick_pcl z v 12 (hr.le (by omega)) (by omega)) ?_
  rintro rv lr' rows ⟨k, rfl, hk, rfl, rfl⟩
  (refine ⟨by simp [shB, mvF, rdR, rowS, rowN, rowC], by simp [frB, baseOf], go_on ?_⟩; simp only [killA, killH, killRow, push_cast, simprocAttr])
  refine at_b (fun hb => ?_) (fun hb => ?_)
  · (try simp only [hb, push_cast, simprocAttr])
    (try simp only [push_cast, simprocAttr]); refine call_lend [500000] none (lr := [rdR z (v + 1)]) (by simp [ndB]) (by first | rfl | simp [rowsOf, hget, rdR, rowS, rowN, rowC, sC, ndC, cmC]) (by simp [idsL, idsA]) (by simp [mvN]) (by simpa [rnA, ixOf] using l91Content_pcl z (v + 1) (hr.le (by omega))) ?_
    rintro rv lr' rows ⟨d, rfl, ⟨y, rfl, g5, g6⟩, rfl⟩
    have hfin : cmdD z p 20 (.agg [sA s, iA d.k, iA d.v, iA c.k, iA c.v]) [rdR z y] [] := ⟨⟨s, d, c⟩, hs, rfl, ⟨_, rfl, by omega, by omega⟩, rfl⟩
    (refine ⟨by simp [shB, mvF, rdR, rowS, rowN, rowC], by simp [frB, baseOf], go_on ?_⟩; simp only [killA, killH, killRow, push_cast, simprocAttr])
    (refine at_retL ?_; simp only [Tryz.results118, retL, push_cast, simprocAttr]; simpa [show List.range 1 = [0] from rfl, show List.range 2 = [0, 1] from rfl, show List.range 3 = [0, 1, 2] from rfl, nmL, mvF, ndB, ixOf, rowsOf, hget, rdR, rowS, rowN, rowC] using  hfin)
  · have hfin : cmdD z p 20 (.agg [sA s, iA (getC t s).k, iA (getC t s).v, iA c.k, iA c.v]) [rdR z (v + 1)] [] := ⟨⟨s, getC t s, c⟩, hs, rfl, ⟨_, rfl, by omega, by omega⟩, rfl⟩
    (try simp only [hb, push_cast, simprocAttr])
    (refine at_retL ?_; simp only [Tryz.results118, retL, push_cast, simprocAttr]; simpa [show List.range 1 = [0] from rfl, show List.range 2 = [0, 1] from rfl, show List.range 3 = [0, 1, 2] from rfl, nmL, mvF, ndB, ixOf, rowsOf, hget, rdR, rowS, rowN, rowC] using  hfin)
end Go.Proofs.YtdjglbedimpldaaGreatDoor
/-
  Walks: the draws: a log, a broken log.
-/
namespace Go.Proofs.YtdjglbedimpldaaGreatDoor
open Go Go.RowKit Go.Proofs
structure LogS (l : List Cm) : Prop where
  n : l.length ≤ 21
  p : ∀ c ∈ l, c.p.length ≤ 10
attribute [local irreducible] RWp AW run kPe pe Kt effA gd gu br retR RDp runD kPeD brW gW effD
set_option maxRecDepth 100000
end Go.Proofs.YtdjglbedimpldaaGreatDoor
/-
  Walks: marks written into a side's rows, and read again.
-/
namespace Go.Proofs.YtdjglbedimpldaaGreatDoor
open Go Go.RowKit Go.Proofs
attribute [local irreducible] RWp AW run kPe pe Kt effA gd gu br retR RDp runD kPeD brW gW effD
set_option maxRecDepth 100000
def markD (n : Nat) (l' : Row) (rv : AV) (lr' rows : List Row) : Prop := rv = iA n ∧ lr' = [l'] ∧ rows = []
theorem markNodeS_pcl (l : List Nd) (k : Nat) (h0 : 0 < k) (hk : k + 3 * l.length ≤ 4611686018427387904) : PCL Tryz.prog 69 [rowN l] (mvF none) [.o 0 l.length, iA k] (markD (k + 3 * l.length) (rowN (mkN k l))) := by
  refine pcl_enter Tryz.func69 rfl rfl (by simp) fun w0 fb loc => go_on ?_; simp only [Tryz.ntmps69, hpL, nmL, mvF, renL, decide_true, decide_false, push_cast, simprocAttr]
  refine at_loop (X := Nat) (fun i => [(1, iA ((k + 3 * i : Nat) : Int)), (5, iA i)]) (fun i => [(500000, rowN (upN k l i))]) (fun i => i ≤ l.length) (fun i => l.length - i) 0 (Nat.zero_le _) ?_ ?_
  · (refine wk_frz ?_ ?_ ?_ ?_ <;> simp [rowN, upN, leF, leHF, frzB, idsL, idsA, idsR, inH, hget, sameRow, viewN, tk, upA, hvA, dsts, dstO, setA_0, setA_1, setA_8, List.append, List.cons_append, List.nil_append])
  · rintro i hi
    simp only [upA, hvA, dsts, dstO, setA_0, setA_1, setA_8, List.append, List.cons_append, List.nil_append]
    refine go_on ?_
    (try simp only [push_cast, simprocAttr])
    by_cases hlt : i < l.length
    · have i0 : ltI (i : Int) l.length = true := ltI_t (by omega)
      have hlen := upN_len k l i hi
      have hm := markText_pc (k + 3 * i) (by omega) (by omega)
      obtain ⟨x, hx⟩ := get_of_lt hlt
      have hux : (upN k l i)[i]? = some x := by unfold upN; rw [up_get (by rw [mkN_len]; exact hi)]; exact hx
      have i1 := ix_n hx
      have i2 := map_get ndC hux
      have i3 : ∀ e, ((List.map ndC (upN k l i)).set i e)[i]? = some e := fun e => by rw [List.getElem?_set_self (by rw [List.length_map]; omega)]
      have hs : (List.map ndC (upN k l i)).set i [sA (mkT (k + 3 * i)), iA ((k + 3 * i : Nat) + 1), iA ((k + 3 * i : Nat) + 1 + 1)] = List.map ndC (upN k l (i + 1)) := by
        unfold upN
        rw [← up_set (mkN_get l k i hlt) hlt, List.map_set]
        rfl
      have w1 : IntKind.i64.wrap ((k : Int) + 3 * (i : Int) + 1) = (k : Int) + 3 * (i : Int) + 1 := wr _ (by omega)
      have w2 : IntKind.i64.wrap ((k : Int) + 3 * (i : Int) + 1 + 1) = (k : Int) + 3 * (i : Int) + 1 + 1 := wr _ (by omega)
      have w3 : IntKind.i64.wrap ((k : Int) + 3 * (i : Int) + 1 + 1 + 1) = (k : Int) + 3 * (i : Int) + 1 + 1 + 1 := wr _ (by omega)
      have w4 : IntKind.i64.wrap ((i : Int) + 1) = (i : Int) + 1 := wr _ (by omega)
      push_cast at hs
      simp only [ndC] at i2
      (try simp only [i0, push_cast, simprocAttr])
      (refine at_call ?_; (try simp only [push_cast, simprocAttr]); refine rwc_v (hm) (go_on ?_); (try simp only [push_cast, simprocAttr]))
      (try simp only [i1, i2, i3, w1, w2, w3, w4, List.set_set, hs, push_cast, simprocAttr])
      have e5 : (k : Int) + 3 * ((i + 1 : Nat) : Int) = (k : Int) + 3 * (i : Int) + 1 + 1 + 1 := by omega
      refine at_fin ⟨i + 1, by omega, by omega, ?_⟩
      simp only [e5]
      (refine wk_frz ?_ ?_ ?_ ?_ <;> simp [rowN, leF, leHF, frzB, idsL, idsA, idsR, inH, hget, sameRow, viewN, tk, upA, hvA, dsts, dstO, setA_0, setA_1, setA_8, List.append, List.cons_append, List.nil_append])
    · have i0 : ltI (i : Int) l.length = false := ltI_f (by omega)
      obtain rfl : i = l.length := by omega
      have e : upN k l l.length = mkN k l := by unfold upN; rw [List.drop_length, List.append_nil, List.take_of_length_le (by rw [mkN_len]; exact Nat.le_refl _)]
      have hfin : markD (k + 3 * l.length) (rowN (mkN k l)) (iA ((k + 3 * l.length : Nat) : Int)) [rowN (mkN k l)] [] := ⟨rfl, rfl, rfl⟩
      (try simp only [i0, e, push_cast, simprocAttr])
      (refine at_retL ?_; simp only [Tryz.results69, retL, push_cast, simprocAttr]; simpa [show List.range 1 = [0] from rfl, show List.range 2 = [0, 1] from rfl, show List.range 3 = [0, 1, 2] from rfl, nmL, mvF, ndB, ixOf, rowsOf, hget, rdR, rowS, rowN, rowC] using  hfin)
theorem markCommandS_pcl (l : List Cm) (k : Nat) (h0 : 0 < k) (hk : k + 5 * l.length ≤ 4611686018427387904) : PCL Tryz.prog 70 [rowC l] (mvF none) [.o 0 l.length, iA k] (markD (k + 5 * l.length) (rowC (mkC k l))) := by
  refine pcl_enter Tryz.func70 rfl rfl (by simp) fun w0 fb loc => go_on ?_; simp only [Tryz.ntmps70, hpL, nmL, mvF, renL, decide_true, decide_false, push_cast, simprocAttr]
  refine at_loop (X := Nat) (fun i => [(1, iA ((k + 5 * i : Nat) : Int)), (5, iA i)]) (fun i => [(500000, rowC (upC k l i))]) (fun i => i ≤ l.length) (fun i => l.length - i) 0 (Nat.zero_le _) ?_ ?_
  · (refine wk_frz ?_ ?_ ?_ ?_ <;> simp [rowC, upC, leF, leHF, frzB, idsL, idsA, idsR, inH, hget, sameRow, viewN, tk, upA, hvA, dsts, dstO, setA_0, setA_1, setA_8, List.append, List.cons_append, List.nil_append])
  · rintro i hi
    simp only [upA, hvA, dsts, dstO, setA_0, setA_1, setA_8, List.append, List.cons_append, List.nil_append]
    refine go_on ?_
    (try simp only [push_cast, simprocAttr])
    by_cases hlt : i < l.length
    · have i0 : ltI (i : Int) l.length = true := ltI_t (by omega)
      have hlen := upC_len k l i hi
      have hm := markText_pc (k + 5 * i) (by omega) (by omega)
      obtain ⟨x, hx⟩ := get_of_lt hlt
      have hux : (upC k l i)[i]? = some x := by unfold upC; rw [up_get (by rw [mkC_len]; exact hi)]; exact hx
      have i1 := ix_n hx
      have i2 := map_get cmC hux
      have i3 : ∀ e, ((List.map cmC (upC k l i)).set i e)[i]? = some e := fun e => by rw [List.getElem?_set_self (by rw [List.length_map]; omega)]
      have hs : (List.map cmC (upC k l i)).set i [sA (mkT (k + 5 * i)), iA ((k + 5 * i : Nat) + 1), iA ((k + 5 * i : Nat) + 1 + 1), iA ((k + 5 * i : Nat) + 1 + 1 + 1), iA ((k + 5 * i : Nat) + 1 + 1 + 1 + 1)] = List.map cmC (upC k l (i + 1)) := by
        unfold upC
        rw [← up_set (mkC_get l k i hlt) hlt, List.map_set]
        rfl
      have w1 : IntKind.i64.wrap ((k : Int) + 5 * (i : Int) + 1) = (k : Int) + 5 * (i : Int) + 1 := wr _ (by omega)
      have w2 : IntKind.i64.wrap ((k : Int) + 5 * (i : Int) + 1 + 1) = (k : Int) + 5 * (i : Int) + 1 + 1 := wr _ (by omega)
      have w3 : IntKind.i64.wrap ((k : Int) + 5 * (i : Int) + 1 + 1 + 1) = (k : Int) + 5 * (i : Int) + 1 + 1 + 1 := wr _ (by omega)
      have w6 : IntKind.i64.wrap ((k : Int) + 5 * (i : Int) + 1 + 1 + 1 + 1) = (k : Int) + 5 * (i : Int) + 1 + 1 + 1 + 1 := wr _ (by omega)
      have w7 : IntKind.i64.wrap ((k : Int) + 5 * (i : Int) + 1 + 1 + 1 + 1 + 1) = (k : Int) + 5 * (i : Int) + 1 + 1 + 1 + 1 + 1 := wr _ (by omega)
      have w4 : IntKind.i64.wrap ((i : Int) + 1) = (i : Int) + 1 := wr _ (by omega)
      push_cast at hs
      simp only [cmC] at i2
      (try simp only [i0, push_cast, simprocAttr])
      (refine at_call ?_; (try simp only [push_cast, simprocAttr]); refine rwc_v (hm) (go_on ?_); (try simp only [push_cast, simprocAttr]))
      (try simp only [i1, i2, i3, w1, w2, w3, w4, w6, w7, List.set_set, hs, push_cast, simprocAttr])
      have e5 : (k : Int) + 5 * ((i + 1 : Nat) : Int) = (k : Int) + 5 * (i : Int) + 1 + 1 + 1 + 1 + 1 := by omega
      refine at_fin ⟨i + 1, by omega, by omega, ?_⟩
      simp only [e5]
      (refine wk_frz ?_ ?_ ?_ ?_ <;> simp [rowC, leF, leHF, frzB, idsL, idsA, idsR, inH, hget, sameRow, viewN, tk, upA, hvA, dsts, dstO, setA_0, setA_1, setA_8, List.append, List.cons_append, List.nil_append])
    · have i0 : ltI (i : Int) l.length = false := ltI_f (by omega)
      obtain rfl : i = l.length := by omega
      have e : upC k l l.length = mkC k l := by unfold upC; rw [List.drop_length, List.append_nil, List.take_of_length_le (by rw [mkC_len]; exact Nat.le_refl _)]
      have hfin : markD (k + 5 * l.length) (rowC (mkC k l)) (iA ((k + 5 * l.length : Nat) : Int)) [rowC (mkC k l)] [] := ⟨rfl, rfl, rfl⟩
      (try simp only [i0, e, push_cast, simprocAttr])
      (refine at_retL ?_; simp only [Tryz.results70, retL, push_cast, simprocAttr]; simpa [show List.range 1 = [0] from rfl, show List.range 2 = [0, 1] from rfl, show List.range 3 = [0, 1, 2] from rfl, nmL, mvF, ndB, ixOf, rowsOf, hget, rdR, rowS, rowN, rowC] using  hfin)
theorem heldNodeS_pc (l : List Nd) (k : Nat) (h0 : 0 < k) (hk : k + 3 * l.length ≤ 4611686018427387904) : PC Tryz.prog 71 [ndA (mkN k l), iA k] (vI ((k + 3 * l.length : Nat) : Int)) := by
  have hN := mkN_len l k
  refine pc_enter Tryz.func71 rfl rfl fun w0 fb => go_on ?_; (try simp only [Tryz.ntmps71, push_cast, simprocAttr])
  refine at_loop (X := Nat) (fun i => [(1, iA ((k + 3 * i : Nat) : Int)), (5, iA i)]) (fun _ => []) (fun i => i ≤ l.length) (fun i => l.length - i) 0 (Nat.zero_le _) ?_ ?_
  · (refine wk_ok ?_ ?_ ?_ ?_ <;> simp [leL, leH, idsL, idsA, idsR, inH, hget, sameRow, upA, hvA, dsts, dstO, setA_0, setA_1, setA_8, List.append, List.cons_append, List.nil_append])
  · rintro i hi
    simp only [upA, hvA, dsts, dstO, setA_0, setA_1, setA_8, List.append, List.cons_append, List.nil_append]
    refine go_on ?_
    (try simp only [hN, push_cast, simprocAttr])
    by_cases hlt : i < l.length
    · have i0 : ltI (i : Int) l.length = true := ltI_t (by omega)
      have hm := markText_pc (k + 3 * i) (by omega) (by omega)
      have hx := mkN_get l k i hlt
      have i1 := ix_n hx
      rw [hN] at i1
      have i2 := map_get ndC hx
      simp only [ndC] at i2
      have e4 : eqI ((k : Int) + 3 * (i : Int) + 1) ((k : Int) + 3 * (i : Int) + 1) = true := eqI_self _
      have w1 : IntKind.i64.wrap ((k : Int) + 3 * (i : Int) + 1) = (k : Int) + 3 * (i : Int) + 1 := wr _ (by omega)
      have w2 : IntKind.i64.wrap ((k : Int) + 3 * (i : Int) + 1 + 1) = (k : Int) + 3 * (i : Int) + 1 + 1 := wr _ (by omega)
      have w3 : IntKind.i64.wrap ((k : Int) + 3 * (i : Int) + 1 + 1 + 1) = (k : Int) + 3 * (i : Int) + 1 + 1 + 1 := wr _ (by omega)
      have w4 : IntKind.i64.wrap ((i : Int) + 1) = (i : Int) + 1 := wr _ (by omega)
      push_cast at i2
      (try simp only [i0, push_cast, simprocAttr])
      refine at_draw rfl (by kernel_rfl) ?_
      (try simp only [i1, i2, hN, push_cast, simprocAttr])
      push_cast at hm
      have e5 : (k : Int) + 3 * ((i + 1 : Nat) : Int) = (k : Int) + 3 * (i : Int) + 1 + 1 + 1 := by omega
      repeat' first | (refine at_bWn (fun hb => ?_) (fun hb => ?_) <;> simp only [eq_self, decide_true, Bool.not_true, hb, push_cast, simprocAttr]) | (refine at_bW (fun hb => ?_) (fun hb => ?_) <;> simp only [eq_self, decide_true, Bool.not_true, hb, push_cast, simprocAttr]) | (refine at_callD (by simp [clB, idsL, idsA, hget]) ?_; (try simp only [push_cast, simprocAttr]); first | (refine rcd_v (hm) ?_; simp only [eq_self, decide_true, Bool.not_true, push_cast, simprocAttr]) | (refine rcd_d (hm) (by simp [flatV, flatL, ctC, ndC, cmC]) (by simp [ren, ctC, ndC, cmC]) ?_; simp only [eq_self, decide_true, Bool.not_true, push_cast, simprocAttr])) | (refine at_done (by kernel_rfl) (by kernel_rfl) (go_on ?_); (try simp only [eq_self, decide_true, Bool.not_true, push_cast, simprocAttr]))
      (try simp only [i1, i2, w1, w2, w3, w4, hN, eq_self, decide_true, push_cast, simprocAttr])
      refine at_fin ⟨i + 1, by omega, by omega, ?_⟩
      simp only [e5]
      (refine wk_ok ?_ ?_ ?_ ?_ <;> simp [leL, leH, idsL, idsA, idsR, inH, hget, sameRow, upA, hvA, dsts, dstO, setA_0, setA_1, setA_8, List.append, List.cons_append, List.nil_append])
    · have i0 : ltI (i : Int) l.length = false := ltI_f (by omega)
      obtain rfl : i = l.length := by omega
      (try simp only [i0, push_cast, simprocAttr])
      refine at_ret ?_; simp only [Tryz.results71, push_cast, simprocAttr]
      simp [vX]
theorem heldCommandS_pc (l : List Cm) (k : Nat) (h0 : 0 < k) (hk : k + 5 * l.length ≤ 4611686018427387904) : PC Tryz.prog 72 [cmA (mkC k l), iA k] (vI ((k + 5 * l.length : Nat) : Int)) := by
  have hN := mkC_len l k
  refine pc_enter Tryz.func72 rfl rfl fun w0 fb => go_on ?_; (try simp only [Tryz.ntmps72, push_cast, simprocAttr])
  refine at_loop (X := Nat) (fun i => [(1, iA ((k + 5 * i : Nat) : Int)), (5, iA i)]) (fun _ => []) (fun i => i ≤ l.length) (fun i => l.length - i) 0 (Nat.zero_le _) ?_ ?_
  · (refine wk_ok ?_ ?_ ?_ ?_ <;> simp [leL, leH, idsL, idsA, idsR, inH, hget, sameRow, upA, hvA, dsts, dstO, setA_0, setA_1, setA_8, List.append, List.cons_append, List.nil_append])
  · rintro i hi
    simp only [upA, hvA, dsts, dstO, setA_0, setA_1, setA_8, List.append, List.cons_append, List.nil_append]
    refine go_on ?_
    (try simp only [hN, push_cast, simprocAttr])
    by_cases hlt : i < l.length
    · have i0 : ltI (i : Int) l.length = true := ltI_t (by omega)
      have hm := markText_pc (k + 5 * i) (by omega) (by omega)
      have hx := mkC_get l k i hlt
      have i1 := ix_n hx
      rw [hN] at i1
      have i2 := map_get cmC hx
      simp only [cmC] at i2
      have e4 : eqI ((k : Int) + 5 * (i : Int) + 1) ((k : Int) + 5 * (i : Int) + 1) = true := eqI_self _
      have w1 : IntKind.i64.wrap ((k : Int) + 5 * (i : Int) + 1) = (k : Int) + 5 * (i : Int) + 1 := wr _ (by omega)
      have w2 : IntKind.i64.wrap ((k : Int) + 5 * (i : Int) + 1 + 1) = (k : Int) + 5 * (i : Int) + 1 + 1 := wr _ (by omega)
      have w3 : IntKind.i64.wrap ((k : Int) + 5 * (i : Int) + 1 + 1 + 1) = (k : Int) + 5 * (i : Int) + 1 + 1 + 1 := wr _ (by omega)
      have w6 : IntKind.i64.wrap ((k : Int) + 5 * (i : Int) + 1 + 1 + 1 + 1) = (k : Int) + 5 * (i : Int) + 1 + 1 + 1 + 1 := wr _ (by omega)
      have w7 : IntKind.i64.wrap ((k : Int) + 5 * (i : Int) + 1 + 1 + 1 + 1 + 1) = (k : Int) + 5 * (i : Int) + 1 + 1 + 1 + 1 + 1 := wr _ (by omega)
      have w4 : IntKind.i64.wrap ((i : Int) + 1) = (i : Int) + 1 := wr _ (by omega)
      push_cast at i2
      (try simp only [i0, push_cast, simprocAttr])
      refine at_draw rfl (by kernel_rfl) ?_
      (try simp only [i1, i2, hN, push_cast, simprocAttr])
      push_cast at hm
      have e5 : (k : Int) + 5 * ((i + 1 : Nat) : Int) = (k : Int) + 5 * (i : Int) + 1 + 1 + 1 + 1 + 1 := by omega
      repeat' first | (refine at_bWn (fun hb => ?_) (fun hb => ?_) <;> simp only [eq_self, decide_true, Bool.not_true, hb, push_cast, simprocAttr]) | (refine at_bW (fun hb => ?_) (fun hb => ?_) <;> simp only [eq_self, decide_true, Bool.not_true, hb, push_cast, simprocAttr]) | (refine at_callD (by simp [clB, idsL, idsA, hget]) ?_; (try simp only [push_cast, simprocAttr]); first | (refine rcd_v (hm) ?_; simp only [eq_self, decide_true, Bool.not_true, push_cast, simprocAttr]) | (refine rcd_d (hm) (by simp [flatV, flatL, ctC, ndC, cmC]) (by simp [ren, ctC, ndC, cmC]) ?_; simp only [eq_self, decide_true, Bool.not_true, push_cast, simprocAttr])) | (refine at_done (by kernel_rfl) (by kernel_rfl) (go_on ?_); (try simp only [eq_self, decide_true, Bool.not_true, push_cast, simprocAttr]))
      (try simp only [i1, i2, w1, w2, w3, w4, w6, w7, hN, eq_self, decide_true, push_cast, simprocAttr])
      refine at_fin ⟨i + 1, by omega, by omega, ?_⟩
      simp only [e5]
      (refine wk_ok ?_ ?_ ?_ ?_ <;> simp [leL, leH, idsL, idsA, idsR, inH, hget, sameRow, upA, hvA, dsts, dstO, setA_0, setA_1, setA_8, List.append, List.cons_append, List.nil_append])
    · have i0 : ltI (i : Int) l.length = false := ltI_f (by omega)
      obtain rfl : i = l.length := by omega
      (try simp only [i0, push_cast, simprocAttr])
      refine at_ret ?_; simp only [Tryz.results72, push_cast, simprocAttr]
      simp [vX]
end Go.Proofs.YtdjglbedimpldaaGreatDoor
/-
  Walks: the draws: a broken log.
-/
namespace Go.Proofs.YtdjglbedimpldaaGreatDoor
open Go Go.RowKit Go.Proofs
theorem LogS.set {l : List Cm} (h : LogS l) (k : Nat) (x : Cm) (hx : x.p.length ≤ 10) : LogS (l.set k x) := by
  refine ⟨by simpa using h.n, fun c hc => ?_⟩
  rcases List.mem_or_eq_of_mem_set hc with hc | rfl
  · exact h.p c hc
  · exact hx
theorem effD_app2 {P : Program} {o : SO} {l : List SO} {evs : List E} {s : AS} {go : List E → AS → RD} (x y : Operand) (t : TypeId) :
    effD P o l evs s go (.call ⟨.builtin .append, ⟨[x, y]⟩, ⟨[t, t]⟩⟩) = apD o evs s go (apE P s o.dst t (evA s.t x) (evA s.t y)) := effD_app _ _ _ _ _ _ (.assign (.tmp 0)) x y t
theorem at_chkD {P : Program} {K : List E → AS → Prop} {φ : Prop} {r : RD} (hφ : φ) (h : RDp P K r) : RDp P K (.chk φ r) := ⟨hφ, h⟩
attribute [local irreducible] RWp AW run kPe pe Kt effA gd gu br retR RDp runD kPeD brW gW effD
set_option maxRecDepth 100000
end Go.Proofs.YtdjglbedimpldaaGreatDoor
/-
  Walks: the draws: a side.
-/
namespace Go.Proofs.YtdjglbedimpldaaGreatDoor
open Go Go.RowKit Go.Proofs
structure StS (s : St) : Prop where
  b : tV s.base = true
  l : LogS s.log
attribute [local irreducible] RWp AW run kPe pe Kt effA gd gu br retR RDp runD kPeD brW gW effD
set_option maxRecDepth 100000
end Go.Proofs.YtdjglbedimpldaaGreatDoor
/-
  Walks: the sides that the laws draw.
-/
namespace Go.Proofs.YtdjglbedimpldaaGreatDoor
open Go Go.RowKit Go.Proofs
theorem BytesOk.tk {z : List Int} (h : BytesOk z) : BytesOk (z.take 2000) := ⟨by have := h.len; rw [List.length_take]; omega, fun n hn => h.by_ n (List.mem_of_mem_take hn)⟩
end Go.Proofs.YtdjglbedimpldaaGreatDoor
/-
  Walks: a side's tree, twice; equality of trees and of logs by the laws' own loops.
-/
namespace Go.Proofs.YtdjglbedimpldaaGreatDoor
open Go Go.RowKit Go.Proofs
theorem lap_site {s : St} (h : siteV s = true) : lap s.base s.log = (siteT s, ((apAll s.base s.log).2 : Int)) := by
  unfold siteT
  rw [if_pos h]
  simp only [siteV, Bool.and_eq_true] at h
  have hf := h.2
  simp only [fits, Bool.and_eq_true] at hf
  unfold lap
  rw [if_pos (by simp_all)]
attribute [local irreducible] RWp AW run kPe pe Kt effA gd gu br retR RDp runD kPeD brW gW effD
set_option maxRecDepth 100000
theorem SiteTree_pc (s : St) (hs : SmS s) : PC Tryz.prog 41 [stA' s] (rX (.o 0 (siteT s).length) [rowN (siteT s)]) := by
  have hL := LogApply_pc s.base hs.t s.log hs.l
  have hV := SiteValid_pc s hs
  unfold stA' stC at hV ⊢
  refine pc_enter Tryz.func41 rfl rfl fun w0 fb => go_on ?_; (try simp only [Tryz.ntmps41, push_cast, simprocAttr])
  refine at_call ?_
  (try simp only [push_cast, simprocAttr])
  refine rwc_v hV ?_
  (try simp only [push_cast, simprocAttr])
  (refine at_dropS [2] (by refine wk_ok ?_ ?_ ?_ ?_ <;> simp [dropS, dropT, hasN, delL, hdel, leL, leH, idsL, idsA, idsR, inH, hget, sameRow]) ?_; simp only [dropS, dropT, hasN, delL, hdel, idsA, idsL, hget, List.map_cons, List.map_nil, List.all_cons, List.all_nil, List.append_nil, Bool.not_false, Bool.not_true, Bool.and_true, if_true, if_false, simprocAttr])
  refine go_on ?_
  (try simp only [push_cast, simprocAttr])
  refine at_b (fun hb => ?_) (fun hb => ?_)
  · have h : siteV s = false := not_t hb
    (try simp only [hb, push_cast, simprocAttr])
    refine at_ret ?_; simp only [Tryz.results41, push_cast, simprocAttr]
    simp [rX, siteT, h, ixOf]
  · have h : siteV s = true := not_f hb
    rw [lap_site h] at hL
    (try simp only [hb, push_cast, simprocAttr])
    (refine at_call ?_; (try simp only [push_cast, simprocAttr]); refine rwc_r (hL) (by simp [flatV, flatL]) (flat_n _) (by simp [frB, baseOf]) (go_on ?_); (try simp only [push_cast, simprocAttr]))
    refine at_ret ?_; simp only [Tryz.results41, push_cast, simprocAttr]
    simp [rX, ixOf]
theorem specSiteTree_pc (s : St) (hs : SmS s) : PC Tryz.prog 82 [stA' s] (vX (ndA (siteT s))) := by
  have hL := specLogApply_pc s.base hs.t s.log hs.l
  have hV := specSiteValid_pc s hs
  unfold stA' stC at hV ⊢
  refine pc_enter Tryz.func82 rfl rfl fun w0 fb => go_on ?_; (try simp only [Tryz.ntmps82, push_cast, simprocAttr])
  (refine at_call ?_; (try simp only [push_cast, simprocAttr]); refine rwc_v (hV) (go_on ?_); (try simp only [push_cast, simprocAttr]))
  refine at_b (fun hb => ?_) (fun hb => ?_)
  · have h : siteV s = false := not_t hb
    (try simp only [hb, push_cast, simprocAttr])
    refine at_retf ?_; simp only [Tryz.results82, push_cast, simprocAttr]
    simp [vX, siteT, h, ixOf]
  · have h : siteV s = true := not_f hb
    rw [lap_site h] at hL
    (try simp only [hb, push_cast, simprocAttr])
    ((try simp only [push_cast, simprocAttr]); refine at_share2 (by simp [isC2, isC]) (by first | rfl | simp [ren]) (hL) (go_on ?_); (try simp only [push_cast, simprocAttr]))
    refine at_ret ?_; simp only [Tryz.results82, push_cast, simprocAttr]
    simp [vX, ixOf]
theorem ct_ext (a b : Ct) : a = b ↔ a.k = b.k ∧ a.v = b.v := by
  obtain ⟨a1, a2⟩ := a
  obtain ⟨b1, b2⟩ := b
  simp
theorem ndg : Tryz.prog.eqGuardType Tryz.prog.depth 98 = false := by kernel_rfl
theorem ndh : Tryz.prog.stoodInHeld 98 = false := by kernel_rfl
theorem sameNodes_pc (a b : List Nd) (hl : a.length < 4294967281) : PC Tryz.prog 30 [ndA a, ndA b] (vB (decide (a = b))) := by
  refine pc_enter Tryz.func30 rfl rfl fun w0 fb => go_on ?_; (try simp only [Tryz.ntmps30, push_cast, simprocAttr])
  refine at_b (fun hb => ?_) (fun hb => ?_)
  · have h1 := of_eqI_f (not_t hb)
    have h2 : a ≠ b := by rintro rfl; exact h1 rfl
    (try simp only [hb, push_cast, simprocAttr])
    refine at_ret ?_; simp only [Tryz.results30, push_cast, simprocAttr]
    simp [vX, h2]
  · have h1 : a.length = b.length := by have := of_eqI_t (not_f hb); omega
    (try simp only [hb, push_cast, simprocAttr])
    refine at_loop (X := Nat) (fun k => [(5, iA k)]) (fun _ => []) (fun k => k ≤ a.length ∧ decide (a = b) = decide (a.drop k = b.drop k)) (fun k => a.length - k) 0 ⟨Nat.zero_le _, rfl⟩ ?_ ?_
    · (refine wk_ok ?_ ?_ ?_ ?_ <;> simp [leL, leH, idsL, idsA, idsR, inH, hget, sameRow, upA, hvA, dsts, dstO, setA_0, setA_1, setA_8, List.append, List.cons_append, List.nil_append])
    · rintro k ⟨q1, q2⟩
      simp only [upA, hvA, dsts, dstO, setA_0, setA_1, setA_8, List.append, List.cons_append, List.nil_append]
      refine go_on ?_
      (try simp only [push_cast, simprocAttr])
      refine at_b (fun hg => ?_) (fun hg => ?_)
      · have hlt := lt_tt hg
        obtain ⟨x, hx⟩ := get_of_lt hlt
        obtain ⟨y, hy⟩ := get_of_lt (l := b) (k := k) (by omega)
        have i1 := ix_n hx
        have i3 := ix_n hy
        have i2 := map_get ndC hx
        have i4 := map_get ndC hy
        simp only [ndC] at i2 i4
        rw [drop_of_get hx, drop_of_get hy] at q2
        have w2 := wr ((k : Int) + 1) (by omega)
        (try simp only [hg, push_cast, simprocAttr])
        refine at_draw rfl (by kernel_rfl) ?_
        (try simp only [i1, i2, i3, i4, ctg, cth, ndg, ndh, push_cast, simprocAttr])
        refine at_done (by kernel_rfl) (by kernel_rfl) (go_on ?_)
        have e : (decide (x.p = y.p) && (eqI x.c.k y.c.k && eqI x.c.v y.c.v)) = decide (x = y) := by
          rw [Bool.eq_iff_iff]; simp [eqI_d, nd_ext, ct_ext]
        (try simp only [e, push_cast, simprocAttr])
        refine at_b (fun hn => ?_) (fun hn => ?_)
        · have hxy : x ≠ y := by simpa using hn
          (try simp only [hn, push_cast, simprocAttr])
          refine at_ret ?_; simp only [Tryz.results30, push_cast, simprocAttr]
          simp [vX, q2, hxy]
        · have hxy : x = y := by simpa using hn
          (try simp only [hn, w2, push_cast, simprocAttr])
          refine at_fin ⟨k + 1, ⟨by omega, ?_⟩, by omega, ?_⟩
          · rw [q2]; simp [hxy]
          · (refine wk_ok ?_ ?_ ?_ ?_ <;> simp [leL, leH, idsL, idsA, idsR, inH, hget, sameRow, upA, hvA, dsts, dstO, setA_0, setA_1, setA_8, List.append, List.cons_append, List.nil_append])
      · have h3 := lt_ff hg
        (try simp only [hg, push_cast, simprocAttr])
        refine at_ret ?_; simp only [Tryz.results30, push_cast, simprocAttr]
        rw [List.drop_of_length_le h3, List.drop_of_length_le (by omega)] at q2
        simp [vX, q2]
end Go.Proofs.YtdjglbedimpldaaGreatDoor
/-
  Walks: what the drawn sides keep.
-/
namespace Go.Proofs.YtdjglbedimpldaaGreatDoor
open Go Go.RowKit Go.Proofs
theorem StS.sm {s : St} (h : StS s) : SmS s := ⟨sm_tv ((tV_iff _).1 h.b), ⟨by have := h.l.n; omega, fun c hc => by have := h.l.p c hc; omega⟩⟩
theorem SmT2.n' {l : List Nd} (h : SmT2 l) : l.length < 4294967281 := by have := h.n; omega
theorem siteT_sm {s : St} (h : SmS s) : SmT2 (siteT s) := by
  unfold siteT
  split
  · exact apAll_sm _ _ h.t
  · exact ⟨⟨by simp, by simp⟩, by simp⟩
attribute [local irreducible] RWp AW run kPe pe Kt effA gd gu br retR RDp runD kPeD brW gW effD
set_option maxRecDepth 100000
end Go.Proofs.YtdjglbedimpldaaGreatDoor
/-
  Walks: copies of sides; impl.CommandApply; equality of sides by the laws' own loops.
-/
namespace Go.Proofs.YtdjglbedimpldaaGreatDoor
open Go Go.RowKit Go.Proofs
attribute [local irreducible] RWp AW run kPe pe Kt effA gd gu br retR RDp runD kPeD brW gW effD
set_option maxRecDepth 100000
theorem cloneLog_pc (l : List Cm) (hl : l.length < 4294967281) : PC Tryz.prog 87 [cmA l] (rX (.o 0 l.length) [rowC l]) := by
  refine pc_enter Tryz.func87 rfl rfl fun w0 fb => go_on ?_; (try simp only [Tryz.ntmps87, push_cast, simprocAttr])
  refine at_chk (by omega) ?_
  (try simp only [push_cast, simprocAttr])
  refine at_ret ?_; simp only [Tryz.results87, push_cast, simprocAttr]
  simp [rX, ixOf]
theorem clone_pc (s : St) (h1 : s.base.length < 4294967281) (h2 : s.log.length < 4294967281) : PC Tryz.prog 46 [stA' s] (rX (stO s) [rowN s.base, rowC s.log]) := by
  unfold stA' stC stO
  refine pc_enter Tryz.func46 rfl rfl fun w0 fb => go_on ?_; (try simp only [Tryz.ntmps46, push_cast, simprocAttr])
  refine at_draw rfl (by kernel_rfl) ?_; simp only [push_cast, simprocAttr]
  (refine at_callD (by simp [clB, idsL, idsA, hget]) ?_; (try simp only [push_cast, simprocAttr]); refine rcd_r (cloneTree_pc s.base h1) (by simp [flatV, flatL]) (flat_n _) (by simp [frB, baseOf]) ?_; (try simp only [push_cast, simprocAttr]))
  (refine at_callD (by simp [clB, idsL, idsA, hget]) ?_; (try simp only [push_cast, simprocAttr]); refine rcd_r (cloneLog_pc s.log h2) (by simp [flatV, flatL]) (flat_c _) (by simp [frB, baseOf]) ?_; (try simp only [push_cast, simprocAttr]))
  refine at_done (by kernel_rfl) (by kernel_rfl) (go_on ?_)
  (try simp only [push_cast, simprocAttr])
  refine at_ret ?_; simp only [Tryz.results46, push_cast, simprocAttr]
  simp [rX, ixOf]
theorem l41Copy_pc (s : St) (h1 : s.base.length < 4294967281) (h2 : s.log.length < 4294967281) : PC Tryz.prog 48 [stA' s] (rX (stO s) [rowN s.base, rowC s.log]) := by
  unfold stA' stC stO
  refine pc_enter Tryz.func48 rfl rfl fun w0 fb => go_on ?_; (try simp only [Tryz.ntmps48, push_cast, simprocAttr])
  refine at_draw rfl (by kernel_rfl) ?_; simp only [push_cast, simprocAttr]
  (try simp only [effD_app2, push_cast, simprocAttr])
  refine at_chkD (by omega) ?_
  (try simp only [effD_app2, push_cast, simprocAttr])
  refine at_chkD (by omega) ?_
  (try simp only [push_cast, simprocAttr])
  refine at_done (by kernel_rfl) (by kernel_rfl) (go_on ?_)
  (try simp only [push_cast, simprocAttr])
  refine at_ret ?_; simp only [Tryz.results48, push_cast, simprocAttr]
  simp [rX, ixOf]
theorem CommandApply_pc (l : List Nd) (hs : SmT2 l) (c : Cm) (hp : c.p.length < 4294967281) : PC Tryz.prog 168 [ndA l, cmdA c] (rX (.tup [.o 0 (cap2 l c).1.length, bA (cap2 l c).2]) [rowN (cap2 l c).1]) := by
  have hA := apply_pc l hs.s (by have := hs.n; omega) c hp
  have hC := CommandValid_pc c hp
  have hsm : (apB2 l c).1.length < 4294967281 := (apB2_sm hs c).n'
  unfold cmdA cmC at *
  refine pc_enter Tryz.func168 rfl rfl fun w0 fb => go_on ?_; (try simp only [Tryz.ntmps168, push_cast, simprocAttr])
  refine at_call ?_
  (try simp only [push_cast, simprocAttr])
  refine rwc_v (TreeValid_pc l hs.s) ?_
  (try simp only [push_cast, simprocAttr])
  (refine at_dropS [4] (by refine wk_ok ?_ ?_ ?_ ?_ <;> simp [dropS, dropT, hasN, delL, hdel, leL, leH, idsL, idsA, idsR, inH, hget, sameRow]) ?_; simp only [dropS, dropT, hasN, delL, hdel, idsA, idsL, hget, List.map_cons, List.map_nil, List.all_cons, List.all_nil, List.append_nil, Bool.not_false, Bool.not_true, Bool.and_true, if_true, if_false, simprocAttr])
  refine go_on ?_
  repeat' first | (refine at_b (fun hb => ?_) (fun hb => ?_) <;> simp only [hb, push_cast, simprocAttr]) | (refine at_ret ?_; simp only [Tryz.results168, push_cast, simprocAttr]) | (refine at_call ?_; (try simp only [push_cast, simprocAttr]); refine rwc_v (by first | exact hC) (go_on ?_); simp only [push_cast, simprocAttr]) | (show RWp _ _ _ _ _; simp only [push_cast, simprocAttr])
  · have h : tV l = false := not_t hb
    simp [rX, cap2, h]
  · have h : cmV c = false := not_t hb
    simp [rX, cap2, h]
  · rename_i h1
    have e : cap2 l c = apB2 l c := by unfold cap2; rw [if_pos (by simp [not_f hb, not_f h1])]
    rw [e]
    unfold shN at hA
    ((try simp only [push_cast, simprocAttr]); refine at_share2 (by simp [isC2, isC]) (by first | rfl | simp [ren]) (hA) (go_on ?_); (try simp only [push_cast, simprocAttr]))
    (refine at_call ?_; (try simp only [push_cast, simprocAttr]); refine rwc_r (cloneTree_pc _ hsm) rfl (flat_n _) (by simp [frB, baseOf]) (go_on ?_); (try simp only [push_cast, simprocAttr]))
    refine at_ret ?_; simp only [Tryz.results168, push_cast, simprocAttr]
    simp [rX, ixOf]
theorem cmg : Tryz.prog.eqGuardType Tryz.prog.depth 53 = false := by kernel_rfl
theorem cmh : Tryz.prog.stoodInHeld 53 = false := by kernel_rfl
theorem sameLog_pc (a b : List Cm) (hl : a.length < 4294967281) : PC Tryz.prog 51 [cmA a, cmA b] (vB (decide (a = b))) := by
  refine pc_enter Tryz.func51 rfl rfl fun w0 fb => go_on ?_; (try simp only [Tryz.ntmps51, push_cast, simprocAttr])
  refine at_b (fun hb => ?_) (fun hb => ?_)
  · have h1 := of_eqI_f (not_t hb)
    have h2 : a ≠ b := by rintro rfl; exact h1 rfl
    (try simp only [hb, push_cast, simprocAttr])
    refine at_ret ?_; simp only [Tryz.results51, push_cast, simprocAttr]
    simp [vX, h2]
  · have h1 : a.length = b.length := by have := of_eqI_t (not_f hb); omega
    (try simp only [hb, push_cast, simprocAttr])
    refine at_loop (X := Nat) (fun k => [(5, iA k)]) (fun _ => []) (fun k => k ≤ a.length ∧ decide (a = b) = decide (a.drop k = b.drop k)) (fun k => a.length - k) 0 ⟨Nat.zero_le _, rfl⟩ ?_ ?_
    · (refine wk_ok ?_ ?_ ?_ ?_ <;> simp [leL, leH, idsL, idsA, idsR, inH, hget, sameRow, upA, hvA, dsts, dstO, setA_0, setA_1, setA_8, List.append, List.cons_append, List.nil_append])
    · rintro k ⟨q1, q2⟩
      simp only [upA, hvA, dsts, dstO, setA_0, setA_1, setA_8, List.append, List.cons_append, List.nil_append]
      refine go_on ?_
      (try simp only [push_cast, simprocAttr])
      refine at_b (fun hg => ?_) (fun hg => ?_)
      · have hlt := lt_tt hg
        obtain ⟨x, hx⟩ := get_of_lt hlt
        obtain ⟨y, hy⟩ := get_of_lt (l := b) (k := k) (by omega)
        have i1 := ix_n hx
        have i3 := ix_n hy
        have i2 := map_get cmC hx
        have i4 := map_get cmC hy
        simp only [cmC] at i2 i4
        rw [drop_of_get hx, drop_of_get hy] at q2
        have w2 := wr ((k : Int) + 1) (by omega)
        (try simp only [hg, push_cast, simprocAttr])
        refine at_draw rfl (by kernel_rfl) ?_
        (try simp only [i1, i2, i3, i4, ctg, cth, cmg, cmh, push_cast, simprocAttr])
        refine at_done (by kernel_rfl) (by kernel_rfl) (go_on ?_)
        have e : (decide (x.p = y.p) && ((eqI x.a.k y.a.k && eqI x.a.v y.a.v) && (eqI x.b.k y.b.k && eqI x.b.v y.b.v))) = decide (x = y) := by
          rw [Bool.eq_iff_iff]; simp [eqI_d, cm_ext, ct_ext]
        (try simp only [e, push_cast, simprocAttr])
        refine at_b (fun hn => ?_) (fun hn => ?_)
        · have hxy : x ≠ y := by simpa using hn
          (try simp only [hn, push_cast, simprocAttr])
          refine at_ret ?_; simp only [Tryz.results51, push_cast, simprocAttr]
          simp [vX, q2, hxy]
        · have hxy : x = y := by simpa using hn
          (try simp only [hn, w2, push_cast, simprocAttr])
          refine at_fin ⟨k + 1, ⟨by omega, ?_⟩, by omega, ?_⟩
          · rw [q2]; simp [hxy]
          · (refine wk_ok ?_ ?_ ?_ ?_ <;> simp [leL, leH, idsL, idsA, idsR, inH, hget, sameRow, upA, hvA, dsts, dstO, setA_0, setA_1, setA_8, List.append, List.cons_append, List.nil_append])
      · have h3 := lt_ff hg
        (try simp only [hg, push_cast, simprocAttr])
        refine at_ret ?_; simp only [Tryz.results51, push_cast, simprocAttr]
        rw [List.drop_of_length_le h3, List.drop_of_length_le (by omega)] at q2
        simp [vX, q2]
theorem sameSite_pc (a b : St) (h1 : a.base.length < 4294967281) (h2 : a.log.length < 4294967281) : PC Tryz.prog 17 [stA' a, stA' b] (vB (decide (a = b))) := by
  have hN := sameNodes_pc a.base b.base h1
  have hC := sameLog_pc a.log b.log h2
  unfold stA' stC
  refine pc_enter Tryz.func17 rfl rfl fun w0 fb => go_on ?_; (try simp only [Tryz.ntmps17, push_cast, simprocAttr])
  repeat' first | (refine at_b (fun hb => ?_) (fun hb => ?_) <;> simp only [hb, push_cast, simprocAttr]) | (refine at_ret ?_; simp only [Tryz.results17, push_cast, simprocAttr]) | (refine at_call ?_; (try simp only [push_cast, simprocAttr]); refine rwc_v (by first | exact hN | exact hC) (go_on ?_); simp only [push_cast, simprocAttr]) | (show RWp _ _ _ _ _; simp only [push_cast, simprocAttr])
  all_goals simp only [Bool.not_eq_true', Bool.not_eq_false', eqI_d, decide_eq_true_eq, decide_eq_false_iff_not] at *
  all_goals simp [vX, st_ext a b, *]
end Go.Proofs.YtdjglbedimpldaaGreatDoor
/-
  The abstract machine: what a call leaves, read as data.
-/
namespace Go.Proofs.YtdjglbedimpldaaGreatDoor
open Go Go.RowKit
theorem PC.frzX {P : Program} {f : FuncId} {args : List AV} {x : AV} {rows : List Row} (h : PC P f args (rX x rows)) : PC P f args (vX (viewN 3 (hpOf 0 rows) x)) :=
  h.frz fun rv rs ⟨e1, e2⟩ => by subst e1; subst e2; exact ⟨rfl, rfl⟩
/-- What is known less. -/
theorem PC.less {P : Program} {f : FuncId} {args : List AV} {x y : AV} (h : PC P f args (vX x)) (hxy : ∀ h loc w v, G h loc w x v → G h loc w y v) : PC P f args (vX y) := by
  refine ⟨h.1, fun w fb vs h1 h2 h3 => (h.2 w fb vs h1 h2 h3).mono ?_⟩
  rintro e w' ⟨rv, rows', v, ⟨rfl, rfl⟩, rfl, hb, loc, hfb, hg, hrest⟩
  exact ⟨_, [], v, ⟨rfl, rfl⟩, rfl, hb, loc, hfb, hxy _ _ _ _ hg, hrest⟩
theorem G.nil2 {h : Hp} {loc : Loc} {w : World} {v : Value} {n : Nat} (hg : G h loc w (.v (.slice none 0 0)) v) : G h loc w (.sl n []) v := by
  rw [hg.v_inv]
  exact .cl (.nilsl _)
theorem G.agg2 {h : Hp} {loc : Loc} {w : World} {v : Value} {l l' : List AV} (hg : G h loc w (.agg l) v) (hl : l'.length = l.length) (hh : ∀ (j : Nat) x y u, l[j]? = some x → l'[j]? = some y → G h loc w x u → G h loc w y u) : G h loc w (.agg l') v := by
  obtain ⟨vs, rfl, hs, hgs⟩ := hg.agg_inv
  refine .agg vs (by omega) fun j a ha => ?_
  have hj := lt_of_some ha
  obtain ⟨x, hx⟩ : ∃ x, l[j]? = some x := ⟨_, List.getElem?_eq_getElem (show j < l.length by omega)⟩
  exact hh j x a _ hx ha (hgs j x hx)
theorem G.tup2 {h : Hp} {loc : Loc} {w : World} {v : Value} {l l' : List AV} (hg : G h loc w (.tup l) v) (hl : l'.length = l.length) (hh : ∀ (j : Nat) x y u, l[j]? = some x → l'[j]? = some y → G h loc w x u → G h loc w y u) : G h loc w (.tup l') v := by
  obtain ⟨vs, rfl, hs, hgs⟩ := hg.tup_inv
  refine .tup vs (by omega) fun j a ha => ?_
  have hj := lt_of_some ha
  obtain ⟨x, hx⟩ : ∃ x, l[j]? = some x := ⟨_, List.getElem?_eq_getElem (show j < l.length by omega)⟩
  exact hh j x a _ hx ha (hgs j x hx)
theorem PC.args {P : Program} {f : FuncId} {args args' : List AV} {D : AV → List Row → Prop} (h : PC P f args D) (hl : args'.length = args.length)
    (hc : ∀ (j : Nat) x y, args'[j]? = some x → args[j]? = some y → ∀ lv w u, C lv 0 w x u → C lv 0 w y u) : PC P f args' D :=
  ⟨h.1, fun w fb vs h1 h2 h3 => h.2 w fb vs h1 (by omega) fun j y hy => by
    have hj := lt_of_some hy
    exact hc j _ y (List.getElem?_eq_getElem (show j < args'.length by omega)) hy _ _ _ (h3 j _ (List.getElem?_eq_getElem (show j < args'.length by omega)))⟩
end Go.Proofs.YtdjglbedimpldaaGreatDoor
/-
  Walks: SiteDo, twice.
-/
namespace Go.Proofs.YtdjglbedimpldaaGreatDoor
open Go Go.RowKit Go.Proofs
/-- What SiteDo leaves where its arguments are valid. -/
def doR (s : St) (c : Cm) : AV → List Row → Prop := rX (.tup [stO (siteDo s c).1, bA (siteDo s c).2]) [rowN (siteDo s c).1.base, rowC (siteDo s c).1.log]
def st00 : AV := .agg [iA 0, .v (.slice none 0 0), .v (.slice none 0 0)]
theorem SiteDo_bad {s : St} {c : Cm} (h : (siteV s && cmV c) = false) : siteDo s c = (st0, false) := by unfold siteDo; rw [if_neg (by simp [h])]
theorem cap2_do {s : St} {c : Cm} (h : siteV s = true) (hc : cmV c = true) : (cap2 (siteT s) c).2 = (apC (siteT s) c).isSome := by
  have ht := (law_siteTree h).2.2
  unfold cap2
  rw [if_pos (by simp [ht, hc])]
  unfold apB2
  cases apC (siteT s) c <;> rfl
theorem do_ok {s : St} {c : Cm} (h : siteV s = true) (hc : cmV c = true) (h1 : (apC (siteT s) c).isSome = true) (h2 : s.log.length ≠ 20) : siteDo s c = (⟨s.ep, s.base, s.log ++ [c]⟩, true) := by
  unfold siteDo; rw [if_pos (by simp [h, hc]), if_pos (by simp [h1, h2])]
theorem do_no {s : St} {c : Cm} (h : siteV s = true) (hc : cmV c = true) (h1 : (apC (siteT s) c).isSome = false ∨ s.log.length = 20) : siteDo s c = (s, false) := by
  unfold siteDo; rw [if_pos (by simp [h, hc]), if_neg (by rcases h1 with h1 | h1 <;> simp [h1])]
attribute [local irreducible] RWp AW run kPe pe Kt effA gd gu br retR RDp runD kPeD brW gW effD
set_option maxRecDepth 100000
theorem SiteDo_pc0 (s : St) (hs : SmS s) (c : Cm) (hp : c.p.length < 4294967281) (h : (siteV s && cmV c) = false) : PC Tryz.prog 122 [stA' s, cmdA c] (vX (.tup [st00, bA false])) := by
  have hV := SiteValid_pc s hs
  have hC := CommandValid_pc c hp
  unfold stA' stC at hV ⊢
  unfold cmdA cmC at hC ⊢
  refine pc_enter Tryz.func122 rfl rfl fun w0 fb => go_on ?_; (try simp only [Tryz.ntmps122, push_cast, simprocAttr])
  (refine at_call ?_; (try simp only [push_cast, simprocAttr]); refine rwc_v (hV) (go_on ?_); (try simp only [push_cast, simprocAttr]))
  cases hv : siteV s with
  | false =>
    (try simp only [hv, Bool.not_false, push_cast, simprocAttr])
    refine at_ret ?_; simp only [Tryz.results122, push_cast, simprocAttr]
    simp [vX, st00]
  | true =>
    rw [hv] at h
    simp only [Bool.true_and] at h
    (try simp only [hv, Bool.not_true, push_cast, simprocAttr])
    (refine at_call ?_; (try simp only [push_cast, simprocAttr]); refine rwc_v (hC) (go_on ?_); (try simp only [push_cast, simprocAttr]))
    (try simp only [h, Bool.not_false, push_cast, simprocAttr])
    refine at_ret ?_; simp only [Tryz.results122, push_cast, simprocAttr]
    simp [vX, st00]
theorem SiteDo_pc1 (s : St) (hs : SmS s) (c : Cm) (hp : c.p.length < 4294967281) (hv : siteV s = true) (hc : cmV c = true) : PC Tryz.prog 122 [stA' s, cmdA c] (doR s c) := by
  have hV := SiteValid_pc s hs
  have hC := CommandValid_pc c hp
  have hb : s.base.length < 4294967281 := by have := hs.t.n; omega
  have hl : s.log.length < 4294967280 := hs.l.n
  have hK := clone_pc s hb (by omega)
  have hK2 := clone_pc ⟨s.ep, s.base, s.log ++ [c]⟩ hb (by simp; omega)
  have hT := SiteTree_pc s hs
  have hA := CommandApply_pc (siteT s) (siteT_sm hs) c hp
  rw [cap2_do hv hc] at hA
  unfold stA' stC at hV hK hK2 hT ⊢
  unfold cmdA cmC at hC hA ⊢
  unfold stO at hK hK2
  refine pc_enter Tryz.func122 rfl rfl fun w0 fb => go_on ?_; (try simp only [Tryz.ntmps122, push_cast, simprocAttr])
  (refine at_call ?_; (try simp only [push_cast, simprocAttr]); refine rwc_v (hV) (go_on ?_); (try simp only [push_cast, simprocAttr]))
  (try simp only [hv, Bool.not_true, push_cast, simprocAttr])
  (refine at_call ?_; (try simp only [push_cast, simprocAttr]); refine rwc_v (hC) (go_on ?_); (try simp only [push_cast, simprocAttr]))
  (try simp only [hc, Bool.not_true, push_cast, simprocAttr])
  (refine at_call ?_; (try simp only [push_cast, simprocAttr]); refine rwc_r (hK) (by simp [flatV, flatL]) (flat_nc _ _) (by simp [frB, baseOf]) (go_on ?_); (try simp only [push_cast, simprocAttr]))
  refine at_draw rfl (by kernel_rfl) ?_; simp only [push_cast, simprocAttr]
  (refine at_callD (by simp [clB, idsL, idsA, hget]) ?_; (try simp only [push_cast, simprocAttr]); refine rcd_r hT (by simp [flatV, flatL]) (flat_n _) (by simp [frB, baseOf]) ?_; (try simp only [push_cast, simprocAttr]))
  (refine at_callD (by simp [clB, idsL, idsA, hget]) ?_; (try simp only [push_cast, simprocAttr]); refine rcd_r hA (by simp [flatV, flatL]) (flat_n _) (by simp [frB, baseOf]) ?_; (try simp only [push_cast, simprocAttr]))
  refine at_done (by kernel_rfl) (by kernel_rfl) (go_on ?_)
  (try simp only [push_cast, simprocAttr])
  cases h1 : (apC (siteT s) c).isSome with
  | false =>
    have e := do_no hv hc (.inl h1)
    (try simp only [h1, Bool.not_false, push_cast, simprocAttr])
    refine at_ret ?_; simp only [Tryz.results122, push_cast, simprocAttr]
    simp [doR, rX, e, stO, ixOf]
  | true =>
    (try simp only [h1, Bool.not_true, push_cast, simprocAttr])
    refine at_b (fun h2 => ?_) (fun h2 => ?_)
    · have e := do_no hv hc (.inr (by have := of_eqI_t h2; omega))
      (try simp only [h2, push_cast, simprocAttr])
      refine at_ret ?_; simp only [Tryz.results122, push_cast, simprocAttr]
      simp [doR, rX, e, stO, ixOf]
    · have e := do_ok hv hc h1 (by have := of_eqI_f h2; omega)
      have happ : s.log.map cmC ++ [[sA c.p, iA c.a.k, iA c.a.v, iA c.b.k, iA c.b.v]] = (s.log ++ [c]).map cmC := by rw [List.map_append]; rfl
      (try simp only [h2, push_cast, simprocAttr])
      refine at_chk (by omega) ?_
      (try simp only [happ, push_cast, simprocAttr])
      simp only at hK2
      have ee : (s.log ++ [c]).length = s.log.length + 1 := by simp
      rw [ee] at hK2
      refine at_call ?_
      simp only [ee, push_cast, simprocAttr]
      refine rwc_r hK2 (by simp [flatV, flatL]) (flat_nc _ _) (by simp [frB, baseOf]) (go_on ?_)
      (try simp only [push_cast, simprocAttr])
      refine at_ret ?_; simp only [Tryz.results122, push_cast, simprocAttr]
      simp [doR, rX, e, stO, ixOf]
theorem nil_st0 {h : Hp} {loc : Loc} {w : World} {v : Value} (hg : G h loc w st00 v) : G h loc w (stA' st0) v := by
  refine hg.agg2 rfl fun j x y u h1 h2 h3 => ?_
  rcases j with _ | _ | _ | j
  · cases h1; cases h2; exact h3
  · cases h1; cases h2; exact h3.nil2
  · cases h1; cases h2; exact h3.nil2
  · cases h1
/-- SiteDo, read as data. -/
theorem SiteDo_d (s : St) (hs : SmS s) (c : Cm) (hp : c.p.length < 4294967281) : PC Tryz.prog 122 [stA' s, cmdA c] (vX (.tup [stA' (siteDo s c).1, bA (siteDo s c).2])) := by
  cases h : siteV s && cmV c with
  | false =>
    rw [SiteDo_bad h]
    refine (SiteDo_pc0 s hs c hp h).less fun h loc w v hg => hg.tup2 rfl fun j x y u h1 h2 h3 => ?_
    rcases j with _ | _ | j
    · cases h1; cases h2; exact nil_st0 h3
    · cases h1; cases h2; exact h3
    · cases h1
  | true =>
    simp only [Bool.and_eq_true] at h
    have := (SiteDo_pc1 s hs c hp h.1 h.2).frzX
    simpa [viewN, hpOf, hget, stO, stA', stC, isC, tk] using this
end Go.Proofs.YtdjglbedimpldaaGreatDoor
/-
  Walks: spec.SiteDo.
-/
namespace Go.Proofs.YtdjglbedimpldaaGreatDoor
open Go Go.RowKit Go.Proofs
theorem siteV_add {s : St} {c : Cm} (hv : siteV s = true) (hc : cmV c = true) : siteV ⟨s.ep, s.base, s.log ++ [c]⟩ = ((apC (siteT s) c).isSome && decide (s.log.length ≠ 20)) := by
  obtain ⟨t, L, hs⟩ := (siteV_iff s).1 hv
  rw [Bool.eq_iff_iff, Bool.and_eq_true, decide_eq_true_eq, hs.T]
  constructor
  · intro h
    obtain ⟨t', L', h'⟩ := (siteV_iff _).1 h
    have h1 := apAll_append_inv hs.ap h'.ap
    obtain ⟨t1, h2, _⟩ := apAll_cons h1
    have h3 := lV_len h'.lv
    simp only [List.length_append, List.length_singleton] at h3
    exact ⟨by rw [h2]; rfl, by omega⟩
  · rintro ⟨h1, h2⟩
    cases hx : apC t c with
    | none => rw [hx] at h1; cases h1
    | some x =>
      obtain ⟨L', h3⟩ := hs.add ((cmV_iff c).1 hc) hx h2
      exact h3.v
attribute [local irreducible] RWp AW run kPe pe Kt effA gd gu br retR RDp runD kPeD brW gW effD
set_option maxRecDepth 100000
theorem specSiteDo_pc0 (s : St) (hs : SmS s) (c : Cm) (hp : c.p.length < 4294967281) (h : (siteV s && cmV c) = false) : PC Tryz.prog 167 [stA' s, cmdA c] (vX (.tup [st00, bA false])) := by
  have hV := specSiteValid_pc s hs
  have hC := specCommandValid_pc c hp
  unfold stA' stC at hV ⊢
  unfold cmdA cmC at hC ⊢
  refine pc_enter Tryz.func167 rfl rfl fun w0 fb => go_on ?_; (try simp only [Tryz.ntmps167, push_cast, simprocAttr])
  (refine at_call ?_; (try simp only [push_cast, simprocAttr]); refine rwc_v (hV) (go_on ?_); (try simp only [push_cast, simprocAttr]))
  cases hv : siteV s with
  | false =>
    (try simp only [hv, Bool.not_false, push_cast, simprocAttr])
    refine at_ret ?_; simp only [Tryz.results167, push_cast, simprocAttr]
    simp [vX, st00]
  | true =>
    rw [hv] at h
    simp only [Bool.true_and] at h
    (try simp only [hv, Bool.not_true, push_cast, simprocAttr])
    (refine at_call ?_; (try simp only [push_cast, simprocAttr]); refine rwc_v (hC) (go_on ?_); (try simp only [push_cast, simprocAttr]))
    (try simp only [h, Bool.not_false, push_cast, simprocAttr])
    refine at_ret ?_; simp only [Tryz.results167, push_cast, simprocAttr]
    simp [vX, st00]
theorem specSiteDo_pc1 (s : St) (hs : SmS s) (c : Cm) (hp : c.p.length < 4294967281) (hv : siteV s = true) (hc : cmV c = true) : PC Tryz.prog 167 [stA' s, cmdA c] (doR s c) := by
  have hV := specSiteValid_pc s hs
  have hC := specCommandValid_pc c hp
  have hb : s.base.length < 4294967281 := by have := hs.t.n; omega
  have hl : s.log.length < 4294967280 := hs.l.n
  have hK := l41Copy_pc s hb (by omega)
  have hl20 : s.log.length ≤ 20 := by
    obtain ⟨t, L, h⟩ := (siteV_iff s).1 hv
    exact lV_len h.lv
  have hV2 := specSiteValid_pc ⟨s.ep, s.base, s.log ++ [c]⟩ ⟨hs.t, ⟨by simp; omega, fun d hd => by
    rcases List.mem_append.1 hd with hd | hd
    · exact hs.l.p d hd
    · simp only [List.mem_singleton] at hd
      subst hd
      exact hp⟩⟩
  rw [siteV_add hv hc] at hV2
  generalize hB : ((apC (siteT s) c).isSome && decide (s.log.length ≠ 20)) = B at hV2
  unfold stA' stC at hV hK hV2 ⊢
  unfold cmdA cmC at hC ⊢
  unfold stO at hK
  have ee : (s.log ++ [c]).length = s.log.length + 1 := by simp
  have happ : s.log.map cmC ++ [[sA c.p, iA c.a.k, iA c.a.v, iA c.b.k, iA c.b.v]] = (s.log ++ [c]).map cmC := by rw [List.map_append]; rfl
  refine pc_enter Tryz.func167 rfl rfl fun w0 fb => go_on ?_; (try simp only [Tryz.ntmps167, push_cast, simprocAttr])
  (refine at_call ?_; (try simp only [push_cast, simprocAttr]); refine rwc_v (hV) (go_on ?_); (try simp only [push_cast, simprocAttr]))
  (try simp only [hv, Bool.not_true, push_cast, simprocAttr])
  (refine at_call ?_; (try simp only [push_cast, simprocAttr]); refine rwc_v (hC) (go_on ?_); (try simp only [push_cast, simprocAttr]))
  (try simp only [hc, Bool.not_true, push_cast, simprocAttr])
  (refine at_call ?_; (try simp only [push_cast, simprocAttr]); refine rwc_r (hK) (by simp [flatV, flatL]) (flat_nc _ _) (by simp [frB, baseOf]) (go_on ?_); (try simp only [push_cast, simprocAttr]))
  refine at_chk (by omega) ?_
  (try simp only [happ, push_cast, simprocAttr])
  refine at_call ?_
  simp only [ee, push_cast, simprocAttr]
  refine rwc_v hV2 (go_on ?_)
  (try simp only [push_cast, simprocAttr])
  cases B with
  | false =>
    have e := do_no hv hc (c := c) (by
      rcases Bool.eq_false_or_eq_true (apC (siteT s) c).isSome with h1 | h1
      · rw [h1] at hB; simp at hB; exact .inr hB
      · exact .inl h1)
    (try simp only [Bool.not_false, push_cast, simprocAttr])
    (refine at_call ?_; (try simp only [push_cast, simprocAttr]); refine rwc_r (hK) (by simp [flatV, flatL]) (flat_nc _ _) (by simp [frB, baseOf]) (go_on ?_); (try simp only [push_cast, simprocAttr]))
    refine at_ret ?_; simp only [Tryz.results167, push_cast, simprocAttr]
    simp [doR, rX, e, stO, ixOf]
  | true =>
    simp only [Bool.and_eq_true, decide_eq_true_eq] at hB
    have e := do_ok hv hc hB.1 hB.2
    (try simp only [Bool.not_true, push_cast, simprocAttr])
    refine at_ret ?_; simp only [Tryz.results167, push_cast, simprocAttr]
    simp [doR, rX, e, stO, ixOf]
/-- spec.SiteDo, read as data. -/
theorem specSiteDo_d (s : St) (hs : SmS s) (c : Cm) (hp : c.p.length < 4294967281) : PC Tryz.prog 167 [stA' s, cmdA c] (vX (.tup [stA' (siteDo s c).1, bA (siteDo s c).2])) := by
  cases h : siteV s && cmV c with
  | false =>
    rw [SiteDo_bad h]
    refine (specSiteDo_pc0 s hs c hp h).less fun h loc w v hg => hg.tup2 rfl fun j x y u h1 h2 h3 => ?_
    rcases j with _ | _ | j
    · cases h1; cases h2; exact nil_st0 h3
    · cases h1; cases h2; exact h3
    · cases h1
  | true =>
    simp only [Bool.and_eq_true] at h
    have := (specSiteDo_pc1 s hs c hp h.1 h.2).frzX
    simpa [viewN, hpOf, hget, stO, stA', stC, isC, tk] using this
end Go.Proofs.YtdjglbedimpldaaGreatDoor
/-
  The abstract machine: a region that draws its order, one call within that borrows rows.
-/
namespace Go.Proofs.YtdjglbedimpldaaGreatDoor
open Go Go.RowKit

section
variable {P : Program}
variable {w0 : World} {lent : Lent} {Q : Exit → Act → World → Prop}
end

end Go.Proofs.YtdjglbedimpldaaGreatDoor
/-
  The abstract machine: a drawn region with one call that borrows a row, run as its text stands.
-/
namespace Go.Proofs.YtdjglbedimpldaaGreatDoor
open Go Go.RowKit

section
variable {P : Program} {w0 : World} {lent : Lent} {Q : Exit → Act → World → Prop}
end

end Go.Proofs.YtdjglbedimpldaaGreatDoor
/-
  Walks: the sides that the laws draw (DrawSiteDo).
-/
namespace Go.Proofs.YtdjglbedimpldaaGreatDoor
open Go Go.RowKit Go.Proofs
theorem at_shareD {P : Program} {K : List E → AS → Prop} {f : FuncId} {args : List AV} {o : SO} {l : List SO} {evs : List E} {s : AS} {x : AV} (hc : args.all isC2 = true) (hx : ren (baseOf o.dst) x = x) (hpc : PC P f args (vX x))
    (hk : RDp P K (runD P l (evs ++ [mkE o s x none []]) (s.put o.dst x))) : RDp P K (.call f args o l evs s) := by
  refine ⟨x, [], .inr ⟨hc, hpc⟩, frB_0 _ _, ?_⟩
  rw [hx]
  exact runD_sound _ _ _ (by simpa only [hpOf, hsets] using hk)
theorem tV_siteT (s : St) : tV (siteT s) = true := by
  cases h : siteV s with
  | true => exact (law_siteTree h).2.2
  | false => simp [siteT, h, tV, sortP]
attribute [local irreducible] RWp AW run kPe pe Kt effA gd gu br retR RDp runD kPeD brW gW effD
set_option maxRecDepth 100000
end Go.Proofs.YtdjglbedimpldaaGreatDoor
/-
  Walks: what the functions of sides leave, read as data.
-/
namespace Go.Proofs.YtdjglbedimpldaaGreatDoor
open Go Go.RowKit Go.Proofs
theorem SiteTree_d (s : St) (hs : SmS s) : PC Tryz.prog 41 [stA' s] (vX (ndA (siteT s))) := by
  have := (SiteTree_pc s hs).frzX
  simpa [viewN, hpOf, hget, isC, tk] using this
theorem siteDo_sm {s : St} (hs : SmS s) {c : Cm} (hp : c.p.length < 4294967281) : SmS (siteDo s c).1 := by
  unfold siteDo
  split
  · rename_i h
    simp only [Bool.and_eq_true] at h
    obtain ⟨t, L, h3⟩ := (siteV_iff s).1 h.1
    have := lV_len h3.lv
    split
    · refine ⟨hs.t, ⟨by simp; omega, fun d hd => ?_⟩⟩
      rcases List.mem_append.1 hd with hd | hd
      · exact hs.l.p d hd
      · simp only [List.mem_singleton] at hd
        subst hd
        exact hp
    · exact hs
  · exact ⟨⟨⟨by simp [st0], by simp [st0]⟩, by simp [st0]⟩, ⟨by simp [st0], by simp [st0]⟩⟩
end Go.Proofs.YtdjglbedimpldaaGreatDoor
/-
  Walks: marks in a side.
-/
namespace Go.Proofs.YtdjglbedimpldaaGreatDoor
open Go Go.RowKit Go.Proofs
def markS (s : St) (k : Nat) (rv : AV) (lr' rows : List Row) : Prop := rv = iA ((k + 3 * s.base.length + 5 * s.log.length : Nat) : Int) ∧ lr' = [rowN (mkN k s.base), rowC (mkC (k + 3 * s.base.length) s.log)] ∧ rows = []
attribute [local irreducible] RWp AW run kPe pe Kt effA gd gu br retR RDp runD kPeD brW gW effD
set_option maxRecDepth 100000
theorem toSite_d (s : St) (h1 : s.base.length ≤ 1048576) (h2 : s.log.length ≤ 1048576) : PC Tryz.prog 20 [stA' s] (vX (stA' s)) := by
  have := (toSite_pc s h1 h2).frzX
  simpa [viewN, hpOf, hget, stO, stA', stC, isC, tk] using this
theorem markSite_pcl (s : St) (k : Nat) (h0 : 0 < k) (hk : k + 3 * s.base.length + 5 * s.log.length ≤ 4611686018427387904) : PCL Tryz.prog 23 [rowN s.base, rowC s.log] (mvF none) [stO s, iA k] (markS s k) := by
  have hN := markNodeS_pcl s.base k h0 (by omega)
  have hC := markCommandS_pcl s.log (k + 3 * s.base.length) (by omega) (by omega)
  unfold stO
  refine pcl_enter Tryz.func23 rfl rfl (by simp) fun w0 fb loc => go_on ?_; simp only [Tryz.ntmps23, hpL, nmL, mvF, renL, decide_true, decide_false, push_cast, simprocAttr]
  (try simp only [push_cast, simprocAttr]); refine call_lend [500000] none (lr := [rowN s.base]) (by simp [ndB]) (by first | rfl | simp [rowsOf, hget, rdR, rowS, rowN, rowC, sC, ndC, cmC]) (by simp [idsL, idsA]) (by simp [mvN]) (by simpa [rnA, ixOf] using hN) ?_
  rintro rv lr' rows ⟨rfl, rfl, rfl⟩
  (refine ⟨by simp [shB, mvF, rdR, rowS, rowN, rowC, mkN_len], by simp [frB, baseOf], go_on ?_⟩; simp only [killA, killH, killRow, push_cast, simprocAttr])
  push_cast at hC
  (try simp only [push_cast, simprocAttr]); refine call_lend [500001] none (lr := [rowC s.log]) (by simp [ndB]) (by first | rfl | simp [rowsOf, hget, rdR, rowS, rowN, rowC, sC, ndC, cmC]) (by simp [idsL, idsA]) (by simp [mvN]) (by simpa [rnA, ixOf] using hC) ?_
  rintro rv lr' rows ⟨rfl, rfl, rfl⟩
  (refine ⟨by simp [shB, mvF, rdR, rowS, rowN, rowC, mkC_len], by simp [frB, baseOf], go_on ?_⟩; simp only [killA, killH, killRow, push_cast, simprocAttr])
  have hfin : markS s k (iA ((k + 3 * s.base.length + 5 * s.log.length : Nat) : Int)) [rowN (mkN k s.base), rowC (mkC (k + 3 * s.base.length) s.log)] [] := ⟨rfl, rfl, rfl⟩
  push_cast at hfin
  (try simp only [push_cast, simprocAttr])
  (refine at_retL ?_; simp only [Tryz.results23, retL, push_cast, simprocAttr]; simpa [show List.range 1 = [0] from rfl, show List.range 2 = [0, 1] from rfl, show List.range 3 = [0, 1, 2] from rfl, nmL, mvF, ndB, ixOf, rowsOf, hget, rdR, rowS, rowN, rowC] using  hfin)
end Go.Proofs.YtdjglbedimpldaaGreatDoor
/-
  Walks: slices.DeleteFunc at commands.
-/
namespace Go.Proofs.YtdjglbedimpldaaGreatDoor
open Go Go.RowKit Go.Proofs
attribute [local irreducible] RWp AW run kPe pe Kt effA gd gu br retR RDp runD kPeD brW gW effD
set_option maxRecDepth 100000
def delC (f : List Cm) (rv : AV) (lr' rows : List Row) : Prop := rv = .o 0 f.length ∧ lr' = [rowC f] ∧ rows = []
theorem DeleteFuncC_pcl (l : List Cm) (hl : l.length < 4294967281) (g : FuncId) (caps : List AV) (hc : caps.all isC = true) (p : Cm → Bool) (hp : ∀ n ∈ l, PC Tryz.prog g (cmdA n :: caps) (vB (p n))) :
    PCL Tryz.prog 149 [rowC l] (mvF (some 0)) [.o 0 l.length, .fn g caps] (delC (l.filter fun n => !p n)) := by
  refine pcl_enter Tryz.func149 rfl rfl (by simp) fun w0 fb loc => go_on ?_
  (try simp only [Tryz.ntmps149, hpL, nmL, mvF, renL, closed_renL hc, decide_true, decide_false, push_cast, simprocAttr])
  refine at_call ?_
  simp only [List.map_cons, List.map_nil, view_fn 2, closed_view hc]
  (try simp only [push_cast, simprocAttr])
  refine rwc_v (IndexFuncC_pc l hl g caps hc p hp) (go_on ?_)
  rcases idxF_spec p l 0 with ⟨h1, h2⟩ | ⟨j, n, h1, h2, h3⟩
  · rw [h1]
    (try simp only [push_cast, simprocAttr])
    refine at_retL ?_
    simp only [Tryz.results149, retL, push_cast, simprocAttr]
    have hf : l.filter (fun n => !p n) = l := by
      rw [List.filter_eq_self]
      intro a ha
      have := List.find?_eq_none.1 h2 a ha
      simpa using this
    simp [show List.range 1 = [0] from rfl, nmL, mvF, ndB, ixOf, rowsOf, hget, delC, hf]
  · rw [h1, Nat.zero_add]
    have i0 : eqI (j : Int) (-1) = false := eqI_f (by omega)
    have hj := lt_of_some h2
    have w1 := wr ((j : Int) + 1) (by omega)
    (try simp only [i0, w1, push_cast, simprocAttr])
    have hpn : p n = true := by have := List.find?_some h3; exact this
    obtain ⟨kp, hkp⟩ : ∃ kp : Nat → List Cm, kp = fun i => (l.take i).filter fun n => !p n := ⟨_, rfl⟩
    have k1 : ∀ i a, l[i]? = some a → kp (i + 1) = kp i ++ (if p a then [] else [a]) := by
      intro i a ha
      rw [hkp]
      simp only
      rw [List.take_add_one, ha, List.filter_append]
      cases hpa : p a <;> simp [hpa]
    have kl : ∀ i, (kp i).length ≤ i := fun i => by rw [hkp]; exact Nat.le_trans (List.length_filter_le _ _) (by rw [List.length_take]; omega)
    have kj : kp j = l.take j := by rw [hkp]; exact idxF_take p l 0 j h1
    have kj1 : kp (j + 1) = l.take j := by rw [k1 j n h2, hpn, kj]; simp
    have kn : kp l.length = l.filter fun n => !p n := by rw [hkp]; simp
    have e0 : kp (j + 1) ++ [n] ++ l.drop (j + 1) = l := by
      rw [kj1, List.append_assoc, List.singleton_append, ← drop_of_get h2, List.take_append_drop]
    have e1 : (kp (j + 1)).length = j := by rw [kj1, List.length_take]; omega
    refine at_loop (X := Nat × List Cm) (fun x => [(5, iA (kp x.1).length), (6, iA x.1)]) (fun x => [(600000, rowC (kp x.1 ++ x.2 ++ l.drop x.1)), (4, rowC [])])
      (fun x => x.1 ≤ l.length ∧ (kp x.1).length + x.2.length = x.1 ∧ 0 < x.2.length) (fun x => l.length - x.1) (j + 1, [n]) ⟨by dsimp only; omega, by dsimp only; rw [e1]; rfl, by simp⟩ ?_ ?_
    · simp only [e0, e1]
      (refine wk_ok ?_ ?_ ?_ ?_ <;> simp [closed_ids hc, leL, leH, idsL, idsA, idsR, inH, hget, sameRow, upA, hvA, dsts, dstO, setA_0, setA_1, setA_8, List.append, List.cons_append, List.nil_append])
    · rintro ⟨q, M⟩ ⟨q1, q2, q3⟩
      simp only at q1 q2 q3
      simp only [upA, hvA, dsts, dstO, setA_0, setA_1, setA_8, List.append, List.cons_append, List.nil_append]
      refine go_on_n 11 ?_
      (try simp only [run_0, push_cast, simprocAttr])
      obtain ⟨y, M1, rfl⟩ : ∃ y M1, M = y :: M1 := by
        cases M with
        | nil => simp at q3
        | cons y M1 => exact ⟨y, M1, rfl⟩
      simp only [List.length_cons] at q2
      refine at_b (fun hg => ?_) (fun hg => ?_)
      · have hlt := lt_tt hg
        obtain ⟨x, hx⟩ := get_of_lt hlt
        obtain ⟨R, hRR⟩ : ∃ R, R = kp q ++ y :: M1 ++ l.drop q := ⟨_, rfl⟩
        have hRq : R[q]? = some x := by
          rw [hRR, drop_of_get hx, List.getElem?_append_right (by simp; omega)]
          simp
          rw [show q - ((kp q).length + (M1.length + 1)) = 0 by omega]
          rfl
        have hRi : R[(kp q).length]? = some y := by
          rw [hRR, List.append_assoc, List.getElem?_append_right (Nat.le_refl _)]
          simp
        have hRl : R.length = l.length := by rw [hRR]; simp; omega
        have i1 := ix_n hx
        have i2 := map_get cmC hRq
        have i3 : toIx ((kp q).length : Int) l.length = some (kp q).length := by
          have := ix_n hRi
          rw [hRl] at this
          exact this
        have i4 := map_get cmC hRi
        simp only [cmC] at i2 i4
        have w2 := wr ((q : Int) + 1) (by omega)
        have w3 := wr (((kp q).length : Int) + 1) (by omega)
        rw [← hRR]
        (try simp only [hg, run_0, push_cast, simprocAttr])
        refine at_more (go_on ?_)
        (try simp only [hg, i1, i2, push_cast, simprocAttr])
        refine at_call ?_
        simp only [List.map_cons, List.map_nil, closed_view hc]
        (try simp only [push_cast, simprocAttr])
        refine rwc_v (hp x (mem_of_get hx)) (go_on ?_)
        (try simp only [push_cast, simprocAttr])
        refine at_b (fun hd => ?_) (fun hd => ?_)
        · have hpx := not_t hd
          have hk2 : kp (q + 1) = kp q ++ [x] := by rw [k1 q x hx, hpx]; simp
          have hset : R.set (kp q).length x = kp (q + 1) ++ (M1 ++ [x]) ++ l.drop (q + 1) := by
            rw [hRR, hk2, drop_of_get hx]
            simp
          (try simp only [hd, i3, i4, w2, w3, push_cast, simprocAttr])
          have hs : (List.map cmC R).set (kp q).length [sA x.p, iA x.a.k, iA x.a.v, iA x.b.k, iA x.b.v] = List.map cmC (kp (q + 1) ++ (M1 ++ [x]) ++ l.drop (q + 1)) := by rw [← hset, List.map_set]; rfl
          have hl2 : (((kp (q + 1)).length : Nat) : Int) = (kp q).length + 1 := by rw [hk2]; simp
          refine at_fin ⟨(q + 1, M1 ++ [x]), ⟨by dsimp only; omega, by rw [hk2]; simp; omega, by simp⟩, by dsimp only; omega, ?_⟩
          rw [hs]
          (refine wk_ok ?_ ?_ ?_ ?_ <;> simp [closed_ids hc, hl2, leL, leH, idsL, idsA, idsR, inH, hget, sameRow, upA, hvA, dsts, dstO, setA_0, setA_1, setA_8, List.append, List.cons_append, List.nil_append])
        · have hpx := not_f hd
          have hk2 : kp (q + 1) = kp q := by rw [k1 q x hx, hpx]; simp
          have hs : R = kp (q + 1) ++ (y :: M1 ++ [x]) ++ l.drop (q + 1) := by
            rw [hRR, hk2, drop_of_get hx]
            simp
          (try simp only [hd, w2, push_cast, simprocAttr])
          refine at_fin ⟨(q + 1, y :: M1 ++ [x]), ⟨by dsimp only; omega, by rw [hk2]; simp; omega, by simp⟩, by dsimp only; omega, ?_⟩
          simp only [← hs]
          (refine wk_ok ?_ ?_ ?_ ?_ <;> simp [closed_ids hc, hk2, leL, leH, idsL, idsA, idsR, inH, hget, sameRow, upA, hvA, dsts, dstO, setA_0, setA_1, setA_8, List.append, List.cons_append, List.nil_append])
      · have hq := lt_ff hg
        have hq1 : q = l.length := by omega
        subst hq1
        (try simp only [hg, run_0, push_cast, simprocAttr])
        refine at_more (go_on_n 3 ?_)
        (try simp only [run_0, push_cast, simprocAttr])
        refine at_more ?_
        have hRl : (kp l.length ++ y :: M1 ++ l.drop l.length).length = l.length := by simp; omega
        refine aw_slclear (row := rowC (kp l.length ++ y :: M1 ++ l.drop l.length)) (r := 600000) (n := l.length) (i := (kp l.length).length) rfl rfl (by simp) (by simp [hget]) (by simp only [List.length_map]; exact hRl.symm) (by omega) ty24 rfl ty53 rfl rfl rfl rfl (fun w => ⟨_, rfl, rfl⟩) (go_on ?_)
        have hki : ((kp l.length).length : Int) ≤ l.length := by have := kl l.length; omega
        (try simp only [hki, push_cast, simprocAttr])
        have hes : (List.take (kp l.length).length (List.map cmC (kp l.length ++ y :: M1 ++ l.drop l.length)) ++ List.replicate (l.length - (kp l.length).length) [AV.any, AV.any, AV.any, AV.any, AV.any]).take (kp l.length).length = (kp l.length).map cmC := by
          rw [List.append_assoc, List.map_append, List.take_append_of_le_length (by simp), List.take_take, Nat.min_self, List.take_append_of_le_length (by simp), take_map]
        refine ret_wk (wk_trunc 600000 (kp l.length).length (by simp only [hget]; rfl) (by simp) (by simp)) ?_
        refine at_retL ?_
        simp only [Tryz.results149, retL, hes, okT, Nat.le_refl, push_cast, decide_true, simprocAttr]
        simp [show List.range 1 = [0] from rfl, nmL, mvF, ndB, ixOf, rowsOf, hget, delC, kn]
end Go.Proofs.YtdjglbedimpldaaGreatDoor
/-
  Walks: slices.SortFunc at commands.
-/
namespace Go.Proofs.YtdjglbedimpldaaGreatDoor
open Go Go.RowKit Go.Proofs
open Go.Sort (grow SWO PermIn SortedIn)
instance : Inhabited Cm := ⟨cm0⟩
def encC (c : Cm) : List Value := [sV c.p, .int .i64 c.a.k, .int .i64 c.a.v, .int .i64 c.b.k, .int .i64 c.b.v]
def cmpS (a b : Str) : Int := if slt a b then -1 else if slt b a then 1 else 0
def cfC (c d : Cm) : Int := if cEnds c && cEnds d then cmpS d.p c.p else if cEnds c then -1 else if cEnds d then 1 else cmpS c.p d.p
theorem cmpS_lt (a b : Str) : decide (cmpS a b < 0) = slt a b := by
  unfold cmpS
  cases slt a b <;> cases slt b a <;> rfl
theorem ltOf_cf (c d : Cm) : ltOf cfC c d = cLt c d := by
  unfold ltOf cfC cLt
  cases cEnds c <;> cases cEnds d <;> simp [cmpS_lt]
theorem cLt_trans {a b c : Cm} (h1 : cLt a b = true) (h2 : cLt b c = true) : cLt a c = true := by
  have h3 := cLt_asymm h2
  cases h : cLt a c with
  | true => rfl
  | false =>
    have := cLt_neg_trans (a := b) (b := c) (c := a) h3 h
    rw [h1] at this
    cases this
theorem swoC : SWO (ltOf cfC) where
  irrefl x := by rw [ltOf_cf]; exact cLt_irrefl x
  trans x y z h1 h2 := by rw [ltOf_cf] at *; exact cLt_trans h1 h2
  ntrans x y z h1 h2 := by rw [ltOf_cf] at *; exact cLt_neg_trans (a := z) (b := y) (c := x) h2 h1
theorem gtr_slt (a b : Str) : (!(Op.bytesLess a b || a == b)) = slt b a := by
  show (!(slt a b || a == b)) = slt b a
  by_cases h : a = b
  · subst h; simp [slt_irrefl]
  · cases h1 : slt a b with
    | true => simp [slt_asymm h1]
    | false => simp [slt_of_ne h h1, h]
set_option maxRecDepth 100000
set_option maxHeartbeats 1000000
theorem nan_c (a : Str) (W : World) : Calls Tryz.prog 194 #[sV a] W fun e w' => e = .returned (.bool false) ∧ w' = W := by
  go_enter Tryz.func194, Tryz.ntmps194
  go_wp2
  go_ret
  exact ⟨rfl, rfl⟩
theorem cmpS_c (a b : Str) (W : World) : Calls Tryz.prog 159 #[sV a, sV b] W fun e w' => e = .returned (.int .i64 (cmpS a b)) ∧ w' = W := by
  have h1 := nan_c a
  have h2 := nan_c b
  have hgt : ∀ W, (binOp .gtr 9 (sV a) (sV b)).run Tryz.prog W = .ok (.bool (slt b a)) W := fun W => by
    have : binOp .gtr 9 (sV a) (sV b) = pure (.bool !(Op.bytesLess a b || a == b)) := by simp [binOp, Op.stringOp, ba_list]
    rw [this, gtr_slt]
    rfl
  have hlt : Op.bytesLess a b = slt a b := rfl
  go_enter Tryz.func159, Tryz.ntmps159
  go_wp2_with (go_at_call 194; first | (refine (h1 _).mono ?_; rintro e w' ⟨rfl, rfl⟩) | (refine (h2 _).mono ?_; rintro e w' ⟨rfl, rfl⟩))
  all_goals go_ret
  all_goals refine ⟨?_, rfl⟩
  all_goals simp [cmpS, *]
theorem ends_c (c : Cm) (W : World) : Calls Tryz.prog 158 #[.agg #[sV c.p, .int .i64 c.a.k, .int .i64 c.a.v, .int .i64 c.b.k, .int .i64 c.b.v]] W fun e w' => e = .returned (.bool (cEnds c)) ∧ w' = W.alloc (.cells #[sV c.p, .int .i64 c.a.k, .int .i64 c.a.v, .int .i64 c.b.k, .int .i64 c.b.v] 53) := by
  have hc : cEnds c = (decide (c.b.k = 0) || decide (c.a.k = 1)) := rfl
  go_enter Tryz.func158, Tryz.ntmps158
  go_wp2
  all_goals go_ret
  · refine ⟨?_, by simp [*]⟩
    show Ending.returned (Value.bool true) = _
    simp [hc, *]
  · refine ⟨?_, rfl⟩
    show Ending.returned (Value.bool (c.b.k == 0 || c.a.k == 1)) = _
    rw [hc]
    congr 2
theorem canonOrder_c (c d : Cm) (W : World) : Calls Tryz.prog 110 #[.agg #[sV c.p, .int .i64 c.a.k, .int .i64 c.a.v, .int .i64 c.b.k, .int .i64 c.b.v], .agg #[sV d.p, .int .i64 d.a.k, .int .i64 d.a.v, .int .i64 d.b.k, .int .i64 d.b.v]] W fun e w' =>
    e = .returned (.int .i64 (cfC c d)) ∧ ∃ q os', w' = grow (W.drewN q) os' := by
  have h1 := ends_c c
  have h2 := ends_c d
  have h3 := cmpS_c c.p d.p
  have h4 := cmpS_c d.p c.p
  have hf : cfC c d = if cEnds c && cEnds d then cmpS d.p c.p else if cEnds c then -1 else if cEnds d then 1 else cmpS c.p d.p := rfl
  generalize cfC c d = r at hf ⊢
  generalize cmpS c.p d.p = x at h3 hf
  generalize cmpS d.p c.p = y at h4 hf
  generalize cEnds c = u at h1 hf
  generalize cEnds d = v at h2 hf
  subst hf
  go_enter Tryz.func110, Tryz.ntmps110
  go_wp2_with (first
    | (go_at_call 158; first | (with_reducible refine (h1 _).mono ?_; rintro e w' ⟨rfl, rfl⟩) | (with_reducible refine (h2 _).mono ?_; rintro e w' ⟨rfl, rfl⟩))
    | (go_at_call 159; first | (with_reducible refine (h3 _).mono ?_; rintro e w' ⟨rfl, rfl⟩) | (with_reducible refine (h4 _).mono ?_; rintro e w' ⟨rfl, rfl⟩)))
  all_goals go_ret
  all_goals exact ⟨rfl, 0, _, by simp only [Go.Sort.alloc_eq_grow, Go.Sort.grow_grow]; rfl⟩
theorem lays_c (blk off size : Nat) (w : World) : CmpLays Tryz.prog 110 #[] encC 5 cfC blk off size w := fun _ _ _ _ x y => canonOrder_c x y _
end Go.Proofs.YtdjglbedimpldaaGreatDoor
/-
  Walks: slices.SortFunc at commands: a contract with a lent row.
-/
namespace Go.Proofs.YtdjglbedimpldaaGreatDoor
open Go Go.RowKit Go.Proofs
open Go.Sort (grow SWO PermIn SortedIn)
theorem cOrd_of : ∀ {l : List Cm}, l.Pairwise (fun a b => cLt b a = false) → cOrd l = true
  | [], _ => rfl
  | a :: l, h => by
    rw [List.pairwise_cons] at h
    exact cOrd_mk (cOrd_of h.2) h.1
def sortD (l : List Cm) (rv : AV) (lr' rows : List Row) : Prop := ∃ l' : List Cm, l'.Perm l ∧ cOrd l' = true ∧ rv = .tup [] ∧ lr' = [rowC l'] ∧ rows = []
theorem encC_cm (c : Cm) (j : Nat) (x : AV) (h : (cmC c)[j]? = some x) : x = .v ((encC c)[j]!) ∧ ((encC c)[j]!).oneCell' = true ∧ j < 5 := by
  rcases j with _ | _ | _ | _ | _ | j
  · cases h; exact ⟨rfl, rfl, by omega⟩
  · cases h; exact ⟨rfl, rfl, by omega⟩
  · cases h; exact ⟨rfl, rfl, by omega⟩
  · cases h; exact ⟨rfl, rfl, by omega⟩
  · cases h; exact ⟨rfl, rfl, by omega⟩
  · simp [cmC] at h
theorem encC_get (c : Cm) (j : Nat) (h : j < 5) : (cmC c)[j]? = some (.v ((encC c)[j]!)) := by
  rcases j with _ | _ | _ | _ | _ | j
  · rfl
  · rfl
  · rfl
  · rfl
  · rfl
  · omega
set_option maxRecDepth 100000
set_option maxHeartbeats 1000000
theorem SortC_pcl (l : List Cm) (hl : l.length < 4294967281) : PCL Tryz.prog 109 [rowC l] (mvF none) [.o 0 l.length, .fn 110 []] (sortD l) := by
  refine ⟨fun vs W => enters_of Tryz.func109 (by kernel_rfl) rfl vs W, fun w fb loc vs hlw hs hg => ?_⟩
  have h0 := hg 0 _ rfl
  have h1 := hg 1 _ rfl
  obtain ⟨cs, hv1, hcs, _⟩ := h1.fn_inv
  obtain rfl : cs = #[] := Array.eq_empty_of_size_eq_zero hcs
  have hvs : vs = #[vs.getD 0 undef, vs.getD 1 undef] := by
    apply Array.ext
    · simpa using hs
    · intro i h1 h2
      have : i < 2 := by simpa using h2
      rcases i with _ | _ | i
      · simp [Array.getD, h1]
      · simp [Array.getD, h1]
      · omega
  rw [hv1] at hvs
  generalize vs.getD 0 undef = v0 at h0 hvs
  subst hvs
  clear hs hg hv1 h1 hcs
  have hrow : hget (hpOf 0 [rowC l]) 0 = some (rowC l) := rfl
  generalize hL : l.length = L at h0
  cases h0 with
  | cl hc => cases hc
  | @onil _ row hr hl' =>
    obtain rfl : l = [] := List.eq_nil_of_length_eq_zero hL
    have hcon := AnyF.slices_SortFunc_none Tryz.sortC none 0 (.func (.func 110) #[] #[]) w
    change Calls Tryz.prog 109 _ _ _ at hcon
    refine hcon.mono ?_
    rintro e w' ⟨rfl, rfl⟩
    refine ⟨.tup [], [rowC []], [], _, loc, ⟨[], List.Perm.refl _, rfl, rfl, rfl, rfl⟩, rfl, ⟨rfl, rfl, rfl, rfl, Nat.le_refl _, fun _ _ _ => rfl, hlw.fbe, fun _ _ _ => rfl, .tup #[] rfl (fun j a ha => by simp at ha), hlw.rw, hlw.inj, fun r row b c h1 h2 => .inr ⟨r, row, c, h1, h2⟩⟩⟩
  | @o _ _ row b c hr hl' hn =>
    subst hL
    rw [hrow] at hr
    cases hr
    obtain ⟨hlen, hn', hm, cur, hh, hsz, hcells⟩ := (hlw.rw 0 _ hrow).2.open hl'
    simp only [List.length_map] at hn hn'
    have hcm : ∀ (k : Nat) (hk : k < l.length) (j : Nat), j < 5 → cur[k * 5 + j]? = some ((encC l[k])[j]!) := fun k hk j hj => by
      obtain ⟨u, g1, _, g3, _⟩ := hcells k (cmC l[k]) j _ (by simp [List.getElem?_eq_getElem hk]) (encC_get _ j hj)
      rw [g1, g3.v_inv]
    have hH : Go.Sort.HoldsK encC 5 w b 0 l.toArray := by
      intro j hj
      rw [Go.Sort.size_flatK] at hj
      have hj' : j < l.length * 5 := by simpa using hj
      have hk : j / 5 < l.length := by omega
      rw [Nat.zero_add]
      refine ⟨?_, by simp [World.frozen?, hh]⟩
      have := hcm (j / 5) hk (j % 5) (by omega)
      rw [show j / 5 * 5 + j % 5 = j by omega] at this
      simp only [World.cell?, hh, Option.isSome_none, Bool.false_eq_true, if_false, id]
      rw [this, Go.Sort.get_flatK _ _ _ _ hj]
      congr 3
      simp [hk]
    have hblk : b < w.heap.size := by
      rcases Nat.lt_or_ge b w.heap.size with h | h
      · exact h
      · rw [Array.getElem?_eq_none h] at hh; cases hh
    have eg : ∀ args w, (callFunc 110 args).run Tryz.prog w = .ok (.enter 110 args) w := enters_of Tryz.func110 (by kernel_rfl) rfl
    have hcon := AnyQ.slices_SortFunc Tryz.sortC 5 Tryz.isAgg53 Tryz.sizeOf53 encC (fun _ => rfl) (fun x v hv => by simp [encC] at hv; rcases hv with rfl | rfl | rfl | rfl | rfl <;> rfl) cfC swoC 110 #[] b 0 c l.toArray w eg (lays_c b 0 _ w) hH hblk (by simp; omega)
    change Calls Tryz.prog 109 _ _ _ at hcon
    rw [show l.toArray.size = l.length from by simp] at hcon
    refine hcon.mono ?_
    rintro e w' ⟨rfl, d', n, os, hp, hsd, rfl⟩
    obtain ⟨hps, _, hpp⟩ := hp
    have hps' : d'.size = l.length := by simpa using hps
    have hperm : d'.toList.Perm l := by
      have e1 : d'.extract 0 l.length = d' := by rw [← hps']; simp
      have e2 : l.toArray.extract 0 l.length = l.toArray := by simp
      rw [e1, e2] at hpp
      simpa using hpp
    have hord : cOrd d'.toList = true := by
      apply cOrd_of
      rw [List.pairwise_iff_getElem]
      intro i j hi hj hij
      have := hsd i j (Nat.zero_le _) hij (by simpa [hps'] using hj)
      rw [ltOf_cf] at this
      simp only [Array.length_toList] at hi hj
      simpa [hi, hj] using this
    generalize hd : d'.toList = l' at hperm hord
    have hdl : l'.length = l.length := by rw [← hd, Array.length_toList, hps']
    refine ⟨.tup [], [rowC l'], [], _, loc, ⟨l', hperm, hord, rfl, rfl, rfl⟩, rfl, ?_⟩
    have hbh : (sortWorldK encC 5 w b 0 n d' os).heap[b]? = some (.cells (Go.Sort.putCells id 0 (Go.Sort.flatK encC 5 d') cur) 53 (0, 0)) := by
      unfold sortWorldK
      show ((Go.Sort.putRowK encC 5 (Go.Sort.ahead w n) b 0 d').heap ++ os)[b]? = _
      rw [Array.getElem?_append_left (by rw [Go.Sort.size_putRowK]; exact hblk)]
      unfold Go.Sort.putRowK Go.Sort.putRow Go.Sort.mapBlock
      simp only [Array.getElem?_modify, if_true]
      show Option.map _ w.heap[b]? = _
      rw [hh]
      rfl
    have hbk : ∀ k, k < w.heap.size → k ≠ b → (sortWorldK encC 5 w b 0 n d' os).heap[k]? = w.heap[k]? := fun k hk hne => by
      unfold sortWorldK
      show ((Go.Sort.putRowK encC 5 (Go.Sort.ahead w n) b 0 d').heap ++ os)[k]? = _
      rw [Array.getElem?_append_left (by rw [Go.Sort.size_putRowK]; exact hk)]
      unfold Go.Sort.putRowK Go.Sort.putRow Go.Sort.mapBlock
      simp only [Array.getElem?_modify]
      rw [if_neg (fun e => hne e.symm)]
      rfl
    have hcell : ∀ (k : Nat) (e : List AV) (j : Nat) (x : AV), (rowC l').es[k]? = some e → e[j]? = some x → ∃ u, (Go.Sort.putCells id 0 (Go.Sort.flatK encC 5 d') cur)[k * 5 + j]? = some u ∧ u.oneCell' = true ∧ x = .v u := fun k e j x he hx => by
      rw [List.getElem?_map, Option.map_eq_some_iff] at he
      obtain ⟨y, hy, rfl⟩ := he
      obtain ⟨g1, g2, g3⟩ := encC_cm y j x hx
      have hk := lt_of_some hy
      refine ⟨_, ?_, g2, g1⟩
      have hin : k * 5 + j < (Go.Sort.flatK encC 5 d').size := by rw [Go.Sort.size_flatK, hps']; omega
      have hcu : k * 5 + j < cur.size := by rw [hsz]; show _ < c * 5; omega
      unfold Go.Sort.putCells
      rw [Array.getElem?_mapIdx, Array.getElem?_eq_getElem hcu]
      simp only [Option.map_some, Option.some.injEq]
      rw [if_pos ⟨by omega, by omega⟩, Nat.sub_zero, Go.Sort.get_flatK _ _ _ _ (by rw [Go.Sort.size_flatK] at hin; exact hin)]
      rw [show (k * 5 + j) / 5 = k by omega, show (k * 5 + j) % 5 = j by omega]
      have : d'[k]! = y := by
        rw [← hd, Array.getElem?_toList] at hy
        rw [Array.getElem!_eq_getD, Array.getD_eq_getD_getElem?, hy]
        rfl
      rw [this]
      rfl
    have hc5 : (Go.Sort.putCells id 0 (Go.Sort.flatK encC 5 d') cur).size = c * 5 := by
      unfold Go.Sort.putCells
      rw [Array.size_mapIdx]
      exact hsz
    have hG : ∀ (x : AV) (u : Value), x = .v u → G (hpOf 0 [rowC l']) loc (sortWorldK encC 5 w b 0 n d' os) x u ∧ C (Live (hpOf 0 [rowC l']) loc) 0 (sortWorldK encC 5 w b 0 n d' os) x u := fun x u h => by
      subst h
      exact ⟨.cl .v, .v⟩
    have hone : ∀ r row, hget (hpOf 0 [rowC l']) r = some row → r = 0 ∧ row = rowC l' := fun r row h => by
      rcases r with _ | r
      · cases h; exact ⟨rfl, rfl⟩
      · simp [hpOf, hget] at h
    refine ⟨rfl, rfl, rfl, rfl, ?_, fun k hk hnl => hbk k hk fun e => hnl ⟨0, _, c, hrow, by rw [e]; exact hl'⟩, hlw.fbe, fun _ _ _ => rfl, .tup #[] rfl (fun j a ha => by simp at ha), fun r row h => ?_, fun r r' row row' _ _ _ h h' _ _ => ?_, fun r row b' c' h h' => ?_⟩
    · unfold sortWorldK
      show w.heap.size ≤ ((Go.Sort.putRowK encC 5 (Go.Sort.ahead w n) b 0 d').heap ++ os).size
      rw [Array.size_append, Go.Sort.size_putRowK]
      exact Nat.le_add_right _ _
    · obtain ⟨rfl, rfl⟩ := hone r row h
      refine ⟨rfl, RowOk.mk' hl' (fun k e he => ?_) (by rw [List.length_map, hdl]; exact hn') hm hbh hc5 fun k e j x he hx => ?_⟩
      · rw [List.getElem?_map, Option.map_eq_some_iff] at he
        obtain ⟨y, _, rfl⟩ := he
        rfl
      · obtain ⟨u, g1, g2, g3⟩ := hcell k e j x he hx
        exact ⟨u, g1, g2, (hG x u g3).1, fun _ => (hG x u g3).2⟩
    · rw [(hone r row h).1, (hone r' row' h').1]
    · obtain ⟨rfl, rfl⟩ := hone r row h
      rw [hl'] at h'
      cases h'
      exact .inr ⟨0, _, c, hrow, hl'⟩
end Go.Proofs.YtdjglbedimpldaaGreatDoor
/-
  Walks: impl.LogCanon.
-/
namespace Go.Proofs.YtdjglbedimpldaaGreatDoor
open Go Go.RowKit Go.Proofs
theorem idxF_first {α : Type} (p : α → Bool) : ∀ (l : List α) (k j : Nat), idxF p k l = ((k + j : Nat) : Int) → ∀ i e, i < j → l[i]? = some e → p e = false
  | [], k, j, h, _, _, _, he => by simp at he
  | a :: l, k, 0, h, i, e, hi, _ => by omega
  | a :: l, k, j + 1, h, i, e, hi, he => by
    by_cases hp : p a = true
    · simp only [idxF, hp, if_true] at h
      omega
    · have hp : p a = false := by simpa using hp
      have h' : idxF p (k + 1) l = ((k + 1 + j : Nat) : Int) := by
        rw [show idxF p k (a :: l) = idxF p (k + 1) l by simp [idxF, hp]] at h
        rw [h]; congr 1; omega
      cases i with
      | zero => simp at he; subst he; exact hp
      | succ i => exact idxF_first p l (k + 1) j h' i e (by omega) (by simpa using he)
def canD (l : List Cm) : AV → List Row → Prop := rX (.tup [.o 0 ((lCanon l).getD []).length, bA (lCanon l).isSome]) [rowC ((lCanon l).getD [])]
attribute [local irreducible] RWp AW run kPe pe Kt effA gd gu br retR RDp runD kPeD brW gW effD
set_option maxRecDepth 100000
theorem LogCanon1_pc (d : Cm) (c : Cm) : PC Tryz.prog 148 [cmdA d, .ip (cmC c)] (vB (decide (d.p = c.p))) := by
  unfold cmdA cmC
  refine pc_enter Tryz.func148 rfl rfl fun w0 fb => go_on ?_; (try simp only [Tryz.ntmps148, push_cast, simprocAttr])
  repeat' first | (refine at_b (fun hb => ?_) (fun hb => ?_) <;> simp only [hb, push_cast, simprocAttr]) | (refine at_ret ?_; simp only [Tryz.results148, push_cast, simprocAttr]) | (show RWp _ _ _ _ _; simp only [push_cast, simprocAttr])
  simp [vX]
theorem LogCanon2_pc (c : Cm) : PC Tryz.prog 150 [cmdA c] (vB (decide (c.a = c.b))) := by
  unfold cmdA cmC
  refine pc_enter Tryz.func150 rfl rfl fun w0 fb => go_on ?_; (try simp only [Tryz.ntmps150, push_cast, simprocAttr])
  repeat' first | (refine at_b (fun hb => ?_) (fun hb => ?_) <;> simp only [ctg, cth, hb, push_cast, simprocAttr]) | (refine at_ret ?_; simp only [ctg, cth, Tryz.results150, push_cast, simprocAttr]) | (show RWp _ _ _ _ _; simp only [ctg, cth, push_cast, simprocAttr])
  simp [vX, ct_eq]
theorem LogCanon_pc (l : List Cm) (hs : SmL l) : PC Tryz.prog 105 [cmA l] (canD l) := by
  refine pc_enter Tryz.func105 rfl rfl fun w0 fb => go_on ?_; (try simp only [Tryz.ntmps105, push_cast, simprocAttr])
  refine at_call ?_
  (try simp only [push_cast, simprocAttr])
  refine rwc_v (LogValid_pc l hs) ?_
  (try simp only [push_cast, simprocAttr])
  (refine at_dropS [2] (by refine wk_ok ?_ ?_ ?_ ?_ <;> simp [dropS, dropT, hasN, delL, hdel, leL, leH, idsL, idsA, idsR, inH, hget, sameRow]) ?_; simp only [dropS, dropT, hasN, delL, hdel, idsA, idsL, hget, List.map_cons, List.map_nil, List.all_cons, List.all_nil, List.append_nil, Bool.not_false, Bool.not_true, Bool.and_true, if_true, if_false, simprocAttr])
  refine go_on ?_
  (try simp only [push_cast, simprocAttr])
  refine at_b (fun hb => ?_) (fun hb => ?_)
  · have h : lV l = false := not_t hb
    (try simp only [hb, push_cast, simprocAttr])
    refine at_ret ?_; simp only [Tryz.results105, push_cast, simprocAttr]
    simp [canD, rX, lCanon, h, ixOf]
  have h : lV l = true := not_f hb
  have hl20 := lV_len h
  (try simp only [hb, push_cast, simprocAttr])
  refine at_loop (X := Nat × List Cm) (fun x => [(4, .o 4 x.2.length), (13, iA x.1)]) (fun x => [(4, rowC x.2)])
    (fun x => x.1 ≤ l.length ∧ x.2.length ≤ x.1 ∧ one1 x.2 = true ∧ cFold [] l = cFold x.2 (l.drop x.1)) (fun x => l.length - x.1) (0, []) ⟨Nat.zero_le _, by simp, rfl, rfl⟩ ?_ ?_
  · (refine wk_ok ?_ ?_ ?_ ?_ <;> simp [leL, leH, idsL, idsA, idsR, inH, hget, sameRow, upA, hvA, dsts, dstO, setA_0, setA_1, setA_8, List.append, List.cons_append, List.nil_append])
  · rintro ⟨i, o⟩ ⟨q1, q2, q3, q4⟩
    simp only at q1 q2 q3 q4
    simp only [upA, hvA, dsts, dstO, setA_0, setA_1, setA_8, List.append, List.cons_append, List.nil_append]
    refine go_on ?_
    (try simp only [push_cast, simprocAttr])
    by_cases hlt : i < l.length
    · obtain ⟨c, hc⟩ := get_of_lt hlt
      have i0 : ltI (i : Int) l.length = true := ltI_t (by omega)
      have i1 := ix_n hc
      have i2 := map_get cmC hc
      simp only [cmC] at i2
      rw [drop_of_get hc] at q4
      have w1 := wr ((i : Int) + 1) (by omega)
      (try simp only [i0, i1, i2, push_cast, simprocAttr])
      have hI := IndexFuncC_pc o (by omega) 148 [.ip (cmC c)] rfl (fun d => decide (d.p = c.p)) (fun d _ => LogCanon1_pc d c)
      unfold cmC at hI
      refine at_call ?_
      (try simp only [push_cast, simprocAttr])
      refine rwc_v hI (go_on ?_)
      rcases idxF_spec (fun d : Cm => decide (d.p = c.p)) o 0 with ⟨h1, h2⟩ | ⟨j, d, h1, h2, h3⟩
      · have hno : ∀ d ∈ o, d.p ≠ c.p := fun d hd => by simpa using List.find?_eq_none.1 h2 d hd
        have hadd := cAdd_no hno
        have happ : o.map cmC ++ [[sA c.p, iA c.a.k, iA c.a.v, iA c.b.k, iA c.b.v]] = (o ++ [c]).map cmC := by rw [List.map_append]; rfl
        have j0 : ltI (-1) 0 = true := ltI_t (by omega)
        rw [h1]
        (try simp only [j0, w1, push_cast, simprocAttr])
        refine at_chk (by omega) ?_
        (try simp only [happ, w1, push_cast, simprocAttr])
        refine at_fin ⟨(i + 1, o ++ [c]), ⟨by dsimp only; omega, by simp; omega, (cAdd_one q3 hadd).1, ?_⟩, by dsimp only; omega, ?_⟩
        · rw [q4]; simp only [cFold, hadd, Option.bind_some]
        · (refine wk_ok ?_ ?_ ?_ ?_ <;> simp [cmC, leL, leH, idsL, idsA, idsR, inH, hget, sameRow, upA, hvA, dsts, dstO, setA_0, setA_1, setA_8, List.append, List.cons_append, List.nil_append])
      · rw [Nat.zero_add] at h1
        have hj := lt_of_some h2
        have hdp : d.p = c.p := by have := List.find?_some h3; simpa using this
        have hadd := cAdd_at h2 hdp (fun k e hk he => by have := idxF_first (fun d : Cm => decide (d.p = c.p)) o 0 j (by rw [h1]; simp) k e hk he; simpa using this)
        have j0 : ltI (j : Int) 0 = false := ltI_f (by omega)
        have k1 := ix_n h2
        have k2 := map_get cmC h2
        simp only [cmC] at k2
        rw [h1]
        (try simp only [j0, push_cast, simprocAttr])
        refine at_draw rfl (by kernel_rfl) ?_
        (try simp only [k1, k2, ctg, cth, push_cast, simprocAttr])
        have e : (eqI d.b.k c.a.k && eqI d.b.v c.a.v) = decide (d.b = c.a) := by
          rw [Bool.eq_iff_iff]; simp [eqI_d, ct_ext]
        refine at_done (by kernel_rfl) (by kernel_rfl) (go_on ?_)
        (try simp only [e, push_cast, simprocAttr])
        refine at_b (fun hn => ?_) (fun hn => ?_)
        · have hne : d.b ≠ c.a := by simpa using hn
          rw [if_neg hne] at hadd
          have hnone : lCanon l = none := by
            unfold lCanon
            rw [if_pos h, q4]
            simp only [cFold, hadd, Option.bind_none, Option.map_none]
          (try simp only [hn, push_cast, simprocAttr])
          refine at_ret ?_; simp only [Tryz.results105, push_cast, simprocAttr]
          simp [canD, rX, hnone, ixOf]
        · have heq : d.b = c.a := by simpa using hn
          rw [if_pos heq] at hadd
          have hset : (o.map cmC).set j [sA d.p, iA d.a.k, iA d.a.v, iA c.b.k, iA c.b.v] = (o.set j ⟨d.p, d.a, c.b⟩).map cmC := by rw [List.map_set]; rfl
          (try simp only [hn, k1, k2, hset, w1, push_cast, simprocAttr])
          refine at_fin ⟨(i + 1, o.set j ⟨d.p, d.a, c.b⟩), ⟨by dsimp only; omega, by simp; omega, (cAdd_one q3 hadd).1, ?_⟩, by dsimp only; omega, ?_⟩
          · rw [q4]; simp only [cFold, hadd, Option.bind_some]
          · (refine wk_ok ?_ ?_ ?_ ?_ <;> simp [cmC, leL, leH, idsL, idsA, idsR, inH, hget, sameRow, upA, hvA, dsts, dstO, setA_0, setA_1, setA_8, List.append, List.cons_append, List.nil_append])
    · have i0 : ltI (i : Int) l.length = false := ltI_f (by omega)
      rw [List.drop_of_length_le (by omega)] at q4
      simp only [cFold] at q4
      have hcan : lCanon l = some (cSort (o.filter fun c => decide (c.a ≠ c.b))) := by
        unfold lCanon
        rw [if_pos h, q4]
        rfl
      have hD := DeleteFuncC_pcl o (by omega) 150 [] rfl (fun c => decide (c.a = c.b)) (fun c _ => LogCanon2_pc c)
      obtain ⟨f, hf⟩ : ∃ f, f = o.filter fun c => !decide (c.a = c.b) := ⟨_, rfl⟩
      have hff : (o.filter fun c => decide (c.a ≠ c.b)) = f := by rw [hf]; apply List.filter_congr; intro c _; simp
      have hfl : f.length ≤ o.length := by rw [hf]; exact List.length_filter_le _ _
      have hf1 : one1 f = true := by rw [hf]; exact one1_sub List.filter_sublist q3
      rw [← hf] at hD
      rw [hff] at hcan
      have hS := SortC_pcl f (by omega)
      (try simp only [i0, push_cast, simprocAttr])
      (try simp only [push_cast, simprocAttr]); refine call_lend [4] (some 0) (lr := [rowC o]) (by simp [ndB]) (by first | rfl | simp [rowsOf, hget, rdR, rowS, rowN, rowC, sC, ndC, cmC]) (by simp [idsL, idsA]) (by simp [mvN]) (by simpa [rnA, ixOf] using hD) ?_
      rintro rv lr' rows ⟨rfl, rfl, rfl⟩
      refine ⟨by simp [shB, mvF], by simp [frB], go_on ?_⟩
      (try simp only [killA, killH, killRow, push_cast, simprocAttr])
      (try simp only [push_cast, simprocAttr]); refine call_lend [4] none (lr := [rowC f]) (by simp [ndB]) (by first | rfl | simp [rowsOf, hget, rdR, rowS, rowN, rowC, sC, ndC, cmC]) (by simp [idsL, idsA]) (by simp [mvN]) (by simpa [rnA, ixOf] using hS) ?_
      rintro rv lr' rows ⟨g, hgp, hgo, rfl, rfl, rfl⟩
      have hgl : g.length = f.length := hgp.length_eq
      obtain rfl : g = cSort f := cSort_eq hf1 hgp hgo
      refine ⟨by simp [shB, mvF, hgl], by simp [frB, baseOf], go_on ?_⟩
      (try simp only [killA, killH, killRow, push_cast, simprocAttr])
      refine at_call ?_
      simp only [hgl, push_cast, simprocAttr]
      refine rwc_r (cloneLog_pc (cSort f) (by omega)) (by simp [flatV, flatL]) (flat_c _) (by simp [frB, baseOf]) (go_on ?_)
      (try simp only [push_cast, simprocAttr])
      refine at_ret ?_; simp only [Tryz.results105, push_cast, simprocAttr]
      simp [canD, rX, hcan, hgl, ixOf]
end Go.Proofs.YtdjglbedimpldaaGreatDoor
/-
  Walks: the reference's canonical order and sort.
-/
namespace Go.Proofs.YtdjglbedimpldaaGreatDoor
open Go Go.RowKit Go.Proofs
attribute [local irreducible] RWp AW run kPe pe Kt effA gd gu br retR RDp runD kPeD brW gW effD
set_option maxRecDepth 100000
theorem l14Ends_pc (c : Cm) : PC Tryz.prog 201 [cmdA c] (vB (cEnds c)) := by
  have hc : cEnds c = (decide (c.b.k = 0) || decide (c.a.k = 1)) := rfl
  unfold cmdA cmC
  refine pc_enter Tryz.func201 rfl rfl fun w0 fb => go_on ?_; (try simp only [Tryz.ntmps201, push_cast, simprocAttr])
  repeat' first | (refine at_b (fun hb => ?_) (fun hb => ?_) <;> simp only [hb, push_cast, simprocAttr]) | (refine at_ret ?_; simp only [Tryz.results201, push_cast, simprocAttr]) | (show RWp _ _ _ _ _; simp only [push_cast, simprocAttr])
  all_goals simp [vX, hc, eqI_d, *]
  all_goals simp [eqI_d] at *
  all_goals simp [*]
theorem gtrS_l (a b : Str) : (!(slt a b || decide (a = b))) = slt b a := by
  rw [← gtr_slt a b]
  show _ = (!(slt a b || a == b))
  by_cases h : a = b <;> simp [h]
theorem l14Before_pc (c d : Cm) : PC Tryz.prog 178 [cmdA c, cmdA d] (vB (cLt c d)) := by
  have h1 := l14Ends_pc c
  have h2 := l14Ends_pc d
  have hL : cLt c d = if cEnds c then (if cEnds d then slt d.p c.p else true) else (if cEnds d then false else slt c.p d.p) := rfl
  unfold cmdA cmC at *
  refine pc_enter Tryz.func178 rfl rfl fun w0 fb => go_on ?_; (try simp only [Tryz.ntmps178, push_cast, simprocAttr])
  repeat' first | (refine at_b (fun hb => ?_) (fun hb => ?_) <;> simp only [hb, push_cast, simprocAttr]) | (refine at_ret ?_; simp only [Tryz.results178, push_cast, simprocAttr]) | (refine at_call ?_; (try simp only [push_cast, simprocAttr]); refine rwc_v (by first | exact h1 | exact h2) (go_on ?_); simp only [push_cast, simprocAttr]) | (show RWp _ _ _ _ _; simp only [push_cast, simprocAttr])
  all_goals (try simp only [Bool.not_eq_true', Bool.not_eq_false'] at *)
  all_goals simp_all [vX]
  rw [← gtrS_l c.p d.p, Bool.not_or]
def putI (c : Cm) (l : List Cm) (k : Nat) (o : List Cm) (b : Bool) : Prop := o.length ≤ k + 1 ∧ cPut c l = o ++ (if b = true then l.drop k else cPut c (l.drop k))
theorem putI_next {c d : Cm} {l : List Cm} {k : Nat} {o : List Cm} (hd : l[k]? = some d) :
    (putI c l k o true → putI c l (k + 1) (o ++ [d]) true) ∧ (o.length ≤ k → putI c l k o false → cLt c d = false → putI c l (k + 1) (o ++ [d]) false ∧ (o ++ [d]).length ≤ k + 1) ∧
      (o.length ≤ k → putI c l k o false → cLt c d = true → putI c l (k + 1) (o ++ [c] ++ [d]) true) := by
  have hdr : l.drop k = d :: l.drop (k + 1) := by
    have hi : k < l.length := lt_of_some hd
    rw [List.drop_eq_getElem_cons hi]
    rw [List.getElem?_eq_getElem hi] at hd
    cases hd
    rfl
  refine ⟨fun ⟨h1, h2⟩ => ⟨by simp; omega, ?_⟩, fun h0 ⟨h1, h2⟩ hc => ⟨⟨by simp; omega, ?_⟩, by simp; omega⟩, fun h0 ⟨h1, h2⟩ hc => ⟨by simp; omega, ?_⟩⟩
  · rw [h2, if_pos rfl, if_pos rfl, hdr]; simp
  · rw [h2]
    simp only [Bool.false_eq_true, if_false]
    rw [hdr]
    simp [cPut, hc]
  · rw [h2]
    simp only [Bool.false_eq_true, if_false, if_true]
    rw [hdr]
    simp [cPut, hc]
theorem l14Put_pc (l : List Cm) (hl : l.length < 4294967280) (c : Cm) : PC Tryz.prog 177 [cmA l, cmdA c] (rX (.o 0 (cPut c l).length) [rowC (cPut c l)]) := by
  unfold cmdA cmC
  refine pc_enter Tryz.func177 rfl rfl fun w0 fb => go_on ?_; (try simp only [Tryz.ntmps177, push_cast, simprocAttr])
  refine at_loop (X := Nat × List Cm × Bool) (fun x => [(5, .o 8 x.2.1.length), (6, bA x.2.2), (7, iA x.1), (8, .any)]) (fun x => [(3, ⟨53, 5, [cmC c], true⟩), (4, rowC []), (8, rowC x.2.1)])
    (fun x => x.1 ≤ l.length ∧ putI c l x.1 x.2.1 x.2.2 ∧ (x.2.2 = false → x.2.1.length ≤ x.1)) (fun x => l.length - x.1) (0, [], false) ⟨Nat.zero_le _, ⟨by simp, rfl⟩, fun _ => by simp⟩ ?_ ?_
  · (refine wk_ok ?_ ?_ ?_ ?_ <;> simp [cmC, leL, leH, idsL, idsA, idsR, inH, hget, sameRow, upA, hvA, dsts, dstO, setA_0, setA_1, setA_8, List.append, List.cons_append, List.nil_append])
  · rintro ⟨k, o, b⟩ ⟨q1, q2, q3⟩
    simp only at q1 q2 q3
    have q5 := q2.1
    simp only [upA, hvA, dsts, dstO, setA_0, setA_1, setA_8, List.append, List.cons_append, List.nil_append]
    refine go_on ?_
    (try simp only [push_cast, simprocAttr])
    by_cases hlt : k < l.length
    · obtain ⟨d, hd⟩ := get_of_lt hlt
      have i0 : ltI (k : Int) l.length = true := ltI_t (by omega)
      have i1 := ix_n hd
      have i2 := map_get cmC hd
      simp only [cmC] at i2
      have w1 := wr ((k : Int) + 1) (by omega)
      have hB := l14Before_pc c d
      unfold cmdA cmC at hB
      obtain ⟨n1, n2, n3⟩ := putI_next (c := c) (o := o) hd
      have happ : ∀ m : List Cm, m.map cmC ++ [[sA d.p, iA d.a.k, iA d.a.v, iA d.b.k, iA d.b.v]] = (m ++ [d]).map cmC := fun m => by rw [List.map_append]; rfl
      have happc : o.map cmC ++ [[sA c.p, iA c.a.k, iA c.a.v, iA c.b.k, iA c.b.v]] = (o ++ [c]).map cmC := by rw [List.map_append]; rfl
      (try simp only [i0, push_cast, simprocAttr])
      cases b with
      | true =>
        refine at_draw rfl (by kernel_rfl) ?_
        (try simp only [Bool.not_true, push_cast, simprocAttr])
        refine at_done (by kernel_rfl) (by kernel_rfl) (go_on ?_)
        (try simp only [i1, i2, push_cast, simprocAttr])
        refine at_chk (by omega) ?_
        (try simp only [happ, w1, push_cast, simprocAttr])
        refine at_fin ⟨(k + 1, o ++ [d], true), ⟨by dsimp only; omega, n1 q2, fun h => by cases h⟩, by dsimp only; omega, ?_⟩
        (refine wk_ok ?_ ?_ ?_ ?_ <;> simp [cmC, leL, leH, idsL, idsA, idsR, inH, hget, sameRow, upA, hvA, dsts, dstO, setA_0, setA_1, setA_8, List.append, List.cons_append, List.nil_append])
      | false =>
        have q4 := q3 rfl
        refine at_draw rfl (by kernel_rfl) ?_
        (try simp only [Bool.not_false, i1, i2, push_cast, simprocAttr])
        repeat' first | (refine at_bWn (fun hb => ?_) (fun hb => ?_) <;> simp only [Bool.not_false, hb, push_cast, simprocAttr]) | (refine at_bW (fun hb => ?_) (fun hb => ?_) <;> simp only [Bool.not_false, hb, push_cast, simprocAttr]) | (refine at_callD (by simp [clB, idsL, idsA, hget]) ?_; (try simp only [push_cast, simprocAttr]); first | (refine rcd_v (hB) ?_; simp only [Bool.not_false, push_cast, simprocAttr]) | (refine rcd_d (hB) (by simp [flatV, flatL, ctC, ndC, cmC]) (by simp [ren, ctC, ndC, cmC]) ?_; simp only [Bool.not_false, push_cast, simprocAttr])) | (refine at_done (by kernel_rfl) (by kernel_rfl) (go_on ?_); (try simp only [Bool.not_false, push_cast, simprocAttr]))
        refine at_b (fun hs => ?_) (fun hs => ?_)
        · have ht : List.take (o.length + 1) (List.map cmC (o ++ [c])) = List.map cmC (o ++ [c]) := List.take_of_length_le (by simp)
          (try simp only [hs, push_cast, simprocAttr])
          refine at_chk (by omega) ?_
          (try simp only [happc, i1, i2, push_cast, simprocAttr])
          refine at_chk (by omega) ?_
          (try simp only [ht, happ, w1, push_cast, simprocAttr])
          refine at_fin ⟨(k + 1, o ++ [c] ++ [d], true), ⟨by dsimp only; omega, n3 q4 q2 hs, fun h => by cases h⟩, by dsimp only; omega, ?_⟩
          (refine wk_ok ?_ ?_ ?_ ?_ <;> simp [cmC, leL, leH, idsL, idsA, idsR, inH, hget, sameRow, upA, hvA, dsts, dstO, setA_0, setA_1, setA_8, List.append, List.cons_append, List.nil_append])
        · (try simp only [hs, i1, i2, push_cast, simprocAttr])
          refine at_chk (by omega) ?_
          (try simp only [happ, w1, push_cast, simprocAttr])
          refine at_fin ⟨(k + 1, o ++ [d], false), ⟨by dsimp only; omega, (n2 q4 q2 hs).1, fun _ => (n2 q4 q2 hs).2⟩, by dsimp only; omega, ?_⟩
          (refine wk_ok ?_ ?_ ?_ ?_ <;> simp [cmC, leL, leH, idsL, idsA, idsR, inH, hget, sameRow, upA, hvA, dsts, dstO, setA_0, setA_1, setA_8, List.append, List.cons_append, List.nil_append])
    · have i0 : ltI (k : Int) l.length = false := ltI_f (by omega)
      have hk : k = l.length := by omega
      have happc : o.map cmC ++ [[sA c.p, iA c.a.k, iA c.a.v, iA c.b.k, iA c.b.v]] = (o ++ [c]).map cmC := by rw [List.map_append]; rfl
      have hd0 : l.drop k = [] := List.drop_of_length_le (by omega)
      (try simp only [i0, push_cast, simprocAttr])
      cases b with
      | true =>
        have e := q2.2
        rw [if_pos rfl, hd0, List.append_nil] at e
        (try simp only [Bool.not_true, push_cast, simprocAttr])
        refine at_ret ?_; simp only [Tryz.results177, push_cast, simprocAttr]
        simp [rX, e, ixOf]
      | false =>
        have e := q2.2
        rw [if_neg (by simp), hd0] at e
        simp only [cPut] at e
        (try simp only [Bool.not_false, push_cast, simprocAttr])
        refine at_chk (by omega) ?_
        (try simp only [happc, push_cast, simprocAttr])
        refine at_ret ?_; simp only [Tryz.results177, push_cast, simprocAttr]
        simp [rX, e, ixOf]
theorem cSort_snoc (l : List Cm) (c : Cm) : cSort (l ++ [c]) = cPut c (cSort l) := by
  unfold cSort
  rw [List.foldl_append]
  rfl
theorem l14Sort_pc (l : List Cm) (hl : l.length < 4294967270) : PC Tryz.prog 141 [cmA l] (vX (cmA (cSort l))) := by
  refine pc_enter Tryz.func141 rfl rfl fun w0 fb => go_on ?_; (try simp only [Tryz.ntmps141, push_cast, simprocAttr])
  refine at_loop (X := Nat) (fun k => [(3, cmA (cSort (l.take k))), (4, iA k), (5, .any)]) (fun _ => [(2, rowC [])]) (fun k => k ≤ l.length) (fun k => l.length - k) 0 (Nat.zero_le _) ?_ ?_
  · (refine wk_frz ?_ ?_ ?_ ?_ <;> simp [cSort, leF, leHF, frzB, idsL, idsA, idsR, inH, hget, sameRow, viewN, tk, upA, hvA, dsts, dstO, setA_0, setA_1, setA_8, List.append, List.cons_append, List.nil_append])
  · rintro k q1
    simp only [upA, hvA, dsts, dstO, setA_0, setA_1, setA_8, List.append, List.cons_append, List.nil_append]
    refine go_on ?_
    (try simp only [push_cast, simprocAttr])
    by_cases hlt : k < l.length
    · obtain ⟨d, hd⟩ := get_of_lt hlt
      have i0 : ltI (k : Int) l.length = true := ltI_t (by omega)
      have i1 := ix_n hd
      have i2 := map_get cmC hd
      simp only [cmC] at i2
      have w1 := wr ((k : Int) + 1) (by omega)
      have hsl : (cSort (l.take k)).length ≤ l.length := by rw [cSort_len, List.length_take]; omega
      have hP := l14Put_pc (cSort (l.take k)) (by omega) d
      have hnx : cPut d (cSort (l.take k)) = cSort (l.take (k + 1)) := by rw [List.take_add_one, hd, ← cSort_snoc]; rfl
      rw [hnx] at hP
      unfold cmdA cmC at hP
      (try simp only [i0, i1, i2, push_cast, simprocAttr])
      (refine at_call ?_; (try simp only [push_cast, simprocAttr]); refine rwc_r (hP) rfl (flat_c _) (by simp [frB, baseOf]) (go_on ?_); (try simp only [push_cast, simprocAttr]))
      (try simp only [w1, push_cast, simprocAttr])
      refine at_fin ⟨k + 1, by omega, by omega, ?_⟩
      (refine wk_frz ?_ ?_ ?_ ?_ <;> simp [leF, leHF, frzB, idsL, idsA, idsR, inH, hget, sameRow, viewN, tk, upA, hvA, dsts, dstO, setA_0, setA_1, setA_8, List.append, List.cons_append, List.nil_append])
    · have i0 : ltI (k : Int) l.length = false := ltI_f (by omega)
      have hk : k = l.length := by omega
      subst hk
      (try simp only [i0, push_cast, simprocAttr])
      refine at_ret ?_; simp only [Tryz.results141, push_cast, simprocAttr]
      simp [vX]
end Go.Proofs.YtdjglbedimpldaaGreatDoor
/-
  Walks: spec.LogCanon.
-/
namespace Go.Proofs.YtdjglbedimpldaaGreatDoor
open Go Go.RowKit Go.Proofs
/-- No command ahead of a place has its path. -/
def firstB (l : List Cm) (i : Nat) (p : Str) : Bool := !decide (p ∈ (l.take i).map (·.p))
attribute [local irreducible] RWp AW run kPe pe Kt effA gd gu br retR RDp runD kPeD brW gW effD
set_option maxRecDepth 100000
theorem l14First_pc (l : List Cm) (hl : l.length < 4294967280) (i : Nat) (c : Cm) (hc : l[i]? = some c) : PC Tryz.prog 140 [cmA l, iA i] (vB (firstB l i c.p)) := by
  have hi := lt_of_some hc
  have c1 := ix_n hc
  have c2 := map_get cmC hc
  simp only [cmC] at c2
  refine pc_enter Tryz.func140 rfl rfl fun w0 fb => go_on ?_; (try simp only [Tryz.ntmps140, push_cast, simprocAttr])
  refine at_loop (X := Nat) (fun k => [(5, iA k)]) (fun _ => []) (fun k => k ≤ i ∧ ∀ j d, j < k → l[j]? = some d → d.p ≠ c.p) (fun k => i - k) 0 ⟨Nat.zero_le _, fun j d hj => by omega⟩ ?_ ?_
  · (refine wk_ok ?_ ?_ ?_ ?_ <;> simp [leL, leH, idsL, idsA, idsR, inH, hget, sameRow, upA, hvA, dsts, dstO, setA_0, setA_1, setA_8, List.append, List.cons_append, List.nil_append])
  · rintro k ⟨q1, q2⟩
    simp only [upA, hvA, dsts, dstO, setA_0, setA_1, setA_8, List.append, List.cons_append, List.nil_append]
    refine go_on ?_
    (try simp only [push_cast, simprocAttr])
    by_cases hlt : k < i
    · obtain ⟨d, hd⟩ := get_of_lt (l := l) (k := k) (by omega)
      have i0 : ltI (k : Int) (i : Int) = true := ltI_t (by omega)
      have i1 := ix_n hd
      have i2 := map_get cmC hd
      simp only [cmC] at i2
      have w1 := wr ((k : Int) + 1) (by omega)
      (try simp only [i0, push_cast, simprocAttr])
      refine at_draw rfl (by kernel_rfl) ?_
      (try simp only [i1, i2, c1, c2, push_cast, simprocAttr])
      refine at_done (by kernel_rfl) (by kernel_rfl) (go_on ?_)
      (try simp only [push_cast, simprocAttr])
      refine at_b (fun hn => ?_) (fun hn => ?_)
      · have he : d.p = c.p := by simpa using hn
        have hf : firstB l i c.p = false := by
          unfold firstB
          simp only [Bool.not_eq_false', decide_eq_true_eq, List.mem_map]
          exact ⟨d, List.mem_of_getElem? (i := k) (by rw [List.getElem?_take, if_pos hlt]; exact hd), he⟩
        (try simp only [hn, push_cast, simprocAttr])
        refine at_ret ?_; simp only [Tryz.results140, push_cast, simprocAttr]
        simp [vX, hf]
      · have he : d.p ≠ c.p := by simpa using hn
        (try simp only [hn, w1, push_cast, simprocAttr])
        refine at_fin ⟨k + 1, ⟨by omega, fun j e hj hje => ?_⟩, by omega, ?_⟩
        · rcases Nat.lt_or_ge j k with h | h
          · exact q2 j e h hje
          · obtain rfl : j = k := by omega
            rw [hd] at hje
            cases hje
            exact he
        · (refine wk_ok ?_ ?_ ?_ ?_ <;> simp [leL, leH, idsL, idsA, idsR, inH, hget, sameRow, upA, hvA, dsts, dstO, setA_0, setA_1, setA_8, List.append, List.cons_append, List.nil_append])
    · have i0 : ltI (k : Int) (i : Int) = false := ltI_f (by omega)
      have hf : firstB l i c.p = true := by
        unfold firstB
        simp only [Bool.not_eq_true', decide_eq_false_iff_not, List.mem_map, not_exists, not_and]
        intro d hd e
        obtain ⟨j, hj, hje⟩ := List.getElem_of_mem hd
        have hj2 := hj
        rw [List.length_take] at hj2
        have : l[j]? = some d := by
          have h3 : (l.take i)[j]? = some d := by rw [List.getElem?_eq_getElem hj, hje]
          rw [List.getElem?_take, if_pos (by omega)] at h3
          exact h3
        exact q2 j d (by omega) this e
      (try simp only [i0, push_cast, simprocAttr])
      refine at_ret ?_; simp only [Tryz.results140, push_cast, simprocAttr]
      simp [vX, hf]
def canS (l : List Cm) : AV → List Row → Prop := vX (.tup [cmA ((lCanon l).getD []), bA (lCanon l).isSome])
theorem specLogCanon_pc (l : List Cm) (hs : SmL l) : PC Tryz.prog 95 [cmA l] (canS l) := by
  refine pc_enter Tryz.func95 rfl rfl fun w0 fb => go_on ?_; (try simp only [Tryz.ntmps95, push_cast, simprocAttr])
  (refine at_call ?_; (try simp only [push_cast, simprocAttr]); refine rwc_v (specLogValid_pc l hs) (go_on ?_); (try simp only [push_cast, simprocAttr]))
  refine at_b (fun hb => ?_) (fun hb => ?_)
  · have h : lV l = false := not_t hb
    (try simp only [hb, push_cast, simprocAttr])
    refine at_retf ?_; simp only [Tryz.results95, push_cast, simprocAttr]
    simp [canS, vX, lCanon, h]
  have h : lV l = true := not_f hb
  have hl20 := lV_len h
  have hO := lCanon_out h
  (try simp only [hb, push_cast, simprocAttr])
  refine at_loop (X := Nat × List Cm) (fun x => [(4, .o 12 x.2.length), (5, iA x.1), (12, .any)]) (fun x => [(2, rowC []), (12, rowC x.2)])
    (fun x => x.1 ≤ l.length ∧ x.2.length ≤ x.1 ∧ (outA [] l).map fltC = ((outA ((l.take x.1).map (·.p)) (l.drop x.1)).map fltC).map (x.2 ++ ·)) (fun x => l.length - x.1) (0, []) ⟨Nat.zero_le _, by simp, by simp [Function.comp_def]⟩ ?_ ?_
  · (refine wk_ok ?_ ?_ ?_ ?_ <;> simp [leL, leH, idsL, idsA, idsR, inH, hget, sameRow, upA, hvA, dsts, dstO, setA_0, setA_1, setA_8, List.append, List.cons_append, List.nil_append])
  · rintro ⟨i, o⟩ ⟨q1, q2, q3⟩
    simp only at q1 q2 q3
    simp only [upA, hvA, dsts, dstO, setA_0, setA_1, setA_8, List.append, List.cons_append, List.nil_append]
    by_cases hlt : i < l.length
    · refine go_on ?_
      (try simp only [push_cast, simprocAttr])
      obtain ⟨c, hc⟩ := get_of_lt hlt
      obtain ⟨s1, s2⟩ := out_step hc q3
      have i0 : ltI (i : Int) l.length = true := ltI_t (by omega)
      have i1 := ix_n hc
      have i2 := map_get cmC hc
      simp only [cmC] at i2
      have w1 := wr ((i : Int) + 1) (by omega)
      have hF := l14First_pc l (by omega) i c hc
      (try simp only [i0, push_cast, simprocAttr])
      (refine at_call ?_; (try simp only [push_cast, simprocAttr]); refine rwc_v (hF) (go_on ?_); (try simp only [push_cast, simprocAttr]))
      refine at_b (fun hf => ?_) (fun hf => ?_)
      · have hm : c.p ∉ (l.take i).map (·.p) := by simpa [firstB] using hf
        obtain ⟨s3, s4⟩ := s2 hm
        (try simp only [hf, i1, i2, w1, push_cast, simprocAttr])
        refine at_loop (X := Nat × Ct) (fun y => [(7, iA y.1)]) (fun y => [(2, rowC []), (12, rowC o), (6, ⟨53, 5, [cmC ⟨c.p, c.a, y.2⟩], true⟩)])
          (fun y => i + 1 ≤ y.1 ∧ y.1 ≤ l.length ∧ chn c.p c.b (l.drop (i + 1)) = chn c.p y.2 (l.drop y.1)) (fun y => l.length - y.1) (i + 1, c.b) ⟨Nat.le_refl _, by dsimp only; omega, rfl⟩ ?_ ?_
        · (refine wk_ok ?_ ?_ ?_ ?_ <;> simp [cmC, leL, leH, idsL, idsA, idsR, inH, hget, sameRow, upA, hvA, dsts, dstO, setA_0, setA_1, setA_8, List.append, List.cons_append, List.nil_append])
        · rintro ⟨k, t⟩ ⟨r1, r2, r3⟩
          simp only at r1 r2 r3
          simp only [upA, hvA, dsts, dstO, setA_0, setA_1, setA_8, List.append, List.cons_append, List.nil_append]
          refine go_on ?_
          (try simp only [push_cast, simprocAttr])
          by_cases hlk : k < l.length
          · obtain ⟨d, hd⟩ := get_of_lt hlk
            have j0 : ltI (k : Int) l.length = true := ltI_t (by omega)
            have j1 := ix_n hd
            have j2 := map_get cmC hd
            simp only [cmC] at j2
            have w2 := wr ((k : Int) + 1) (by omega)
            rw [drop_of_get hd] at r3
            simp only [chn] at r3
            (try simp only [j0, push_cast, simprocAttr])
            refine at_draw rfl (by kernel_rfl) ?_
            (try simp only [j1, j2, push_cast, simprocAttr])
            refine at_done (by kernel_rfl) (by kernel_rfl) (go_on ?_)
            (try simp only [push_cast, simprocAttr])
            refine at_b (fun hp => ?_) (fun hp => ?_)
            · have hp' : d.p = c.p := by simpa using hp
              rw [if_pos hp'] at r3
              (try simp only [hp, push_cast, simprocAttr])
              refine at_draw rfl (by kernel_rfl) ?_
              (try simp only [j1, j2, ctg, cth, push_cast, simprocAttr])
              have e : (eqI d.a.k t.k && eqI d.a.v t.v) = decide (d.a = t) := ct_eq _ _
              refine at_done (by kernel_rfl) (by kernel_rfl) (go_on ?_)
              (try simp only [e, push_cast, simprocAttr])
              refine at_b (fun hn => ?_) (fun hn => ?_)
              · have hne : d.a ≠ t := by simpa using hn
                rw [if_neg hne] at r3
                have hnone : lCanon l = none := by rw [hO, s3 r3]; rfl
                (try simp only [hn, push_cast, simprocAttr])
                refine at_retf ?_; simp only [Tryz.results95, push_cast, simprocAttr]
                simp [canS, vX, hnone]
              · have heq : d.a = t := by simpa using hn
                rw [if_pos heq] at r3
                (try simp only [hn, j1, j2, w2, push_cast, simprocAttr])
                refine at_fin ⟨(k + 1, d.b), ⟨by dsimp only; omega, by dsimp only; omega, r3⟩, by dsimp only; omega, ?_⟩
                (refine wk_ok ?_ ?_ ?_ ?_ <;> simp [cmC, leL, leH, idsL, idsA, idsR, inH, hget, sameRow, upA, hvA, dsts, dstO, setA_0, setA_1, setA_8, List.append, List.cons_append, List.nil_append])
            · have hp' : ¬ d.p = c.p := by simpa using hp
              rw [if_neg hp'] at r3
              (try simp only [hp, w2, push_cast, simprocAttr])
              refine at_fin ⟨(k + 1, t), ⟨by dsimp only; omega, by dsimp only; omega, r3⟩, by dsimp only; omega, ?_⟩
              (refine wk_ok ?_ ?_ ?_ ?_ <;> simp [cmC, leL, leH, idsL, idsA, idsR, inH, hget, sameRow, upA, hvA, dsts, dstO, setA_0, setA_1, setA_8, List.append, List.cons_append, List.nil_append])
          · have j0 : ltI (k : Int) l.length = false := ltI_f (by omega)
            rw [List.drop_of_length_le (show l.length ≤ k by omega)] at r3
            have s5 := s4 t r3
            have e : (eqI c.a.k t.k && eqI c.a.v t.v) = decide (c.a = t) := ct_eq _ _
            (try simp only [j0, ctg, cth, e, push_cast, simprocAttr])
            refine at_b (fun hn => ?_) (fun hn => ?_)
            · have hne : c.a ≠ t := by simpa using hn
              rw [if_pos hne] at s5
              have happ : o.map cmC ++ [[sA c.p, iA c.a.k, iA c.a.v, iA t.k, iA t.v]] = (o ++ [(⟨c.p, c.a, t⟩ : Cm)]).map cmC := by rw [List.map_append]; rfl
              (try simp only [hn, push_cast, simprocAttr])
              refine at_chk (by omega) ?_
              (try simp only [happ, w1, push_cast, simprocAttr])
              refine at_fin ⟨(i + 1, o ++ [(⟨c.p, c.a, t⟩ : Cm)]), ⟨by dsimp only; omega, by simp; omega, s5⟩, by dsimp only; omega, ?_⟩
              (refine wk_ok ?_ ?_ ?_ ?_ <;> simp [cmC, leL, leH, idsL, idsA, idsR, inH, hget, sameRow, upA, hvA, dsts, dstO, setA_0, setA_1, setA_8, List.append, List.cons_append, List.nil_append])
            · have heq : c.a = t := by simpa using hn
              rw [if_neg (by simpa using heq)] at s5
              (try simp only [hn, w1, push_cast, simprocAttr])
              refine at_fin ⟨(i + 1, o), ⟨by dsimp only; omega, by dsimp only; omega, s5⟩, by dsimp only; omega, ?_⟩
              (refine wk_ok ?_ ?_ ?_ ?_ <;> simp [cmC, leL, leH, idsL, idsA, idsR, inH, hget, sameRow, upA, hvA, dsts, dstO, setA_0, setA_1, setA_8, List.append, List.cons_append, List.nil_append])
      · have hm : c.p ∈ (l.take i).map (·.p) := by simpa [firstB] using hf
        (try simp only [hf, w1, push_cast, simprocAttr])
        refine at_fin ⟨(i + 1, o), ⟨by dsimp only; omega, by dsimp only; omega, s1 hm⟩, by dsimp only; omega, ?_⟩
        (refine wk_ok ?_ ?_ ?_ ?_ <;> simp [leL, leH, idsL, idsA, idsR, inH, hget, sameRow, upA, hvA, dsts, dstO, setA_0, setA_1, setA_8, List.append, List.cons_append, List.nil_append])
    · have i0 : ltI (i : Int) l.length = false := ltI_f (by omega)
      rw [List.drop_of_length_le (by omega)] at q3
      simp only [outA, Option.map_some, show fltC [] = [] from rfl, List.append_nil] at q3
      have hcan : lCanon l = some (cSort o) := by rw [hO, q3]; rfl
      have hS := l14Sort_pc o (by omega)
      refine go_on_n 12 ?_
      (try simp only [i0, run_0, push_cast, simprocAttr])
      refine at_more ?_
      (refine at_frzS [12] (by refine wk_frz ?_ ?_ ?_ ?_ <;> simp [frzS, frzT, hasN, delL, hdel, leF, leHF, frzB, idsL, idsA, idsR, inH, hget, sameRow, viewN, tk]) ?_; simp only [frzS, frzT, hasN, delL, hdel, idsA, idsL, viewN, hget, List.map_cons, List.map_nil, List.all_cons, List.all_nil, List.append_nil, List.drop, List.getElem?_cons_zero, List.getElem?_cons_succ, Bool.not_false, Bool.not_true, Bool.and_true, if_true, if_false, simprocAttr])
      refine go_on ?_
      (try simp only [push_cast, simprocAttr])
      ((try simp only [push_cast, simprocAttr]); refine at_share (by first | rfl | simp [isC]) (by first | rfl | simp only [ren]) (hS) (go_on ?_); (try simp only [push_cast, simprocAttr]))
      refine at_ret ?_; simp only [Tryz.results95, push_cast, simprocAttr]
      simp [canS, vX, hcan]
end Go.Proofs.YtdjglbedimpldaaGreatDoor
/-
  Walks: SiteCanon, SiteShort, twice.
-/
namespace Go.Proofs.YtdjglbedimpldaaGreatDoor
open Go Go.RowKit Go.Proofs
attribute [local irreducible] RWp AW run kPe pe Kt effA gd gu br retR RDp runD kPeD brW gW effD
set_option maxRecDepth 100000
theorem SiteCanon_pc (s : St) (hs : SmS s) : PC Tryz.prog 62 [stA' s] (rX (.o 0 (siteC s).length) [rowC (siteC s)]) := by
  have hL := LogCanon_pc s.log hs.l
  have hV := SiteValid_pc s hs
  unfold stA' stC at hV ⊢
  unfold canD at hL
  refine pc_enter Tryz.func62 rfl rfl fun w0 fb => go_on ?_; (try simp only [Tryz.ntmps62, push_cast, simprocAttr])
  refine at_call ?_
  (try simp only [push_cast, simprocAttr])
  refine rwc_v hV ?_
  (try simp only [push_cast, simprocAttr])
  (refine at_dropS [2] (by refine wk_ok ?_ ?_ ?_ ?_ <;> simp [dropS, dropT, hasN, delL, hdel, leL, leH, idsL, idsA, idsR, inH, hget, sameRow]) ?_; simp only [dropS, dropT, hasN, delL, hdel, idsA, idsL, hget, List.map_cons, List.map_nil, List.all_cons, List.all_nil, List.append_nil, Bool.not_false, Bool.not_true, Bool.and_true, if_true, if_false, simprocAttr])
  refine go_on ?_
  (try simp only [push_cast, simprocAttr])
  refine at_b (fun hb => ?_) (fun hb => ?_)
  · have h : siteV s = false := not_t hb
    (try simp only [hb, push_cast, simprocAttr])
    refine at_ret ?_; simp only [Tryz.results62, push_cast, simprocAttr]
    simp [rX, siteC, h, ixOf]
  · have h : siteV s = true := not_f hb
    have e : siteC s = (lCanon s.log).getD [] := by simp [siteC, h]
    rw [← e] at hL
    (try simp only [hb, push_cast, simprocAttr])
    (refine at_call ?_; (try simp only [push_cast, simprocAttr]); refine rwc_r (hL) (by simp [flatV, flatL]) (flat_c _) (by simp [frB, baseOf]) (go_on ?_); (try simp only [push_cast, simprocAttr]))
    refine at_ret ?_; simp only [Tryz.results62, push_cast, simprocAttr]
    simp [rX, ixOf]
theorem SiteCanon_d (s : St) (hs : SmS s) : PC Tryz.prog 62 [stA' s] (vX (cmA (siteC s))) := by
  have := (SiteCanon_pc s hs).frzX
  simpa [viewN, hpOf, hget, isC, tk] using this
theorem specSiteCanon_pc (s : St) (hs : SmS s) : PC Tryz.prog 55 [stA' s] (vX (cmA (siteC s))) := by
  have hL := specLogCanon_pc s.log hs.l
  have hV := specSiteValid_pc s hs
  unfold stA' stC at hV ⊢
  unfold canS at hL
  refine pc_enter Tryz.func55 rfl rfl fun w0 fb => go_on ?_; (try simp only [Tryz.ntmps55, push_cast, simprocAttr])
  (refine at_call ?_; (try simp only [push_cast, simprocAttr]); refine rwc_v (hV) (go_on ?_); (try simp only [push_cast, simprocAttr]))
  refine at_b (fun hb => ?_) (fun hb => ?_)
  · have h : siteV s = false := not_t hb
    (try simp only [hb, push_cast, simprocAttr])
    refine at_retf ?_; simp only [Tryz.results55, push_cast, simprocAttr]
    simp [vX, siteC, h, ixOf]
  · have h : siteV s = true := not_f hb
    have e : siteC s = (lCanon s.log).getD [] := by simp [siteC, h]
    rw [← e] at hL
    (try simp only [hb, push_cast, simprocAttr])
    ((try simp only [push_cast, simprocAttr]); refine at_share2 (by simp [isC2, isC]) (by first | rfl | simp [ren]) (hL) (go_on ?_); (try simp only [push_cast, simprocAttr]))
    refine at_ret ?_; simp only [Tryz.results55, push_cast, simprocAttr]
    simp [vX, ixOf]
end Go.Proofs.YtdjglbedimpldaaGreatDoor
/-
  Walks: canonical logs are short.
-/
namespace Go.Proofs.YtdjglbedimpldaaGreatDoor
open Go Go.RowKit Go.Proofs
theorem siteC_cv (s : St) : (siteC s).length ≤ 20 ∧ ∀ c ∈ siteC s, CV c := by
  cases h : siteV s with
  | true =>
    obtain ⟨t, L, hs⟩ := (siteV_iff s).1 h
    rw [hs.C]
    exact ⟨hs.l20, hs.co.cv⟩
  | false =>
    have : siteC s = [] := by simp [siteC, h]
    rw [this]
    exact ⟨by simp, by simp⟩
theorem siteC_sm (s : St) : SmL (siteC s) := by
  obtain ⟨h1, h2⟩ := siteC_cv s
  refine ⟨by omega, fun c hc => ?_⟩
  have h := h2 c hc
  have := (pV_len h.p h.r).2
  omega
end Go.Proofs.YtdjglbedimpldaaGreatDoor
/-
  Walks: conflicts of commands.
-/
namespace Go.Proofs.YtdjglbedimpldaaGreatDoor
open Go Go.RowKit Go.Proofs
/-- A command as a value. -/
def vC (c : Cm) : Value := .agg #[sV c.p, .int .i64 c.a.k, .int .i64 c.a.v, .int .i64 c.b.k, .int .i64 c.b.v]
theorem C.vC {lv : Nat → Prop} {w : World} {u : Value} {c : Cm} (h : C lv 0 w (.v (Go.Proofs.YtdjglbedimpldaaGreatDoor.vC c)) u) : C lv 0 w (cmdA c) u := by
  cases h
  refine .agg _ rfl fun j a ha => ?_
  rcases j with _ | _ | _ | _ | _ | j
  · cases ha; exact .v
  · cases ha; exact .v
  · cases ha; exact .v
  · cases ha; exact .v
  · cases ha; exact .v
  · simp [cmC] at ha
theorem isPrefix_take (a b : Str) : (decide (b.length ≤ a.length) && decide (a.take b.length = b)) = b.isPrefixOf a := by
  rw [Bool.eq_iff_iff, Bool.and_eq_true, decide_eq_true_eq, decide_eq_true_eq, List.isPrefixOf_iff_prefix, List.prefix_iff_eq_take]
  constructor
  · rintro ⟨_, h⟩; exact h.symm
  · intro h
    refine ⟨?_, h.symm⟩
    rw [h, List.length_take]; omega
theorem cm_eq (x y : Cm) : (decide (x.p = y.p) && ((eqI x.a.k y.a.k && eqI x.a.v y.a.v) && (eqI x.b.k y.b.k && eqI x.b.v y.b.v))) = decide (x = y) := by
  rw [Bool.eq_iff_iff]; simp [eqI_d, cm_ext, ct_ext]
attribute [local irreducible] RWp AW run kPe pe Kt effA gd gu br retR RDp runD kPeD brW gW effD
set_option maxRecDepth 100000
theorem HasPrefix0_pc (a b : Str) (ha : a.length < 4294967290) (hb : b.length < 4294967290) : PC Tryz.prog 224 [sA a, sA b] (vB (b.isPrefixOf a)) := by
  rw [← isPrefix_take]
  refine pc_enter Tryz.func224 rfl rfl fun w0 fb => go_on ?_; (try simp only [Tryz.ntmps224, push_cast, simprocAttr])
  by_cases h : b.length ≤ a.length
  · have i0 : leI (b.length : Int) a.length = true := leI_t (by omega)
    have i1 : (b.length : Int) ≤ a.length := by omega
    (try simp only [i0, i1, push_cast, simprocAttr])
    refine at_ret ?_; simp only [Tryz.results224, push_cast, simprocAttr]
    simp [vX, h]
  · have i0 : leI (b.length : Int) a.length = false := leI_f (by omega)
    (try simp only [i0, push_cast, simprocAttr])
    refine at_ret ?_; simp only [Tryz.results224, push_cast, simprocAttr]
    simp [vX, h]
theorem HasPrefix_pc (a b : Str) (ha : a.length < 4294967290) (hb : b.length < 4294967290) : PC Tryz.prog 215 [sA a, sA b] (vB (b.isPrefixOf a)) := by
  refine pc_enter Tryz.func215 rfl rfl fun w0 fb => go_on ?_; (try simp only [Tryz.ntmps215, push_cast, simprocAttr])
  (refine at_call ?_; (try simp only [push_cast, simprocAttr]); refine rwc_v (HasPrefix0_pc a b ha hb) (go_on ?_); (try simp only [push_cast, simprocAttr]))
  refine at_ret ?_; simp only [Tryz.results215, push_cast, simprocAttr]
  simp [vX]
theorem under_pc (a s : Str) (ha : a.length < 4294967285) (hs : s.length < 4294967285) : PC Tryz.prog 203 [sA a, sA s] (vB (und a s)) := by
  have hH := HasPrefix_pc s (a ++ [47]) (by omega) (by simp; omega)
  have w5 : a.length + 1 ≤ 9223372036854775807 := by omega
  refine pc_enter Tryz.func203 rfl rfl fun w0 fb => go_on ?_; (try simp only [Tryz.ntmps203, push_cast, simprocAttr])
  refine at_b (fun hb => ?_) (fun hb => ?_)
  · have h : a = [47] := by simpa using hb
    (try simp only [hb, push_cast, simprocAttr])
    refine at_ret ?_; simp only [Tryz.results203, push_cast, simprocAttr]
    by_cases hs : s = [47] <;> simp [vX, und, h, root, hs]
  · have h : ¬ a = [47] := by simpa using hb
    (try simp only [hb, w5, push_cast, simprocAttr])
    (refine at_call ?_; (try simp only [push_cast, simprocAttr]); refine rwc_v (hH) (go_on ?_); (try simp only [push_cast, simprocAttr]))
    refine at_ret ?_; simp only [Tryz.results203, push_cast, simprocAttr]
    simp [vX, und, h, root]
theorem stops_pc (c d : Cm) (hc : c.p.length < 4294967285) (hd : d.p.length < 4294967285) : PC Tryz.prog 183 [cmdA c, cmdA d] (vB (stops c d)) := by
  have hU := under_pc c.p d.p hc hd
  have e : stops c d = (und c.p d.p && !eqI c.b.k 1 && !eqI d.b.k 0) := by unfold stops; rw [eqI_d, eqI_d]; simp
  unfold cmdA cmC
  refine pc_enter Tryz.func183 rfl rfl fun w0 fb => go_on ?_; (try simp only [Tryz.ntmps183, push_cast, simprocAttr])
  repeat' first | (refine at_b (fun hb => ?_) (fun hb => ?_) <;> simp only [hb, push_cast, simprocAttr]) | (refine at_ret ?_; simp only [Tryz.results183, push_cast, simprocAttr]) | (refine at_call ?_; (try simp only [push_cast, simprocAttr]); refine rwc_v (by first | exact hU) (go_on ?_); simp only [push_cast, simprocAttr]) | (show RWp _ _ _ _ _; simp only [push_cast, simprocAttr])
  all_goals simp [vX, e, *]
theorem clashes_pc (c d : Cm) (hc : c.p.length < 4294967285) (hd : d.p.length < 4294967285) : PC Tryz.prog 155 [cmdA c, cmdA d] (vB (clash c d)) := by
  have h1 := stops_pc c d hc (by omega)
  have h2 := stops_pc d c hd (by omega)
  have e : clash c d = ((decide (c.p = d.p) && !decide (c.b = d.b)) || stops c d || stops d c) := by unfold clash; simp
  unfold cmdA cmC at *
  refine pc_enter Tryz.func155 rfl rfl fun w0 fb => go_on ?_; (try simp only [Tryz.ntmps155, push_cast, simprocAttr])
  repeat' first | (refine at_b (fun hb => ?_) (fun hb => ?_) <;> simp only [ctg, cth, ct_eq, hb, push_cast, simprocAttr]) | (refine at_ret ?_; simp only [ctg, cth, ct_eq, Tryz.results155, push_cast, simprocAttr]) | (refine at_call ?_; (try simp only [push_cast, simprocAttr]); refine rwc_v (by first | exact h1 | exact h2) (go_on ?_); simp only [ctg, cth, ct_eq, push_cast, simprocAttr]) | (show RWp _ _ _ _ _; simp only [ctg, cth, ct_eq, push_cast, simprocAttr])
  all_goals simp [vX, e, *]
theorem IndexFuncV_pc (l : List Cm) (hl : l.length < 4294967281) (g : FuncId) (fs cs : Array Value) (p : Cm → Bool) (hp : ∀ n ∈ l, PC Tryz.prog g (fs.toList.map .v ++ ([cmdA n] ++ cs.toList.map .v)) (vB (p n))) :
    PC Tryz.prog 147 [cmA l, .v (.func (.func g) fs cs)] (vI (idxF p 0 l)) := by
  refine pc_enter Tryz.func147 rfl rfl fun w0 fb => go_on ?_; (try simp only [Tryz.ntmps147, push_cast, simprocAttr])
  refine at_loop (X := Nat) (fun k => [(8, iA k)]) (fun _ => []) (fun k => k ≤ l.length ∧ idxF p 0 l = idxF p k (l.drop k)) (fun k => l.length - k) 0 ⟨Nat.zero_le _, rfl⟩ ?_ ?_
  · (refine wk_ok ?_ ?_ ?_ ?_ <;> simp [leL, leH, idsL, idsA, idsR, inH, hget, sameRow, upA, hvA, dsts, dstO, setA_0, setA_1, setA_8, List.append, List.cons_append, List.nil_append])
  · rintro k ⟨h1, h2⟩
    simp only [upA, hvA, dsts, dstO, setA_0, setA_1, setA_8, List.append, List.cons_append, List.nil_append]
    refine go_on ?_
    (try simp only [push_cast, simprocAttr])
    refine at_b (fun hg => ?_) (fun hg => ?_)
    · have hlt := lt_tt hg
      obtain ⟨x, hk⟩ := get_of_lt hlt
      have i1 := ix_n hk
      have i2 := map_get cmC hk
      simp only [cmC] at i2
      rw [drop_of_get hk] at h2
      have hx := hp x (mem_of_get hk)
      unfold cmdA cmC at hx
      have hv : ∀ l : List Value, (l.map AV.v).map (viewN 3 []) = l.map AV.v := fun l => by rw [List.map_map]; exact List.map_congr_left fun y _ => by simp [viewN, isC]
      (try simp only [hg, i1, i2, push_cast, simprocAttr])
      have hm : (fs.toList.map AV.v ++ AV.agg [sA x.p, iA x.a.k, iA x.a.v, iA x.b.k, iA x.b.v] :: cs.toList.map AV.v).map (viewN 3 []) = fs.toList.map AV.v ++ ([AV.agg [sA x.p, iA x.a.k, iA x.a.v, iA x.b.k, iA x.b.v]] ++ cs.toList.map AV.v) := by
        rw [List.map_append, List.map_cons, hv, hv]; rfl
      refine at_call ?_
      refine rwc_v (x := .bool (p x)) (Eq.mpr (congrArg (fun a => PC Tryz.prog g a (vB (p x))) hm) hx) (go_on ?_)
      cases hpx : p x with
      | true =>
        (try simp only [hpx, push_cast, simprocAttr])
        refine at_ret ?_; simp only [Tryz.results147, push_cast, simprocAttr]
        simp [vX, h2, idxF, hpx]
      | false =>
        have w1 := wr ((k : Int) + 1) (by omega)
        (try simp only [hpx, w1, push_cast, simprocAttr])
        refine at_fin ⟨k + 1, ⟨by omega, ?_⟩, by omega, ?_⟩
        · rw [h2]; simp [idxF, hpx]
        · (refine wk_ok ?_ ?_ ?_ ?_ <;> simp [leL, leH, idsL, idsA, idsR, inH, hget, sameRow, upA, hvA, dsts, dstO, setA_0, setA_1, setA_8, List.append, List.cons_append, List.nil_append])
    · have h3 := lt_ff hg
      (try simp only [hg, push_cast, simprocAttr])
      refine at_ret ?_; simp only [Tryz.results147, push_cast, simprocAttr]
      rw [List.drop_of_length_le h3] at h2
      simp [vX, h2, idxF]
end Go.Proofs.YtdjglbedimpldaaGreatDoor
/-
  Walks: slices of commands and nodes: Index, Contains, Equal, IsSortedFunc.
-/
namespace Go.Proofs.YtdjglbedimpldaaGreatDoor
open Go Go.RowKit Go.Proofs
attribute [local irreducible] RWp AW run kPe pe Kt effA gd gu br retR RDp runD kPeD brW gW effD
set_option maxRecDepth 100000
theorem IndexC_pc (l : List Cm) (hl : l.length < 4294967281) (c : Cm) : PC Tryz.prog 182 [cmA l, cmdA c] (vI (idxF (fun d => decide (c = d)) 0 l)) := by
  unfold cmdA cmC
  refine pc_enter Tryz.func182 rfl rfl fun w0 fb => go_on ?_; (try simp only [Tryz.ntmps182, push_cast, simprocAttr])
  refine at_loop (X := Nat) (fun k => [(8, iA k)]) (fun _ => [(3, ⟨53, 5, [cmC c], true⟩)]) (fun k => k ≤ l.length ∧ idxF (fun d => decide (c = d)) 0 l = idxF (fun d => decide (c = d)) k (l.drop k)) (fun k => l.length - k) 0 ⟨Nat.zero_le _, rfl⟩ ?_ ?_
  · (refine wk_ok ?_ ?_ ?_ ?_ <;> simp [cmC, leL, leH, idsL, idsA, idsR, inH, hget, sameRow, upA, hvA, dsts, dstO, setA_0, setA_1, setA_8, List.append, List.cons_append, List.nil_append])
  · rintro k ⟨h1, h2⟩
    simp only [upA, hvA, dsts, dstO, setA_0, setA_1, setA_8, List.append, List.cons_append, List.nil_append]
    refine go_on ?_
    (try simp only [push_cast, simprocAttr])
    refine at_b (fun hg => ?_) (fun hg => ?_)
    · have hlt := lt_tt hg
      obtain ⟨x, hk⟩ := get_of_lt hlt
      have i1 := ix_n hk
      have i2 := map_get cmC hk
      simp only [cmC] at i2
      rw [drop_of_get hk] at h2
      have e := cm_eq c x
      (try simp only [hg, push_cast, simprocAttr])
      refine at_draw rfl (by kernel_rfl) ?_
      (try simp only [i1, i2, ctg, cth, cmg, cmh, push_cast, simprocAttr])
      refine at_done (by kernel_rfl) (by kernel_rfl) (go_on ?_)
      (try simp only [e, push_cast, simprocAttr])
      refine at_b (fun hn => ?_) (fun hn => ?_)
      · (try simp only [hn, push_cast, simprocAttr])
        refine at_ret ?_; simp only [Tryz.results182, push_cast, simprocAttr]
        simp [vX, h2, idxF, hn]
      · have w1 := wr ((k : Int) + 1) (by omega)
        (try simp only [hn, w1, push_cast, simprocAttr])
        refine at_fin ⟨k + 1, ⟨by omega, ?_⟩, by omega, ?_⟩
        · rw [h2]; simp [idxF, hn]
        · (refine wk_ok ?_ ?_ ?_ ?_ <;> simp [cmC, leL, leH, idsL, idsA, idsR, inH, hget, sameRow, upA, hvA, dsts, dstO, setA_0, setA_1, setA_8, List.append, List.cons_append, List.nil_append])
    · have h3 := lt_ff hg
      (try simp only [hg, push_cast, simprocAttr])
      refine at_ret ?_; simp only [Tryz.results182, push_cast, simprocAttr]
      rw [List.drop_of_length_le h3] at h2
      simp [vX, h2, idxF]
theorem ContainsC_pc (l : List Cm) (hl : l.length < 4294967281) (c : Cm) : PC Tryz.prog 153 [cmA l, cmdA c] (vB (decide (c ∈ l))) := by
  have hI := IndexC_pc l hl c
  have e : leI 0 (idxF (fun d => decide (c = d)) 0 l) = decide (c ∈ l) := by
    rw [idxF_any, Bool.eq_iff_iff, List.any_eq_true, decide_eq_true_eq]
    exact ⟨fun ⟨x, h1, h2⟩ => by simp at h2; rw [h2]; exact h1, fun h => ⟨c, h, by simp⟩⟩
  unfold cmdA cmC at *
  refine pc_enter Tryz.func153 rfl rfl fun w0 fb => go_on ?_; (try simp only [Tryz.ntmps153, push_cast, simprocAttr])
  (refine at_call ?_; (try simp only [push_cast, simprocAttr]); refine rwc_v (hI) (go_on ?_); (try simp only [push_cast, simprocAttr]))
  refine at_ret ?_; simp only [Tryz.results153, push_cast, simprocAttr]
  simp [vX, e]
theorem EqualN_pc (a b : List Nd) (hl : a.length < 4294967281) : PC Tryz.prog 88 [ndA a, ndA b] (vB (decide (a = b))) := by
  refine pc_enter Tryz.func88 rfl rfl fun w0 fb => go_on ?_; (try simp only [Tryz.ntmps88, push_cast, simprocAttr])
  refine at_b (fun hb => ?_) (fun hb => ?_)
  · have h1 := of_eqI_f (not_t hb)
    have h2 : a ≠ b := by rintro rfl; exact h1 rfl
    (try simp only [hb, push_cast, simprocAttr])
    refine at_ret ?_; simp only [Tryz.results88, push_cast, simprocAttr]
    simp [vX, h2]
  · have h1 : a.length = b.length := by have := of_eqI_t (not_f hb); omega
    (try simp only [hb, push_cast, simprocAttr])
    refine at_loop (X := Nat) (fun k => [(13, iA k)]) (fun _ => []) (fun k => k ≤ a.length ∧ decide (a = b) = decide (a.drop k = b.drop k)) (fun k => a.length - k) 0 ⟨Nat.zero_le _, rfl⟩ ?_ ?_
    · (refine wk_ok ?_ ?_ ?_ ?_ <;> simp [leL, leH, idsL, idsA, idsR, inH, hget, sameRow, upA, hvA, dsts, dstO, setA_0, setA_1, setA_8, List.append, List.cons_append, List.nil_append])
    · rintro k ⟨q1, q2⟩
      simp only [upA, hvA, dsts, dstO, setA_0, setA_1, setA_8, List.append, List.cons_append, List.nil_append]
      refine go_on ?_
      (try simp only [push_cast, simprocAttr])
      refine at_b (fun hg => ?_) (fun hg => ?_)
      · have hlt := lt_tt hg
        obtain ⟨x, hx⟩ := get_of_lt hlt
        obtain ⟨y, hy⟩ := get_of_lt (l := b) (k := k) (by omega)
        have i1 := ix_n hx
        have i3 := ix_n hy
        have i2 := map_get ndC hx
        have i4 := map_get ndC hy
        simp only [ndC] at i2 i4
        rw [drop_of_get hx, drop_of_get hy] at q2
        have w2 := wr ((k : Int) + 1) (by omega)
        (try simp only [hg, push_cast, simprocAttr])
        refine at_draw rfl (by kernel_rfl) ?_
        (try simp only [i1, i2, i3, i4, ctg, cth, ndg, ndh, push_cast, simprocAttr])
        refine at_done (by kernel_rfl) (by kernel_rfl) (go_on ?_)
        have e : (decide (x.p = y.p) && (eqI x.c.k y.c.k && eqI x.c.v y.c.v)) = decide (x = y) := by
          rw [Bool.eq_iff_iff]; simp [eqI_d, nd_ext, ct_ext]
        (try simp only [e, push_cast, simprocAttr])
        refine at_b (fun hn => ?_) (fun hn => ?_)
        · have hxy : x ≠ y := by simpa using hn
          (try simp only [hn, push_cast, simprocAttr])
          refine at_ret ?_; simp only [Tryz.results88, push_cast, simprocAttr]
          simp [vX, q2, hxy]
        · have hxy : x = y := by simpa using hn
          (try simp only [hn, w2, push_cast, simprocAttr])
          refine at_fin ⟨k + 1, ⟨by omega, ?_⟩, by omega, ?_⟩
          · rw [q2]; simp [hxy]
          · (refine wk_ok ?_ ?_ ?_ ?_ <;> simp [leL, leH, idsL, idsA, idsR, inH, hget, sameRow, upA, hvA, dsts, dstO, setA_0, setA_1, setA_8, List.append, List.cons_append, List.nil_append])
      · have h3 := lt_ff hg
        (try simp only [hg, push_cast, simprocAttr])
        refine at_ret ?_; simp only [Tryz.results88, push_cast, simprocAttr]
        rw [List.drop_of_length_le h3, List.drop_of_length_le (by omega)] at q2
        simp [vX, q2]
theorem cOrd_step {l : List Cm} {k : Nat} {x y : Cm} (hx : l[k + 1]? = some x) (hy : l[k]? = some y) : cOrd (l.drop k) = (!cLt x y && cOrd (l.drop (k + 1))) := by
  rw [drop_of_get hy, drop_of_get hx]
  simp only [cOrd]
theorem cOrd_pre : ∀ (l : List Cm) (k : Nat), cOrd (l.drop k) = false → cOrd l = false
  | _, 0, h => h
  | [], k + 1, h => by simp [cOrd] at h
  | a :: l, k + 1, h => by
    have := cOrd_pre l k (by simpa using h)
    cases h2 : cOrd (a :: l) with
    | false => rfl
    | true => rw [cOrd_cons h2] at this; cases this
end Go.Proofs.YtdjglbedimpldaaGreatDoor
/-
  Walks: the canonical order as a comparing function; IsSortedFunc, ContainsFunc, disputed, slices.Equal at commands.
-/
namespace Go.Proofs.YtdjglbedimpldaaGreatDoor
open Go Go.RowKit Go.Proofs
attribute [local irreducible] RWp AW run kPe pe Kt effA gd gu br retR RDp runD kPeD brW gW effD
set_option maxRecDepth 100000
theorem isNaN_pc (a : Str) : PC Tryz.prog 194 [sA a] (vB false) := by
  refine pc_enter Tryz.func194 rfl rfl fun w0 fb => go_on ?_; (try simp only [Tryz.ntmps194, push_cast, simprocAttr])
  repeat' first | (refine at_b (fun hb => ?_) (fun hb => ?_) <;> simp only [hb, push_cast, simprocAttr]) | (refine at_ret ?_; simp only [Tryz.results194, push_cast, simprocAttr]) | (show RWp _ _ _ _ _; simp only [push_cast, simprocAttr])
  all_goals simp [vX]
theorem Compare_pc (a b : Str) : PC Tryz.prog 159 [sA a, sA b] (vI (cmpS a b)) := by
  refine pc_enter Tryz.func159 rfl rfl fun w0 fb => go_on ?_; (try simp only [Tryz.ntmps159, push_cast, simprocAttr])
  (refine at_call ?_; (try simp only [push_cast, simprocAttr]); refine rwc_v (isNaN_pc a) (go_on ?_); (try simp only [push_cast, simprocAttr]))
  (refine at_call ?_; (try simp only [push_cast, simprocAttr]); refine rwc_v (isNaN_pc b) (go_on ?_); (try simp only [push_cast, simprocAttr]))
  cases h1 : slt a b with
  | true =>
    (try simp only [h1, push_cast, simprocAttr])
    refine at_ret ?_; simp only [Tryz.results159, push_cast, simprocAttr]
    simp [vX, cmpS, h1]
  | false =>
    (try simp only [h1, push_cast, simprocAttr])
    have e := gtr_slt a b
    have e' : decide (a = b) = !slt b a := by
      rw [← e]; show decide (a = b) = !!(slt a b || a == b); rw [h1]; by_cases h : a = b <;> simp [h]
    cases h2 : slt b a with
    | true =>
      rw [h2] at e'
      (try simp only [e', Bool.not_true, Bool.not_false, push_cast, simprocAttr])
      refine at_ret ?_; simp only [Tryz.results159, push_cast, simprocAttr]
      simp [vX, cmpS, h1, h2]
    | false =>
      rw [h2] at e'
      (try simp only [e', Bool.not_true, Bool.not_false, push_cast, simprocAttr])
      refine at_ret ?_; simp only [Tryz.results159, push_cast, simprocAttr]
      simp [vX, cmpS, h1, h2]
theorem ends_pc (c : Cm) : PC Tryz.prog 158 [cmdA c] (vB (cEnds c)) := by
  have e : cEnds c = (eqI c.b.k 0 || eqI c.a.k 1) := by unfold cEnds; rw [eqI_d, eqI_d]
  unfold cmdA cmC
  refine pc_enter Tryz.func158 rfl rfl fun w0 fb => go_on ?_; (try simp only [Tryz.ntmps158, push_cast, simprocAttr])
  repeat' first | (refine at_b (fun hb => ?_) (fun hb => ?_) <;> simp only [hb, push_cast, simprocAttr]) | (refine at_ret ?_; simp only [Tryz.results158, push_cast, simprocAttr]) | (show RWp _ _ _ _ _; simp only [push_cast, simprocAttr])
  all_goals simp [vX, e, *]
theorem canonOrder_pc (c d : Cm) : PC Tryz.prog 110 [cmdA c, cmdA d] (vI (cfC c d)) := by
  have h1 := ends_pc c
  have h2 := ends_pc d
  unfold cmdA cmC at *
  refine pc_enter Tryz.func110 rfl rfl fun w0 fb => go_on ?_; (try simp only [Tryz.ntmps110, push_cast, simprocAttr])
  cases e1 : cEnds c <;> cases e2 : cEnds d <;> rw [e1] at h1 <;> rw [e2] at h2
  · (refine at_call ?_; (try simp only [push_cast, simprocAttr]); refine rwc_v (h1) (go_on ?_); (try simp only [push_cast, simprocAttr]))
    (refine at_call ?_; (try simp only [push_cast, simprocAttr]); refine rwc_v (h1) (go_on ?_); (try simp only [push_cast, simprocAttr]))
    (refine at_call ?_; (try simp only [push_cast, simprocAttr]); refine rwc_v (h2) (go_on ?_); (try simp only [push_cast, simprocAttr]))
    (refine at_call ?_; (try simp only [push_cast, simprocAttr]); refine rwc_v (Compare_pc c.p d.p) (go_on ?_); (try simp only [push_cast, simprocAttr]))
    refine at_ret ?_; simp only [Tryz.results110, push_cast, simprocAttr]
    simp [vX, cfC, e1, e2]
  · (refine at_call ?_; (try simp only [push_cast, simprocAttr]); refine rwc_v (h1) (go_on ?_); (try simp only [push_cast, simprocAttr]))
    (refine at_call ?_; (try simp only [push_cast, simprocAttr]); refine rwc_v (h1) (go_on ?_); (try simp only [push_cast, simprocAttr]))
    (refine at_call ?_; (try simp only [push_cast, simprocAttr]); refine rwc_v (h2) (go_on ?_); (try simp only [push_cast, simprocAttr]))
    refine at_ret ?_; simp only [Tryz.results110, push_cast, simprocAttr]
    simp [vX, cfC, e1, e2]
  · (refine at_call ?_; (try simp only [push_cast, simprocAttr]); refine rwc_v (h1) (go_on ?_); (try simp only [push_cast, simprocAttr]))
    (refine at_call ?_; (try simp only [push_cast, simprocAttr]); refine rwc_v (h2) (go_on ?_); (try simp only [push_cast, simprocAttr]))
    (refine at_call ?_; (try simp only [push_cast, simprocAttr]); refine rwc_v (h1) (go_on ?_); (try simp only [push_cast, simprocAttr]))
    refine at_ret ?_; simp only [Tryz.results110, push_cast, simprocAttr]
    simp [vX, cfC, e1, e2]
  · (refine at_call ?_; (try simp only [push_cast, simprocAttr]); refine rwc_v (h1) (go_on ?_); (try simp only [push_cast, simprocAttr]))
    (refine at_call ?_; (try simp only [push_cast, simprocAttr]); refine rwc_v (h2) (go_on ?_); (try simp only [push_cast, simprocAttr]))
    (refine at_call ?_; (try simp only [push_cast, simprocAttr]); refine rwc_v (Compare_pc d.p c.p) (go_on ?_); (try simp only [push_cast, simprocAttr]))
    refine at_ret ?_; simp only [Tryz.results110, push_cast, simprocAttr]
    simp [vX, cfC, e1, e2]
theorem ContainsFuncV_pc (l : List Cm) (hl : l.length < 4294967281) (g : FuncId) (fs cs : Array Value) (p : Cm → Bool) (hp : ∀ n ∈ l, PC Tryz.prog g (fs.toList.map .v ++ ([cmdA n] ++ cs.toList.map .v)) (vB (p n))) :
    PC Tryz.prog 154 [cmA l, .v (.func (.func g) fs cs)] (vB (l.any p)) := by
  have hI := IndexFuncV_pc l hl g fs cs p hp
  have e : leI 0 (idxF p 0 l) = l.any p := idxF_any _ _
  refine pc_enter Tryz.func154 rfl rfl fun w0 fb => go_on ?_; (try simp only [Tryz.ntmps154, push_cast, simprocAttr])
  (refine at_call ?_; (try simp only [push_cast, simprocAttr]); refine rwc_v (hI) (go_on ?_); (try simp only [push_cast, simprocAttr]))
  refine at_ret ?_; simp only [Tryz.results154, push_cast, simprocAttr]
  simp [vX, e]
theorem disputed_pc (c : Cm) (l : List Cm) (hc : c.p.length < 4294967285) (hl : SmL l) : PC Tryz.prog 108 [cmdA c, cmA l] (vB (disp l c)) := by
  have hD := ContainsFuncV_pc l (by have := hl.n; omega) 155 #[vC c] #[] (clash c) (fun n hn => by
    have := hl.p n hn
    refine PC.args (clashes_pc c n hc (by omega)) rfl fun j x y hx hy lv w u hu => ?_
    rcases j with _ | _ | j
    · cases hx; cases hy; exact C.vC hu
    · cases hx; cases hy; exact hu
    · simp at hx)
  unfold cmdA cmC
  refine pc_enter Tryz.func108 rfl rfl fun w0 fb => go_on ?_; (try simp only [Tryz.ntmps108, push_cast, simprocAttr])
  (refine at_call ?_; (try simp only [push_cast, simprocAttr]); refine rwc_v (hD) (go_on ?_); (try simp only [push_cast, simprocAttr]))
  refine at_ret ?_; simp only [Tryz.results108, push_cast, simprocAttr]
  simp [vX, disp]
theorem EqualC_pc (a b : List Cm) (hl : a.length < 4294967281) : PC Tryz.prog 89 [cmA a, cmA b] (vB (decide (a = b))) := by
  refine pc_enter Tryz.func89 rfl rfl fun w0 fb => go_on ?_; (try simp only [Tryz.ntmps89, push_cast, simprocAttr])
  refine at_b (fun hb => ?_) (fun hb => ?_)
  · have h1 := of_eqI_f (not_t hb)
    have h2 : a ≠ b := by rintro rfl; exact h1 rfl
    (try simp only [hb, push_cast, simprocAttr])
    refine at_ret ?_; simp only [Tryz.results89, push_cast, simprocAttr]
    simp [vX, h2]
  · have h1 : a.length = b.length := by have := of_eqI_t (not_f hb); omega
    (try simp only [hb, push_cast, simprocAttr])
    refine at_loop (X := Nat) (fun k => [(13, iA k)]) (fun _ => []) (fun k => k ≤ a.length ∧ decide (a = b) = decide (a.drop k = b.drop k)) (fun k => a.length - k) 0 ⟨Nat.zero_le _, rfl⟩ ?_ ?_
    · (refine wk_ok ?_ ?_ ?_ ?_ <;> simp [leL, leH, idsL, idsA, idsR, inH, hget, sameRow, upA, hvA, dsts, dstO, setA_0, setA_1, setA_8, List.append, List.cons_append, List.nil_append])
    · rintro k ⟨q1, q2⟩
      simp only [upA, hvA, dsts, dstO, setA_0, setA_1, setA_8, List.append, List.cons_append, List.nil_append]
      refine go_on ?_
      (try simp only [push_cast, simprocAttr])
      refine at_b (fun hg => ?_) (fun hg => ?_)
      · have hlt := lt_tt hg
        obtain ⟨x, hx⟩ := get_of_lt hlt
        obtain ⟨y, hy⟩ := get_of_lt (l := b) (k := k) (by omega)
        have i1 := ix_n hx
        have i3 := ix_n hy
        have i2 := map_get cmC hx
        have i4 := map_get cmC hy
        simp only [cmC] at i2 i4
        rw [drop_of_get hx, drop_of_get hy] at q2
        have w2 := wr ((k : Int) + 1) (by omega)
        have e := cm_eq x y
        (try simp only [hg, push_cast, simprocAttr])
        refine at_draw rfl (by kernel_rfl) ?_
        (try simp only [i1, i2, i3, i4, ctg, cth, cmg, cmh, push_cast, simprocAttr])
        refine at_done (by kernel_rfl) (by kernel_rfl) (go_on ?_)
        (try simp only [e, push_cast, simprocAttr])
        refine at_b (fun hn => ?_) (fun hn => ?_)
        · have hxy : x ≠ y := by simpa using hn
          (try simp only [hn, push_cast, simprocAttr])
          refine at_ret ?_; simp only [Tryz.results89, push_cast, simprocAttr]
          simp [vX, q2, hxy]
        · have hxy : x = y := by simpa using hn
          (try simp only [hn, w2, push_cast, simprocAttr])
          refine at_fin ⟨k + 1, ⟨by omega, ?_⟩, by omega, ?_⟩
          · rw [q2]; simp [hxy]
          · (refine wk_ok ?_ ?_ ?_ ?_ <;> simp [leL, leH, idsL, idsA, idsR, inH, hget, sameRow, upA, hvA, dsts, dstO, setA_0, setA_1, setA_8, List.append, List.cons_append, List.nil_append])
      · have h3 := lt_ff hg
        (try simp only [hg, push_cast, simprocAttr])
        refine at_ret ?_; simp only [Tryz.results89, push_cast, simprocAttr]
        rw [List.drop_of_length_le h3, List.drop_of_length_le (by omega)] at q2
        simp [vX, q2]
theorem IsSortedC_pc (l : List Cm) (hl : l.length < 4294967281) : PC Tryz.prog 181 [cmA l, .fn 110 []] (vB (cOrd l)) := by
  have w0' : IntKind.i64.wrap ((l.length : Int) - 1) = (l.length : Int) - 1 := wr _ (by omega)
  refine pc_enter Tryz.func181 rfl rfl fun w0 fb => go_on ?_; (try simp only [Tryz.ntmps181, push_cast, simprocAttr])
  (try simp only [w0', push_cast, simprocAttr])
  refine at_loop (X := Nat) (fun k => [(5, iA ((k : Int) - 1))]) (fun _ => []) (fun k => k ≤ l.length ∧ (k = 0 → l = []) ∧ cOrd (l.drop (k - 1)) = true) (fun k => k) l.length ⟨Nat.le_refl _, fun h => List.eq_nil_of_length_eq_zero h, ?_⟩ ?_ ?_
  · rcases Nat.eq_zero_or_pos l.length with h | h
    · rw [List.eq_nil_of_length_eq_zero h]; rfl
    · obtain ⟨x, hx⟩ := get_of_lt (l := l) (k := l.length - 1) (by omega)
      rw [drop_of_get hx, List.drop_of_length_le (by omega)]
      rfl
  · (refine wk_ok ?_ ?_ ?_ ?_ <;> simp [leL, leH, idsL, idsA, idsR, inH, hget, sameRow, upA, hvA, dsts, dstO, setA_0, setA_1, setA_8, List.append, List.cons_append, List.nil_append])
  · rintro k ⟨q1, q2, q3⟩
    simp only [upA, hvA, dsts, dstO, setA_0, setA_1, setA_8, List.append, List.cons_append, List.nil_append]
    refine go_on ?_
    (try simp only [push_cast, simprocAttr])
    by_cases hk : 2 ≤ k
    · obtain ⟨j, rfl⟩ : ∃ j, k = j + 2 := ⟨k - 2, by omega⟩
      obtain ⟨x, hx⟩ := get_of_lt (l := l) (k := j + 1) (by omega)
      obtain ⟨y, hy⟩ := get_of_lt (l := l) (k := j) (by omega)
      have e1 : (((j + 2 : Nat) : Int) - 1) = ((j + 1 : Nat) : Int) := by omega
      have e2 : (((j + 1 : Nat) : Int) - 1) = (j : Int) := by omega
      have w1 : IntKind.i64.wrap (j : Int) = (j : Int) := wr _ (by omega)
      have i0 : ltI 0 ((j + 1 : Nat) : Int) = true := ltI_t (by omega)
      have i1 := ix_n hx
      have i3 := ix_n hy
      have i2 := map_get cmC hx
      have i4 := map_get cmC hy
      have hC := canonOrder_pc x y
      have hs := cOrd_step hx hy
      rw [show j + 2 - 1 = j + 1 from rfl] at q3
      rw [q3, Bool.and_true, ← ltOf_cf] at hs
      obtain ⟨v, hv⟩ : ∃ v, v = ((j + 1 : Nat) : Int) := ⟨_, rfl⟩
      unfold ltOf at hs
      unfold cmdA at hC
      simp only [cmC] at i2 i4 hC
      rw [e1]
      rw [← hv] at i0 i1 e2 ⊢
      (try simp only [i0, push_cast, simprocAttr])
      refine at_draw rfl (by kernel_rfl) ?_
      (try simp only [i1, i2, e2, w1, i3, i4, push_cast, simprocAttr])
      refine at_callD (by simp [clB, idsL, idsA, hget]) ?_
      (try simp only [push_cast, simprocAttr])
      refine rcd_v hC ?_
      (try simp only [push_cast, simprocAttr])
      refine at_done (by kernel_rfl) (by kernel_rfl) (go_on ?_)
      (try simp only [push_cast, simprocAttr])
      have hl2 : ltI (cfC x y) 0 = decide (cfC x y < 0) := by unfold ltI; rfl
      rw [← hl2] at hs
      refine at_b (fun hn => ?_) (fun hn => ?_)
      · rw [hn] at hs
        have := cOrd_pre l j hs
        (try simp only [hn, push_cast, simprocAttr])
        refine at_ret ?_; simp only [Tryz.results181, push_cast, simprocAttr]
        simp [vX, this]
      · have hn' : ltI (cfC x y) 0 = false := by simpa using hn
        rw [hn'] at hs
        (try simp only [hn', e2, w1, push_cast, simprocAttr])
        refine at_fin ⟨j + 1, ⟨by omega, fun h => by omega, by simpa using hs⟩, by omega, ?_⟩
        (refine wk_ok ?_ ?_ ?_ ?_ <;> simp [e2, show ((j + 1 : Nat) : Int) - 1 = (j : Int) by omega, leL, leH, idsL, idsA, idsR, inH, hget, sameRow, upA, hvA, dsts, dstO, setA_0, setA_1, setA_8, List.append, List.cons_append, List.nil_append])
    · have i0 : ltI 0 ((k : Int) - 1) = false := ltI_f (by omega)
      (try simp only [i0, push_cast, simprocAttr])
      refine at_ret ?_; simp only [Tryz.results181, push_cast, simprocAttr]
      have : k - 1 = 0 := by omega
      rw [this] at q3
      simpa [vX] using q3
end Go.Proofs.YtdjglbedimpldaaGreatDoor
/-
  Walks: impl.oneEach (a set of paths in a map of the call's own).
-/
namespace Go.Proofs.YtdjglbedimpldaaGreatDoor
open Go Go.RowKit Go.Proofs
open Go.Maps (Keyed)
theorem und9 : Tryz.prog.underlying 9 = some .string := by kernel_rfl
theorem und4 : Tryz.prog.underlying 4 = some .bool := by kernel_rfl
theorem und136 : Tryz.prog.underlying 184 = some (.map 9 4) := by kernel_rfl
theorem keyed9 : Keyed Tryz.prog 9 := Maps.string_keyed und9
theorem zero4 (w : World) : (zeroValue 4).run Tryz.prog w = .ok (.bool false) w := by kernel_rfl
theorem key9 (s : Str) (h : s.length ≤ maxLen) : keyOf Tryz.prog 9 (sV s) = some (.string s) := by
  have := WideMaps.keyOf_string_mk und9 (s := ⟨s.toArray⟩) (by simpa [ByteArray.size] using h)
  simpa using this
theorem plainElem_bool_inv {v : Value} {z : DataW Unit × List MemPlace} (h : plainElem Tryz.prog 4 v = some z) : ∃ x, v = .bool x ∧ z = (.lit (.bool x), []) := by
  unfold plainElem at h
  rw [und4] at h
  cases v <;> simp at h
  exact ⟨_, rfl, h.symm⟩
theorem C.v_inv' {lv : Nat → Prop} {lo : Nat} {w : World} {x u : Value} (h : C lv lo w (.v x) u) : u = x := by
  cases h; rfl
/-- The map's datum says which paths the list has. -/
def Seen (D : DataW Unit) (l : List Cm) : Prop := ∀ s : Str, D.atKey (.string s) (.lit (.bool false)) = .lit (.bool (l.any fun c => decide (c.p = s)))
theorem Seen.nil : Seen (.map []) [] := fun s => rfl
theorem Seen.put {D : DataW Unit} {l : List Cm} (h : Seen D l) (hm : Maps.IsMap D) (c : Cm) : Seen (D.put (.string c.p) (.lit (.bool true))) (l ++ [c]) := fun s => by
  by_cases e : c.p = s
  · subst e
    rw [Maps.atKey_put_same hm (by simp [WideAt.IsKeyLit])]
    simp
  · rw [Maps.atKey_put_other (by simpa using fun h => e h.symm), h s]
    simp [e]
theorem cmA_rd {fb : Nat → Prop} {w : World} {v : Value} {l : List Cm} (h : C fb 0 w (cmA l) v) : ∃ A cap, v = .slice A l.length cap ∧
    ∀ (k : Nat) c, l[k]? = some c → ∃ b off, A = some ⟨b, off, none⟩ ∧ b < w.heap.size ∧ w.cell? ⟨b, off + k * 5, none⟩ = some (sV c.p) ∧ w.cell? ⟨b, off + k * 5 + 1, none⟩ = some (.int .i64 c.a.k) ∧ w.cell? ⟨b, off + k * 5 + 2, none⟩ = some (.int .i64 c.a.v) ∧ w.cell? ⟨b, off + k * 5 + 3, none⟩ = some (.int .i64 c.b.k) ∧ w.cell? ⟨b, off + k * 5 + 4, none⟩ = some (.int .i64 c.b.v) := by
  generalize hs : (cmA l) = x at h
  cases h with
  | any => cases hs
  | v => cases hs
  | ip => cases hs
  | fn => cases hs
  | agg => cases hs
  | tup => cases hs
  | @sl sz es A cap xs u hr hlv hc hm hl hx hg =>
    cases hs
    refine ⟨A, cap, by simp, fun k c hk => ?_⟩
    obtain ⟨b, off, hA, _, hb, hcell⟩ := hr.2 (by have := lt_of_some hk; simp; omega)
    refine ⟨b, off, hA, hb, ?_⟩
    have he : (l.map cmC)[k]? = some (cmC c) := by rw [List.getElem?_map, hk]; rfl
    have hj : ∀ j, j < 5 → w.cell? ⟨b, off + (k * 5 + j), none⟩ = some ((encC c)[j]!) := fun j hj => by
      have g1 := (hx k _ j he (by simp [cmC]; omega)).1
      have g2 := hg k _ j _ he (encC_get c j hj)
      rw [g2.v_inv'] at g1
      exact hcell _ _ g1
    exact ⟨hj 0 (by omega), hj 1 (by omega), hj 2 (by omega), hj 3 (by omega), hj 4 (by omega)⟩
theorem one1_snoc {l : List Cm} {k : Nat} {c : Cm} (hk : l[k]? = some c) (h : one1 (l.take k) = true) (hn : ((l.take k).any fun d => decide (d.p = c.p)) = false) : one1 (l.take (k + 1)) = true := by
  rw [List.take_add_one, hk]
  rw [one1_iff] at *
  simp only [Option.toList, List.map_append, List.map_cons, List.map_nil]
  rw [List.nodup_append]
  refine ⟨h, by simp, fun a ha b hb => ?_⟩
  simp only [List.mem_singleton] at hb
  subst hb
  rw [List.any_eq_false] at hn
  obtain ⟨d, hd, rfl⟩ := List.mem_map.1 ha
  simpa using hn d hd
theorem one1_hit {l : List Cm} {k : Nat} {c : Cm} (hk : l[k]? = some c) (hn : ((l.take k).any fun d => decide (d.p = c.p)) = true) : one1 l = false := by
  cases h : one1 l with
  | false => rfl
  | true =>
    rw [List.any_eq_true] at hn
    obtain ⟨d, hd, he⟩ := hn
    obtain ⟨j, hj, hjd⟩ := List.mem_take_iff_getElem.1 hd
    rw [one1_iff] at h
    have hlt := lt_of_some hk
    have h1 : j < l.length := by omega
    have hke : l[k] = c := by rw [List.getElem?_eq_getElem hlt] at hk; exact Option.some.inj hk
    have := List.pairwise_iff_getElem.1 h j k (by simpa using h1) (by simpa using hlt) (by omega)
    refine absurd ?_ this
    simp only [List.getElem_map]
    rw [hjd, hke]
    simpa using he
set_option maxRecDepth 100000
set_option maxHeartbeats 1000000
theorem oneEach_c (l : List Cm) (hl : SmL l) (A : Option Addr) (cap : Nat) (w : World)
    (hcell : ∀ (k : Nat) c, l[k]? = some c → ∃ b off, A = some ⟨b, off, none⟩ ∧ b < w.heap.size ∧ w.cell? ⟨b, off + k * 5, none⟩ = some (sV c.p) ∧ w.cell? ⟨b, off + k * 5 + 1, none⟩ = some (.int .i64 c.a.k) ∧ w.cell? ⟨b, off + k * 5 + 2, none⟩ = some (.int .i64 c.a.v) ∧ w.cell? ⟨b, off + k * 5 + 3, none⟩ = some (.int .i64 c.b.k) ∧ w.cell? ⟨b, off + k * 5 + 4, none⟩ = some (.int .i64 c.b.v)) :
    Calls Tryz.prog 180 #[.slice A l.length cap] w fun e w' => e = .returned (.bool (one1 l)) ∧ Below w.heap.size w w' := by
  have hmm := @run_makeMap Tryz.prog
  have hln := hl.n
  go_enter Tryz.func180, Tryz.ntmps180
  go_wp2
  go_loopw [9] (fun i wr => ∃ (k : Nat) (D : DataW Unit), k ≤ l.length ∧ i = .int .i64 k ∧ wr.ownsMap Tryz.prog 9 (plainElem Tryz.prog 4) w.heap.size k D ∧ Seen D (l.take k) ∧ one1 (l.take k) = true ∧ Below w.heap.size w wr)
    (fun i _ => l.length - (intOf i).toNat)
  case atStart => exact ⟨0, _, Nat.zero_le _, rfl, World.ownsMap_made _ _ _ _, Seen.nil, rfl, (Below.refl _ _).alloc (Nat.le_refl _) _⟩
  case round =>
    obtain ⟨k, D, hk, rfl, hown, hseen, hone, hnx⟩ := hrel
    by_cases hlt : k < l.length
    · obtain ⟨c, hc⟩ := get_of_lt hlt
      obtain ⟨b, off, rfl, hb, c0, c1, c2, c3, c4⟩ := hcell k c hc
      have hcc : ∀ x, b < w.heap.size → wr.cell? ⟨b, x, none⟩ = w.cell? ⟨b, x, none⟩ := fun x h => hnx.cell h
      rw [← hcc _ hb] at c0 c1 c2 c3 c4
      have hp := hl.p c (mem_of_get hc)
      have hkey : keyOf Tryz.prog 9 (sV c.p) = some (.string c.p) := key9 _ (by unfold maxLen; omega)
      have hown2 := (hown.alloc (.cells #[.string ⟨c.p.toArray⟩, .int .i64 c.a.k, .int .i64 c.a.v, .int .i64 c.b.k, .int .i64 c.b.v] 53))
      have hnx2 := hnx.alloc (Nat.le_of_lt hown.lt) (.cells #[.string ⟨c.p.toArray⟩, .int .i64 c.a.k, .int .i64 c.a.v, .int .i64 c.b.k, .int .i64 c.b.v] 53)
      obtain ⟨v, ps, hrun, hRv⟩ := hown2.lookup keyed9 und136 (zero4 _) (plainElem_bool und4 false) hkey
      obtain ⟨x, rfl, hx⟩ := plainElem_bool_inv hRv
      have hx' : x = (l.take k).any fun d => decide (d.p = c.p) := by
        have := hseen c.p
        rw [(Prod.mk.inj hx).1] at this
        simpa using this
      clear hx hRv
      have HC := Lib.hid hc
      have HO := Lib.hid hone
      have HS := Lib.hid hseen
      have HX := Lib.hid hx'
      clear hc hone hseen hx'
      cases x with
      | true =>
        go_wp2_with fail
        go_ret
        exact ⟨ret_bool (one1_hit HC.out HX.out.symm).symm, hnx2⟩
      | false =>
        go_wp2_with (first
          | (at_mapUpdate; refine wpList_mapUpdate_own _ rfl _ _ _ 184 rfl 9 4 keyed9 und136 _ w.heap.size k _ rfl hown2 (by unfold maxLen; omega) _ _ _ rfl rfl hkey _ [] (plainElem_bool und4 true) ?_)
          | go_in)
        intro w1 hown3 hgrow
        have hnx3 := hnx2.grown hgrow hnx2.size (fun j hj => by cases hj; exact Nat.le_refl _)
        have hs3 : Seen (D.put (.string c.p) (.lit (.bool true))) (l.take (k + 1)) := by
          rw [List.take_add_one, HC.out]
          exact HS.out.put hown.isMap c
        have ho3 := one1_snoc HC.out HO.out HX.out.symm
        clear hgrow hrun hown hown2 hnx hnx2
        have HN := Lib.hid hnx3
        have HW := Lib.hid hown3
        clear hnx3 hown3
        go_wp2_with fail
        go_roundw
        case rel => exact ⟨k + 1, _, by omega, by go_num, HW.out, hs3, ho3, HN.out⟩
        case measure => simp [intOf]; omega
    · go_wp2_with fail
      go_ret
      have : l.take k = l := List.take_of_length_le (by omega)
      rw [this] at hone
      exact ⟨ret_bool hone.symm, hnx⟩
theorem res_v (fb : Nat → Prop) (base : Nat) (w : World) (x : Value) : Res fb base w [] (.v x) x :=
  ⟨⟨fun _ => none, fb⟩, rfl, .cl .v, fun r row h => by simp [hpOf, hget] at h, fun r r' row row' b c c' h => by simp [hpOf, hget] at h, fun r row b c h => by simp [hpOf, hget] at h⟩
theorem oneEach_pc (l : List Cm) (hl : SmL l) : PC Tryz.prog 180 [cmA l] (vB (one1 l)) := by
  refine ⟨fun vs W => enters_of Tryz.func180 (by kernel_rfl) rfl vs W, fun w fb vs hlw hs hg => ?_⟩
  obtain ⟨A, cap, hv, hcell⟩ := cmA_rd (hg 0 _ rfl)
  have hvs : vs = #[vs.getD 0 undef] := by
    apply Array.ext
    · simpa using hs
    · intro i h1 h2
      have : i = 0 := by simp at h2; omega
      subst this
      simp [Array.getD, h1]
  rw [hvs, hv]
  refine (oneEach_c l hl A cap w hcell).mono ?_
  rintro e w' ⟨rfl, hb⟩
  exact ⟨.v (.bool (one1 l)), [], _, ⟨rfl, rfl⟩, rfl, hb, res_v _ _ _ _⟩
end Go.Proofs.YtdjglbedimpldaaGreatDoor
/-
  Walks: CanonValid, pick, SafeOf, LeftOf.
-/
namespace Go.Proofs.YtdjglbedimpldaaGreatDoor
open Go Go.RowKit Go.Proofs
attribute [local irreducible] RWp AW run kPe pe Kt effA gd gu br retR RDp runD kPeD brW gW effD
set_option maxRecDepth 100000
theorem CanonValid_pc (l : List Cm) (hl : SmL l) : PC Tryz.prog 151 [cmA l] (vB (canonV l)) := by
  have h1 := LogValid_pc l hl
  have h2 := oneEach_pc l hl
  have h3 := IsSortedC_pc l (by have := hl.n; omega)
  have e : canonV l = (lV l && one1 l && cOrd l) := rfl
  refine pc_enter Tryz.func151 rfl rfl fun w0 fb => go_on ?_; (try simp only [Tryz.ntmps151, push_cast, simprocAttr])
  repeat' first | (refine at_b (fun hb => ?_) (fun hb => ?_) <;> simp only [hb, push_cast, simprocAttr]) | (refine at_ret ?_; simp only [Tryz.results151, push_cast, simprocAttr]) | (refine at_call ?_; (try simp only [push_cast, simprocAttr]); refine rwc_v (by first | exact h1 | exact h2 | exact h3) (go_on ?_); simp only [push_cast, simprocAttr]) | (show RWp _ _ _ _ _; simp only [push_cast, simprocAttr])
  all_goals simp [vX, e, *]
theorem SafeOf1_pc (a : List Cm) (ha : SmL a) (c : Cm) (hc : c.p.length < 4294967285) : PC Tryz.prog 152 [cmdA c, .ip [cmA a]] (vB (!decide (c ∈ a) && !disp a c)) := by
  have h1 := ContainsC_pc a (by have := ha.n; omega) c
  have h2 := disputed_pc c a hc ha
  unfold cmdA cmC at *
  refine pc_enter Tryz.func152 rfl rfl fun w0 fb => go_on ?_; (try simp only [Tryz.ntmps152, push_cast, simprocAttr])
  repeat' first | (refine at_b (fun hb => ?_) (fun hb => ?_) <;> simp only [hb, push_cast, simprocAttr]) | (refine at_ret ?_; simp only [Tryz.results152, push_cast, simprocAttr]) | (refine at_call ?_; (try simp only [push_cast, simprocAttr]); refine rwc_v (by first | exact h1 | exact h2) (go_on ?_); simp only [push_cast, simprocAttr]) | (show RWp _ _ _ _ _; simp only [push_cast, simprocAttr])
  all_goals simp [vX, *]
theorem LeftOf1_pc (b : List Cm) (hb : SmL b) (c : Cm) (hc : c.p.length < 4294967285) : PC Tryz.prog 113 [cmdA c, .ip [cmA b]] (vB (disp b c)) := by
  have h2 := disputed_pc c b hc hb
  unfold cmdA cmC at *
  refine pc_enter Tryz.func113 rfl rfl fun w0 fb => go_on ?_; (try simp only [Tryz.ntmps113, push_cast, simprocAttr])
  repeat' first | (refine at_b (fun hb => ?_) (fun hb => ?_) <;> simp only [hb, push_cast, simprocAttr]) | (refine at_ret ?_; simp only [Tryz.results113, push_cast, simprocAttr]) | (refine at_call ?_; (try simp only [push_cast, simprocAttr]); refine rwc_v (by first | exact h2) (go_on ?_); simp only [push_cast, simprocAttr]) | (show RWp _ _ _ _ _; simp only [push_cast, simprocAttr])
  all_goals simp [vX, *]
def pck (a b l : List Cm) (p : Cm → Bool) : List Cm := if canonV a && canonV b then l.filter p else []
theorem pick_pc (a b l x : List Cm) (ha : SmL a) (hb : SmL b) (hl : SmL l) (g : FuncId) (p : Cm → Bool) (hp : ∀ c ∈ l, PC Tryz.prog g [cmdA c, .ip [cmA x]] (vB (p c))) :
    PC Tryz.prog 112 [cmA a, cmA b, cmA l, .fn g [.ip [cmA x]]] (rX (.o 0 (pck a b l p).length) [rowC (pck a b l p)]) := by
  have hA := CanonValid_pc a ha
  have hB := CanonValid_pc b hb
  have hln := hl.n
  refine pc_enter Tryz.func112 rfl rfl fun w0 fb => go_on ?_; (try simp only [Tryz.ntmps112, push_cast, simprocAttr])
  refine at_call ?_
  (try simp only [push_cast, simprocAttr])
  refine rwc_v hA ?_
  (try simp only [push_cast, simprocAttr])
  (refine at_dropS [8] (by refine wk_ok ?_ ?_ ?_ ?_ <;> simp [dropS, dropT, hasN, delL, hdel, leL, leH, idsL, idsA, idsR, inH, hget, sameRow]) ?_; simp only [dropS, dropT, hasN, delL, hdel, idsA, idsL, hget, List.map_cons, List.map_nil, List.all_cons, List.all_nil, List.append_nil, Bool.not_false, Bool.not_true, Bool.and_true, if_true, if_false, simprocAttr])
  refine go_on ?_
  (try simp only [push_cast, simprocAttr])
  cases e1 : canonV a with
  | false =>
    have e : pck a b l p = [] := by simp [pck, e1]
    (try simp only [e1, Bool.not_false, push_cast, simprocAttr])
    refine at_ret ?_; simp only [Tryz.results112, push_cast, simprocAttr]
    simp [rX, e, ixOf]
  | true =>
  (try simp only [e1, Bool.not_true, push_cast, simprocAttr])
  cases e2 : canonV b with
  | false =>
    rw [e2] at hB
    have e : pck a b l p = [] := by simp [pck, e2]
    (refine at_call ?_; (try simp only [push_cast, simprocAttr]); refine rwc_v (hB) (go_on ?_); (try simp only [Bool.not_false, push_cast, simprocAttr]))
    refine at_ret ?_; simp only [Tryz.results112, push_cast, simprocAttr]
    simp [rX, e, ixOf]
  | true =>
  rw [e2] at hB
  (refine at_call ?_; (try simp only [push_cast, simprocAttr]); refine rwc_v (hB) (go_on ?_); (try simp only [Bool.not_true, push_cast, simprocAttr]))
  have e : pck a b l p = l.filter p := by simp [pck, e1, e2]
  rw [e]
  refine at_loop (X := Nat × List Cm) (fun x => [(8, .any), (9, .o 9 x.2.length), (22, iA x.1)]) (fun x => [(9, rowC x.2)])
    (fun x => x.1 ≤ l.length ∧ x.2 = (l.take x.1).filter p) (fun x => l.length - x.1) (0, []) ⟨Nat.zero_le _, rfl⟩ ?_ ?_
  · (refine wk_ok ?_ ?_ ?_ ?_ <;> simp [rowC, leL, leH, idsL, idsA, idsR, inH, hget, sameRow, upA, hvA, dsts, dstO, setA_0, setA_1, setA_8, List.append, List.cons_append, List.nil_append])
  · rintro ⟨i, o⟩ ⟨q1, q2⟩
    simp only at q1 q2
    simp only [upA, hvA, dsts, dstO, setA_0, setA_1, setA_8, List.append, List.cons_append, List.nil_append]
    refine go_on ?_
    (try simp only [push_cast, simprocAttr])
    have w1 : IntKind.i64.wrap ((i : Int) + 1) = (i : Int) + 1 := wr _ (by omega)
    have hol : o.length ≤ i := by rw [q2]; exact Nat.le_trans (List.length_filter_le _ _) (by simp; omega)
    by_cases hi : i < l.length
    · obtain ⟨c, hc⟩ := get_of_lt hi
      have i0 : ltI (i : Int) l.length = true := ltI_t (by omega)
      have i1 := ix_n hc
      have i2 := map_get cmC hc
      have hP := hp c (mem_of_get hc)
      unfold cmdA at hP
      simp only [cmC] at i2 hP
      (try simp only [i0, i1, i2, push_cast, simprocAttr])
      (refine at_call ?_; (try simp only [push_cast, simprocAttr]); refine rwc_v (hP) (go_on ?_); (try simp only [push_cast, simprocAttr]))
      have hq : (l.take (i + 1)).filter p = o ++ (if p c then [c] else []) := by
        rw [List.take_add_one, hc, List.filter_append, ← q2]
        cases hpc : p c <;> simp [hpc]
      cases hpc : p c with
      | true =>
        rw [hpc, if_pos rfl] at hq
        have happ : o.map cmC ++ [[sA c.p, iA c.a.k, iA c.a.v, iA c.b.k, iA c.b.v]] = (o ++ [c]).map cmC := by rw [List.map_append]; rfl
        (try simp only [hpc, rowC, push_cast, simprocAttr])
        refine at_chk (by omega) ?_
        (try simp only [happ, rowC, w1, push_cast, simprocAttr])
        refine at_fin ⟨(i + 1, o ++ [c]), ⟨by dsimp only; omega, hq.symm⟩, by dsimp only; omega, ?_⟩
        (refine wk_ok ?_ ?_ ?_ ?_ <;> simp [rowC, cmC, leL, leH, idsL, idsA, idsR, inH, hget, sameRow, upA, hvA, dsts, dstO, setA_0, setA_1, setA_8, List.append, List.cons_append, List.nil_append])
      | false =>
        rw [hpc, if_neg (by simp), List.append_nil] at hq
        (try simp only [hpc, w1, push_cast, simprocAttr])
        refine at_fin ⟨(i + 1, o), ⟨by dsimp only; omega, hq.symm⟩, by dsimp only; omega, ?_⟩
        (refine wk_ok ?_ ?_ ?_ ?_ <;> simp [rowC, cmC, leL, leH, idsL, idsA, idsR, inH, hget, sameRow, upA, hvA, dsts, dstO, setA_0, setA_1, setA_8, List.append, List.cons_append, List.nil_append])
    · have i0 : ltI (i : Int) l.length = false := ltI_f (by omega)
      rw [List.take_of_length_le (by omega)] at q2
      (try simp only [i0, push_cast, simprocAttr])
      refine at_ret ?_; simp only [Tryz.results112, push_cast, simprocAttr]
      simp [rX, ← q2, ixOf]
theorem SafeOf_pc (a b : List Cm) (ha : SmL a) (hb : SmL b) : PC Tryz.prog 107 [cmA a, cmA b] (rX (.o 0 (safeOf a b).length) [rowC (safeOf a b)]) := by
  have hP := pick_pc a b b a ha hb hb 152 _ (fun c hc => SafeOf1_pc a ha c (by have := hb.p c hc; omega))
  refine pc_enter Tryz.func107 rfl rfl fun w0 fb => go_on ?_; (try simp only [Tryz.ntmps107, push_cast, simprocAttr])
  (refine at_call ?_; (try simp only [push_cast, simprocAttr]); refine rwc_r (hP) rfl (flat_c _) (by simp [frB, baseOf]) (go_on ?_); (try simp only [push_cast, simprocAttr]))
  refine at_ret ?_; simp only [Tryz.results107, push_cast, simprocAttr]
  simp [rX, safeOf, pck, ixOf]
theorem LeftOf_pc (a b : List Cm) (ha : SmL a) (hb : SmL b) : PC Tryz.prog 65 [cmA a, cmA b] (rX (.o 0 (leftOf a b).length) [rowC (leftOf a b)]) := by
  have hP := pick_pc a b a b ha hb ha 113 _ (fun c hc => LeftOf1_pc b hb c (by have := ha.p c hc; omega))
  refine pc_enter Tryz.func65 rfl rfl fun w0 fb => go_on ?_; (try simp only [Tryz.ntmps65, push_cast, simprocAttr])
  (refine at_call ?_; (try simp only [push_cast, simprocAttr]); refine rwc_r (hP) rfl (flat_c _) (by simp [frB, baseOf]) (go_on ?_); (try simp only [push_cast, simprocAttr]))
  refine at_ret ?_; simp only [Tryz.results65, push_cast, simprocAttr]
  simp [rX, leftOf, pck, ixOf]
end Go.Proofs.YtdjglbedimpldaaGreatDoor
/-
  Walks: ClashesOf, PairFits, all, meet, same.
-/
namespace Go.Proofs.YtdjglbedimpldaaGreatDoor
open Go Go.RowKit Go.Proofs
theorem canonV_le {l : List Cm} (h : canonV l = true) : l.length ≤ 20 := by
  unfold canonV at h
  simp only [Bool.and_eq_true] at h
  exact lV_len h.1.1
attribute [local irreducible] RWp AW run kPe pe Kt effA gd gu br retR RDp runD kPeD brW gW effD
set_option maxRecDepth 100000
end Go.Proofs.YtdjglbedimpldaaGreatDoor
/-
  Walks: PairFits, all, PairTree, PairBase.
-/
namespace Go.Proofs.YtdjglbedimpldaaGreatDoor
open Go Go.RowKit Go.Proofs
theorem pf_cv {t : List Nd} {a b : List Cm} (h : pairFits t a b = true) : canonV a = true ∧ canonV b = true := by
  unfold pairFits at h
  simp only [Bool.and_eq_true] at h
  exact ⟨h.1.1.1, h.1.1.2⟩
theorem safeOf_mem {a b : List Cm} {c : Cm} (h : c ∈ safeOf a b) : c ∈ b := by
  unfold safeOf at h
  split at h
  · exact (List.mem_filter.1 h).1
  · simp at h
theorem safeOf_len (a b : List Cm) : (safeOf a b).length ≤ b.length := by
  unfold safeOf
  split
  · exact List.length_filter_le _ _
  · simp
theorem sm_app {a b : List Cm} (ha : SmL a) (hb : SmL b) (h : a.length + b.length < 4294967280) : SmL (a ++ b) :=
  ⟨by simpa using h, fun c hc => (List.mem_append.1 hc).elim (ha.p c) (hb.p c)⟩
theorem sm_safe {a b : List Cm} (hb : SmL b) : SmL (safeOf a b) := ⟨by have := safeOf_len a b; have := hb.n; omega, fun c hc => hb.p c (safeOf_mem hc)⟩
def tbD (x : Option (List Nd)) : AV → List Row → Prop := rX (.tup [.o 0 (x.getD []).length, bA x.isSome]) [rowN (x.getD [])]
attribute [local irreducible] RWp AW run kPe pe Kt effA gd gu br retR RDp runD kPeD brW gW effD
set_option maxRecDepth 100000
theorem PairFits_pc (t : List Nd) (ht : SmT2 t) (a b : List Cm) (ha : SmL a) (hb : SmL b) : PC Tryz.prog 106 [ndA t, cmA a, cmA b] (vB (pairFits t a b)) := by
  have h1 := CanonValid_pc a ha
  have h2 := CanonValid_pc b hb
  have h3 := LogFits_pc t ht a ha
  have h4 := LogFits_pc t ht b hb
  have e : pairFits t a b = (canonV a && canonV b && fits t a && fits t b) := rfl
  refine pc_enter Tryz.func106 rfl rfl fun w0 fb => go_on ?_; (try simp only [Tryz.ntmps106, push_cast, simprocAttr])
  repeat' first | (refine at_b (fun hb => ?_) (fun hb => ?_) <;> simp only [hb, push_cast, simprocAttr]) | (refine at_ret ?_; simp only [Tryz.results106, push_cast, simprocAttr]) | (refine at_call ?_; (try simp only [push_cast, simprocAttr]); refine rwc_v (by first | exact h1 | exact h2 | exact h3 | exact h4) (go_on ?_); simp only [push_cast, simprocAttr]) | (show RWp _ _ _ _ _; simp only [push_cast, simprocAttr])
  all_goals simp [vX, e, *]
theorem all_pc (t : List Nd) (ht : SmT2 t) (l : List Cm) (hl : SmL l) : PC Tryz.prog 111 [ndA t, cmA l] (tbD (allC t l)) := by
  have hA := applyAll_pc l hl t ht
  have hsm := apAll_sm l t ht
  refine pc_enter Tryz.func111 rfl rfl fun w0 fb => go_on ?_; (try simp only [Tryz.ntmps111, push_cast, simprocAttr])
  (try simp only [push_cast, simprocAttr])
  refine at_share2 (by simp [isC2, isC]) (by first | rfl | simp [ren]) hA ?_
  (try simp only [push_cast, simprocAttr])
  (refine at_dropS [4] (by refine wk_ok ?_ ?_ ?_ ?_ <;> simp [dropS, dropT, hasN, delL, hdel, leL, leH, idsL, idsA, idsR, inH, hget, sameRow]) ?_; simp only [dropS, dropT, hasN, delL, hdel, idsA, idsL, hget, List.map_cons, List.map_nil, List.all_cons, List.all_nil, List.append_nil, Bool.not_false, Bool.not_true, Bool.and_true, if_true, if_false, simprocAttr])
  refine go_on ?_
  (try simp only [push_cast, simprocAttr])
  by_cases h : (apAll t l).2 = l.length
  · have i0 : ltI ((apAll t l).2 : Int) l.length = false := ltI_f (by omega)
    have e : allC t l = some (apAll t l).1 := by simp [allC, h]
    (try simp only [i0, push_cast, simprocAttr])
    (refine at_call ?_; (try simp only [push_cast, simprocAttr]); refine rwc_r (cloneTree_pc _ hsm.s.n) rfl (flat_n _) (by simp [frB, baseOf]) (go_on ?_); (try simp only [push_cast, simprocAttr]))
    refine at_ret ?_; simp only [Tryz.results111, push_cast, simprocAttr]
    simp [tbD, rX, e, ixOf]
  · have hle : (apAll t l).2 ≤ l.length := apAll_le _ _
    have i0 : ltI ((apAll t l).2 : Int) l.length = true := ltI_t (by omega)
    have e : allC t l = none := by simp [allC, h]
    (try simp only [i0, push_cast, simprocAttr])
    refine at_ret ?_; simp only [Tryz.results111, push_cast, simprocAttr]
    simp [tbD, rX, e, ixOf]
theorem PairTree_pc (t : List Nd) (ht : SmT2 t) (a b : List Cm) (ha : SmL a) (hb : SmL b) : PC Tryz.prog 64 [ndA t, cmA a, cmA b] (tbD (pairTree t a b)) := by
  have hF := PairFits_pc t ht a b ha hb
  refine pc_enter Tryz.func64 rfl rfl fun w0 fb => go_on ?_; (try simp only [Tryz.ntmps64, push_cast, simprocAttr])
  refine at_call ?_
  (try simp only [push_cast, simprocAttr])
  refine rwc_v hF ?_
  (try simp only [push_cast, simprocAttr])
  (refine at_dropS [6] (by refine wk_ok ?_ ?_ ?_ ?_ <;> simp [dropS, dropT, hasN, delL, hdel, leL, leH, idsL, idsA, idsR, inH, hget, sameRow]) ?_; simp only [dropS, dropT, hasN, delL, hdel, idsA, idsL, hget, List.map_cons, List.map_nil, List.all_cons, List.all_nil, List.append_nil, Bool.not_false, Bool.not_true, Bool.and_true, if_true, if_false, simprocAttr])
  refine go_on ?_
  (try simp only [push_cast, simprocAttr])
  cases hf : pairFits t a b with
  | false =>
    have e : pairTree t a b = none := by simp [pairTree, hf]
    (try simp only [hf, Bool.not_false, push_cast, simprocAttr])
    refine at_ret ?_; simp only [Tryz.results64, push_cast, simprocAttr]
    simp [tbD, rX, e, ixOf]
  | true =>
    have e : pairTree t a b = allC t (a ++ safeOf a b) := by simp [pairTree, hf]
    obtain ⟨hc1, hc2⟩ := pf_cv hf
    have h1 := canonV_le hc1
    have h2 := canonV_le hc2
    have h3 := safeOf_len a b
    have hS := SafeOf_pc a b ha hb
    have hA := all_pc t ht (a ++ safeOf a b) (sm_app ha (sm_safe hb) (by omega))
    unfold tbD at hA
    rw [show cmA (a ++ safeOf a b) = AV.sl 5 (a.map cmC ++ (safeOf a b).map cmC) from by simp] at hA
    (try simp only [hf, Bool.not_true, push_cast, simprocAttr])
    (refine at_call ?_; (try simp only [push_cast, simprocAttr]); refine rwc_r (cloneLog_pc a (by omega)) rfl (flat_c _) (by simp [frB, baseOf]) (go_on ?_); (try simp only [push_cast, simprocAttr]))
    (refine at_call ?_; (try simp only [push_cast, simprocAttr]); refine rwc_r (hS) rfl (flat_c _) (by simp [frB, baseOf]) (go_on ?_); (try simp only [push_cast, simprocAttr]))
    refine at_chk (by omega) ?_
    (try simp only [push_cast, simprocAttr])
    have hll : (a.map cmC ++ (safeOf a b).map cmC).length = a.length + (safeOf a b).length := by simp
    refine at_call ?_
    simp only [hll, push_cast, simprocAttr]
    refine rwc_r hA (by simp [flatV, flatL]) (flat_n _) (by simp [frB, baseOf]) (go_on ?_)
    (try simp only [push_cast, simprocAttr])
    refine at_ret ?_; simp only [Tryz.results64, push_cast, simprocAttr]
    simp [tbD, rX, e, ixOf]
theorem kept_len_le (a b : List Cm) : (kept a b).length ≤ a.length + b.length := by
  have h1 := safeOf_len a b
  have h2 := List.length_filter_le (fun c => !disp b c) a
  unfold kept
  simp only [List.length_append]
  omega
theorem sm_kept {a b : List Cm} (ha : SmL a) (hb : SmL b) (h : a.length + b.length < 4294967280) : SmL (kept a b) := by
  refine ⟨by have := kept_len_le a b; omega, fun c hc => ?_⟩
  unfold kept at hc
  rcases List.mem_append.1 hc with hc | hc
  · exact hb.p c (safeOf_mem hc)
  · exact ha.p c (List.mem_filter.1 hc).1
theorem PairBase_pc (t : List Nd) (ht : SmT2 t) (a b : List Cm) (ha : SmL a) (hb : SmL b) : PC Tryz.prog 63 [ndA t, cmA a, cmA b] (tbD (pairBase t a b)) := by
  have hF := PairFits_pc t ht a b ha hb
  refine pc_enter Tryz.func63 rfl rfl fun w0 fb => go_on ?_; (try simp only [Tryz.ntmps63, push_cast, simprocAttr])
  refine at_call ?_
  (try simp only [push_cast, simprocAttr])
  refine rwc_v hF ?_
  (try simp only [push_cast, simprocAttr])
  (refine at_dropS [6] (by refine wk_ok ?_ ?_ ?_ ?_ <;> simp [dropS, dropT, hasN, delL, hdel, leL, leH, idsL, idsA, idsR, inH, hget, sameRow]) ?_; simp only [dropS, dropT, hasN, delL, hdel, idsA, idsL, hget, List.map_cons, List.map_nil, List.all_cons, List.all_nil, List.append_nil, Bool.not_false, Bool.not_true, Bool.and_true, if_true, if_false, simprocAttr])
  refine go_on ?_
  (try simp only [push_cast, simprocAttr])
  cases hf : pairFits t a b with
  | false =>
    have e : pairBase t a b = none := by simp [pairBase, hf]
    (try simp only [hf, Bool.not_false, push_cast, simprocAttr])
    refine at_ret ?_; simp only [Tryz.results63, push_cast, simprocAttr]
    simp [tbD, rX, e, ixOf]
  | true =>
    obtain ⟨hc1, hc2⟩ := pf_cv hf
    have h1 := canonV_le hc1
    have h2 := canonV_le hc2
    have h3 := safeOf_len a b
    have hS := SafeOf_pc a b ha hb
    (try simp only [hf, Bool.not_true, push_cast, simprocAttr])
    (refine at_call ?_; (try simp only [push_cast, simprocAttr]); refine rwc_r (hS) rfl (flat_c _) (by simp [frB, baseOf]) (go_on ?_); (try simp only [push_cast, simprocAttr]))
    refine at_loop (X := Nat × List Cm) (fun x => [(18, .any), (8, .o 19000 x.2.length), (21, iA x.1)]) (fun x => [(19000, rowC x.2)])
      (fun x => x.1 ≤ a.length ∧ x.2 = safeOf a b ++ (a.take x.1).filter fun c => !disp b c) (fun x => a.length - x.1) (0, safeOf a b) ⟨Nat.zero_le _, by simp⟩ ?_ ?_
    · (refine wk_ok ?_ ?_ ?_ ?_ <;> simp [rowC, leL, leH, idsL, idsA, idsR, inH, hget, sameRow, upA, hvA, dsts, dstO, setA_0, setA_1, setA_8, List.append, List.cons_append, List.nil_append])
    · rintro ⟨i, o⟩ ⟨q1, q2⟩
      simp only at q1 q2
      simp only [upA, hvA, dsts, dstO, setA_0, setA_1, setA_8, List.append, List.cons_append, List.nil_append]
      refine go_on ?_
      (try simp only [push_cast, simprocAttr])
      have w1 : IntKind.i64.wrap ((i : Int) + 1) = (i : Int) + 1 := wr _ (by omega)
      have hol : o.length ≤ b.length + i := by
        have := List.length_filter_le (fun c => !disp b c) (a.take i)
        rw [q2]; simp only [List.length_append]; simp only [List.length_take] at this; omega
      by_cases hi : i < a.length
      · obtain ⟨c, hc⟩ := get_of_lt hi
        have i0 : ltI (i : Int) a.length = true := ltI_t (by omega)
        have i1 := ix_n hc
        have i2 := map_get cmC hc
        have hP := disputed_pc c b (by have := ha.p c (mem_of_get hc); omega) hb
        unfold cmdA at hP
        simp only [cmC] at i2 hP
        (try simp only [i0, i1, i2, push_cast, simprocAttr])
        (refine at_call ?_; (try simp only [push_cast, simprocAttr]); refine rwc_v (hP) (go_on ?_); (try simp only [push_cast, simprocAttr]))
        have hq : safeOf a b ++ (a.take (i + 1)).filter (fun c => !disp b c) = o ++ (if disp b c then [] else [c]) := by
          rw [List.take_add_one, hc, List.filter_append, q2, List.append_assoc]
          cases hpc : disp b c <;> simp [hpc]
        cases hpc : disp b c with
        | false =>
          rw [hpc, if_neg (by simp)] at hq
          have happ : o.map cmC ++ [[sA c.p, iA c.a.k, iA c.a.v, iA c.b.k, iA c.b.v]] = (o ++ [c]).map cmC := by rw [List.map_append]; rfl
          (try simp only [hpc, Bool.not_false, rowC, push_cast, simprocAttr])
          refine at_chk (by omega) ?_
          (try simp only [happ, rowC, w1, push_cast, simprocAttr])
          refine at_fin ⟨(i + 1, o ++ [c]), ⟨by dsimp only; omega, hq.symm⟩, by dsimp only; omega, ?_⟩
          (refine wk_ok ?_ ?_ ?_ ?_ <;> simp [rowC, cmC, leL, leH, idsL, idsA, idsR, inH, hget, sameRow, upA, hvA, dsts, dstO, setA_0, setA_1, setA_8, List.append, List.cons_append, List.nil_append])
        | true =>
          rw [hpc, if_pos rfl, List.append_nil] at hq
          (try simp only [hpc, Bool.not_true, w1, push_cast, simprocAttr])
          refine at_fin ⟨(i + 1, o), ⟨by dsimp only; omega, hq.symm⟩, by dsimp only; omega, ?_⟩
          (refine wk_ok ?_ ?_ ?_ ?_ <;> simp [rowC, cmC, leL, leH, idsL, idsA, idsR, inH, hget, sameRow, upA, hvA, dsts, dstO, setA_0, setA_1, setA_8, List.append, List.cons_append, List.nil_append])
      · have i0 : ltI (i : Int) a.length = false := ltI_f (by omega)
        rw [List.take_of_length_le (by omega)] at q2
        have hk : o = kept a b := q2
        by_cases h20 : o.length ≤ 20
        · have g0 : ltI 20 (o.length : Int) = false := ltI_f (by omega)
          obtain ⟨ta, tb, hpf⟩ := (pairFits_iff t a b).1 hf
          have hone := kept_one hpf
          rw [← hk] at hone
          have e : pairBase t a b = allC t (cSort o) := by
            unfold pairBase
            rw [hf, ← hk]
            simp [h20]
          have hSo := SortC_pcl o (by omega)
          (try simp only [i0, g0, push_cast, simprocAttr])
          (try simp only [push_cast, simprocAttr]); refine call_lend [19000] none (lr := [rowC o]) (by simp [ndB]) (by first | rfl | simp [rowsOf, hget, rdR, rowS, rowN, rowC, sC, ndC, cmC]) (by simp [idsL, idsA]) (by simp [mvN]) (by simpa [rnA, ixOf] using hSo) ?_
          rintro rv lr' rows ⟨g, hgp, hgo, rfl, rfl, rfl⟩
          have hgl : g.length = o.length := hgp.length_eq
          obtain rfl : g = cSort o := cSort_eq hone hgp hgo
          have hcs : SmL (cSort o) := ⟨by omega, fun c hc => (sm_kept ha hb (by omega)).p c (by rw [← hk]; exact hgp.mem_iff.1 hc)⟩
          have hA := all_pc t ht (cSort o) hcs
          unfold tbD at hA
          refine ⟨by simp [shB, mvF, hgl], by simp [frB, baseOf], go_on ?_⟩
          (try simp only [killA, killH, killRow, push_cast, simprocAttr])
          refine at_call ?_
          simp only [hgl, push_cast, simprocAttr]
          refine rwc_r hA (by simp [flatV, flatL]) (flat_n _) (by simp [frB, baseOf]) (go_on ?_)
          (try simp only [push_cast, simprocAttr])
          refine at_ret ?_; simp only [Tryz.results63, push_cast, simprocAttr]
          simp [tbD, rX, e, ixOf]
        · have g0 : ltI 20 (o.length : Int) = true := ltI_t (by omega)
          have e : pairBase t a b = none := by
            unfold pairBase
            rw [hf, ← hk]
            simp [h20]
          (try simp only [i0, g0, push_cast, simprocAttr])
          refine at_ret ?_; simp only [Tryz.results63, push_cast, simprocAttr]
          simp [tbD, rX, e, ixOf]
end Go.Proofs.YtdjglbedimpldaaGreatDoor
/-
  Walks: meet, SessionClashes, SessionRun.
-/
namespace Go.Proofs.YtdjglbedimpldaaGreatDoor
open Go Go.RowKit Go.Proofs
theorem LeftOf_d (a b : List Cm) (ha : SmL a) (hb : SmL b) : PC Tryz.prog 65 [cmA a, cmA b] (vX (cmA (leftOf a b))) := by
  have := (LeftOf_pc a b ha hb).frzX
  simpa [viewN, hpOf, hget, isC, tk] using this
theorem PairBase_d (t : List Nd) (ht : SmT2 t) (a b : List Cm) (ha : SmL a) (hb : SmL b) : PC Tryz.prog 63 [ndA t, cmA a, cmA b] (vX (.tup [ndA ((pairBase t a b).getD []), bA (pairBase t a b).isSome])) := by
  have := (PairBase_pc t ht a b ha hb).frzX
  simpa [tbD, viewN, hpOf, hget, isC, tk] using this
theorem PairTree_d (t : List Nd) (ht : SmT2 t) (a b : List Cm) (ha : SmL a) (hb : SmL b) : PC Tryz.prog 64 [ndA t, cmA a, cmA b] (vX (.tup [ndA ((pairTree t a b).getD []), bA (pairTree t a b).isSome])) := by
  have := (PairTree_pc t ht a b ha hb).frzX
  simpa [tbD, viewN, hpOf, hget, isC, tk] using this
attribute [local irreducible] RWp AW run kPe pe Kt effA gd gu br retR RDp runD kPeD brW gW effD
set_option maxRecDepth 100000
theorem meet_pc (a b : St) (ha : SmS a) (hb : SmS b) : PC Tryz.prog 61 [stA' a, stA' b] (vB (meet a b)) := by
  have h1 := SiteValid_pc a ha
  have h2 := SiteValid_pc b hb
  have h3 := EqualN_pc a.base b.base (by have := ha.t.n; omega)
  have e : meet a b = (siteV a && siteV b && decide (a.base = b.base) && eqI a.ep b.ep && ltI a.ep 99) := by unfold meet ltI; rw [eqI_d]
  unfold stA' stC at *
  refine pc_enter Tryz.func61 rfl rfl fun w0 fb => go_on ?_; (try simp only [Tryz.ntmps61, push_cast, simprocAttr])
  repeat' first | (refine at_b (fun hb => ?_) (fun hb => ?_) <;> simp only [hb, push_cast, simprocAttr]) | (refine at_ret ?_; simp only [Tryz.results61, push_cast, simprocAttr]) | (refine at_call ?_; (try simp only [push_cast, simprocAttr]); refine rwc_v (by first | exact h1 | exact h2 | exact h3) (go_on ?_); simp only [push_cast, simprocAttr]) | (show RWp _ _ _ _ _; simp only [push_cast, simprocAttr])
  all_goals simp [vX, e, *]
theorem same_pc (a b : St) (ha : SmS a) (hb : SmS b) : PC Tryz.prog 47 [stA' a, stA' b] (vB (decide (a = b))) := by
  have h3 := EqualN_pc a.base b.base (by have := ha.t.n; omega)
  have h4 := EqualC_pc a.log b.log (by have := ha.l.n; omega)
  have e : decide (a = b) = (eqI a.ep b.ep && decide (a.base = b.base) && decide (a.log = b.log)) := by
    rw [Bool.eq_iff_iff]
    cases a; cases b
    simp [eqI_d, and_assoc]
  unfold stA' stC at *
  refine pc_enter Tryz.func47 rfl rfl fun w0 fb => go_on ?_; (try simp only [Tryz.ntmps47, push_cast, simprocAttr])
  repeat' first | (refine at_b (fun hb => ?_) (fun hb => ?_) <;> simp only [hb, push_cast, simprocAttr]) | (refine at_ret ?_; simp only [Tryz.results47, push_cast, simprocAttr]) | (refine at_call ?_; (try simp only [push_cast, simprocAttr]); refine rwc_v (by first | exact h3 | exact h4) (go_on ?_); simp only [push_cast, simprocAttr]) | (show RWp _ _ _ _ _; simp only [push_cast, simprocAttr])
  all_goals simp [vX, e, *]
end Go.Proofs.YtdjglbedimpldaaGreatDoor
