/- A part of the proof of FnExactBookSteps: texts U1 M49 U2 U3 U4 U5 W17 W18 D7d W19 W20 W21 W22 W23 W24 W25 W26 W27 W30 W31 W32 W33 U6 U7 O6 U8 N28 N29 U9 U10 N17 N18 N19 N20 N30 N31 U11 N34. -/
import Derived.Test.YtccifbbjbnjcfaaGreatDoorZt5
import Derived.WalkSpells
import Derived.Test.YtccifbbjbnjcfaaGreatDoorZt3
import Derived.Test.YtccifbbjbnjcfaaGreatDoorZt4
import Derived.Test.YtccifbbjbnjcfaaGreatDoorZt1
import Derived.Test.YtccifbbjbnjcfaaGreatDoorZtp
import Derived.Maps.OwnSet
import Derived.Maps.Views
import Derived.Carry
set_option linter.unusedSimpArgs false
set_option linter.unusedVariables false
/-
  Walks: frames: bodies, their sums, frames.
-/
namespace Go.Proofs.YtccifbbjbnjcfaaGreatDoor
open Go Go.RowKit Go.Proofs
def stepS (s x : Int) : Int := (31 * s + x) % 251
theorem stepS_ok {s x : Int} (h0 : 0 ≤ s) (h1 : s ≤ 250) (hx : byteB x = true) : IntKind.i64.wrap (31 * s) = 31 * s ∧ IntKind.i64.wrap (31 * s + x) = 31 * s + x ∧ (31 * s + x).tmod 251 = stepS s x ∧ 0 ≤ stepS s x ∧ stepS s x ≤ 250 := by
  simp only [byteB, inB, Bool.and_eq_true, decide_eq_true_eq] at hx
  refine ⟨wr _ (by omega), wr _ (by omega), ?_, ?_, ?_⟩
  · rw [Int.tmod_eq_emod_of_nonneg (by omega)]; rfl
  · unfold stepS; omega
  · unfold stepS; omega
theorem body_bytes {l : List Int} (h : bodyB l = true) : bytesB l = true ∧ 1 ≤ l.length ∧ l.length ≤ 16 := by
  unfold bodyB inR at h
  simp only [Bool.and_eq_true, decide_eq_true_eq] at h
  exact ⟨h.1, by omega, by omega⟩
attribute [local irreducible] RWp AW run kPe pe Kt effA gd gu br retR RDp runD kPeD brW gW effD
set_option maxRecDepth 100000
theorem isBody_pc (l : List Int) (hl : l.length < 4294967281) : PC Tryz.prog 98 [intsA l] (vB (bodyB l)) := by
  have hI := in_pc l.length 1 16
  have hB := bytesValid_pc l hl
  refine pc_enter Tryz.func98 rfl rfl fun w0 fb => go_on ?_; (try simp only [Tryz.ntmps98, push_cast, simprocAttr])
  (refine at_call ?_; (try simp only [push_cast, simprocAttr]); refine rwc_v (hI) (go_on ?_); (try simp only [push_cast, simprocAttr]))
  cases e : inR (l.length : Int) 1 16 with
  | false =>
    (try simp only [e, push_cast, simprocAttr])
    refine at_ret ?_; simp only [Tryz.results98, push_cast, simprocAttr]
    simp [vX, bodyB, e]
  | true =>
    (try simp only [e, push_cast, simprocAttr])
    (refine at_call ?_; (try simp only [push_cast, simprocAttr]); refine rwc_v (hB) (go_on ?_); (try simp only [push_cast, simprocAttr]))
    refine at_ret ?_; simp only [Tryz.results98, push_cast, simprocAttr]
    simp [vX, bodyB, e]
theorem BodySum_pc (l : List Int) (h : bodyB l = true) : PC Tryz.prog 99 [intsA l] (vI (sumB l)) := by
  obtain ⟨hb, h1, h16⟩ := body_bytes h
  have hI := isBody_pc l (by omega)
  refine pc_enter Tryz.func99 rfl rfl fun w0 fb => go_on ?_; (try simp only [Tryz.ntmps99, push_cast, simprocAttr])
  (refine at_call ?_; (try simp only [push_cast, simprocAttr]); refine rwc_v (hI) (go_on ?_); (try simp only [push_cast, simprocAttr]))
  (try simp only [h, Bool.not_true, push_cast, simprocAttr])
  refine at_loop (X := Nat × Int) (fun x => [(3, iA x.2), (11, iA x.1)]) (fun _ => []) (fun x => x.1 ≤ l.length ∧ 0 ≤ x.2 ∧ x.2 ≤ 250 ∧ sumB l = (l.drop x.1).foldl stepS x.2) (fun x => l.length - x.1) (0, 7) ⟨Nat.zero_le _, by simp, by simp, rfl⟩ ?_ ?_
  · (refine wk_ok ?_ ?_ ?_ ?_ <;> simp [leL, leH, idsL, idsA, idsR, inH, hget, sameRow, upA, hvA, dsts, dstO, setA_0, setA_1, setA_8, List.append, List.cons_append, List.nil_append])
  · rintro ⟨k, s⟩ ⟨q1, q2, q3, q4⟩
    simp only at q1 q2 q3 q4
    simp only [upA, hvA, dsts, dstO, setA_0, setA_1, setA_8, List.append, List.cons_append, List.nil_append]
    refine go_on ?_
    (try simp only [push_cast, simprocAttr])
    refine at_b (fun hg => ?_) (fun hg => ?_)
    · have hlt := lt_tt hg
      obtain ⟨x, hx⟩ := get_of_lt hlt
      have i1 := ix_n hx
      have i2 := map_get inC hx
      simp only [inC] at i2
      rw [drop_of_get hx, List.foldl_cons] at q4
      obtain ⟨e1, e2, e3, e4, e5⟩ := stepS_ok q2 q3 (List.all_eq_true.1 hb x (mem_of_get hx))
      have w1 := wr ((k : Int) + 1) (by omega)
      (try simp only [hg, i1, i2, e1, e2, e3, w1, show ((251 : Int) = 0) = False from by simp, push_cast, simprocAttr])
      refine at_fin ⟨(k + 1, stepS s x), ⟨by dsimp only; omega, e4, e5, q4⟩, by dsimp only; omega, ?_⟩
      (refine wk_ok ?_ ?_ ?_ ?_ <;> simp [leL, leH, idsL, idsA, idsR, inH, hget, sameRow, upA, hvA, dsts, dstO, setA_0, setA_1, setA_8, List.append, List.cons_append, List.nil_append])
    · have h3 := lt_ff hg
      rw [List.drop_of_length_le h3] at q4
      (try simp only [hg, push_cast, simprocAttr])
      refine at_ret ?_; simp only [Tryz.results99, push_cast, simprocAttr]
      simp [vX, q4]
theorem FrameOf_pc (l : List Int) (hl : l.length < 4294967281) : PC Tryz.prog 49 [intsA l] (rX (.o 0 (frameB l).length) [rowZ (frameB l)]) := by
  have hI := isBody_pc l hl
  cases h : bodyB l with
  | false =>
    have hf : frameB l = [] := by unfold frameB; rw [h]; rfl
    rw [hf]
    refine pc_enter Tryz.func49 rfl rfl fun w0 fb => go_on ?_; (try simp only [Tryz.ntmps49, push_cast, simprocAttr])
    refine at_call ?_
    (try simp only [push_cast, simprocAttr])
    refine rwc_v hI ?_
    (try simp only [push_cast, simprocAttr])
    (refine at_dropS [2] (by refine wk_ok ?_ ?_ ?_ ?_ <;> simp [dropS, dropT, hasN, delL, hdel, leL, leH, idsL, idsA, idsR, inH, hget, sameRow]) ?_; simp only [dropS, dropT, hasN, delL, hdel, idsA, idsL, hget, List.map_cons, List.map_nil, List.all_cons, List.all_nil, List.append_nil, Bool.not_false, Bool.not_true, Bool.and_true, if_true, if_false, simprocAttr])
    refine go_on ?_
    (try simp only [h, Bool.not_false, push_cast, simprocAttr])
    refine at_ret ?_; simp only [Tryz.results49, push_cast, simprocAttr]
    simp [rX, ixOf]
  | true =>
    obtain ⟨hb, h1, h16⟩ := body_bytes h
    have hS := BodySum_pc l h
    have hf : frameB l = (l.length : Int) :: (l ++ [sumB l]) := by unfold frameB; rw [if_pos h]
    have hT : List.take (1 + l.length) ([AV.v (Value.int IntKind.i64 l.length)] :: List.map inC l) = [AV.v (Value.int IntKind.i64 l.length)] :: List.map inC l := List.take_of_length_le (by simp; omega)
    have hT2 : List.take l.length (List.map inC l) = List.map inC l := List.take_of_length_le (by simp)
    rw [hf]
    refine pc_enter Tryz.func49 rfl rfl fun w0 fb => go_on ?_; (try simp only [Tryz.ntmps49, push_cast, simprocAttr])
    (refine at_call ?_; (try simp only [push_cast, simprocAttr]); refine rwc_v (hI) (go_on ?_); (try simp only [push_cast, simprocAttr]))
    (try simp only [h, Bool.not_true, push_cast, simprocAttr])
    refine at_chk (by first | omega | (simp; omega)) ?_
    (try simp only [push_cast, simprocAttr])
    (refine at_call ?_; (try simp only [push_cast, simprocAttr]); refine rwc_v (hS) (go_on ?_); (try simp only [push_cast, simprocAttr]))
    refine at_chk (by first | omega | (simp; omega)) ?_
    (try simp only [push_cast, simprocAttr])
    refine at_ret ?_; simp only [Tryz.results49, push_cast, simprocAttr]
    simp [rX, ixOf, hT, hT2, inC, Nat.add_comm]
theorem FrameOf_d (l : List Int) (hl : l.length < 4294967281) : PC Tryz.prog 49 [intsA l] (vX (intsA (frameB l))) := by
  have := (FrameOf_pc l hl).frzX
  simpa [viewN, hpOf, hget, isC, tk] using this
theorem l4Body_pc (l : List Int) (hl : l.length < 4294967281) : PC Tryz.prog 88 [intsA l] (vB (bodyB l)) := by
  have hI := l6In_pc l.length 1 16
  have hB := l4Bytes_pc l (by omega)
  refine pc_enter Tryz.func88 rfl rfl fun w0 fb => go_on ?_; (try simp only [Tryz.ntmps88, push_cast, simprocAttr])
  (refine at_call ?_; (try simp only [push_cast, simprocAttr]); refine rwc_v (hB) (go_on ?_); (try simp only [push_cast, simprocAttr]))
  cases e : bytesB l with
  | false =>
    (try simp only [e, push_cast, simprocAttr])
    refine at_ret ?_; simp only [Tryz.results88, push_cast, simprocAttr]
    simp [vX, bodyB, e]
  | true =>
    (try simp only [e, push_cast, simprocAttr])
    (refine at_call ?_; (try simp only [push_cast, simprocAttr]); refine rwc_v (hI) (go_on ?_); (try simp only [push_cast, simprocAttr]))
    refine at_ret ?_; simp only [Tryz.results88, push_cast, simprocAttr]
    simp [vX, bodyB, e]
theorem l4Sum_pc (l : List Int) (hb : bytesB l = true) (hl : l.length < 4294967281) : PC Tryz.prog 89 [intsA l] (vI (sumB l)) := by
  refine pc_enter Tryz.func89 rfl rfl fun w0 fb => go_on ?_; (try simp only [Tryz.ntmps89, push_cast, simprocAttr])
  refine at_loop (X := Nat × Int) (fun x => [(3, iA x.2), (4, iA x.1)]) (fun _ => []) (fun x => x.1 ≤ l.length ∧ 0 ≤ x.2 ∧ x.2 ≤ 250 ∧ sumB l = (l.drop x.1).foldl stepS x.2) (fun x => l.length - x.1) (0, 7) ⟨Nat.zero_le _, by simp, by simp, rfl⟩ ?_ ?_
  · (refine wk_ok ?_ ?_ ?_ ?_ <;> simp [leL, leH, idsL, idsA, idsR, inH, hget, sameRow, upA, hvA, dsts, dstO, setA_0, setA_1, setA_8, List.append, List.cons_append, List.nil_append])
  · rintro ⟨k, s⟩ ⟨q1, q2, q3, q4⟩
    simp only at q1 q2 q3 q4
    simp only [upA, hvA, dsts, dstO, setA_0, setA_1, setA_8, List.append, List.cons_append, List.nil_append]
    refine go_on ?_
    (try simp only [List.length_map, push_cast, simprocAttr])
    refine at_b (fun hg => ?_) (fun hg => ?_)
    · have hlt := lt_tt hg
      obtain ⟨x, hx⟩ := get_of_lt hlt
      have i1 := ix_n hx
      have i2 := map_get inC hx
      simp only [inC] at i2
      rw [drop_of_get hx, List.foldl_cons] at q4
      obtain ⟨e1, e2, e3, e4, e5⟩ := stepS_ok q2 q3 (List.all_eq_true.1 hb x (mem_of_get hx))
      have w1 := wr ((k : Int) + 1) (by omega)
      (try simp only [hg, i1, i2, e1, e2, e3, w1, show ((251 : Int) = 0) = False from by simp, push_cast, simprocAttr])
      refine at_fin ⟨(k + 1, stepS s x), ⟨by dsimp only; omega, e4, e5, q4⟩, by dsimp only; omega, ?_⟩
      (refine wk_ok ?_ ?_ ?_ ?_ <;> simp [leL, leH, idsL, idsA, idsR, inH, hget, sameRow, upA, hvA, dsts, dstO, setA_0, setA_1, setA_8, List.append, List.cons_append, List.nil_append])
    · have h3 := lt_ff hg
      rw [List.drop_of_length_le h3] at q4
      (try simp only [hg, push_cast, simprocAttr])
      refine at_ret ?_; simp only [Tryz.results89, push_cast, simprocAttr]
      simp [vX, q4]
theorem specFrameOf_pc (l : List Int) (hl : l.length < 4294967281) : PC Tryz.prog 39 [intsA l] (rX (.o 0 (frameB l).length) [rowZ (frameB l)]) := by
  have hI := l4Body_pc l hl
  cases h : bodyB l with
  | false =>
    have hf : frameB l = [] := by unfold frameB; rw [h]; rfl
    rw [hf]
    refine pc_enter Tryz.func39 rfl rfl fun w0 fb => go_on ?_; (try simp only [Tryz.ntmps39, push_cast, simprocAttr])
    (refine at_call ?_; (try simp only [push_cast, simprocAttr]); refine rwc_v (hI) (go_on ?_); (try simp only [push_cast, simprocAttr]))
    (try simp only [h, Bool.not_false, push_cast, simprocAttr])
    refine at_ret ?_; simp only [Tryz.results39, push_cast, simprocAttr]
    simp [rX, ixOf]
  | true =>
    obtain ⟨hb, h1, h16⟩ := body_bytes h
    have hS := l4Sum_pc l hb hl
    have hf : frameB l = (l.length : Int) :: (l ++ [sumB l]) := by unfold frameB; rw [if_pos h]
    have hT : List.take (1 + l.length) ([AV.v (Value.int IntKind.i64 l.length)] :: List.map inC l) = [AV.v (Value.int IntKind.i64 l.length)] :: List.map inC l := List.take_of_length_le (by simp; omega)
    have hT2 : List.take l.length (List.map inC l) = List.map inC l := List.take_of_length_le (by simp)
    rw [hf]
    refine pc_enter Tryz.func39 rfl rfl fun w0 fb => go_on ?_; (try simp only [Tryz.ntmps39, push_cast, simprocAttr])
    (refine at_call ?_; (try simp only [push_cast, simprocAttr]); refine rwc_v (hI) (go_on ?_); (try simp only [push_cast, simprocAttr]))
    (try simp only [h, Bool.not_true, push_cast, simprocAttr])
    refine at_chk (by first | omega | (simp; omega)) ?_
    (try simp only [push_cast, simprocAttr])
    (refine at_call ?_; (try simp only [push_cast, simprocAttr]); refine rwc_v (hS) (go_on ?_); (try simp only [push_cast, simprocAttr]))
    refine at_chk (by first | omega | (simp; omega)) ?_
    (try simp only [push_cast, simprocAttr])
    refine at_ret ?_; simp only [Tryz.results39, push_cast, simprocAttr]
    simp [rX, ixOf, hT, hT2, inC, Nat.add_comm]
theorem specFrameOf_d (l : List Int) (hl : l.length < 4294967281) : PC Tryz.prog 39 [intsA l] (vX (intsA (frameB l))) := by
  have := (specFrameOf_pc l hl).frzX
  simpa [viewN, hpOf, hget, isC, tk] using this
end Go.Proofs.YtccifbbjbnjcfaaGreatDoor
/-
  The abstract machine: nil moved as a value; a slice held against nil.
-/
namespace Go.Proofs.YtccifbbjbnjcfaaGreatDoor
open Go Go.RowKit
section
variable {P : Program} {Q : Exit → Act → World → Prop} {w0 : World} {lent : Lent} {s : AS} {k : List It} {l : List SO}
end
end Go.Proofs.YtccifbbjbnjcfaaGreatDoor
/-
  Walks: frames: the first frame of a list.
-/
namespace Go.Proofs.YtccifbbjbnjcfaaGreatDoor
open Go Go.RowKit Go.Proofs
attribute [local irreducible] RWp AW run kPe pe Kt effA gd gu br retR RDp runD kPeD brW gW effD
set_option maxRecDepth 100000
end Go.Proofs.YtccifbbjbnjcfaaGreatDoor
/-
  Walks: frames: all frames of a list.
-/
namespace Go.Proofs.YtccifbbjbnjcfaaGreatDoor
open Go Go.RowKit Go.Proofs
section
variable {P : Program} {Q : Exit → Act → World → Prop} {w0 : World} {lent : Lent} {s : AS} {k : List It} {l : List SO}
end
attribute [local irreducible] RWp AW run kPe pe Kt effA gd gu br retR RDp runD kPeD brW gW effD
set_option maxRecDepth 100000
end Go.Proofs.YtccifbbjbnjcfaaGreatDoor
/-
  Walks: frames: the reference's scan.
-/
namespace Go.Proofs.YtccifbbjbnjcfaaGreatDoor
open Go Go.RowKit Go.Proofs
attribute [local irreducible] RWp AW run kPe pe Kt effA gd gu br retR RDp runD kPeD brW gW effD
set_option maxRecDepth 100000
end Go.Proofs.YtccifbbjbnjcfaaGreatDoor
/-
  Walks: the bytes of commands.
-/
namespace Go.Proofs.YtccifbbjbnjcfaaGreatDoor
open Go Go.RowKit Go.Proofs
theorem strI_take {s : Str} {k : Nat} {a : UInt8} (h : s[k]? = some a) : strI (s.take (k + 1)) = strI (s.take k) ++ [(a.toNat : Int)] := by
  unfold strI
  rw [List.take_add_one, h, List.map_append]; rfl
/-- The kinds and values of both contents. -/
def cmH (c : Cm) : List Int := [c.a.k, c.a.v, c.b.k, c.b.v]
theorem cmdB_v {c : Cm} (h : cmV c = true) : cmdB c = cmH c ++ strI c.p := by unfold cmdB; rw [if_pos h]; rfl
theorem cmdB_f {c : Cm} (h : cmV c = false) : cmdB c = [] := by unfold cmdB; rw [h]; rfl
theorem cmV_p {c : Cm} (h : cmV c = true) : c.p.length ≤ 8 := by
  unfold cmV at h
  simp only [Bool.and_eq_true, decide_eq_true_eq] at h
  exact (pV_len h.1.1.1.1 h.1.1.1.2).2
theorem strI_len (s : Str) : (strI s).length = s.length := by unfold strI; simp
attribute [local irreducible] RWp AW run kPe pe Kt effA gd gu br retR RDp runD kPeD brW gW effD
set_option maxRecDepth 100000
theorem CommandBytes_pc (c : Cm) (hp : c.p.length < 4294967281) : PC Tryz.prog 50 [cmdA c] (rX (.o 0 (cmdB c).length) [rowZ (cmdB c)]) := by
  have hV := CommandValid_pc c hp
  unfold cmdA cmC at hV ⊢
  cases hv : cmV c with
  | false =>
    rw [cmdB_f hv]
    refine pc_enter Tryz.func50 rfl rfl fun w0 fb => go_on ?_; (try simp only [Tryz.ntmps50, push_cast, simprocAttr])
    refine at_call ?_
    (try simp only [push_cast, simprocAttr])
    refine rwc_v hV ?_
    (try simp only [push_cast, simprocAttr])
    (refine at_dropS [2] (by refine wk_ok ?_ ?_ ?_ ?_ <;> simp [dropS, dropT, hasN, delL, hdel, leL, leH, idsL, idsA, idsR, inH, hget, sameRow]) ?_; simp only [dropS, dropT, hasN, delL, hdel, idsA, idsL, hget, List.map_cons, List.map_nil, List.all_cons, List.all_nil, List.append_nil, Bool.not_false, Bool.not_true, Bool.and_true, if_true, if_false, simprocAttr])
    refine go_on ?_
    (try simp only [hv, Bool.not_false, push_cast, simprocAttr])
    refine at_ret ?_; simp only [Tryz.results50, push_cast, simprocAttr]
    simp [rX, ixOf]
  | true =>
    have hp8 := cmV_p hv
    rw [cmdB_v hv]
    refine pc_enter Tryz.func50 rfl rfl fun w0 fb => go_on ?_; (try simp only [Tryz.ntmps50, push_cast, simprocAttr])
    refine at_call ?_
    (try simp only [push_cast, simprocAttr])
    refine rwc_v hV ?_
    (try simp only [push_cast, simprocAttr])
    (refine at_dropS [2] (by refine wk_ok ?_ ?_ ?_ ?_ <;> simp [dropS, dropT, hasN, delL, hdel, leL, leH, idsL, idsA, idsR, inH, hget, sameRow]) ?_; simp only [dropS, dropT, hasN, delL, hdel, idsA, idsL, hget, List.map_cons, List.map_nil, List.all_cons, List.all_nil, List.append_nil, Bool.not_false, Bool.not_true, Bool.and_true, if_true, if_false, simprocAttr])
    refine go_on ?_
    (try simp only [hv, Bool.not_true, push_cast, simprocAttr])
    refine at_loop (X := Nat) (fun k => [(3, .o 20 (cmH c ++ strI (c.p.take k)).length), (24, iA k), (20, .any)]) (fun k => [(1, ⟨35, 5, [[sA c.p, iA c.a.k, iA c.a.v, iA c.b.k, iA c.b.v]], true⟩), (20, rowZ (cmH c ++ strI (c.p.take k)))]) (fun k => k ≤ c.p.length) (fun k => c.p.length - k) 0 (Nat.zero_le _) ?_ ?_
    · (refine wk_ok ?_ ?_ ?_ ?_ <;> simp [strI, cmH, inC, leL, leH, idsL, idsA, idsR, inH, hget, sameRow, upA, hvA, dsts, dstO, setA_0, setA_1, setA_8, List.append, List.cons_append, List.nil_append])
    · rintro k q1
      simp only [upA, hvA, dsts, dstO, setA_0, setA_1, setA_8, List.append, List.cons_append, List.nil_append]
      refine go_on ?_
      (try simp only [push_cast, simprocAttr])
      refine at_b (fun hg => ?_) (fun hg => ?_)
      · have hlt := lt_tt hg
        obtain ⟨x, hx⟩ := get_of_lt hlt
        have hxl : x.toNat < 256 := x.toNat_lt
        have w0' : IntKind.i64.wrap (x.toNat : Int) = x.toNat := wr _ (by omega)
        have w1 := wr ((k : Int) + 1) (by omega)
        have hT : List.take (cmH c ++ strI (c.p.take k)).length (List.map inC (cmH c ++ strI (c.p.take k))) = List.map inC (cmH c ++ strI (c.p.take k)) := List.take_of_length_le (by simp)
        (try simp only [hg, hx, w0', push_cast, simprocAttr])
        refine at_chk (by simp [cmH, strI_len]; omega) ?_
        (try simp only [w1, hT, push_cast, simprocAttr])
        refine at_fin ⟨k + 1, by omega, by omega, ?_⟩
        rw [strI_take hx, ← List.append_assoc]
        (refine wk_ok ?_ ?_ ?_ ?_ <;> simp [inC, leL, leH, idsL, idsA, idsR, inH, hget, sameRow, upA, hvA, dsts, dstO, setA_0, setA_1, setA_8, List.append, List.cons_append, List.nil_append])
        omega
      · have h3 := lt_ff hg
        obtain rfl : k = c.p.length := by omega
        rw [List.take_length]
        (try simp only [hg, push_cast, simprocAttr])
        refine at_ret ?_; simp only [Tryz.results50, push_cast, simprocAttr]
        simp [rX, ixOf]
theorem CommandBytes_d (c : Cm) (hp : c.p.length < 4294967281) : PC Tryz.prog 50 [cmdA c] (vX (intsA (cmdB c))) := by
  have := (CommandBytes_pc c hp).frzX
  simp [viewN, hpOf, hget, isC, tk] at this
  exact this
theorem specCommandBytes_pc (c : Cm) (hp : c.p.length < 4294967281) : PC Tryz.prog 40 [cmdA c] (rX (.o 0 (cmdB c).length) [rowZ (cmdB c)]) := by
  have hV := specCommandValid_pc c hp
  unfold cmdA cmC at hV ⊢
  cases hv : cmV c with
  | false =>
    rw [cmdB_f hv]
    refine pc_enter Tryz.func40 rfl rfl fun w0 fb => go_on ?_; (try simp only [Tryz.ntmps40, push_cast, simprocAttr])
    (refine at_call ?_; (try simp only [push_cast, simprocAttr]); refine rwc_v (hV) (go_on ?_); (try simp only [push_cast, simprocAttr]))
    (try simp only [hv, Bool.not_false, push_cast, simprocAttr])
    refine at_ret ?_; simp only [Tryz.results40, push_cast, simprocAttr]
    simp [rX, ixOf]
  | true =>
    have hp8 := cmV_p hv
    rw [cmdB_v hv]
    refine pc_enter Tryz.func40 rfl rfl fun w0 fb => go_on ?_; (try simp only [Tryz.ntmps40, push_cast, simprocAttr])
    (refine at_call ?_; (try simp only [push_cast, simprocAttr]); refine rwc_v (hV) (go_on ?_); (try simp only [push_cast, simprocAttr]))
    (try simp only [hv, Bool.not_true, push_cast, simprocAttr])
    refine at_loop (X := Nat) (fun k => [(2, .any), (3, .o 21 (cmH c ++ strI (c.p.take k)).length), (4, iA k), (21, .any)]) (fun k => [(1, ⟨35, 5, [[sA c.p, iA c.a.k, iA c.a.v, iA c.b.k, iA c.b.v]], true⟩), (21, rowZ (cmH c ++ strI (c.p.take k)))]) (fun k => k ≤ c.p.length) (fun k => c.p.length - k) 0 (Nat.zero_le _) ?_ ?_
    · (refine wk_ok ?_ ?_ ?_ ?_ <;> simp [strI, cmH, inC, leL, leH, idsL, idsA, idsR, inH, hget, sameRow, upA, hvA, dsts, dstO, setA_0, setA_1, setA_8, List.append, List.cons_append, List.nil_append])
    · rintro k q1
      simp only [upA, hvA, dsts, dstO, setA_0, setA_1, setA_8, List.append, List.cons_append, List.nil_append]
      refine go_on ?_
      (try simp only [push_cast, simprocAttr])
      refine at_b (fun hg => ?_) (fun hg => ?_)
      · have hlt := lt_tt hg
        obtain ⟨x, hx⟩ := get_of_lt hlt
        have hxl : x.toNat < 256 := x.toNat_lt
        have w0' : IntKind.i64.wrap (x.toNat : Int) = x.toNat := wr _ (by omega)
        have w1 := wr ((k : Int) + 1) (by omega)
        have hT : List.take (cmH c ++ strI (c.p.take k)).length (List.map inC (cmH c ++ strI (c.p.take k))) = List.map inC (cmH c ++ strI (c.p.take k)) := List.take_of_length_le (by simp)
        (try simp only [hg, hx, w0', push_cast, simprocAttr])
        refine at_chk (by simp [cmH, strI_len]; omega) ?_
        (try simp only [w1, hT, push_cast, simprocAttr])
        refine at_fin ⟨k + 1, by omega, by omega, ?_⟩
        rw [strI_take hx, ← List.append_assoc]
        (refine wk_ok ?_ ?_ ?_ ?_ <;> simp [inC, leL, leH, idsL, idsA, idsR, inH, hget, sameRow, upA, hvA, dsts, dstO, setA_0, setA_1, setA_8, List.append, List.cons_append, List.nil_append])
        omega
      · have h3 := lt_ff hg
        obtain rfl : k = c.p.length := by omega
        rw [List.take_length]
        (try simp only [hg, push_cast, simprocAttr])
        refine at_ret ?_; simp only [Tryz.results40, push_cast, simprocAttr]
        simp [rX, ixOf]
theorem specCommandBytes_d (c : Cm) (hp : c.p.length < 4294967281) : PC Tryz.prog 40 [cmdA c] (vX (intsA (cmdB c))) := by
  have := (specCommandBytes_pc c hp).frzX
  simp [viewN, hpOf, hget, isC, tk] at this
  exact this
end Go.Proofs.YtccifbbjbnjcfaaGreatDoor
/-
  Walks: SiteDo, twice.
-/
namespace Go.Proofs.YtccifbbjbnjcfaaGreatDoor
open Go Go.RowKit Go.Proofs
attribute [local irreducible] RWp AW run kPe pe Kt effA gd gu br retR RDp runD kPeD brW gW effD
set_option maxRecDepth 100000
end Go.Proofs.YtccifbbjbnjcfaaGreatDoor
/-
  Walks: spec.SiteDo.
-/
namespace Go.Proofs.YtccifbbjbnjcfaaGreatDoor
open Go Go.RowKit Go.Proofs
attribute [local irreducible] RWp AW run kPe pe Kt effA gd gu br retR RDp runD kPeD brW gW effD
set_option maxRecDepth 100000
end Go.Proofs.YtccifbbjbnjcfaaGreatDoor
/-
  Walks: the sides that the laws draw (DrawSiteDo).
-/
namespace Go.Proofs.YtccifbbjbnjcfaaGreatDoor
open Go Go.RowKit Go.Proofs
attribute [local irreducible] RWp AW run kPe pe Kt effA gd gu br retR RDp runD kPeD brW gW effD
set_option maxRecDepth 100000
end Go.Proofs.YtccifbbjbnjcfaaGreatDoor
/-
  Walks: what the functions of sides leave, read as data.
-/
namespace Go.Proofs.YtccifbbjbnjcfaaGreatDoor
open Go Go.RowKit Go.Proofs
end Go.Proofs.YtccifbbjbnjcfaaGreatDoor
/-
  Walks: slices.DeleteFunc at commands.
-/
namespace Go.Proofs.YtccifbbjbnjcfaaGreatDoor
open Go Go.RowKit Go.Proofs
attribute [local irreducible] RWp AW run kPe pe Kt effA gd gu br retR RDp runD kPeD brW gW effD
set_option maxRecDepth 100000
end Go.Proofs.YtccifbbjbnjcfaaGreatDoor
/-
  Walks: slices.SortFunc at commands.
-/
namespace Go.Proofs.YtccifbbjbnjcfaaGreatDoor
open Go Go.RowKit Go.Proofs
open Go.Sort (grow SWO PermIn SortedIn)
instance : Inhabited Cm := ⟨cm0⟩
set_option maxRecDepth 100000
set_option maxHeartbeats 1000000
end Go.Proofs.YtccifbbjbnjcfaaGreatDoor
/-
  Walks: slices.SortFunc at commands: a contract with a lent row.
-/
namespace Go.Proofs.YtccifbbjbnjcfaaGreatDoor
open Go Go.RowKit Go.Proofs
open Go.Sort (grow SWO PermIn SortedIn)
set_option maxRecDepth 100000
set_option maxHeartbeats 1000000
end Go.Proofs.YtccifbbjbnjcfaaGreatDoor
/-
  Walks: impl.LogCanon.
-/
namespace Go.Proofs.YtccifbbjbnjcfaaGreatDoor
open Go Go.RowKit Go.Proofs
attribute [local irreducible] RWp AW run kPe pe Kt effA gd gu br retR RDp runD kPeD brW gW effD
set_option maxRecDepth 100000
end Go.Proofs.YtccifbbjbnjcfaaGreatDoor
/-
  Walks: the reference's canonical order and sort.
-/
namespace Go.Proofs.YtccifbbjbnjcfaaGreatDoor
open Go Go.RowKit Go.Proofs
attribute [local irreducible] RWp AW run kPe pe Kt effA gd gu br retR RDp runD kPeD brW gW effD
set_option maxRecDepth 100000
end Go.Proofs.YtccifbbjbnjcfaaGreatDoor
/-
  Walks: spec.LogCanon.
-/
namespace Go.Proofs.YtccifbbjbnjcfaaGreatDoor
open Go Go.RowKit Go.Proofs
attribute [local irreducible] RWp AW run kPe pe Kt effA gd gu br retR RDp runD kPeD brW gW effD
set_option maxRecDepth 100000
end Go.Proofs.YtccifbbjbnjcfaaGreatDoor
/-
  Walks: SiteCanon, SiteShort, twice.
-/
namespace Go.Proofs.YtccifbbjbnjcfaaGreatDoor
open Go Go.RowKit Go.Proofs
attribute [local irreducible] RWp AW run kPe pe Kt effA gd gu br retR RDp runD kPeD brW gW effD
set_option maxRecDepth 100000
end Go.Proofs.YtccifbbjbnjcfaaGreatDoor
/-
  Walks: canonical logs are short.
-/
namespace Go.Proofs.YtccifbbjbnjcfaaGreatDoor
open Go Go.RowKit Go.Proofs
end Go.Proofs.YtccifbbjbnjcfaaGreatDoor
/-
  Walks: conflicts of commands.
-/
namespace Go.Proofs.YtccifbbjbnjcfaaGreatDoor
open Go Go.RowKit Go.Proofs
attribute [local irreducible] RWp AW run kPe pe Kt effA gd gu br retR RDp runD kPeD brW gW effD
set_option maxRecDepth 100000
end Go.Proofs.YtccifbbjbnjcfaaGreatDoor
/-
  Walks: slices of commands and nodes: Index, Contains, Equal, IsSortedFunc.
-/
namespace Go.Proofs.YtccifbbjbnjcfaaGreatDoor
open Go Go.RowKit Go.Proofs
attribute [local irreducible] RWp AW run kPe pe Kt effA gd gu br retR RDp runD kPeD brW gW effD
set_option maxRecDepth 100000
end Go.Proofs.YtccifbbjbnjcfaaGreatDoor
/-
  Walks: the canonical order as a comparing function; IsSortedFunc, ContainsFunc, disputed, slices.Equal at commands.
-/
namespace Go.Proofs.YtccifbbjbnjcfaaGreatDoor
open Go Go.RowKit Go.Proofs
attribute [local irreducible] RWp AW run kPe pe Kt effA gd gu br retR RDp runD kPeD brW gW effD
set_option maxRecDepth 100000
end Go.Proofs.YtccifbbjbnjcfaaGreatDoor
/-
  Walks: impl.oneEach (a set of paths in a map of the call's own).
-/
namespace Go.Proofs.YtccifbbjbnjcfaaGreatDoor
open Go Go.RowKit Go.Proofs
open Go.Maps (Keyed)
/-- The map's datum says which paths the list has. -/
def Seen (D : DataW Unit) (l : List Cm) : Prop := ∀ s : Str, D.atKey (.string s) (.lit (.bool false)) = .lit (.bool (l.any fun c => decide (c.p = s)))
theorem Seen.nil : Seen (.map []) [] := fun s => rfl
theorem Seen.put {D : DataW Unit} {l : List Cm} (h : Seen D l) (hm : Maps.IsMap D) (c : Cm) : Seen (D.put (.string c.p) (.lit (.bool true))) (l ++ [c]) := fun s => by
  by_cases e : c.p = s
  · subst e
    rw [Maps.atKey_put_same hm (by simp [WideAt.IsKeyLit])]
    simp
  · rw [Maps.atKey_put_other (by simpa using fun h => e h.symm), h s]
    simp [e]
set_option maxRecDepth 100000
set_option maxHeartbeats 1000000
end Go.Proofs.YtccifbbjbnjcfaaGreatDoor
/-
  Walks: the command of bytes.
-/
namespace Go.Proofs.YtccifbbjbnjcfaaGreatDoor
open Go Go.RowKit Go.Proofs
attribute [local irreducible] RWp AW run kPe pe Kt effA gd gu br retR RDp runD kPeD brW gW effD
set_option maxRecDepth 100000
end Go.Proofs.YtccifbbjbnjcfaaGreatDoor
/-
  Walks: the bytes of logs and books.
-/
namespace Go.Proofs.YtccifbbjbnjcfaaGreatDoor
open Go Go.RowKit Go.Proofs
def bkC (b : Bk) : List AV := [iA b.ep, cmA b.log]
abbrev bkA (b : Bk) : AV := .agg (bkC b)
abbrev logF (l : List Cm) : List Int := l.flatMap fun c => frameB (cmdB c)
theorem frameB_le (c : Cm) : (frameB (cmdB c)).length ≤ 18 := by
  unfold frameB
  split
  · rename_i h
    have := (body_bytes h).2.2
    simp; omega
  · simp
theorem logF_take {l : List Cm} {k : Nat} {x : Cm} (h : l[k]? = some x) : logF (l.take (k + 1)) = logF (l.take k) ++ frameB (cmdB x) := by
  unfold logF
  rw [List.take_add_one, h]; simp
theorem logF_len : ∀ (l : List Cm), (logF l).length ≤ 18 * l.length
  | [] => by simp
  | c :: l => by
    have h1 := frameB_le c
    have h2 := logF_len l
    unfold logF at h2 ⊢
    rw [List.flatMap_cons, List.length_append, List.length_cons]; omega
theorem cmdB_le (c : Cm) : (cmdB c).length ≤ 12 := by
  cases h : cmV c with
  | false => rw [cmdB_f h]; simp
  | true =>
    rw [cmdB_v h, List.length_append, strI_len]
    have := cmV_p h
    simp [cmH]; omega
theorem lV_n {l : List Cm} (h : lV l = true) : l.length ≤ 20 := by
  unfold lV at h
  rw [Bool.and_eq_true, decide_eq_true_eq] at h
  exact h.2
theorem logB_f {l : List Cm} (h : lV l = false) : logB l = ([], false) := by unfold logB; rw [h]; rfl
theorem logB_t {l : List Cm} (h : lV l = true) : logB l = (logF l, true) := by unfold logB; rw [h]; rfl
attribute [local irreducible] RWp AW run kPe pe Kt effA gd gu br retR RDp runD kPeD brW gW effD
set_option maxRecDepth 100000
theorem LogBytes_pc (l : List Cm) (hs : SmL l) : PC Tryz.prog 94 [cmA l] (rX (.tup [.o 0 (logB l).1.length, bA (logB l).2]) [rowZ (logB l).1]) := by
  have hV := LogValid_pc l hs
  have hln := hs.n
  cases hv : lV l with
  | false =>
    rw [logB_f hv]
    refine pc_enter Tryz.func94 rfl rfl fun w0 fb => go_on ?_; (try simp only [Tryz.ntmps94, push_cast, simprocAttr])
    refine at_call ?_
    (try simp only [push_cast, simprocAttr])
    refine rwc_v hV ?_
    (try simp only [push_cast, simprocAttr])
    (refine at_dropS [2] (by refine wk_ok ?_ ?_ ?_ ?_ <;> simp [dropS, dropT, hasN, delL, hdel, leL, leH, idsL, idsA, idsR, inH, hget, sameRow]) ?_; simp only [dropS, dropT, hasN, delL, hdel, idsA, idsL, hget, List.map_cons, List.map_nil, List.all_cons, List.all_nil, List.append_nil, Bool.not_false, Bool.not_true, Bool.and_true, if_true, if_false, simprocAttr])
    refine go_on ?_
    (try simp only [hv, Bool.not_false, push_cast, simprocAttr])
    refine at_ret ?_; simp only [Tryz.results94, push_cast, simprocAttr]
    simp [rX, ixOf]
  | true =>
    have h20 := lV_n hv
    rw [logB_t hv]
    refine pc_enter Tryz.func94 rfl rfl fun w0 fb => go_on ?_; (try simp only [Tryz.ntmps94, push_cast, simprocAttr])
    (refine at_call ?_; (try simp only [push_cast, simprocAttr]); refine rwc_v (hV) (go_on ?_); (try simp only [push_cast, simprocAttr]))
    (try simp only [hv, Bool.not_true, push_cast, simprocAttr])
    refine at_loop (X := Nat) (fun k => [(2, .any), (4, .o 4 (logF (l.take k)).length), (12, iA k)]) (fun k => [(4, rowZ (logF (l.take k)))]) (fun k => k ≤ l.length) (fun k => l.length - k) 0 (Nat.zero_le _) ?_ ?_
    · (refine wk_ok ?_ ?_ ?_ ?_ <;> simp [leL, leH, idsL, idsA, idsR, inH, hget, sameRow, upA, hvA, dsts, dstO, setA_0, setA_1, setA_8, List.append, List.cons_append, List.nil_append])
    · rintro k q1
      simp only [upA, hvA, dsts, dstO, setA_0, setA_1, setA_8, List.append, List.cons_append, List.nil_append]
      refine go_on ?_
      have hlt2 := logF_len (l.take k)
      have hlk : (l.take k).length ≤ k := by rw [List.length_take]; omega
      (try simp only [List.length_map, push_cast, simprocAttr])
      refine at_b (fun hg => ?_) (fun hg => ?_)
      · have hlt := lt_tt hg
        obtain ⟨x, hx⟩ := get_of_lt hlt
        have i1 := ix_n hx
        have i2 := map_get cmC hx
        have hB := CommandBytes_d x (by have := hs.p x (mem_of_get hx); omega)
        have hF := FrameOf_d (cmdB x) (by have := cmdB_le x; omega)
        have hfl := frameB_le x
        unfold cmdA at hB
        simp only [cmC] at i2 hB
        have w1 := wr ((k : Int) + 1) (by omega)
        have hT : List.take (logF (l.take k)).length (List.map inC (logF (l.take k))) = List.map inC (logF (l.take k)) := List.take_of_length_le (by simp)
        (try simp only [hg, i1, i2, push_cast, simprocAttr])
        ((try simp only [push_cast, simprocAttr]); refine at_share2 (by simp [isC2, isC]) (by first | rfl | simp [ren]) (hB) (go_on ?_); (try simp only [push_cast, simprocAttr]))
        ((try simp only [push_cast, simprocAttr]); refine at_share2 (by simp [isC2, isC]) (by first | rfl | simp [ren]) (hF) (go_on ?_); (try simp only [push_cast, simprocAttr]))
        refine at_chk (by first | omega | (simp; omega)) ?_
        (try simp only [w1, hT, push_cast, simprocAttr])
        refine at_fin ⟨k + 1, by omega, by omega, ?_⟩
        rw [logF_take hx, List.length_append]
        (refine wk_ok ?_ ?_ ?_ ?_ <;> simp [leL, leH, idsL, idsA, idsR, inH, hget, sameRow, upA, hvA, dsts, dstO, setA_0, setA_1, setA_8, List.append, List.cons_append, List.nil_append])
      · have h3 := lt_ff hg
        obtain rfl : k = l.length := by omega
        rw [List.take_length]
        (try simp only [hg, push_cast, simprocAttr])
        refine at_ret ?_; simp only [Tryz.results94, push_cast, simprocAttr]
        simp [rX, ixOf]
theorem LogBytes_d (l : List Cm) (hs : SmL l) : PC Tryz.prog 94 [cmA l] (vX (.tup [intsA (logB l).1, bA (logB l).2])) := by
  have := (LogBytes_pc l hs).frzX
  simp [viewN, hpOf, hget, isC, tk] at this
  exact this
theorem specLogBytes_pc (l : List Cm) (hs : SmL l) : PC Tryz.prog 83 [cmA l] (rX (.tup [.o 0 (logB l).1.length, bA (logB l).2]) [rowZ (logB l).1]) := by
  have hV := specLogValid_pc l hs
  have hln := hs.n
  cases hv : lV l with
  | false =>
    rw [logB_f hv]
    refine pc_enter Tryz.func83 rfl rfl fun w0 fb => go_on ?_; (try simp only [Tryz.ntmps83, push_cast, simprocAttr])
    (refine at_call ?_; (try simp only [push_cast, simprocAttr]); refine rwc_v (hV) (go_on ?_); (try simp only [push_cast, simprocAttr]))
    (try simp only [hv, Bool.not_false, push_cast, simprocAttr])
    refine at_ret ?_; simp only [Tryz.results83, push_cast, simprocAttr]
    simp [rX, ixOf]
  | true =>
    have h20 := lV_n hv
    rw [logB_t hv]
    refine pc_enter Tryz.func83 rfl rfl fun w0 fb => go_on ?_; (try simp only [Tryz.ntmps83, push_cast, simprocAttr])
    (refine at_call ?_; (try simp only [push_cast, simprocAttr]); refine rwc_v (hV) (go_on ?_); (try simp only [push_cast, simprocAttr]))
    (try simp only [hv, Bool.not_true, push_cast, simprocAttr])
    refine at_loop (X := Nat) (fun k => [(2, .any), (4, .o 6 (logF (l.take k)).length), (5, iA k), (6, .any)]) (fun k => [(6, rowZ (logF (l.take k)))]) (fun k => k ≤ l.length) (fun k => l.length - k) 0 (Nat.zero_le _) ?_ ?_
    · (refine wk_ok ?_ ?_ ?_ ?_ <;> simp [leL, leH, idsL, idsA, idsR, inH, hget, sameRow, upA, hvA, dsts, dstO, setA_0, setA_1, setA_8, List.append, List.cons_append, List.nil_append])
    · rintro k q1
      simp only [upA, hvA, dsts, dstO, setA_0, setA_1, setA_8, List.append, List.cons_append, List.nil_append]
      refine go_on ?_
      have hlt2 := logF_len (l.take k)
      have hlk : (l.take k).length ≤ k := by rw [List.length_take]; omega
      (try simp only [List.length_map, push_cast, simprocAttr])
      refine at_b (fun hg => ?_) (fun hg => ?_)
      · have hlt := lt_tt hg
        obtain ⟨x, hx⟩ := get_of_lt hlt
        have i1 := ix_n hx
        have i2 := map_get cmC hx
        have hB := specCommandBytes_d x (by have := hs.p x (mem_of_get hx); omega)
        have hF := specFrameOf_d (cmdB x) (by have := cmdB_le x; omega)
        have hfl := frameB_le x
        unfold cmdA at hB
        simp only [cmC] at i2 hB
        have w1 := wr ((k : Int) + 1) (by omega)
        have hT : List.take (logF (l.take k)).length (List.map inC (logF (l.take k))) = List.map inC (logF (l.take k)) := List.take_of_length_le (by simp)
        (try simp only [hg, i1, i2, push_cast, simprocAttr])
        ((try simp only [push_cast, simprocAttr]); refine at_share2 (by simp [isC2, isC]) (by first | rfl | simp [ren]) (hB) (go_on ?_); (try simp only [push_cast, simprocAttr]))
        ((try simp only [push_cast, simprocAttr]); refine at_share2 (by simp [isC2, isC]) (by first | rfl | simp [ren]) (hF) (go_on ?_); (try simp only [push_cast, simprocAttr]))
        refine at_chk (by first | omega | (simp; omega)) ?_
        (try simp only [w1, hT, push_cast, simprocAttr])
        refine at_fin ⟨k + 1, by omega, by omega, ?_⟩
        rw [logF_take hx, List.length_append]
        (refine wk_ok ?_ ?_ ?_ ?_ <;> simp [leL, leH, idsL, idsA, idsR, inH, hget, sameRow, upA, hvA, dsts, dstO, setA_0, setA_1, setA_8, List.append, List.cons_append, List.nil_append])
      · have h3 := lt_ff hg
        obtain rfl : k = l.length := by omega
        rw [List.take_length]
        (try simp only [hg, push_cast, simprocAttr])
        refine at_ret ?_; simp only [Tryz.results83, push_cast, simprocAttr]
        simp [rX, ixOf]
theorem specLogBytes_d (l : List Cm) (hs : SmL l) : PC Tryz.prog 83 [cmA l] (vX (.tup [intsA (logB l).1, bA (logB l).2])) := by
  have := (specLogBytes_pc l hs).frzX
  simp [viewN, hpOf, hget, isC, tk] at this
  exact this
theorem bookB_f {b : Bk} (h : (lV b.log && inR b.ep 0 99) = false) : bookB b = ([], false) := by unfold bookB; rw [h]; rfl
theorem bookB_t {b : Bk} (h : (lV b.log && inR b.ep 0 99) = true) : bookB b = (frameB [b.ep] ++ (logB b.log).1, true) := by unfold bookB; rw [h]; rfl
theorem BookBytes_pc (b : Bk) (hs : SmL b.log) : PC Tryz.prog 46 [bkA b] (rX (.tup [.o 0 (bookB b).1.length, bA (bookB b).2]) [rowZ (bookB b).1]) := by
  have hL := LogBytes_d b.log hs
  have hE := isEpoch_pc b.ep
  have hF := FrameOf_pc [b.ep] (by simp)
  have hb2 : (logB b.log).2 = lV b.log := by unfold logB; split <;> simp_all
  rw [hb2] at hL
  unfold bkA bkC
  cases hv : lV b.log with
  | false =>
    rw [bookB_f (by rw [hv]; rfl)]
    rw [hv] at hL
    refine pc_enter Tryz.func46 rfl rfl fun w0 fb => go_on ?_; (try simp only [Tryz.ntmps46, push_cast, simprocAttr])
    (try simp only [push_cast, simprocAttr])
    refine at_share2 (by simp [isC2, isC]) (by first | rfl | simp [ren]) hL ?_
    simp only [push_cast, simprocAttr]
    (refine at_dropS [2] (by refine wk_ok ?_ ?_ ?_ ?_ <;> simp [dropS, dropT, hasN, delL, hdel, leL, leH, idsL, idsA, idsR, inH, hget, sameRow]) ?_; simp only [dropS, dropT, hasN, delL, hdel, idsA, idsL, hget, List.map_cons, List.map_nil, List.all_cons, List.all_nil, List.append_nil, Bool.not_false, Bool.not_true, Bool.and_true, if_true, if_false, simprocAttr])
    refine go_on ?_
    (try simp only [Bool.not_false, push_cast, simprocAttr])
    refine at_ret ?_; simp only [Tryz.results46, push_cast, simprocAttr]
    simp [rX, ixOf]
  | true =>
    rw [hv] at hL
    cases he : inR b.ep 0 99 with
    | false =>
      rw [bookB_f (by rw [hv, he]; rfl)]
      refine pc_enter Tryz.func46 rfl rfl fun w0 fb => go_on ?_; (try simp only [Tryz.ntmps46, push_cast, simprocAttr])
      (try simp only [push_cast, simprocAttr])
      refine at_share2 (by simp [isC2, isC]) (by first | rfl | simp [ren]) hL ?_
      simp only [push_cast, simprocAttr]
      (refine at_dropS [2] (by refine wk_ok ?_ ?_ ?_ ?_ <;> simp [dropS, dropT, hasN, delL, hdel, leL, leH, idsL, idsA, idsR, inH, hget, sameRow]) ?_; simp only [dropS, dropT, hasN, delL, hdel, idsA, idsL, hget, List.map_cons, List.map_nil, List.all_cons, List.all_nil, List.append_nil, Bool.not_false, Bool.not_true, Bool.and_true, if_true, if_false, simprocAttr])
      refine go_on ?_
      (try simp only [Bool.not_true, push_cast, simprocAttr])
      (refine at_call ?_; (try simp only [push_cast, simprocAttr]); refine rwc_v (hE) (go_on ?_); (try simp only [push_cast, simprocAttr]))
      (try simp only [he, Bool.not_false, push_cast, simprocAttr])
      refine at_ret ?_; simp only [Tryz.results46, push_cast, simprocAttr]
      simp [rX, ixOf]
    | true =>
      rw [bookB_t (by rw [hv, he]; rfl)]
      have hfl : (frameB [b.ep]).length = 3 := frameB_len (ep_body he)
      have h20 := lV_n hv
      have hll := logF_len b.log
      rw [← show (logB b.log).1 = logF b.log from by rw [logB_t hv]] at hll
      have hT : List.take (frameB [b.ep]).length (List.map inC (frameB [b.ep])) = List.map inC (frameB [b.ep]) := List.take_of_length_le (by simp)
      refine pc_enter Tryz.func46 rfl rfl fun w0 fb => go_on ?_; (try simp only [Tryz.ntmps46, push_cast, simprocAttr])
      ((try simp only [push_cast, simprocAttr]); refine at_share2 (by simp [isC2, isC]) (by first | rfl | simp [ren]) (hL) (go_on ?_); (try simp only [push_cast, simprocAttr]))
      (try simp only [Bool.not_true, push_cast, simprocAttr])
      (refine at_call ?_; (try simp only [push_cast, simprocAttr]); refine rwc_v (hE) (go_on ?_); (try simp only [push_cast, simprocAttr]))
      (try simp only [he, Bool.not_true, push_cast, simprocAttr])
      (refine at_call ?_; (try simp only [push_cast, simprocAttr]); refine rwc_r (hF) (by simp [flatV, flatL]) (flat_i _) (by simp [frB, baseOf]) (go_on ?_); (try simp only [push_cast, simprocAttr]))
      refine at_chk (by omega) ?_
      (try simp only [hT, push_cast, simprocAttr])
      refine at_ret ?_; simp only [Tryz.results46, push_cast, simprocAttr]
      simp [rX, ixOf]
theorem BookBytes_d (b : Bk) (hs : SmL b.log) : PC Tryz.prog 46 [bkA b] (vX (.tup [intsA (bookB b).1, bA (bookB b).2])) := by
  have := (BookBytes_pc b hs).frzX
  simp [viewN, hpOf, hget, isC, tk] at this
  exact this
theorem specBookBytes_pc (b : Bk) (hs : SmL b.log) : PC Tryz.prog 37 [bkA b] (rX (.tup [.o 0 (bookB b).1.length, bA (bookB b).2]) [rowZ (bookB b).1]) := by
  have hL := specLogBytes_d b.log hs
  have hE := l6In_pc b.ep 0 99
  have hF := specFrameOf_pc [b.ep] (by simp)
  have hb2 : (logB b.log).2 = lV b.log := by unfold logB; split <;> simp_all
  rw [hb2] at hL
  unfold bkA bkC
  cases hv : lV b.log with
  | false =>
    rw [bookB_f (by rw [hv]; rfl)]
    rw [hv] at hL
    refine pc_enter Tryz.func37 rfl rfl fun w0 fb => go_on ?_; (try simp only [Tryz.ntmps37, push_cast, simprocAttr])
    ((try simp only [push_cast, simprocAttr]); refine at_share2 (by simp [isC2, isC]) (by first | rfl | simp [ren]) (hL) (go_on ?_); (try simp only [push_cast, simprocAttr]))
    (try simp only [Bool.not_false, push_cast, simprocAttr])
    refine at_ret ?_; simp only [Tryz.results37, push_cast, simprocAttr]
    simp [rX, ixOf]
  | true =>
    rw [hv] at hL
    cases he : inR b.ep 0 99 with
    | false =>
      rw [bookB_f (by rw [hv, he]; rfl)]
      refine pc_enter Tryz.func37 rfl rfl fun w0 fb => go_on ?_; (try simp only [Tryz.ntmps37, push_cast, simprocAttr])
      ((try simp only [push_cast, simprocAttr]); refine at_share2 (by simp [isC2, isC]) (by first | rfl | simp [ren]) (hL) (go_on ?_); (try simp only [push_cast, simprocAttr]))
      (try simp only [Bool.not_true, push_cast, simprocAttr])
      (refine at_call ?_; (try simp only [push_cast, simprocAttr]); refine rwc_v (hE) (go_on ?_); (try simp only [push_cast, simprocAttr]))
      (try simp only [he, Bool.not_false, push_cast, simprocAttr])
      refine at_ret ?_; simp only [Tryz.results37, push_cast, simprocAttr]
      simp [rX, ixOf]
    | true =>
      rw [bookB_t (by rw [hv, he]; rfl)]
      have hfl : (frameB [b.ep]).length = 3 := frameB_len (ep_body he)
      have h20 := lV_n hv
      have hll := logF_len b.log
      rw [← show (logB b.log).1 = logF b.log from by rw [logB_t hv]] at hll
      have hT : List.take (frameB [b.ep]).length (List.map inC (frameB [b.ep])) = List.map inC (frameB [b.ep]) := List.take_of_length_le (by simp)
      refine pc_enter Tryz.func37 rfl rfl fun w0 fb => go_on ?_; (try simp only [Tryz.ntmps37, push_cast, simprocAttr])
      ((try simp only [push_cast, simprocAttr]); refine at_share2 (by simp [isC2, isC]) (by first | rfl | simp [ren]) (hL) (go_on ?_); (try simp only [push_cast, simprocAttr]))
      (try simp only [Bool.not_true, push_cast, simprocAttr])
      (refine at_call ?_; (try simp only [push_cast, simprocAttr]); refine rwc_v (hE) (go_on ?_); (try simp only [push_cast, simprocAttr]))
      (try simp only [he, Bool.not_true, push_cast, simprocAttr])
      (refine at_call ?_; (try simp only [push_cast, simprocAttr]); refine rwc_r (hF) (by simp [flatV, flatL]) (flat_i _) (by simp [frB, baseOf]) (go_on ?_); (try simp only [push_cast, simprocAttr]))
      refine at_chk (by omega) ?_
      (try simp only [hT, push_cast, simprocAttr])
      refine at_ret ?_; simp only [Tryz.results37, push_cast, simprocAttr]
      simp [rX, ixOf]
theorem specBookBytes_d (b : Bk) (hs : SmL b.log) : PC Tryz.prog 37 [bkA b] (vX (.tup [intsA (bookB b).1, bA (bookB b).2])) := by
  have := (specBookBytes_pc b hs).frzX
  simp [viewN, hpOf, hget, isC, tk] at this
  exact this
end Go.Proofs.YtccifbbjbnjcfaaGreatDoor
/-
  Opening a book that a law is handed.
-/
namespace Go.Proofs.YtccifbbjbnjcfaaGreatDoor
open Go Go.RowKit Go.Proofs
set_option maxRecDepth 100000
def BookOk (b : Bk) : Prop := b.log.length ≤ maxLen ∧ ∀ c ∈ b.log, c.p.length ≤ maxLen
section
variable {H : Type} {enc : TypeId × Value → H} {W : World} {base : Nat} {sp : Nat → Bool} {held : Bool} {fuel : Nat} {x : DataW H × List MemPlace}
theorem open_book {lv : Nat → Prop} {cs : Array Value} (hlv : ∀ b, b < W.heap.size → ¬ lv b) (h : DataW.trod enc Tryz.prog W 0 sp held fuel 42 cs.toList = some x) :
    ∃ b : Bk, C lv 0 W (bkA b) (.agg cs) ∧ BookOk b := by
  obtain ⟨cs⟩ := cs
  simp only at h
  obtain ⟨xs, n, rfl, rfl, hl, hlen, hf⟩ := DataW.trod_struct Tryz.underlying42 h
  rw [show Tryz.prog.cellsOf 42 = 2 by kernel_rfl] at hl
  obtain ⟨a, c, rfl⟩ := two_of hl
  obtain ⟨y0, y2, rfl⟩ := two_of hlen
  have h0 := hf 0 _ rfl
  have h2 := hf 1 _ rfl
  simp only [show Tryz.prog.cellsOf 3 = 1 by kernel_rfl, show Tryz.prog.cellsOf 40 = 1 by kernel_rfl, List.drop, List.take, List.getElem?_cons_zero, List.getElem?_cons_succ] at h0 h2
  obtain ⟨ep, e1, _⟩ := DataW.trod_int Tryz.underlying3 h0
  obtain ⟨ll, vl, e3, hl', l1, l2⟩ := open_commands hlv h2
  cases e1
  cases e3
  refine ⟨⟨ep, ll⟩, C.agg _ rfl fun j a ha => ?_, ⟨l1, l2⟩⟩
  rcases j with _ | _ | j
  · cases ha; exact C.v
  · cases ha; exact hl'
  · simp [bkC] at ha
end
end Go.Proofs.YtccifbbjbnjcfaaGreatDoor
/-
  Walks: the log of bytes; the book of bytes; the book of a disk.
-/
namespace Go.Proofs.YtccifbbjbnjcfaaGreatDoor
open Go Go.RowKit Go.Proofs
theorem lV_sm {l : List Cm} (h : lV l = true) : SmL l := by
  have hn := lV_n h
  refine ⟨by omega, fun c hc => ?_⟩
  unfold lV at h
  rw [Bool.and_eq_true] at h
  have := cmV_p (List.all_eq_true.1 h.1 c hc)
  omega
attribute [local irreducible] RWp AW run kPe pe Kt effA gd gu br retR RDp runD kPeD brW gW effD
set_option maxRecDepth 100000
end Go.Proofs.YtccifbbjbnjcfaaGreatDoor
/-
  Walks: DiskSync.
-/
namespace Go.Proofs.YtccifbbjbnjcfaaGreatDoor
open Go Go.RowKit Go.Proofs
theorem syncP_false {bs : List BD} {nm : Int} (h : diskB bs = false) : syncP bs nm = ([], false) := by unfold syncP; rw [h]; rfl
theorem syncP_none {bs : List BD} {nm : Int} (h : getB bs nm = none) : syncP bs nm = ([], false) := by
  unfold syncP
  rw [h]
  split <;> rfl
theorem ownNil {w0 w1 w : World} {lent1 : Lent} {s : AS} {loc : Loc} {a : Act} {R : Nat} {v : Value} (hch : Ch w0 w1 lent1) (hr : hget s.h R = some (rowB [])) (hR : Rel w1 lent1 s loc a w) (hG : G s.h loc w (.tup [.o R 0, bA false]) v) :
    ∃ x, (∀ lv lo W, C lv lo W x v) ∧ otB [] false w (fun b => w0.heap.size ≤ b ∧ b < w.heap.size) x := by
  obtain ⟨v0, h1, h2⟩ := hG.tupOB
  exact ⟨_, h2, v0, [], rfl, hR.toOT hch (bs := []) (us := []) hr Gh.nil h1⟩
attribute [local irreducible] RWp AW run kPe pe Kt effA gd gu br retR RDp runD kPeD brW gW effD
set_option maxRecDepth 100000
theorem DiskSync_o (bs : List BD) (hs : SmB bs) (nm : Int) : PO Tryz.prog 51 [blsA bs, iA nm] (otB (syncP bs nm).1 (syncP bs nm).2) := by
  have hV := DiskValid_pc bs hs
  have hF := file_pc bs hs.n nm
  have hn := hs.n
  cases hv : diskB bs with
  | false =>
    rw [syncP_false hv]
    refine po_enter Tryz.func51 rfl rfl fun w0 => go_on ?_; (try simp only [Tryz.ntmps51, push_cast, simprocAttr])
    (refine at_call ?_; (try simp only [push_cast, simprocAttr]); refine rwc_v (hF) (go_on ?_); (try simp only [push_cast, simprocAttr]))
    refine at_call ?_
    (try simp only [push_cast, simprocAttr])
    refine rwc_v hV ?_
    (try simp only [push_cast, simprocAttr])
    (refine at_dropS [4] (by refine wk_ok ?_ ?_ ?_ ?_ <;> simp [dropS, dropT, hasN, delL, hdel, leL, leH, idsL, idsA, idsR, inH, hget, sameRow]) ?_; simp only [dropS, dropT, hasN, delL, hdel, idsA, idsL, hget, List.map_cons, List.map_nil, List.all_cons, List.all_nil, List.append_nil, Bool.not_false, Bool.not_true, Bool.and_true, if_true, if_false, simprocAttr])
    refine go_on ?_
    (try simp only [hv, Bool.not_false, push_cast, simprocAttr])
    (refine at_retO (Ch.refl w0) (l := [.o 4 0, bA false]) (by simp only [Tryz.results51, push_cast, simprocAttr]) ?_)
    exact fun loc a w v hR hG => ownNil (Ch.refl w0) rfl hR hG
  | true =>
    rcases ixB_cases bs nm with ⟨h1, h2⟩ | ⟨j, d, h1, h2, h3⟩
    · rw [syncP_none h2]
      refine po_enter Tryz.func51 rfl rfl fun w0 => go_on ?_; (try simp only [Tryz.ntmps51, push_cast, simprocAttr])
      (refine at_call ?_; (try simp only [push_cast, simprocAttr]); refine rwc_v (hF) (go_on ?_); (try simp only [push_cast, simprocAttr]))
      refine at_call ?_
      (try simp only [push_cast, simprocAttr])
      refine rwc_v hV ?_
      (try simp only [push_cast, simprocAttr])
      (refine at_dropS [4] (by refine wk_ok ?_ ?_ ?_ ?_ <;> simp [dropS, dropT, hasN, delL, hdel, leL, leH, idsL, idsA, idsR, inH, hget, sameRow]) ?_; simp only [dropS, dropT, hasN, delL, hdel, idsA, idsL, hget, List.map_cons, List.map_nil, List.all_cons, List.all_nil, List.append_nil, Bool.not_false, Bool.not_true, Bool.and_true, if_true, if_false, simprocAttr])
      refine go_on ?_
      (try simp only [hv, Bool.not_true, h1, show ltI (-1) 0 = true from rfl, push_cast, simprocAttr])
      (refine at_retO (Ch.refl w0) (l := [.o 4 0, bA false]) (by simp only [Tryz.results51, push_cast, simprocAttr]) ?_)
      exact fun loc a w v hR hG => ownNil (Ch.refl w0) rfl hR hG
    · have hjl := lt_of_some h2
      have hdm := (getB_name h3).1
      have i0 : ltI (j : Int) 0 = false := ltI_f (by omega)
      have i1 := ix_n h2
      have hok := disk_okF hv (mem_of_get h2)
      have h400 : d.safe.length + d.fresh.length ≤ 400 := by simp only [okF, Bool.and_eq_true, decide_eq_true_eq] at hok; exact hok.2
      have hC := Concat_pc [d.safe, d.fresh] (by simp) (by simp; omega)
      simp only [List.map_cons, List.map_nil, szC, List.flatten_cons, List.flatten_nil, List.append_nil] at hC
      have hsy : syncP bs nm = (bs.set j ⟨d.name, d.safe ++ d.fresh, []⟩, true) := by
        unfold syncP
        rw [hv, h3, set_with ((diskB_iff _).1 hv).2 h2 (d' := ⟨d.name, d.safe ++ d.fresh, []⟩) rfl, hdm]
        rfl
      rw [hsy]
      refine po_enter Tryz.func51 rfl rfl fun w0 => go_on ?_; (try simp only [Tryz.ntmps51, push_cast, simprocAttr])
      (refine at_call ?_; (try simp only [push_cast, simprocAttr]); refine rwc_v (hF) (go_on ?_); (try simp only [push_cast, simprocAttr]))
      refine at_call ?_
      (try simp only [push_cast, simprocAttr])
      refine rwc_v hV ?_
      (try simp only [push_cast, simprocAttr])
      (refine at_dropS [4] (by refine wk_ok ?_ ?_ ?_ ?_ <;> simp [dropS, dropT, hasN, delL, hdel, leL, leH, idsL, idsA, idsR, inH, hget, sameRow]) ?_; simp only [dropS, dropT, hasN, delL, hdel, idsA, idsL, hget, List.map_cons, List.map_nil, List.all_cons, List.all_nil, List.append_nil, Bool.not_false, Bool.not_true, Bool.and_true, if_true, if_false, simprocAttr])
      refine go_on ?_
      (try simp only [hv, Bool.not_true, h1, i0, push_cast, simprocAttr])
      refine call_PO rfl [blsA bs] ⟨ga_c rfl, trivial⟩ (cloneDisk_o bs hs) ?_
      rintro w2 lent2 X x hN ⟨u, us, rfl, hO⟩
      have hlen := hO.gh.len
      obtain ⟨q, hq⟩ := hO.gh.at h2
      refine AW.re rfl fun loc a w hR => ?_
      obtain ⟨lent3, loc3, hR3, hgh, hch3, _, hkp3, _⟩ := hR.adopt' 19 rfl hO hN.xfb
      have hqi := hgh.inn j d q h2 hq
      obtain ⟨lent4, loc4, hR4, hfb4, hkp4, hch4, hpin⟩ := hR3.free (R := 500000) (E0 := esT bs us) rfl (by decide) esT_c (esT_at h2 hq) hqi.1 hqi.2
      have hch := hch4 _ _ (hch3 _ _ (hN.ch _ _ (Ch.refl w0)))
      have hin : ∀ (i : Nat) e r, bs[i]? = some e → us[i]? = some r → i ≠ j → OwI w lent4.fb r.1 e.safe ∧ OwI w lent4.fb r.2 e.fresh := fun i e r k1 k2 hne => by
        have := hgh.inn i e r k1 k2
        have n1 := fun v (hv : v = r.1 ∨ v = r.2) => apart_ne hgh.apart k2 hq hne hv (v' := q.1) (.inl rfl)
        have n2 := fun v (hv : v = r.1 ∨ v = r.2) => apart_ne hgh.apart k2 hq hne hv (v' := q.2) (.inr rfl)
        rw [hfb4]
        exact ⟨⟨this.1.1, fun g hg => ⟨this.1.2 g hg, n1 _ (.inl rfl) g hg, n2 _ (.inl rfl) g hg⟩⟩, ⟨this.2.1, fun g hg => ⟨this.2.2 g hg, n1 _ (.inr rfl) g hg, n2 _ (.inr rfl) g hg⟩⟩⟩
      refine ⟨w, lent4, _, loc4, hR4, ?_⟩
      clear hR hR3 hR4
      simp only [AS.put, setA, cl0, clS, isC, List.map_cons, List.map_nil, List.set_cons_succ, List.set_cons_zero, if_true, if_false, simprocAttr]
      have hel : (esT bs us).length = bs.length := esT_len hlen
      have i3 : ∀ z, ((esT bs us).set j z)[j]? = some z := fun z => by rw [List.getElem?_set_self (by omega)]
      refine go_on ?_
      (try simp only [push_cast, simprocAttr])
      refine at_draw rfl (by kernel_rfl) ?_; simp only [push_cast, simprocAttr]
      (try simp only [i1, i3, List.set_set, push_cast, simprocAttr])
      (refine at_callD (by simp [clB, idsL, idsA, hget]) ?_; (try simp only [push_cast, simprocAttr]); refine rcd_r hC (by simp [flatV, flatL]) (flat_i _) (by simp [frB, baseOf]) ?_; (try simp only [push_cast, simprocAttr]))
      (try simp only [i1, i3, List.set_set, push_cast, simprocAttr])
      refine at_done (by kernel_rfl) (by kernel_rfl) (go_on_n 6 ?_)
      (try simp only [i1, i3, List.set_set, push_cast, simprocAttr])
      rw [run_0]
      refine at_more ?_
      refine aw_storeN 500003 hpin rfl (h' := [(500000, ⟨79, 3, (esT bs us).set j [iA d.name, .o 34000 (d.safe ++ d.fresh).length, .o 500003 0], false⟩), (500003, rowZ []), (32, ⟨62, 1, [[intsA d.safe], [intsA d.fresh]], true⟩), (34000, rowZ (d.safe ++ d.fresh))]) (by simp only [i3, List.set_set, push_cast, simprocAttr]) ?_
      refine go_on ?_
      (try simp only [push_cast, simprocAttr])
      (refine at_retO hch (l := [.o 500000 bs.length, bA true]) (by simp only [Tryz.results51, push_cast, simprocAttr]) ?_)
      intro loc5 a5 w5 v hR hG
      obtain ⟨v0, hv0, hv1⟩ := hG.tupOB
      obtain ⟨u1, u2, lent6, loc6, hR6, o1, o2, hap, n1, n2, hsub, hkp, hch6, _, _, _, _, hl6⟩ := hR.unlink (R := 500000) (x := .o 34000 (d.safe ++ d.fresh).length) (y := .o 500003 ([] : List Int).length) (nm := d.name) rfl rfl rfl (.o rfl) (.o rfl) (by simp [idsA]) (by simp [idsA]) (by simp [idsA])
        (fun u1 u2 => (esT bs us).set j [iA d.name, .v u1, .v u2]) (fun u1 u2 => set_rel esT_c (by omega))
      rw [esT_set2 (d := ⟨d.name, d.safe ++ d.fresh, []⟩) (p := (u1, u2)) hlen hjl] at hR6
      refine ⟨_, hv1, v0, us.set j (u1, u2), rfl, ?_⟩
      exact hR6.toOT (R := 500000) (bs := bs.set j ⟨d.name, d.safe ++ d.fresh, []⟩) (us := us.set j (u1, u2)) (hch6 _ _ hch) rfl (Gh.set hlen hjl hin hgh.apart hkp hsub o1 o2 hap n1 n2) (by rw [hv0, List.length_set]; simp only [rowVal, hl6])
end Go.Proofs.YtccifbbjbnjcfaaGreatDoor
/-
  Walks: the reference's DiskSync.
-/
namespace Go.Proofs.YtccifbbjbnjcfaaGreatDoor
open Go Go.RowKit Go.Proofs
attribute [local irreducible] RWp AW run kPe pe Kt effA gd gu br retR RDp runD kPeD brW gW effD
set_option maxRecDepth 100000
theorem l31All_pc (d : BD) (h : d.safe.length + d.fresh.length ≤ 4194304) : PC Tryz.prog 82 [blobA d] (rX (.o 0 (d.safe ++ d.fresh).length) [rowZ (d.safe ++ d.fresh)]) := by
  unfold blobA bC
  refine pc_enter Tryz.func82 rfl rfl fun w0 fb => go_on ?_; (try simp only [Tryz.ntmps82, push_cast, simprocAttr])
  refine at_draw rfl (by kernel_rfl) ?_; simp only [push_cast, simprocAttr]
  (try simp only [effD_app2, push_cast, simprocAttr])
  refine at_chkD (by omega) ?_
  (try simp only [effD_app2, push_cast, simprocAttr])
  refine at_chkD (by simp; omega) ?_
  (try simp only [push_cast, simprocAttr])
  refine at_done (by kernel_rfl) (by kernel_rfl) (go_on ?_)
  (try simp only [push_cast, simprocAttr])
  refine at_ret ?_; simp only [Tryz.results82, push_cast, simprocAttr]
  have hT : List.take d.safe.length (List.map inC d.safe) = List.map inC d.safe := List.take_of_length_le (by simp)
  simp [rX, ixOf, hT]
theorem l31All_d (d : BD) (h : d.safe.length + d.fresh.length ≤ 4194304) : PC Tryz.prog 82 [blobA d] (vX (intsA (d.safe ++ d.fresh))) := by
  have := (l31All_pc d h).frzX
  simpa [viewN, hpOf, hget, isC, tk, intsA, List.map_append] using this
theorem specDiskSync_d (bs : List BD) (hs : SmB bs) (nm : Int) : PC Tryz.prog 41 [blsA bs, iA nm] (vX (.tup [blsA (syncP bs nm).1, bA (syncP bs nm).2])) := by
  have hV := specDiskValid_pc bs hs
  have hF := l31Find_pc bs hs.n nm
  have emp : ∀ {q : PC Tryz.prog 41 [blsA bs, iA nm] (rX (.tup [.o 0 0, bA false]) [rowB []])}, PC Tryz.prog 41 [blsA bs, iA nm] (vX (.tup [blsA [], bA false])) := fun {q} => by
    have := q.frzX
    simp [viewN, hpOf, hget, isC, tk] at this
    exact this
  cases hv : diskB bs with
  | false =>
    rw [syncP_false hv]
    refine emp (q := ?_)
    refine pc_enter Tryz.func41 rfl rfl fun w0 fb => go_on ?_; (try simp only [Tryz.ntmps41, push_cast, simprocAttr])
    (refine at_call ?_; (try simp only [push_cast, simprocAttr]); refine rwc_v (hV) (go_on ?_); (try simp only [push_cast, simprocAttr]))
    (try simp only [hv, Bool.not_false, push_cast, simprocAttr])
    refine at_ret ?_; simp only [Tryz.results41, push_cast, simprocAttr]
    simp [rX, ixOf]
  | true =>
    have h3n := disk_len hv
    rcases ixB_cases bs nm with ⟨h1, h2⟩ | ⟨j, d, h1, h2, h3⟩
    · rw [syncP_none h2]
      refine emp (q := ?_)
      refine pc_enter Tryz.func41 rfl rfl fun w0 fb => go_on ?_; (try simp only [Tryz.ntmps41, push_cast, simprocAttr])
      (refine at_call ?_; (try simp only [push_cast, simprocAttr]); refine rwc_v (hV) (go_on ?_); (try simp only [push_cast, simprocAttr]))
      (try simp only [hv, Bool.not_true, push_cast, simprocAttr])
      (refine at_call ?_; (try simp only [push_cast, simprocAttr]); refine rwc_v (hF) (go_on ?_); (try simp only [push_cast, simprocAttr]))
      (try simp only [h1, show ltI (-1) 0 = true from rfl, push_cast, simprocAttr])
      refine at_ret ?_; simp only [Tryz.results41, push_cast, simprocAttr]
      simp [rX, ixOf]
    · have hdm := (getB_name h3).1
      have i0 : ltI (j : Int) 0 = false := ltI_f (by omega)
      have i1 := ix_n h2
      have i2 := map_get bC h2
      have hok := disk_okF hv (mem_of_get h2)
      have h400 : d.safe.length + d.fresh.length ≤ 400 := by simp only [okF, Bool.and_eq_true, decide_eq_true_eq] at hok; exact hok.2
      have hA := l31All_d d (by omega)
      have hW := l31With_d bs hs (by omega) ⟨nm, d.safe ++ d.fresh, []⟩ ⟨by simp only [List.length_append]; omega, by simp⟩
      unfold blobA at hA hW
      simp only [bC, List.map_nil] at i2 hA hW
      have hsy : syncP bs nm = (withB bs ⟨nm, d.safe ++ d.fresh, []⟩, true) := by
        unfold syncP
        rw [hv, h3]
        rfl
      rw [hsy]
      refine pc_enter Tryz.func41 rfl rfl fun w0 fb => go_on ?_; (try simp only [Tryz.ntmps41, push_cast, simprocAttr])
      (refine at_call ?_; (try simp only [push_cast, simprocAttr]); refine rwc_v (hV) (go_on ?_); (try simp only [push_cast, simprocAttr]))
      (try simp only [hv, Bool.not_true, push_cast, simprocAttr])
      (refine at_call ?_; (try simp only [push_cast, simprocAttr]); refine rwc_v (hF) (go_on ?_); (try simp only [push_cast, simprocAttr]))
      (try simp only [h1, i0, push_cast, simprocAttr])
      (refine at_call ?_; (try simp only [push_cast, simprocAttr]); refine rwc_v (hF) (go_on ?_); (try simp only [push_cast, simprocAttr]))
      (try simp only [h1, i1, i2, push_cast, simprocAttr])
      ((try simp only [push_cast, simprocAttr]); refine at_share2 (by simp [isC2, isC]) (by first | rfl | simp [ren]) (hA) (go_on ?_); (try simp only [push_cast, simprocAttr]))
      (refine at_callW [27] (by refine wk_frz ?_ ?_ ?_ ?_ <;> simp [frwS, frwH, frwRow, frzT, hasN, delL, hdel, leF, leHF, rowF, frzB, idsL, idsA, idsR, inH, hget, sameRow, viewN, tk]) ?_; simp only [frwS, frwH, frwRow, frzT, hasN, delL, hdel, idsA, idsL, viewN, hget, tk, isC, List.map_cons, List.map_nil, List.all_cons, List.all_nil, List.append_nil, List.drop, List.getElem?_cons_zero, List.getElem?_cons_succ, Bool.not_false, Bool.not_true, Bool.and_true, if_true, if_false, Nat.zero_add, List.length_map, simprocAttr])
      ((try simp only [push_cast, simprocAttr]); refine at_share2 (by simp [isC2, isC]) (by first | rfl | simp [ren]) (hW) (go_on ?_); (try simp only [push_cast, simprocAttr]))
      refine at_ret ?_; simp only [Tryz.results41, push_cast, simprocAttr]
      simp [vX]
end Go.Proofs.YtccifbbjbnjcfaaGreatDoor
/-
  Walks: the book of bytes; the book of a disk.
-/
namespace Go.Proofs.YtccifbbjbnjcfaaGreatDoor
open Go Go.RowKit Go.Proofs
attribute [local irreducible] RWp AW run kPe pe Kt effA gd gu br retR RDp runD kPeD brW gW effD
set_option maxRecDepth 100000
end Go.Proofs.YtccifbbjbnjcfaaGreatDoor
/-
  Walks: slices.DeleteFunc at files, slices.Equal at numbers.
-/
namespace Go.Proofs.YtccifbbjbnjcfaaGreatDoor
open Go Go.RowKit Go.Proofs
attribute [local irreducible] RWp AW run kPe pe Kt effA gd gu br retR RDp runD kPeD brW gW effD
set_option maxRecDepth 100000
def delB (f : List BD) (rv : AV) (lr' rows : List Row) : Prop := rv = .o 0 f.length ∧ lr' = [rowB f] ∧ rows = []
theorem DeleteFuncB_pcl (l : List BD) (hl : l.length < 4294967281) (g : FuncId) (caps : List AV) (hc : caps.all isC = true) (p : BD → Bool) (hp : ∀ n ∈ l, PC Tryz.prog g (blobA n :: caps) (vB (p n))) :
    PCL Tryz.prog 61 [rowB l] (mvF (some 0)) [.o 0 l.length, .fn g caps] (delB (l.filter fun n => !p n)) := by
  refine pcl_enter Tryz.func61 rfl rfl (by simp) fun w0 fb loc => go_on ?_
  (try simp only [Tryz.ntmps61, hpL, nmL, mvF, renL, closed_renL hc, decide_true, decide_false, push_cast, simprocAttr])
  refine at_call ?_
  simp only [List.map_cons, List.map_nil, view_fn 2, closed_view hc]
  (try simp only [push_cast, simprocAttr])
  refine rwc_v (IndexFuncB_pc l hl g caps hc p hp) (go_on ?_)
  rcases idxF_spec p l 0 with ⟨h1, h2⟩ | ⟨j, n, h1, h2, h3⟩
  · rw [h1]
    (try simp only [push_cast, simprocAttr])
    refine at_retL ?_
    simp only [Tryz.results61, retL, push_cast, simprocAttr]
    have hf : l.filter (fun n => !p n) = l := by
      rw [List.filter_eq_self]
      intro a ha
      have := List.find?_eq_none.1 h2 a ha
      simpa using this
    simp [show List.range 1 = [0] from rfl, nmL, mvF, ndB, ixOf, rowsOf, hget, delB, hf]
  · rw [h1, Nat.zero_add]
    have i0 : eqI (j : Int) (-1) = false := eqI_f (by omega)
    have hj := lt_of_some h2
    have w1 := wr ((j : Int) + 1) (by omega)
    (try simp only [i0, w1, push_cast, simprocAttr])
    have hpn : p n = true := by have := List.find?_some h3; exact this
    obtain ⟨kp, hkp⟩ : ∃ kp : Nat → List BD, kp = fun i => (l.take i).filter fun n => !p n := ⟨_, rfl⟩
    have k1 : ∀ i a, l[i]? = some a → kp (i + 1) = kp i ++ (if p a then [] else [a]) := by
      intro i a ha
      rw [hkp]
      simp only
      rw [List.take_add_one, ha, List.filter_append]
      cases hpa : p a <;> simp [hpa]
    have kl : ∀ i, (kp i).length ≤ i := fun i => by rw [hkp]; exact Nat.le_trans (List.length_filter_le _ _) (by rw [List.length_take]; omega)
    have kj : kp j = l.take j := by rw [hkp]; exact idxF_take p l 0 j h1
    have kj1 : kp (j + 1) = l.take j := by rw [k1 j n h2, hpn, kj]; simp
    have kn : kp l.length = l.filter fun n => !p n := by rw [hkp]; simp
    have e0 : kp (j + 1) ++ [n] ++ l.drop (j + 1) = l := by
      rw [kj1, List.append_assoc, List.singleton_append, ← drop_of_get h2, List.take_append_drop]
    have e1 : (kp (j + 1)).length = j := by rw [kj1, List.length_take]; omega
    refine at_loop (X := Nat × List BD) (fun x => [(5, iA (kp x.1).length), (6, iA x.1)]) (fun x => [(600000, rowB (kp x.1 ++ x.2 ++ l.drop x.1)), (4, rowB [])])
      (fun x => x.1 ≤ l.length ∧ (kp x.1).length + x.2.length = x.1 ∧ 0 < x.2.length) (fun x => l.length - x.1) (j + 1, [n]) ⟨by dsimp only; omega, by dsimp only; rw [e1]; rfl, by simp⟩ ?_ ?_
    · simp only [e0, e1]
      (refine wk_ok ?_ ?_ ?_ ?_ <;> simp [closed_ids hc, leL, leH, idsL, idsA, idsR, inH, hget, sameRow, upA, hvA, dsts, dstO, setA_0, setA_1, setA_8, List.append, List.cons_append, List.nil_append])
    · rintro ⟨q, M⟩ ⟨q1, q2, q3⟩
      simp only at q1 q2 q3
      simp only [upA, hvA, dsts, dstO, setA_0, setA_1, setA_8, List.append, List.cons_append, List.nil_append]
      refine go_on_n 11 ?_
      (try simp only [run_0, push_cast, simprocAttr])
      obtain ⟨y, M1, rfl⟩ : ∃ y M1, M = y :: M1 := by
        cases M with
        | nil => simp at q3
        | cons y M1 => exact ⟨y, M1, rfl⟩
      simp only [List.length_cons] at q2
      refine at_b (fun hg => ?_) (fun hg => ?_)
      · have hlt := lt_tt hg
        obtain ⟨x, hx⟩ := get_of_lt hlt
        obtain ⟨R, hRR⟩ : ∃ R, R = kp q ++ y :: M1 ++ l.drop q := ⟨_, rfl⟩
        have hRq : R[q]? = some x := by
          rw [hRR, drop_of_get hx, List.getElem?_append_right (by simp; omega)]
          simp
          rw [show q - ((kp q).length + (M1.length + 1)) = 0 by omega]
          rfl
        have hRi : R[(kp q).length]? = some y := by
          rw [hRR, List.append_assoc, List.getElem?_append_right (Nat.le_refl _)]
          simp
        have hRl : R.length = l.length := by rw [hRR]; simp; omega
        have i1 := ix_n hx
        have i2 := map_get bC hRq
        have i3 : toIx ((kp q).length : Int) l.length = some (kp q).length := by
          have := ix_n hRi
          rw [hRl] at this
          exact this
        have i4 := map_get bC hRi
        simp only [bC] at i2 i4
        have w2 := wr ((q : Int) + 1) (by omega)
        have w3 := wr (((kp q).length : Int) + 1) (by omega)
        rw [← hRR]
        (try simp only [hg, run_0, push_cast, simprocAttr])
        refine at_more (go_on ?_)
        (try simp only [hg, i1, i2, push_cast, simprocAttr])
        refine at_call ?_
        simp only [List.map_cons, List.map_nil, closed_view hc]
        (try simp only [push_cast, simprocAttr])
        have hpx0 := hp x (mem_of_get hx)
        unfold blobA bC at hpx0
        refine rwc_v hpx0 (go_on ?_)
        (try simp only [push_cast, simprocAttr])
        refine at_b (fun hd => ?_) (fun hd => ?_)
        · have hpx := not_t hd
          have hk2 : kp (q + 1) = kp q ++ [x] := by rw [k1 q x hx, hpx]; simp
          have hset : R.set (kp q).length x = kp (q + 1) ++ (M1 ++ [x]) ++ l.drop (q + 1) := by
            rw [hRR, hk2, drop_of_get hx]
            simp
          (try simp only [hd, i3, i4, w2, w3, push_cast, simprocAttr])
          have hs : (List.map bC R).set (kp q).length [iA x.name, intsA x.safe, intsA x.fresh] = List.map bC (kp (q + 1) ++ (M1 ++ [x]) ++ l.drop (q + 1)) := by rw [← hset, List.map_set]; rfl
          have hl2 : (((kp (q + 1)).length : Nat) : Int) = (kp q).length + 1 := by rw [hk2]; simp
          refine at_fin ⟨(q + 1, M1 ++ [x]), ⟨by dsimp only; omega, by rw [hk2]; simp; omega, by simp⟩, by dsimp only; omega, ?_⟩
          rw [hs]
          (refine wk_ok ?_ ?_ ?_ ?_ <;> simp [closed_ids hc, hl2, leL, leH, idsL, idsA, idsR, inH, hget, sameRow, upA, hvA, dsts, dstO, setA_0, setA_1, setA_8, List.append, List.cons_append, List.nil_append])
        · have hpx := not_f hd
          have hk2 : kp (q + 1) = kp q := by rw [k1 q x hx, hpx]; simp
          have hs : R = kp (q + 1) ++ (y :: M1 ++ [x]) ++ l.drop (q + 1) := by
            rw [hRR, hk2, drop_of_get hx]
            simp
          (try simp only [hd, w2, push_cast, simprocAttr])
          refine at_fin ⟨(q + 1, y :: M1 ++ [x]), ⟨by dsimp only; omega, by rw [hk2]; simp; omega, by simp⟩, by dsimp only; omega, ?_⟩
          simp only [← hs]
          (refine wk_ok ?_ ?_ ?_ ?_ <;> simp [closed_ids hc, hk2, leL, leH, idsL, idsA, idsR, inH, hget, sameRow, upA, hvA, dsts, dstO, setA_0, setA_1, setA_8, List.append, List.cons_append, List.nil_append])
      · have hq := lt_ff hg
        have hq1 : q = l.length := by omega
        subst hq1
        (try simp only [hg, run_0, push_cast, simprocAttr])
        refine at_more (go_on_n 3 ?_)
        (try simp only [run_0, push_cast, simprocAttr])
        refine at_more ?_
        have hRl : (kp l.length ++ y :: M1 ++ l.drop l.length).length = l.length := by simp; omega
        refine aw_slclear (row := rowB (kp l.length ++ y :: M1 ++ l.drop l.length)) (r := 600000) (n := l.length) (i := (kp l.length).length) rfl rfl (by simp) (by simp [hget]) (by simp only [List.length_map]; exact hRl.symm) (by omega) ty29 rfl ty79 rfl rfl rfl rfl (fun w => ⟨_, rfl, rfl⟩) (go_on ?_)
        have hki : ((kp l.length).length : Int) ≤ l.length := by have := kl l.length; omega
        (try simp only [hki, push_cast, simprocAttr])
        have hes : (List.take (kp l.length).length (List.map bC (kp l.length ++ y :: M1 ++ l.drop l.length)) ++ List.replicate (l.length - (kp l.length).length) [AV.any, AV.any, AV.any]).take (kp l.length).length = (kp l.length).map bC := by
          rw [List.append_assoc, List.map_append, List.take_append_of_le_length (by simp), List.take_take, Nat.min_self, List.take_append_of_le_length (by simp), take_map]
        refine ret_wk (wk_trunc 600000 (kp l.length).length (by simp only [hget]; rfl) (by simp) (by simp)) ?_
        refine at_retL ?_
        simp only [Tryz.results61, retL, hes, okT, Nat.le_refl, push_cast, decide_true, simprocAttr]
        simp [show List.range 1 = [0] from rfl, nmL, mvF, ndB, ixOf, rowsOf, hget, delB, kn]

end Go.Proofs.YtccifbbjbnjcfaaGreatDoor
/-
  Walks: disks: a copy of a disk, of which one file's fresh bytes stay a row.
-/
namespace Go.Proofs.YtccifbbjbnjcfaaGreatDoor
open Go Go.RowKit Go.Proofs
def lnkC (d : BD) (p q : Nat) : List AV := [iA d.name, .o p d.safe.length, .o q d.fresh.length]
def lnkR (bs : List BD) (j : Nat) (d : BD) (p q : Nat) : Row := ⟨79, 3, (bs.map bC).set j (lnkC d p q), false⟩
def atD (bs : List BD) (j : Nat) (d : BD) (rv : AV) (lr' rows : List Row) : Prop := rv = .o 0 bs.length ∧ lr' = [] ∧ rows = [lnkR bs j d 1 2, rowZ d.safe, rowZ d.fresh]
def clnH (bs : List BD) (j : Nat) (d : BD) (k : Nat) : Bool → Hp
  | false => [(2, ⟨79, 3, [], true⟩), (3, rowB (bs.take k))]
  | true => [(2, ⟨79, 3, [], true⟩), (15000, rowZ d.safe), (15001, rowZ d.fresh), (3, lnkR (bs.take k) j d 15000 15001)]
theorem mem_set_or {α : Type} {l : List α} {j : Nat} {x y : α} (h : y ∈ l.set j x) : y ∈ l ∨ y = x := List.mem_or_eq_of_mem_set h
theorem bC_ids {d : BD} {x : AV} (h : x ∈ bC d) : idsA x = [] := by
  simp only [bC, List.mem_cons, List.not_mem_nil, or_false] at h
  rcases h with rfl | rfl | rfl <;> simp [idsA]
theorem lnk_ids {bs : List BD} {j : Nat} {d : BD} {p q : Nat} {e : List AV} (he : e ∈ (lnkR bs j d p q).es) {x : AV} (hx : x ∈ e) : ∀ r ∈ idsA x, r = p ∨ r = q := by
  intro r hr
  rcases mem_set_or he with h | h
  · obtain ⟨y, _, rfl⟩ := List.mem_map.1 h
    rw [bC_ids hx] at hr; cases hr
  · subst h
    simp only [lnkC, List.mem_cons, List.not_mem_nil, or_false] at hx
    rcases hx with rfl | rfl | rfl <;> simp [idsA] at hr
    · exact .inl hr
    · exact .inr hr
theorem lnk_in {σ : List Nat} {bs : List BD} {j : Nat} {d : BD} {p q : Nat} (hp : σ.contains p = true) (hq : σ.contains q = true) : inRow σ (lnkR bs j d p q) = true := by
  unfold inRow
  rw [Bool.or_eq_true]
  refine .inr (List.all_eq_true.2 fun e he => List.all_eq_true.2 fun x hx => List.all_eq_true.2 fun r hr => ?_)
  rcases lnk_ids he hx r hr with rfl | rfl
  · exact hp
  · exact hq
theorem lnk_rf (f : Nat → Nat) {bs : List BD} {j : Nat} {d : BD} {p q : Nat} (hj : j < bs.length) : rfRow f (lnkR bs j d p q) = lnkR bs j d (f p) (f q) := by
  have hc : cloRow (lnkR bs j d p q) = false := by
    unfold cloRow
    simp only [lnkR, Bool.false_or]
    rw [Bool.eq_false_iff]
    intro h
    have := List.all_eq_true.1 h (lnkC d p q) (List.mem_iff_getElem.2 ⟨j, by simpa using hj, by simp⟩)
    simp [lnkC, isC] at this
  unfold rfRow
  rw [hc]
  simp only [Bool.false_eq_true, if_false, lnkR, Row.mk.injEq, true_and, and_true]
  rw [List.map_set, List.map_map]
  have e1 : (lnkC d p q).map (rfA f) = lnkC d (f p) (f q) := by simp [lnkC, rfA]
  have e2 : ((fun x => x.map (rfA f)) ∘ bC : BD → List AV) = bC := by funext x; simp [bC, rfA]
  rw [e1]
  congr 1
  exact congrArg (fun g => bs.map g) e2
theorem lnk_idsR {h : Hp} {bs : List BD} {j : Nat} {d : BD} {p q : Nat} (hp : inH h p = true) (hq : inH h q = true) : ((lnkR bs j d p q).es.all fun e => (idsL e).all fun r => inH h r) = true := by
  refine List.all_eq_true.2 fun e he => List.all_eq_true.2 fun r hr => ?_
  have : ∃ x ∈ e, r ∈ idsA x := by
    clear he
    induction e with
    | nil => simp [idsL] at hr
    | cons y l ih =>
      simp only [idsL, List.mem_append] at hr
      rcases hr with hr | hr
      · exact ⟨y, List.mem_cons_self, hr⟩
      · obtain ⟨x, h1, h2⟩ := ih hr
        exact ⟨x, List.mem_cons_of_mem _ h1, h2⟩
  obtain ⟨x, h1, h2⟩ := this
  rcases lnk_ids he h1 r h2 with rfl | rfl
  · exact hp
  · exact hq
theorem kill_bC (r : Nat) : ((fun x => List.map (killA r) x) ∘ bC : BD → List AV) = bC := by funext x; simp [bC, killA]
theorem lnk_kill {bs : List BD} {j : Nat} {d : BD} {p q r : Nat} (hp : p ≠ r) (hq : q ≠ r) : (lnkR bs j d p q).es.map (fun x => List.map (killA r) x) = (lnkR bs j d p q).es := by
  simp only [lnkR]
  rw [List.map_set, List.map_map, kill_bC]
  simp [lnkC, killA, hp, hq]
theorem rowZ_in (σ : List Nat) (l : List Int) : inRow σ (rowZ l) = true := rfl
theorem rowZ_rf (f : Nat → Nat) (l : List Int) : rfRow f (rowZ l) = rowZ l := rfl
theorem set_end {α : Type} (l : List α) (x y : α) : (l ++ [x]).set l.length y = l ++ [y] := by simp
attribute [local irreducible] RWp AW run kPe pe Kt effA gd gu br retR RDp runD kPeD brW gW effD
set_option maxRecDepth 100000
theorem cloneDisk_at (bs : List BD) (hs : SmB bs) (j : Nat) (d : BD) (hj : bs[j]? = some d) : PCX Tryz.prog 62 [] [blsA bs] (atD bs j d) := by
  have hn := hs.n
  have hjl := lt_of_some hj
  refine pcx_enter Tryz.func62 rfl rfl (by simp) fun w0 fb loc => go_on ?_
  simp only [Tryz.ntmps62, hpX, rfA, push_cast, simprocAttr]
  refine at_loop (X := Nat × Bool) (fun x => [(3, .o 3 x.1), (8, iA x.1)]) (fun x => clnH bs j d x.1 x.2) (fun x => x.1 ≤ bs.length ∧ (x.2 = false ∧ x.1 ≤ j ∨ x.2 = true ∧ j < x.1)) (fun x => bs.length - x.1) (0, false) ⟨Nat.zero_le _, .inl ⟨rfl, by dsimp only; omega⟩⟩ ?_ ?_
  · (refine wk_ok ?_ ?_ ?_ ?_ <;> simp [clnH, leL, leH, idsL, idsA, idsR, inH, hget, sameRow, upA, hvA, dsts, dstO, setA_0, setA_1, setA_8, List.append, List.cons_append, List.nil_append])
  · rintro ⟨k, ph⟩ ⟨hk, hp⟩
    simp only at hk hp
    simp only [upA, hvA, dsts, dstO, setA_0, setA_1, setA_8, List.append, List.cons_append, List.nil_append]
    refine go_on ?_
    (try simp only [List.length_map, push_cast, simprocAttr])
    have el : (bs.take k).length = k := by rw [List.length_take]; omega
    refine at_b (fun hg => ?_) (fun hg => ?_)
    · have hlt := lt_tt hg
      obtain ⟨x, hx⟩ := get_of_lt hlt
      have i1 := ix_n hx
      have i2 := map_get bC hx
      have hC := blobClone_d x (hs.d x (mem_of_get hx))
      have hC0 := blobClone_pc x (hs.d x (mem_of_get hx))
      unfold blobA at hC hC0
      simp only [bC] at i2 hC hC0
      have e : bs.take (k + 1) = bs.take k ++ [x] := by rw [List.take_add_one, hx]; rfl
      have w1 := wr ((k : Int) + 1) (by omega)
      rcases hp with ⟨rfl, hkj⟩ | ⟨rfl, hkj⟩
      · simp only [clnH]
        by_cases hkj2 : k = j
        · have hxd : x = d := by rw [hkj2, hj] at hx; exact (Option.some.inj hx).symm
          subst hxd
          have hL : lnkR (bs.take (k + 1)) j x 15000 15001 = ⟨79, 3, (bs.take k).map bC ++ [[iA x.name, .o 15000 x.safe.length, .o 15001 x.fresh.length]], false⟩ := by
            unfold lnkR
            rw [e, List.map_append, ← hkj2]
            have := set_end ((bs.take k).map bC) (bC x) (lnkC x 15000 15001)
            rw [List.length_map, el] at this
            rw [show [x].map bC = [bC x] from rfl, this]
            rfl
          (try simp only [hg, i1, i2, push_cast, simprocAttr])
          (refine at_call ?_; (try simp only [push_cast, simprocAttr]); refine rwc_r (hC0) rfl (flat_z2 _ _) (by simp [frB, baseOf]) (go_on ?_); (try simp only [push_cast, simprocAttr]))
          refine at_chk (by omega) ?_
          (try simp only [w1, push_cast, simprocAttr])
          refine at_fin ⟨(k + 1, true), ⟨by dsimp only; omega, .inr ⟨rfl, by dsimp only; omega⟩⟩, by dsimp only; omega, ?_⟩
          simp only [clnH]
          rw [hL]
          refine wk_ok ?_ ?_ ?_ ?_
          · simp [leL, upA, hvA, dsts, dstO, setA_0, setA_1, setA_8, List.append, List.cons_append, List.nil_append]
          · simp [leH, hget, sameRow, List.take_take, kill_bC, killA]
          · simp [idsL, idsA, inH, hget, upA, hvA, dsts, dstO, setA_0, setA_1, setA_8, List.append, List.cons_append, List.nil_append]
          · rw [← hL]
            simp [idsR, lnk_idsR, inH, hget]
        · (try simp only [hg, i1, i2, push_cast, simprocAttr])
          ((try simp only [push_cast, simprocAttr]); refine at_share2 (by simp [isC2, isC]) (by first | rfl | simp [ren]) (hC) (go_on ?_); (try simp only [push_cast, simprocAttr]))
          refine at_chk (by omega) ?_
          (try simp only [w1, push_cast, simprocAttr])
          refine at_fin ⟨(k + 1, false), ⟨by dsimp only; omega, .inl ⟨rfl, by dsimp only; omega⟩⟩, by dsimp only; omega, ?_⟩
          simp only [clnH]
          rw [e]
          (refine wk_ok ?_ ?_ ?_ ?_ <;> simp [bC, el, List.take_take, leL, leH, idsL, idsA, idsR, inH, hget, sameRow, upA, hvA, dsts, dstO, setA_0, setA_1, setA_8, List.append, List.cons_append, List.nil_append])
      · simp only [clnH]
        obtain ⟨ES, hES⟩ : ∃ ES, ES = (lnkR (bs.take k) j d 15000 15001).es := ⟨_, rfl⟩
        have hrow : lnkR (bs.take k) j d 15000 15001 = ⟨79, 3, ES, false⟩ := by rw [hES]; rfl
        have hESl : ES.length = k := by rw [hES]; simp [lnkR]; omega
        have hTk : List.take k ES = ES := List.take_of_length_le (by omega)
        have hKl : ES.map (fun x => List.map (killA 3) x) = ES := by rw [hES]; exact lnk_kill (by decide) (by decide)
        have hL : lnkR (bs.take (k + 1)) j d 15000 15001 = ⟨79, 3, ES ++ [[iA x.name, intsA x.safe, intsA x.fresh]], false⟩ := by
          rw [hES]
          unfold lnkR
          rw [e, List.map_append, List.set_append_left _ _ (by simp; omega)]
          rfl
        rw [hrow]
        (try simp only [hg, i1, i2, push_cast, simprocAttr])
        ((try simp only [push_cast, simprocAttr]); refine at_share2 (by simp [isC2, isC]) (by first | rfl | simp [ren]) (hC) (go_on ?_); (try simp only [push_cast, simprocAttr]))
        refine at_chk (by omega) ?_
        (try simp only [w1, hTk, hKl, push_cast, simprocAttr])
        refine at_fin ⟨(k + 1, true), ⟨by dsimp only; omega, .inr ⟨rfl, by dsimp only; omega⟩⟩, by dsimp only; omega, ?_⟩
        simp only [clnH]
        rw [hL]
        refine wk_ok ?_ ?_ ?_ ?_
        · simp [leL, upA, hvA, dsts, dstO, setA_0, setA_1, setA_8, List.append, List.cons_append, List.nil_append]
        · simp [leH, hget, sameRow, hTk, hKl, killA]
        · simp [idsL, idsA, inH, hget, upA, hvA, dsts, dstO, setA_0, setA_1, setA_8, List.append, List.cons_append, List.nil_append]
        · rw [← hL]
          simp [idsR, lnk_idsR, inH, hget]
    · have h3 := lt_ff hg
      have hk' : k = bs.length := by omega
      subst hk'
      rcases hp with ⟨rfl, hkj⟩ | ⟨rfl, hkj⟩
      · omega
      · simp only [clnH, List.take_length]
        (try simp only [hg, push_cast, simprocAttr])
        refine at_retX [3, 15000, 15001] ?_
        have hin := lnk_in (σ := [3, 15000, 15001]) (bs := bs) (j := j) (d := d) (p := 15000) (q := 15001) rfl rfl
        have hrf := lnk_rf (ixOf [3, 15000, 15001]) (d := d) (p := 15000) (q := 15001) hjl
        have hrx : ∀ h : Hp, hget h 3 = some (lnkR bs j d 15000 15001) → hget h 15000 = some (rowZ d.safe) → hget h 15001 = some (rowZ d.fresh) → rowsX h [3, 15000, 15001] [3, 15000, 15001] = some [lnkR bs j d 1 2, rowZ d.safe, rowZ d.fresh] := fun h a b c => by
          simp only [rowsX, a, b, c, hin, hrf, rowZ_in, rowZ_rf, if_true]
          rfl
        simp only [Tryz.results62, retX, push_cast, simprocAttr]
        simp only [show ((List.range 0).map nmX ++ [3, 15000, 15001]) = [3, 15000, 15001] from rfl]
        rw [hrx _ rfl rfl rfl, if_pos (by decide)]
        exact ⟨by simp [rfA, ixOf], rfl, rfl⟩
end Go.Proofs.YtccifbbjbnjcfaaGreatDoor
/-
  Walks: disks: impl.DiskWrite, where there is no such file, or nothing is written.
-/
namespace Go.Proofs.YtccifbbjbnjcfaaGreatDoor
open Go Go.RowKit Go.Proofs
theorem disk_names {bs : List BD} (h : diskB bs = true) : ∀ d ∈ bs, 0 ≤ d.name ∧ d.name ≤ 3 := fun d hd => by
  have := disk_okF h hd
  simp only [okF, inB, Bool.and_eq_true, decide_eq_true_eq] at this
  omega
attribute [local irreducible] RWp AW run kPe pe Kt effA gd gu br retR RDp runD kPeD brW gW effD
set_option maxRecDepth 100000
end Go.Proofs.YtccifbbjbnjcfaaGreatDoor
/-
  Walks: disks: impl.DiskWrite, where the file is there.
-/
namespace Go.Proofs.YtccifbbjbnjcfaaGreatDoor
open Go Go.RowKit Go.Proofs
attribute [local irreducible] RWp AW run kPe pe Kt effA gd gu br retR RDp runD kPeD brW gW effD
set_option maxRecDepth 100000
end Go.Proofs.YtccifbbjbnjcfaaGreatDoor
/-
  Walks: disks: impl.DiskWrite, as a whole.
-/
namespace Go.Proofs.YtccifbbjbnjcfaaGreatDoor
open Go Go.RowKit Go.Proofs
end Go.Proofs.YtccifbbjbnjcfaaGreatDoor
/-
  Walks: slices.SortFunc at files whose lists are set aside: contracts with a lent row.
-/
namespace Go.Proofs.YtccifbbjbnjcfaaGreatDoor
open Go Go.RowKit Go.Proofs
open Go.Sort (grow SWO PermIn SortedIn)
abbrev rowZs (zs : List (BD × Value × Value)) : Row := ⟨79, 3, zs.map fun x => (cellV x).map .v, true⟩
def srtZ (zs : List (BD × Value × Value)) (rv : AV) (lr' rows : List Row) : Prop := ∃ zs' : List (BD × Value × Value), zs'.Perm zs ∧ zs'.Pairwise (fun a b => a.1.name ≤ b.1.name) ∧ rv = .tup [] ∧ lr' = [rowZs zs'] ∧ rows = []
theorem packV : ∀ (l : List (BD × Value × Value)), (∀ x ∈ l, (0 ≤ x.1.name ∧ x.1.name ≤ 3) ∧ x.2.1.oneCell' = true ∧ x.2.2.oneCell' = true) → ∃ xs : List BV, xs.length = l.length ∧ xs.map (fun x => x.1) = l
  | [], _ => ⟨[], rfl, rfl⟩
  | x :: l, h => by
    obtain ⟨xs, h1, h2⟩ := packV l fun y hy => h y (by simp [hy])
    exact ⟨(⟨x, h x (by simp)⟩ : BV) :: xs, congrArg (· + 1) h1, congrArg (x :: ·) h2⟩
set_option maxRecDepth 100000
set_option maxHeartbeats 1000000
theorem SortZ_pcl (l : List (BD × Value × Value)) (hl : l.length < 4294967281) (hnm : ∀ x ∈ l, (0 ≤ x.1.name ∧ x.1.name ≤ 3) ∧ x.2.1.oneCell' = true ∧ x.2.2.oneCell' = true) : PCL Tryz.prog 127 [rowZs l] (mvF none) [.o 0 l.length, .fn 128 []] (srtZ l) := by
  refine ⟨fun vs W => enters_of Tryz.func127 (by kernel_rfl) rfl vs W, fun w fb loc vs hlw hs hg => ?_⟩
  have h0 := hg 0 _ rfl
  have h1 := hg 1 _ rfl
  obtain ⟨cs, hv1, hcs, _⟩ := h1.fn_inv
  obtain rfl : cs = #[] := Array.eq_empty_of_size_eq_zero hcs
  have hvs : vs = #[vs.getD 0 undef, vs.getD 1 undef] := by
    apply Array.ext
    · simpa using hs
    · intro i h1 h2
      have : i < 2 := by simpa using h2
      rcases i with _ | _ | i
      · simp [Array.getD, h1]
      · simp [Array.getD, h1]
      · omega
  rw [hv1] at hvs
  generalize vs.getD 0 undef = v0 at h0 hvs
  subst hvs
  clear hs hg hv1 h1 hcs
  have hrow : hget (hpOf 0 [rowZs l]) 0 = some (rowZs l) := rfl
  generalize hL : l.length = L at h0
  cases h0 with
  | cl hc => cases hc
  | @onil _ row hr hl' =>
    obtain rfl : l = [] := List.eq_nil_of_length_eq_zero hL
    have hcon := AnyF.slices_SortFunc_none Tryz.sortC none 0 (.func (.func 128) #[] #[]) w
    change Calls Tryz.prog 127 _ _ _ at hcon
    refine hcon.mono ?_
    rintro e w' ⟨rfl, rfl⟩
    refine ⟨.tup [], [rowZs []], [], _, loc, ⟨[], List.Perm.refl _, List.Pairwise.nil, rfl, rfl, rfl⟩, rfl, ⟨rfl, rfl, rfl, rfl, Nat.le_refl _, fun _ _ _ => rfl, hlw.fbe, fun _ _ _ => rfl, .tup #[] rfl (fun j a ha => by simp at ha), hlw.rw, hlw.inj, fun r row b c h1 h2 => .inr ⟨r, row, c, h1, h2⟩⟩⟩
  | @o _ _ row b c hr hl' hn =>
    subst hL
    rw [hrow] at hr
    cases hr
    obtain ⟨hlen, hn', hm, cur, hh, hsz, hcells⟩ := (hlw.rw 0 _ hrow).2.open hl'
    simp only [rowZs, List.length_map] at hn hn'
    obtain ⟨xs, hxl, hmap⟩ := packV l hnm
    have hcm : ∀ (k : Nat) (hk : k < xs.length) (j : Nat), j < 3 → cur[k * 3 + j]? = some ((encV xs[k])[j]!) := fun k hk j hj => by
      have hz : l[k]? = some xs[k].1 := by rw [← hmap]; simp [hk]
      have he : (rowZs l).es[k]? = some ((cellV xs[k].1).map .v) := by simp [rowZs, hz]
      rcases j with _ | _ | _ | j
      · obtain ⟨u0, g0, _, g2, _⟩ := hcells k _ 0 _ he rfl
        rw [g2.v_inv] at g0; exact g0
      · obtain ⟨u0, g0, _, g2, _⟩ := hcells k _ 1 _ he rfl
        rw [g2.v_inv] at g0; exact g0
      · obtain ⟨u0, g0, _, g2, _⟩ := hcells k _ 2 _ he rfl
        rw [g2.v_inv] at g0; exact g0
      · omega
    have hH : Go.Sort.HoldsK encV 3 w b 0 xs.toArray := by
      intro j hj
      rw [Go.Sort.size_flatK] at hj
      have hj' : j < xs.length * 3 := by simpa using hj
      have hk : j / 3 < xs.length := by omega
      rw [Nat.zero_add]
      refine ⟨?_, by simp [World.frozen?, hh]⟩
      have := hcm (j / 3) hk (j % 3) (by omega)
      rw [show j / 3 * 3 + j % 3 = j by omega] at this
      simp only [World.cell?, hh, Option.isSome_none, Bool.false_eq_true, if_false, id]
      rw [this, Go.Sort.get_flatK _ _ _ _ hj]
      congr 3
      simp [hk]
    have hblk : b < w.heap.size := by
      rcases Nat.lt_or_ge b w.heap.size with h | h
      · exact h
      · rw [Array.getElem?_eq_none h] at hh; cases hh
    have eg : ∀ args w, (callFunc 128 args).run Tryz.prog w = .ok (.enter 128 args) w := enters_of Tryz.func128 (by kernel_rfl) rfl
    have hcon := AnyQ.slices_SortFunc Tryz.sortC 3 Tryz.isAgg79 Tryz.sizeOf79 encV (fun _ => rfl) encV_one cfB swoB 128 #[] b 0 c xs.toArray w eg (lays_b b 0 _ w) hH hblk (by simp; omega)
    change Calls Tryz.prog 127 _ _ _ at hcon
    rw [show xs.toArray.size = l.length from by simp [hxl]] at hcon
    refine hcon.mono ?_
    rintro e w' ⟨rfl, d', n, os, hp, hsd, rfl⟩
    obtain ⟨hps, _, hpp⟩ := hp
    have hps' : d'.size = l.length := by simpa [hxl] using hps
    have hperm0 : d'.toList.Perm xs := by
      have e1 : d'.extract 0 l.length = d' := by rw [← hps']; simp
      have e2 : xs.toArray.extract 0 l.length = xs.toArray := by rw [← hxl]; simp
      rw [e1, e2] at hpp
      simpa using hpp
    obtain ⟨l', hl0⟩ : ∃ l' : List (BD × Value × Value), l' = d'.toList.map (fun x => x.1) := ⟨_, rfl⟩
    have hperm : l'.Perm l := by rw [hl0, ← hmap]; exact hperm0.map _
    have hord : l'.Pairwise (fun a b => a.1.name ≤ b.1.name) := by
      rw [hl0, List.pairwise_map, List.pairwise_iff_getElem]
      intro i j hi hj hij
      have := hsd i j (Nat.zero_le _) hij (by simpa [hps'] using hj)
      rw [ltOf_cfB] at this
      simp only [Array.length_toList] at hi hj
      have h2 : ¬ (d'[j]).1.1.name < (d'[i]).1.1.name := by simpa [hi, hj] using this
      simp only [Array.getElem_toList]
      omega
    have hdl : l'.length = l.length := hperm.length_eq
    refine ⟨.tup [], [rowZs l'], [], _, loc, ⟨l', hperm, hord, rfl, rfl, rfl⟩, rfl, ?_⟩
    have hbh : (sortWorldK encV 3 w b 0 n d' os).heap[b]? = some (.cells (Go.Sort.putCells id 0 (Go.Sort.flatK encV 3 d') cur) 79 (0, 0)) := by
      unfold sortWorldK
      show ((Go.Sort.putRowK encV 3 (Go.Sort.ahead w n) b 0 d').heap ++ os)[b]? = _
      rw [Array.getElem?_append_left (by rw [Go.Sort.size_putRowK]; exact hblk)]
      unfold Go.Sort.putRowK Go.Sort.putRow Go.Sort.mapBlock
      simp only [Array.getElem?_modify, if_true]
      show Option.map _ w.heap[b]? = _
      rw [hh]
      rfl
    have hbk : ∀ k, k < w.heap.size → k ≠ b → (sortWorldK encV 3 w b 0 n d' os).heap[k]? = w.heap[k]? := fun k hk hne => by
      unfold sortWorldK
      show ((Go.Sort.putRowK encV 3 (Go.Sort.ahead w n) b 0 d').heap ++ os)[k]? = _
      rw [Array.getElem?_append_left (by rw [Go.Sort.size_putRowK]; exact hk)]
      unfold Go.Sort.putRowK Go.Sort.putRow Go.Sort.mapBlock
      simp only [Array.getElem?_modify]
      rw [if_neg (fun e => hne e.symm)]
      rfl
    have hsize : w.heap.size ≤ (sortWorldK encV 3 w b 0 n d' os).heap.size := by
      unfold sortWorldK
      show w.heap.size ≤ ((Go.Sort.putRowK encV 3 (Go.Sort.ahead w n) b 0 d').heap ++ os).size
      rw [Array.size_append, Go.Sort.size_putRowK]
      exact Nat.le_add_right _ _
    have hone : ∀ r row, hget (hpOf 0 [rowZs l']) r = some row → r = 0 ∧ row = rowZs l' := fun r row h => by
      rcases r with _ | r
      · cases h; exact ⟨rfl, rfl⟩
      · simp [hpOf, hget] at h
    have hlive : ∀ k, Live (hpOf 0 [rowZs l']) loc k → Live (hpOf 0 [rowZs l]) loc k := by
      rintro k (⟨r, row, c', g1, g2⟩ | hf)
      · obtain ⟨rfl, rfl⟩ := hone r row g1
        exact .inl ⟨0, _, c', hrow, g2⟩
      · exact .inr hf
    have hcell : ∀ (k : Nat) (e : List AV) (j : Nat) (x : AV), (rowZs l').es[k]? = some e → e[j]? = some x → ∃ u, (Go.Sort.putCells id 0 (Go.Sort.flatK encV 3 d') cur)[k * 3 + j]? = some u ∧ u.oneCell' = true ∧ C (Live (hpOf 0 [rowZs l']) loc) 0 (sortWorldK encV 3 w b 0 n d' os) x u := fun k e j x he hx => by
      rw [List.getElem?_map, Option.map_eq_some_iff] at he
      obtain ⟨y, hy, rfl⟩ := he
      have hk := lt_of_some hy
      rw [hl0, List.getElem?_map, Option.map_eq_some_iff] at hy
      obtain ⟨z, hz, rfl⟩ := hy
      have g2 : j < 3 := lt_of_some hx
      have g1 : ((encV z)[j]!).oneCell' = true := by
        rcases j with _ | _ | _ | j
        · rfl
        · exact z.2.2.1
        · exact z.2.2.2
        · omega
      refine ⟨(encV z)[j]!, ?_, g1, ?_⟩
      · have hin : k * 3 + j < (Go.Sort.flatK encV 3 d').size := by rw [Go.Sort.size_flatK, hps']; omega
        have hcu : k * 3 + j < cur.size := by rw [hsz]; show _ < c * 3; omega
        unfold Go.Sort.putCells
        rw [Array.getElem?_mapIdx, Array.getElem?_eq_getElem hcu]
        simp only [Option.map_some, Option.some.injEq]
        rw [if_pos ⟨by omega, by omega⟩, Nat.sub_zero, Go.Sort.get_flatK _ _ _ _ (by rw [Go.Sort.size_flatK] at hin; exact hin)]
        rw [show (k * 3 + j) / 3 = k by omega, show (k * 3 + j) % 3 = j by omega]
        have : d'[k]! = z := by
          rw [Array.getElem?_toList] at hz
          rw [Array.getElem!_eq_getD, Array.getD_eq_getD_getElem?, hz]
          rfl
        rw [this]
        rfl
      · rcases j with _ | _ | _ | j
        · cases hx; exact .v
        · cases hx; exact .v
        · cases hx; exact .v
        · omega
    have hc3 : (Go.Sort.putCells id 0 (Go.Sort.flatK encV 3 d') cur).size = c * 3 := by
      unfold Go.Sort.putCells
      rw [Array.size_mapIdx]
      exact hsz
    refine ⟨rfl, rfl, rfl, rfl, hsize, fun k hk hnl => hbk k hk fun e => hnl ⟨0, _, c, hrow, by rw [e]; exact hl'⟩, hlw.fbe, fun _ _ _ => rfl, .tup #[] rfl (fun j a ha => by simp at ha), fun r row h => ?_, fun r r' row row' _ _ _ h h' _ _ => ?_, fun r row b' c' h h' => ?_⟩
    · obtain ⟨rfl, rfl⟩ := hone r row h
      refine ⟨rfl, RowOk.mk' hl' (fun k e he => ?_) (by rw [List.length_map, hdl]; exact hn') hm hbh hc3 fun k e j x he hx => ?_⟩
      · rw [List.getElem?_map, Option.map_eq_some_iff] at he
        obtain ⟨y, _, rfl⟩ := he
        rfl
      · obtain ⟨u, g1, g2, g3⟩ := hcell k e j x he hx
        exact ⟨u, g1, g2, .cl g3, fun _ => g3⟩
    · rw [(hone r row h).1, (hone r' row' h').1]
    · obtain ⟨rfl, rfl⟩ := hone r row h
      rw [hl'] at h'
      cases h'
      exact .inr ⟨0, _, c, hrow, hl'⟩
attribute [local irreducible] RWp AW run kPe pe Kt effA gd gu br retR RDp runD kPeD brW gW effD
theorem sortedZ_pcl (l : List (BD × Value × Value)) (hl : l.length < 4294967281) (hnm : ∀ x ∈ l, (0 ≤ x.1.name ∧ x.1.name ≤ 3) ∧ x.2.1.oneCell' = true ∧ x.2.2.oneCell' = true) : PCL Tryz.prog 97 [rowZs l] (mvF none) [.o 0 l.length] (srtZ l) := by
  refine pcl_enter Tryz.func97 rfl rfl (by simp) fun w0 fb loc => go_on ?_; simp only [Tryz.ntmps97, hpL, nmL, mvF, renL, decide_true, decide_false, push_cast, simprocAttr]
  (try simp only [push_cast, simprocAttr]); refine call_lend [500000] none (lr := [rowZs l]) (by simp [ndB]) (by first | rfl | simp [rowsOf, hget, rdR, rowS, rowN, rowC, sC, ndC, cmC]) (by simp [idsL, idsA]) (by simp [mvN]) (by simpa [rnA, ixOf] using SortZ_pcl l hl hnm) ?_
  rintro rv lr' rows ⟨l', h1, h2, rfl, rfl, rfl⟩
  have hn := h1.length_eq
  (refine ⟨by simp [shB, mvF, rowZs, hn], by simp [frB, baseOf], go_on ?_⟩; simp only [killA, killH, killRow, push_cast, simprocAttr])
  have hfin : srtZ l (.tup []) [rowZs l'] [] := ⟨l', h1, h2, rfl, rfl, rfl⟩
  refine fall_retL ?_
  (refine at_retL ?_; simp only [Tryz.results97, retL, push_cast, simprocAttr]; simp [show List.range 1 = [0] from rfl, show List.range 2 = [0, 1] from rfl, show List.range 3 = [0, 1, 2] from rfl, nmL, mvF, ndB, ixOf, rowsOf, hget, rdR, rowS, rowN, rowC]; exact  hfin)
/-- Another order of the files. -/
theorem Gh.perm {w : World} {X : Nat → Prop} {bs : List BD} {us : UU} {zs : List (BD × Value × Value)} (h : Gh w X bs us) (hp : zs.Perm (bs.zip us)) : Gh w X (zs.map (·.1)) (zs.map (·.2)) := by
  refine ⟨by simp, fun k d p h1 h2 => ?_, ?_⟩
  · rw [List.getElem?_map, Option.map_eq_some_iff] at h1 h2
    obtain ⟨x, hx, rfl⟩ := h1
    obtain ⟨y, hy, rfl⟩ := h2
    rw [hx] at hy
    cases hy
    obtain ⟨i, hi, e⟩ := List.mem_iff_getElem.1 (hp.mem_iff.1 (List.mem_of_getElem? hx))
    have hz := List.getElem?_eq_getElem hi
    rw [List.getElem?_zip_eq_some, e] at hz
    exact h.inn i _ _ hz.1 hz.2
  · have e : flU (zs.map (·.2)) = zs.flatMap fun x => [x.2.1, x.2.2] := by unfold flU; rw [List.flatMap_map]
    have e2 : flU us = (bs.zip us).flatMap fun x => [x.2.1, x.2.2] := by
      unfold flU
      have := h.len
      conv => lhs; rw [← List.map_snd_zip (l₁ := bs) (l₂ := us) (by omega)]
      rw [List.flatMap_map]
    rw [e]
    have hq : (zs.flatMap fun x => [x.2.1, x.2.2]).Perm ((bs.zip us).flatMap fun x => [x.2.1, x.2.2]) := hp.flatMap_right _
    refine (hq.pairwise_iff (fun {a b} hab g hb ha => hab g ha hb)).2 ?_
    rw [← e2]; exact h.apart
theorem rowZs_T (zs : List (BD × Value × Value)) : rowZs zs = rowT (zs.map (·.1)) (zs.map (·.2)) := by
  unfold rowZs rowT esT
  congr 2
  induction zs with
  | nil => rfl
  | cons x l ih => simp only [List.map_cons, List.zip_cons_cons]; rw [← ih]
end Go.Proofs.YtccifbbjbnjcfaaGreatDoor
/-
  Walks: memory set aside, handed to calls: read as data; marked.
-/
namespace Go.Proofs.YtccifbbjbnjcfaaGreatDoor
open Go Go.RowKit Go.Proofs
section
variable {P : Program} {Q : Exit → Act → World → Prop} {w0 w1 : World} {lent1 : Lent} {s : AS} {loc : Loc} {a : Act} {w : World}
theorem OT.ga {u : Value} {bs : List BD} {us : UU} {X : Nat → Prop} (hO : OT w1 X u bs us) (hX : ∀ b, X b → lent1.fb b) : ∀ loc a w, Rel w1 lent1 s loc a w → ∀ v, G s.h loc w (.v u) v → C (fun _ => False) 0 w (blsA bs) v :=
  ga_g fun w h => (hO.same (fun b hb => h b (hX b hb)) (fun _ h => h)).c fun _ _ h => h
theorem call_gv {f : FuncId} {args : List AV} {dst : Option Tmp} {k : List It} {x : Value} (ga : List AV) (hga : gaOk w1 lent1 s ga args) (hpc : PC P f ga (vX (.v x)))
    (hk : AW P w1 lent1 Q k (AS.put s dst (.v x))) : RWp P w1 lent1 Q (.call f args dst k s) := by
  refine call_gh ga hga hpc ?_
  rintro rv rows ⟨rfl, rfl⟩
  refine ⟨rfl, fun row h => (by cases h), frB_0 _ _, ?_⟩
  unfold backTo
  simpa only [hpOf, List.append_nil, ren] using hk
theorem OT.nil_or {w : World} {X : Nat → Prop} {u : Value} {bs : List BD} {us : UU} (h : OT w X u bs us) : (u = .slice none 0 0 ∧ bs = []) ∨ ∃ g c, u = .slice (some ⟨g, 0, none⟩) bs.length c := by
  rcases h.row.2 with ⟨h1, h2⟩ | ⟨g, cap, cur, h1, _⟩
  · exact .inl ⟨h1, List.eq_nil_of_length_eq_zero h2⟩
  · exact .inr ⟨g, cap, h1⟩
theorem OT.some {w : World} {X : Nat → Prop} {u : Value} {bs : List BD} {us : UU} (h : OT w X u bs us) (hb : 0 < bs.length) : ∃ g c, u = .slice (some ⟨g, 0, none⟩) bs.length c := by
  rcases h.nil_or with ⟨_, rfl⟩ | h
  · simp at hb
  · exact h
theorem getD2 {vs : Array Value} {x y : Value} (hs : vs.size = 2) (h0 : vs.getD 0 undef = x) (h1 : vs.getD 1 undef = y) : vs = #[x, y] := by
  subst h0; subst h1
  apply Array.ext
  · simpa using hs
  · intro i h1 h2
    rcases i with _ | _ | i
    · simp [Array.getD, h1]
    · simp [Array.getD, h1]
    · omega
end
/-! ### Plain: disks are small -/
theorem tot_cap : ∀ {l : List BD} {c : Nat}, (∀ d ∈ l, tot1 d ≤ c) → tot l ≤ l.length * c
  | [], _, _ => by simp [tot]
  | d :: l, c, h => by
    have h1 := h d (by simp)
    have h2 := tot_cap (l := l) (c := c) fun x hx => h x (by simp [hx])
    simp only [tot, List.length_cons, Nat.add_mul, Nat.one_mul]; omega
theorem disk_tot {bs : List BD} (h : diskB bs = true ∨ bs = []) : SmB bs ∧ tot bs ≤ 1203 := by
  rcases h with h | rfl
  · refine ⟨disk_sm h, ?_⟩
    have h1 := disk_len h
    have h2 := tot_cap (l := bs) (c := 401) fun d hd => by
      have := disk_okF h hd
      simp only [okF, Bool.and_eq_true, decide_eq_true_eq] at this
      unfold tot1; omega
    have h3 : bs.length * 401 ≤ 3 * 401 := Nat.mul_le_mul_right _ h1
    omega
  · exact ⟨⟨by simp, fun d hd => by simp at hd⟩, by simp [tot]⟩
theorem tot_mem : ∀ {l : List BD} {d : BD}, d ∈ l → tot1 d ≤ tot l
  | [], _, h => by simp at h
  | x :: l, d, h => by
    rcases List.mem_cons.1 h with rfl | h
    · simp only [tot]; omega
    · have := tot_mem h; simp only [tot]; omega
theorem tot_sz {bs : List BD} {c : Int} (h : (tot bs : Int) ≤ c) (hc : c ≤ 1048576) : SzB bs := by
  have h1 := tot_ge bs
  refine ⟨by omega, fun d hd => ?_⟩
  have := tot_mem hd
  unfold tot1 at this
  exact ⟨by omega, by omega⟩
theorem SzB.sm {bs : List BD} (h : SzB bs) : SmB bs := ⟨by have := h.n; omega, fun d hd => ⟨by have := (h.d d hd).1; omega, by have := (h.d d hd).2; omega⟩⟩
theorem SmB.d8 {bs : List BD} (h : SmB bs) : ∀ d ∈ bs, d.safe.length < 8589934590 ∧ d.fresh.length < 8589934590 := fun d hd => ⟨by have := (h.d d hd).s; omega, by have := (h.d d hd).f; omega⟩
section
variable {Q : Exit → Act → World → Prop} {w0 w1 : World} {lent1 : Lent} {s : AS}
theorem at_markB {u : Value} {bs : List BD} {us : UU} {X : Nat → Prop} {k0 : Nat} {dst : Option Tmp} {k : List It} (hnf : nf k = true) (hO : OT w1 X u bs us) (hX : ∀ b, X b → lent1.fb b) (h0 : 0 < k0) (hk : k0 + tot bs ≤ 4611686018427387904)
    (h : ∀ w2 lent2, NxM w1 lent1 w2 lent2 X → OT w2 X u (mkB k0 bs) us → AW Tryz.prog w2 lent2 Q k (AS.put s dst (.v (.int .i64 ((k0 + tot bs : Nat) : Int))))) : RWp Tryz.prog w1 lent1 Q (.call 15 [.v u, .v (.int .i64 k0)] dst k s) :=
  call_mut X hnf hX (enters_of Tryz.func15 (by kernel_rfl) rfl)
    (Z := fun w x => x = .v (.int .i64 ((k0 + tot bs : Nat) : Int)) ∧ OT w X u (mkB k0 bs) us)
    (fun w vs hw hs hv => by
      obtain rfl := getD2 hs (hv 0 _ rfl) (hv 1 _ rfl)
      refine (markBlobS_m (hO.same (fun b hb => hw b (hX b hb)) fun _ h => h) k0 h0 hk).mono ?_
      rintro e w' ⟨rfl, h1, h2⟩
      exact ⟨_, _, rfl, fun _ _ _ => .v, h1, rfl, h2⟩)
    (fun w2 lent2 x h1 h2 => by
      obtain ⟨rfl, h2⟩ := h2
      exact h w2 lent2 h1 h2)
theorem poB {w : World} {s : AS} {loc : Loc} {b : Bool} {v : Value} (hG : G s.h loc w (.v (.bool b)) v) : ∃ x, (∀ lv lo W, C lv lo W x v) ∧ x = .v (.bool b) :=
  ⟨_, fun _ _ _ => by rw [hG.v_inv]; exact .v, rfl⟩
end
attribute [local irreducible] RWp AW run kPe pe Kt effA gd gu br retR RDp runD kPeD brW gW effD
set_option maxRecDepth 100000
theorem markBlobS_nil (k : Int) : PC Tryz.prog 15 [blsA [], iA k] (vI k) := by
  refine pc_enter Tryz.func15 rfl rfl fun w0 fb => go_on ?_; (try simp only [Tryz.ntmps15, push_cast, simprocAttr])
  refine at_loop (X := Unit) (fun _ => [(1, iA k), (5, iA 0)]) (fun _ => []) (fun _ => True) (fun _ => 0) () trivial ?_ ?_
  · (refine wk_ok ?_ ?_ ?_ ?_ <;> simp [leL, leH, idsL, idsA, idsR, inH, hget, sameRow, upA, hvA, dsts, dstO, setA_0, setA_1, setA_8, List.append, List.cons_append, List.nil_append])
  · rintro ⟨⟩ _
    simp only [upA, hvA, dsts, dstO, setA_0, setA_1, setA_8, List.append, List.cons_append, List.nil_append]
    refine go_on ?_
    (try simp only [show ltI 0 0 = false from rfl, push_cast, simprocAttr])
    refine at_ret ?_; simp only [Tryz.results15, push_cast, simprocAttr]
    simp [vX]
end Go.Proofs.YtccifbbjbnjcfaaGreatDoor
/-
  Walks: BookAdd, read as data.
-/
namespace Go.Proofs.YtccifbbjbnjcfaaGreatDoor
open Go Go.RowKit Go.Proofs
theorem writeD_disk2 {bs : List BD} {nm : Int} {xs : List Int} {Y : List BD} {ok : Bool} (h : (Y, ok) = writeD bs nm xs) : diskB Y = true ∨ Y = [] := by
  unfold writeD at h
  split at h
  · rename_i hc
    cases h
    simp only [Bool.and_eq_true] at hc
    exact .inl hc.2
  · cases h; exact .inr rfl
theorem bookO_some {bs : List BD} {b : Bk} (h : bookO bs = some b) : (readD bs 1).2 = true ∧ bookL (readD bs 1).1 = some b ∧ diskB bs = true ∧ (bookB b).2 = true ∧ SmL b.log := by
  unfold bookO at h
  split at h
  · rename_i hr
    obtain ⟨h1, h2, _⟩ := bookL_spec h
    refine ⟨hr, h, (readD_true hr).1, h1, ?_⟩
    unfold bookB at h1
    split at h1
    · rename_i hc
      rw [Bool.and_eq_true] at hc
      exact lV_sm hc.1
    · cases h1
  · cases h
attribute [local irreducible] RWp AW run kPe pe Kt effA gd gu br retR RDp runD kPeD brW gW effD
set_option maxRecDepth 100000
end Go.Proofs.YtccifbbjbnjcfaaGreatDoor
/-
  Walks: impl.DiskWrite, set aside: no such file there, or nothing written.
-/
namespace Go.Proofs.YtccifbbjbnjcfaaGreatDoor
open Go Go.RowKit Go.Proofs
theorem G.tupVB {h : Hp} {loc : Loc} {w : World} {u : Value} {ok : Bool} {v : Value} (hG : G h loc w (.tup [.v u, .v (.bool ok)]) v) : ∀ lv lo W, C lv lo W (.tup [.v u, .v (.bool ok)]) v := by
  have key : ∀ vs : Array Value, vs.size = 2 → G h loc w (.v u) (vs.getD 0 undef) → G h loc w (.v (.bool ok)) (vs.getD 1 undef) → ∀ lv lo W, C lv lo W (.tup [.v u, .v (.bool ok)]) (.tuple vs) := fun vs hs h0 h1 lv lo W => by
    refine .tup vs (by simpa using hs) fun j a ha => ?_
    rcases j with _ | _ | j
    · simp at ha; subst ha; rw [h0.v_inv]; exact .v
    · simp at ha; subst ha; rw [h1.v_inv]; exact .v
    · simp at ha
  cases hG with
  | cl hc =>
    cases hc with
    | tup vs hs hg => exact key vs (by simpa using hs) (.cl (hg 0 _ rfl)) (.cl (hg 1 _ rfl))
  | tup vs hs hg => exact key vs (by simpa using hs) (hg 0 _ rfl) (hg 1 _ rfl)
theorem otOut {w0 w2 w : World} {lent2 : Lent} {s : AS} {loc : Loc} {a : Act} {u : Value} {bs : List BD} {us : UU} {X : Nat → Prop} {ok : Bool} {v : Value} (hR : Rel w2 lent2 s loc a w) (hO : OT w2 X u bs us) (hX : ∀ b, X b → lent2.fb b) (hge : ∀ b, X b → w0.heap.size ≤ b)
    (hG : G s.h loc w (.tup [.v u, .v (.bool ok)]) v) : ∃ x, (∀ lv lo W, C lv lo W x v) ∧ otB bs ok w (fun b => w0.heap.size ≤ b ∧ b < w.heap.size) x :=
  ⟨_, hG.tupVB, u, us, rfl, hO.same (fun b hb => hR.fbk (hX b hb)) fun b hb => ⟨hge b hb, Nat.lt_of_lt_of_le (hR.fbl b (hX b hb)).1 hR.size⟩⟩
attribute [local irreducible] RWp AW run kPe pe Kt effA gd gu br retR RDp runD kPeD brW gW effD
set_option maxRecDepth 100000
theorem DiskWrite_bad_o (bs : List BD) (hs : SmB bs) (nm : Int) (xs : List Int) (hx : xs.length ≤ 2000000) (h : (diskB bs && bytesB xs && inB nm 1 3) = false) : PO Tryz.prog 48 [blsA bs, iA nm, intsA xs] (otB [] false) := by
  have hV := DiskValid_pc bs hs
  have hB := bytesValid_pc xs (by omega)
  have hI := in_pc nm 1 3
  have eI : inB nm 1 3 = inR nm 1 3 := rfl
  rw [eI] at h
  cases hv : diskB bs with
  | false =>
    refine po_enter Tryz.func48 rfl rfl fun w0 => go_on ?_; (try simp only [Tryz.ntmps48, push_cast, simprocAttr])
    refine at_call ?_
    (try simp only [push_cast, simprocAttr])
    refine rwc_v hV ?_
    (try simp only [push_cast, simprocAttr])
    (refine at_dropS [6] (by refine wk_ok ?_ ?_ ?_ ?_ <;> simp [dropS, dropT, hasN, delL, hdel, leL, leH, idsL, idsA, idsR, inH, hget, sameRow]) ?_; simp only [dropS, dropT, hasN, delL, hdel, idsA, idsL, hget, List.map_cons, List.map_nil, List.all_cons, List.all_nil, List.append_nil, Bool.not_false, Bool.not_true, Bool.and_true, if_true, if_false, simprocAttr])
    refine go_on ?_
    (try simp only [hv, Bool.not_false, push_cast, simprocAttr])
    (refine at_retO (Ch.refl w0) (l := [.o 6 0, bA false]) (by simp only [Tryz.results48, push_cast, simprocAttr]) ?_)
    exact fun loc a w v hR hG => ownNil (Ch.refl w0) rfl hR hG
  | true =>
    cases hxb : bytesB xs with
    | false =>
      refine po_enter Tryz.func48 rfl rfl fun w0 => go_on ?_; (try simp only [Tryz.ntmps48, push_cast, simprocAttr])
      refine at_call ?_
      (try simp only [push_cast, simprocAttr])
      refine rwc_v hV ?_
      (try simp only [push_cast, simprocAttr])
      (refine at_dropS [6] (by refine wk_ok ?_ ?_ ?_ ?_ <;> simp [dropS, dropT, hasN, delL, hdel, leL, leH, idsL, idsA, idsR, inH, hget, sameRow]) ?_; simp only [dropS, dropT, hasN, delL, hdel, idsA, idsL, hget, List.map_cons, List.map_nil, List.all_cons, List.all_nil, List.append_nil, Bool.not_false, Bool.not_true, Bool.and_true, if_true, if_false, simprocAttr])
      refine go_on ?_
      (try simp only [hv, Bool.not_true, push_cast, simprocAttr])
      (refine at_call ?_; (try simp only [push_cast, simprocAttr]); refine rwc_v (hB) (go_on ?_); (try simp only [push_cast, simprocAttr]))
      (try simp only [hxb, Bool.not_false, push_cast, simprocAttr])
      (refine at_retO (Ch.refl w0) (l := [.o 6 0, bA false]) (by simp only [Tryz.results48, push_cast, simprocAttr]) ?_)
      exact fun loc a w v hR hG => ownNil (Ch.refl w0) rfl hR hG
    | true =>
      have hi : inR nm 1 3 = false := by simpa [hv, hxb] using h
      refine po_enter Tryz.func48 rfl rfl fun w0 => go_on ?_; (try simp only [Tryz.ntmps48, push_cast, simprocAttr])
      refine at_call ?_
      (try simp only [push_cast, simprocAttr])
      refine rwc_v hV ?_
      (try simp only [push_cast, simprocAttr])
      (refine at_dropS [6] (by refine wk_ok ?_ ?_ ?_ ?_ <;> simp [dropS, dropT, hasN, delL, hdel, leL, leH, idsL, idsA, idsR, inH, hget, sameRow]) ?_; simp only [dropS, dropT, hasN, delL, hdel, idsA, idsL, hget, List.map_cons, List.map_nil, List.all_cons, List.all_nil, List.append_nil, Bool.not_false, Bool.not_true, Bool.and_true, if_true, if_false, simprocAttr])
      refine go_on ?_
      (try simp only [hv, Bool.not_true, push_cast, simprocAttr])
      (refine at_call ?_; (try simp only [push_cast, simprocAttr]); refine rwc_v (hB) (go_on ?_); (try simp only [push_cast, simprocAttr]))
      (try simp only [hxb, Bool.not_true, push_cast, simprocAttr])
      (refine at_call ?_; (try simp only [push_cast, simprocAttr]); refine rwc_v (hI) (go_on ?_); (try simp only [push_cast, simprocAttr]))
      (try simp only [hi, Bool.not_false, push_cast, simprocAttr])
      (refine at_retO (Ch.refl w0) (l := [.o 6 0, bA false]) (by simp only [Tryz.results48, push_cast, simprocAttr]) ?_)
      exact fun loc a w v hR hG => ownNil (Ch.refl w0) rfl hR hG
theorem DiskWrite_new0_o (bs : List BD) (nm : Int) (xs : List Int) (hx : xs.length ≤ 2000000) (hv : diskB bs = true) (hxb : bytesB xs = true) (hi : inB nm 1 3 = true) (hg : getB bs nm = none) (hb : bs = []) : PO Tryz.prog 48 [blsA bs, iA nm, intsA xs] (otB (writeD bs nm xs).1 (writeD bs nm xs).2) := by
  have hs := disk_sm hv
  have hn3 := disk_len hv
  have hV := DiskValid_pc bs hs
  have hB := bytesValid_pc xs (by omega)
  have hI := in_pc nm 1 3
  have hF := file_pc bs hs.n nm
  have hC := cloneDisk_pc bs hs
  have hi' : inR nm 1 3 = true := hi
  have hnm : 0 ≤ nm ∧ nm ≤ 3 := by simp only [inR, Bool.and_eq_true, decide_eq_true_eq] at hi'; omega
  have hwl := withB_len bs (wrB bs nm xs)
  have hnms := disk_names hv
  have hWs : SmD (wrB bs nm xs) := by
    unfold wrB
    cases hg : getB bs nm with
    | none => exact ⟨by simp, by simp only; omega⟩
    | some d =>
      have hm := (getB_name hg).2
      have hok := disk_okF hv hm
      simp only [okF, Bool.and_eq_true, decide_eq_true_eq] at hok
      exact ⟨(hs.d d hm).s, by simp only [List.length_append]; omega⟩
  have hws : SmB (withB bs (wrB bs nm xs)) := withB_sm hs (by omega) hWs
  obtain ⟨Y, hY⟩ : ∃ Y, Y = withB bs (wrB bs nm xs) := ⟨_, rfl⟩
  rw [← hY] at hws hwl
  have hwr : writeD bs nm xs = if diskB Y = true then (Y, true) else ([], false) := by unfold writeD; rw [hv, hxb, hi, ← hY]; rfl
  have hV2 := DiskValid_pc Y hws
  have hC2 := cloneDisk_o Y hws
  have hix : ixB bs nm = -1 := by
    rcases ixB_cases bs nm with ⟨h1, _⟩ | ⟨j, d, _, _, h3⟩
    · exact h1
    · rw [hg] at h3; cases h3
  rw [hix] at hF
  subst hb
  have hS := sorted_pcl ([⟨nm, [], xs⟩] : List BD) (by simp) fun d hd => by
    rcases List.mem_append.1 (show d ∈ [] ++ [(⟨nm, [], xs⟩ : BD)] from hd) with hd | hd
    · exact hnms d hd
    · simp only [List.mem_singleton] at hd; subst hd; exact hnm
  cases hd : diskB Y with
  | false =>
    have hr : writeD [] nm xs = ([], false) := by rw [hwr, hd]; rfl
    rw [hr]
    refine po_enter Tryz.func48 rfl rfl fun w0 => go_on ?_; (try simp only [Tryz.ntmps48, push_cast, simprocAttr])
    refine at_call ?_
    (try simp only [push_cast, simprocAttr])
    refine rwc_v hV ?_
    (try simp only [push_cast, simprocAttr])
    (refine at_dropS [6] (by refine wk_ok ?_ ?_ ?_ ?_ <;> simp [dropS, dropT, hasN, delL, hdel, leL, leH, idsL, idsA, idsR, inH, hget, sameRow]) ?_; simp only [dropS, dropT, hasN, delL, hdel, idsA, idsL, hget, List.map_cons, List.map_nil, List.all_cons, List.all_nil, List.append_nil, Bool.not_false, Bool.not_true, Bool.and_true, if_true, if_false, simprocAttr])
    refine go_on ?_
    (try simp only [hv, Bool.not_true, push_cast, simprocAttr])
    (refine at_call ?_; (try simp only [push_cast, simprocAttr]); refine rwc_v (hB) (go_on ?_); (try simp only [push_cast, simprocAttr]))
    (try simp only [hxb, Bool.not_true, push_cast, simprocAttr])
    (refine at_call ?_; (try simp only [push_cast, simprocAttr]); refine rwc_v (hI) (go_on ?_); (try simp only [push_cast, simprocAttr]))
    (try simp only [hi', Bool.not_true, push_cast, simprocAttr])
    refine call_share (by simp [isC]) hC ?_
    rintro rv rows ⟨rfl, rfl⟩
    refine ⟨by simp [frB, baseOf], go_on ?_⟩
    (try simp only [bC, push_cast, simprocAttr])
    (refine at_call ?_; simp only [bC, viewN, hget, tk, isC, List.map_cons, List.map_nil, List.length_map, List.length_cons, List.length_nil, Nat.reduceAdd, Nat.reduceEqDiff, if_true, if_false, reduceIte, simprocAttr]; refine rwc_v (hF) (go_on ?_); (try simp only [push_cast, simprocAttr]))
    (try simp only [show ltI (-1) 0 = true from rfl, push_cast, simprocAttr])
    refine at_chk (by first | omega | simp) ?_
    (try simp only [bC, show IntKind.i64.wrap 0 = 0 from rfl, show IntKind.i64.wrap (1 - 1) = 0 from rfl, show toIx 0 1 = some 0 from rfl, Nat.zero_add, push_cast, simprocAttr])
    refine at_chk (by first | omega | simp) ?_
    (try simp only [bC, Nat.zero_add, push_cast, simprocAttr])
    (refine at_callN 25000 1 (by refine wk_nil ?_ ?_ ?_ ?_ <;> simp [nilH, nlCell, nlE_refl, leL, leN, rowN2, nlE, nlC, nlv, idsL, idsA, idsR, inH, hget]) ?_; simp only [nilR, nilH, nlCell, Nat.reduceEqDiff, if_true, if_false, List.map_cons, List.map_nil, simprocAttr])
    (refine at_callW [46] (by refine wk_frz ?_ ?_ ?_ ?_ <;> simp [frwS, frwH, frwRow, frzT, hasN, delL, hdel, leF, leHF, rowF, frzB, idsL, idsA, idsR, inH, hget, sameRow, viewN, tk]) ?_; simp only [frwS, frwH, frwRow, frzT, hasN, delL, hdel, idsA, idsL, viewN, hget, tk, isC, List.map_cons, List.map_nil, List.all_cons, List.all_nil, List.append_nil, List.drop, List.getElem?_cons_zero, List.getElem?_cons_succ, Bool.not_false, Bool.not_true, Bool.and_true, if_true, if_false, Nat.zero_add, List.length_map, simprocAttr])
    (try simp only [push_cast, simprocAttr]); refine call_lend [25000] none (lr := [rowB [⟨nm, [], xs⟩]]) (by simp [ndB]) (by first | rfl | simp [rowsOf, hget, rdR, rowS, rowN, rowC, sC, ndC, cmC]) (by simp [idsL, idsA]) (by simp [mvN]) (by simpa [rnA, ixOf] using hS) ?_
    rintro rv lr' rows ⟨L', g1, g2, rfl, rfl, rfl⟩
    have hlen := g1.length_eq
    simp only [List.length_cons, List.length_nil, Nat.reduceAdd] at hlen
    have hLY : L' = Y := by rw [hY]; exact wr_new hv hg g1 g2
    (refine ⟨by simp [shB, mvF, hlen], by simp [frB, baseOf], go_on ?_⟩; simp only [killA, killH, killRow, push_cast, simprocAttr])
    rw [hLY]
    have hYl : Y.length = 1 := by rw [← hLY]; exact hlen
    (try simp only [push_cast, simprocAttr])
    (refine at_call ?_; simp only [hYl, viewN, hget, tk, isC, List.map_cons, List.map_nil, List.length_map, List.length_cons, List.length_nil, Nat.reduceAdd, Nat.reduceEqDiff, if_true, if_false, reduceIte, simprocAttr]; refine rwc_v (hV2) (go_on ?_); (try simp only [push_cast, simprocAttr]))
    (try simp only [hd, Bool.not_false, push_cast, simprocAttr])
    (refine at_retO (Ch.refl w0) (l := [.o 6 0, bA false]) (by simp only [Tryz.results48, push_cast, simprocAttr]) ?_)
    exact fun loc a w v hR hG => ownNil (Ch.refl w0) rfl hR hG
  | true =>
    have hr : writeD [] nm xs = (Y, true) := by rw [hwr, hd]; rfl
    rw [hr]
    refine po_enter Tryz.func48 rfl rfl fun w0 => go_on ?_; (try simp only [Tryz.ntmps48, push_cast, simprocAttr])
    refine at_call ?_
    (try simp only [push_cast, simprocAttr])
    refine rwc_v hV ?_
    (try simp only [push_cast, simprocAttr])
    (refine at_dropS [6] (by refine wk_ok ?_ ?_ ?_ ?_ <;> simp [dropS, dropT, hasN, delL, hdel, leL, leH, idsL, idsA, idsR, inH, hget, sameRow]) ?_; simp only [dropS, dropT, hasN, delL, hdel, idsA, idsL, hget, List.map_cons, List.map_nil, List.all_cons, List.all_nil, List.append_nil, Bool.not_false, Bool.not_true, Bool.and_true, if_true, if_false, simprocAttr])
    refine go_on ?_
    (try simp only [hv, Bool.not_true, push_cast, simprocAttr])
    (refine at_call ?_; (try simp only [push_cast, simprocAttr]); refine rwc_v (hB) (go_on ?_); (try simp only [push_cast, simprocAttr]))
    (try simp only [hxb, Bool.not_true, push_cast, simprocAttr])
    (refine at_call ?_; (try simp only [push_cast, simprocAttr]); refine rwc_v (hI) (go_on ?_); (try simp only [push_cast, simprocAttr]))
    (try simp only [hi', Bool.not_true, push_cast, simprocAttr])
    refine call_share (by simp [isC]) hC ?_
    rintro rv rows ⟨rfl, rfl⟩
    refine ⟨by simp [frB, baseOf], go_on ?_⟩
    (try simp only [bC, push_cast, simprocAttr])
    (refine at_call ?_; simp only [bC, viewN, hget, tk, isC, List.map_cons, List.map_nil, List.length_map, List.length_cons, List.length_nil, Nat.reduceAdd, Nat.reduceEqDiff, if_true, if_false, reduceIte, simprocAttr]; refine rwc_v (hF) (go_on ?_); (try simp only [push_cast, simprocAttr]))
    (try simp only [show ltI (-1) 0 = true from rfl, push_cast, simprocAttr])
    refine at_chk (by first | omega | simp) ?_
    (try simp only [bC, show IntKind.i64.wrap 0 = 0 from rfl, show IntKind.i64.wrap (1 - 1) = 0 from rfl, show toIx 0 1 = some 0 from rfl, Nat.zero_add, push_cast, simprocAttr])
    refine at_chk (by first | omega | simp) ?_
    (try simp only [bC, Nat.zero_add, push_cast, simprocAttr])
    (refine at_callN 25000 1 (by refine wk_nil ?_ ?_ ?_ ?_ <;> simp [nilH, nlCell, nlE_refl, leL, leN, rowN2, nlE, nlC, nlv, idsL, idsA, idsR, inH, hget]) ?_; simp only [nilR, nilH, nlCell, Nat.reduceEqDiff, if_true, if_false, List.map_cons, List.map_nil, simprocAttr])
    (refine at_callW [46] (by refine wk_frz ?_ ?_ ?_ ?_ <;> simp [frwS, frwH, frwRow, frzT, hasN, delL, hdel, leF, leHF, rowF, frzB, idsL, idsA, idsR, inH, hget, sameRow, viewN, tk]) ?_; simp only [frwS, frwH, frwRow, frzT, hasN, delL, hdel, idsA, idsL, viewN, hget, tk, isC, List.map_cons, List.map_nil, List.all_cons, List.all_nil, List.append_nil, List.drop, List.getElem?_cons_zero, List.getElem?_cons_succ, Bool.not_false, Bool.not_true, Bool.and_true, if_true, if_false, Nat.zero_add, List.length_map, simprocAttr])
    (try simp only [push_cast, simprocAttr]); refine call_lend [25000] none (lr := [rowB [⟨nm, [], xs⟩]]) (by simp [ndB]) (by first | rfl | simp [rowsOf, hget, rdR, rowS, rowN, rowC, sC, ndC, cmC]) (by simp [idsL, idsA]) (by simp [mvN]) (by simpa [rnA, ixOf] using hS) ?_
    rintro rv lr' rows ⟨L', g1, g2, rfl, rfl, rfl⟩
    have hlen := g1.length_eq
    simp only [List.length_cons, List.length_nil, Nat.reduceAdd] at hlen
    have hLY : L' = Y := by rw [hY]; exact wr_new hv hg g1 g2
    (refine ⟨by simp [shB, mvF, hlen], by simp [frB, baseOf], go_on ?_⟩; simp only [killA, killH, killRow, push_cast, simprocAttr])
    rw [hLY]
    have hYl : Y.length = 1 := by rw [← hLY]; exact hlen
    (try simp only [push_cast, simprocAttr])
    (refine at_call ?_; simp only [hYl, viewN, hget, tk, isC, List.map_cons, List.map_nil, List.length_map, List.length_cons, List.length_nil, Nat.reduceAdd, Nat.reduceEqDiff, if_true, if_false, reduceIte, simprocAttr]; refine rwc_v (hV2) (go_on ?_); (try simp only [push_cast, simprocAttr]))
    (try simp only [hd, Bool.not_true, push_cast, simprocAttr])
    (refine at_callW [25000] (by refine wk_frz ?_ ?_ ?_ ?_ <;> simp [hYl, frwS, frwH, frwRow, frzT, hasN, delL, hdel, leF, leHF, rowF, frzB, idsL, idsA, idsR, inH, hget, sameRow, viewN, tk]) ?_; simp only [hYl, frwS, frwH, frwRow, frzT, hasN, delL, hdel, idsA, idsL, viewN, hget, tk, isC, List.map_cons, List.map_nil, List.all_cons, List.all_nil, List.append_nil, List.drop, List.getElem?_cons_zero, List.getElem?_cons_succ, Bool.not_false, Bool.not_true, Bool.and_true, if_true, if_false, Nat.zero_add, List.length_map, simprocAttr])
    refine call_PO rfl [blsA Y] ⟨ga_c rfl, trivial⟩ hC2 ?_
    rintro w2 lent2 X x hN ⟨u, us, rfl, hO⟩
    obtain ⟨g0, cp0, rfl⟩ := hO.some (by omega)
    refine go_on ?_
    (try simp only [push_cast, simprocAttr])
    (refine at_retO (hN.ch _ _ (Ch.refl w0)) (l := [.v (.slice (some ⟨g0, 0, none⟩) Y.length cp0), bA true]) (by simp only [Tryz.results48, push_cast, simprocAttr]) ?_)
    exact fun loc a w v hR hG => otOut hR hO hN.xfb hN.xge hG
theorem DiskWrite_new1_o (bs : List BD) (nm : Int) (xs : List Int) (hx : xs.length ≤ 2000000) (hv : diskB bs = true) (hxb : bytesB xs = true) (hi : inB nm 1 3 = true) (hg : getB bs nm = none) (hb : ∃ d0, bs = [d0]) : PO Tryz.prog 48 [blsA bs, iA nm, intsA xs] (otB (writeD bs nm xs).1 (writeD bs nm xs).2) := by
  have hs := disk_sm hv
  have hn3 := disk_len hv
  have hV := DiskValid_pc bs hs
  have hB := bytesValid_pc xs (by omega)
  have hI := in_pc nm 1 3
  have hF := file_pc bs hs.n nm
  have hC := cloneDisk_pc bs hs
  have hi' : inR nm 1 3 = true := hi
  have hnm : 0 ≤ nm ∧ nm ≤ 3 := by simp only [inR, Bool.and_eq_true, decide_eq_true_eq] at hi'; omega
  have hwl := withB_len bs (wrB bs nm xs)
  have hnms := disk_names hv
  have hWs : SmD (wrB bs nm xs) := by
    unfold wrB
    cases hg : getB bs nm with
    | none => exact ⟨by simp, by simp only; omega⟩
    | some d =>
      have hm := (getB_name hg).2
      have hok := disk_okF hv hm
      simp only [okF, Bool.and_eq_true, decide_eq_true_eq] at hok
      exact ⟨(hs.d d hm).s, by simp only [List.length_append]; omega⟩
  have hws : SmB (withB bs (wrB bs nm xs)) := withB_sm hs (by omega) hWs
  obtain ⟨Y, hY⟩ : ∃ Y, Y = withB bs (wrB bs nm xs) := ⟨_, rfl⟩
  rw [← hY] at hws hwl
  have hwr : writeD bs nm xs = if diskB Y = true then (Y, true) else ([], false) := by unfold writeD; rw [hv, hxb, hi, ← hY]; rfl
  have hV2 := DiskValid_pc Y hws
  have hC2 := cloneDisk_o Y hws
  have hix : ixB bs nm = -1 := by
    rcases ixB_cases bs nm with ⟨h1, _⟩ | ⟨j, d, _, _, h3⟩
    · exact h1
    · rw [hg] at h3; cases h3
  rw [hix] at hF
  obtain ⟨d0, rfl⟩ := hb
  have hS := sorted_pcl ([d0, ⟨nm, [], xs⟩] : List BD) (by simp) fun d hd => by
    rcases List.mem_append.1 (show d ∈ [d0] ++ [(⟨nm, [], xs⟩ : BD)] from hd) with hd | hd
    · exact hnms d hd
    · simp only [List.mem_singleton] at hd; subst hd; exact hnm
  cases hd : diskB Y with
  | false =>
    have hr : writeD [d0] nm xs = ([], false) := by rw [hwr, hd]; rfl
    rw [hr]
    refine po_enter Tryz.func48 rfl rfl fun w0 => go_on ?_; (try simp only [Tryz.ntmps48, push_cast, simprocAttr])
    refine at_call ?_
    (try simp only [push_cast, simprocAttr])
    refine rwc_v hV ?_
    (try simp only [push_cast, simprocAttr])
    (refine at_dropS [6] (by refine wk_ok ?_ ?_ ?_ ?_ <;> simp [dropS, dropT, hasN, delL, hdel, leL, leH, idsL, idsA, idsR, inH, hget, sameRow]) ?_; simp only [dropS, dropT, hasN, delL, hdel, idsA, idsL, hget, List.map_cons, List.map_nil, List.all_cons, List.all_nil, List.append_nil, Bool.not_false, Bool.not_true, Bool.and_true, if_true, if_false, simprocAttr])
    refine go_on ?_
    (try simp only [hv, Bool.not_true, push_cast, simprocAttr])
    (refine at_call ?_; (try simp only [push_cast, simprocAttr]); refine rwc_v (hB) (go_on ?_); (try simp only [push_cast, simprocAttr]))
    (try simp only [hxb, Bool.not_true, push_cast, simprocAttr])
    (refine at_call ?_; (try simp only [push_cast, simprocAttr]); refine rwc_v (hI) (go_on ?_); (try simp only [push_cast, simprocAttr]))
    (try simp only [hi', Bool.not_true, push_cast, simprocAttr])
    refine call_share (by simp [isC]) hC ?_
    rintro rv rows ⟨rfl, rfl⟩
    refine ⟨by simp [frB, baseOf], go_on ?_⟩
    (try simp only [bC, push_cast, simprocAttr])
    (refine at_call ?_; simp only [bC, viewN, hget, tk, isC, List.map_cons, List.map_nil, List.length_map, List.length_cons, List.length_nil, Nat.reduceAdd, Nat.reduceEqDiff, if_true, if_false, reduceIte, simprocAttr]; refine rwc_v (hF) (go_on ?_); (try simp only [push_cast, simprocAttr]))
    (try simp only [show ltI (-1) 0 = true from rfl, push_cast, simprocAttr])
    refine at_chk (by first | omega | simp) ?_
    (try simp only [bC, show IntKind.i64.wrap 1 = 1 from rfl, show IntKind.i64.wrap (2 - 1) = 1 from rfl, show toIx 1 2 = some 1 from rfl, Nat.zero_add, push_cast, simprocAttr])
    refine at_chk (by first | omega | simp) ?_
    (try simp only [bC, Nat.zero_add, push_cast, simprocAttr])
    (refine at_callN 25000 1 (by refine wk_nil ?_ ?_ ?_ ?_ <;> simp [nilH, nlCell, nlE_refl, leL, leN, rowN2, nlE, nlC, nlv, idsL, idsA, idsR, inH, hget]) ?_; simp only [nilR, nilH, nlCell, Nat.reduceEqDiff, if_true, if_false, List.map_cons, List.map_nil, simprocAttr])
    (refine at_callW [46] (by refine wk_frz ?_ ?_ ?_ ?_ <;> simp [frwS, frwH, frwRow, frzT, hasN, delL, hdel, leF, leHF, rowF, frzB, idsL, idsA, idsR, inH, hget, sameRow, viewN, tk]) ?_; simp only [frwS, frwH, frwRow, frzT, hasN, delL, hdel, idsA, idsL, viewN, hget, tk, isC, List.map_cons, List.map_nil, List.all_cons, List.all_nil, List.append_nil, List.drop, List.getElem?_cons_zero, List.getElem?_cons_succ, Bool.not_false, Bool.not_true, Bool.and_true, if_true, if_false, Nat.zero_add, List.length_map, simprocAttr])
    (try simp only [push_cast, simprocAttr]); refine call_lend [25000] none (lr := [rowB [d0, ⟨nm, [], xs⟩]]) (by simp [ndB]) (by first | rfl | simp [rowsOf, hget, rdR, rowS, rowN, rowC, sC, ndC, cmC]) (by simp [idsL, idsA]) (by simp [mvN]) (by simpa [rnA, ixOf] using hS) ?_
    rintro rv lr' rows ⟨L', g1, g2, rfl, rfl, rfl⟩
    have hlen := g1.length_eq
    simp only [List.length_cons, List.length_nil, Nat.reduceAdd] at hlen
    have hLY : L' = Y := by rw [hY]; exact wr_new hv hg g1 g2
    (refine ⟨by simp [shB, mvF, hlen], by simp [frB, baseOf], go_on ?_⟩; simp only [killA, killH, killRow, push_cast, simprocAttr])
    rw [hLY]
    have hYl : Y.length = 2 := by rw [← hLY]; exact hlen
    (try simp only [push_cast, simprocAttr])
    (refine at_call ?_; simp only [hYl, viewN, hget, tk, isC, List.map_cons, List.map_nil, List.length_map, List.length_cons, List.length_nil, Nat.reduceAdd, Nat.reduceEqDiff, if_true, if_false, reduceIte, simprocAttr]; refine rwc_v (hV2) (go_on ?_); (try simp only [push_cast, simprocAttr]))
    (try simp only [hd, Bool.not_false, push_cast, simprocAttr])
    (refine at_retO (Ch.refl w0) (l := [.o 6 0, bA false]) (by simp only [Tryz.results48, push_cast, simprocAttr]) ?_)
    exact fun loc a w v hR hG => ownNil (Ch.refl w0) rfl hR hG
  | true =>
    have hr : writeD [d0] nm xs = (Y, true) := by rw [hwr, hd]; rfl
    rw [hr]
    refine po_enter Tryz.func48 rfl rfl fun w0 => go_on ?_; (try simp only [Tryz.ntmps48, push_cast, simprocAttr])
    refine at_call ?_
    (try simp only [push_cast, simprocAttr])
    refine rwc_v hV ?_
    (try simp only [push_cast, simprocAttr])
    (refine at_dropS [6] (by refine wk_ok ?_ ?_ ?_ ?_ <;> simp [dropS, dropT, hasN, delL, hdel, leL, leH, idsL, idsA, idsR, inH, hget, sameRow]) ?_; simp only [dropS, dropT, hasN, delL, hdel, idsA, idsL, hget, List.map_cons, List.map_nil, List.all_cons, List.all_nil, List.append_nil, Bool.not_false, Bool.not_true, Bool.and_true, if_true, if_false, simprocAttr])
    refine go_on ?_
    (try simp only [hv, Bool.not_true, push_cast, simprocAttr])
    (refine at_call ?_; (try simp only [push_cast, simprocAttr]); refine rwc_v (hB) (go_on ?_); (try simp only [push_cast, simprocAttr]))
    (try simp only [hxb, Bool.not_true, push_cast, simprocAttr])
    (refine at_call ?_; (try simp only [push_cast, simprocAttr]); refine rwc_v (hI) (go_on ?_); (try simp only [push_cast, simprocAttr]))
    (try simp only [hi', Bool.not_true, push_cast, simprocAttr])
    refine call_share (by simp [isC]) hC ?_
    rintro rv rows ⟨rfl, rfl⟩
    refine ⟨by simp [frB, baseOf], go_on ?_⟩
    (try simp only [bC, push_cast, simprocAttr])
    (refine at_call ?_; simp only [bC, viewN, hget, tk, isC, List.map_cons, List.map_nil, List.length_map, List.length_cons, List.length_nil, Nat.reduceAdd, Nat.reduceEqDiff, if_true, if_false, reduceIte, simprocAttr]; refine rwc_v (hF) (go_on ?_); (try simp only [push_cast, simprocAttr]))
    (try simp only [show ltI (-1) 0 = true from rfl, push_cast, simprocAttr])
    refine at_chk (by first | omega | simp) ?_
    (try simp only [bC, show IntKind.i64.wrap 1 = 1 from rfl, show IntKind.i64.wrap (2 - 1) = 1 from rfl, show toIx 1 2 = some 1 from rfl, Nat.zero_add, push_cast, simprocAttr])
    refine at_chk (by first | omega | simp) ?_
    (try simp only [bC, Nat.zero_add, push_cast, simprocAttr])
    (refine at_callN 25000 1 (by refine wk_nil ?_ ?_ ?_ ?_ <;> simp [nilH, nlCell, nlE_refl, leL, leN, rowN2, nlE, nlC, nlv, idsL, idsA, idsR, inH, hget]) ?_; simp only [nilR, nilH, nlCell, Nat.reduceEqDiff, if_true, if_false, List.map_cons, List.map_nil, simprocAttr])
    (refine at_callW [46] (by refine wk_frz ?_ ?_ ?_ ?_ <;> simp [frwS, frwH, frwRow, frzT, hasN, delL, hdel, leF, leHF, rowF, frzB, idsL, idsA, idsR, inH, hget, sameRow, viewN, tk]) ?_; simp only [frwS, frwH, frwRow, frzT, hasN, delL, hdel, idsA, idsL, viewN, hget, tk, isC, List.map_cons, List.map_nil, List.all_cons, List.all_nil, List.append_nil, List.drop, List.getElem?_cons_zero, List.getElem?_cons_succ, Bool.not_false, Bool.not_true, Bool.and_true, if_true, if_false, Nat.zero_add, List.length_map, simprocAttr])
    (try simp only [push_cast, simprocAttr]); refine call_lend [25000] none (lr := [rowB [d0, ⟨nm, [], xs⟩]]) (by simp [ndB]) (by first | rfl | simp [rowsOf, hget, rdR, rowS, rowN, rowC, sC, ndC, cmC]) (by simp [idsL, idsA]) (by simp [mvN]) (by simpa [rnA, ixOf] using hS) ?_
    rintro rv lr' rows ⟨L', g1, g2, rfl, rfl, rfl⟩
    have hlen := g1.length_eq
    simp only [List.length_cons, List.length_nil, Nat.reduceAdd] at hlen
    have hLY : L' = Y := by rw [hY]; exact wr_new hv hg g1 g2
    (refine ⟨by simp [shB, mvF, hlen], by simp [frB, baseOf], go_on ?_⟩; simp only [killA, killH, killRow, push_cast, simprocAttr])
    rw [hLY]
    have hYl : Y.length = 2 := by rw [← hLY]; exact hlen
    (try simp only [push_cast, simprocAttr])
    (refine at_call ?_; simp only [hYl, viewN, hget, tk, isC, List.map_cons, List.map_nil, List.length_map, List.length_cons, List.length_nil, Nat.reduceAdd, Nat.reduceEqDiff, if_true, if_false, reduceIte, simprocAttr]; refine rwc_v (hV2) (go_on ?_); (try simp only [push_cast, simprocAttr]))
    (try simp only [hd, Bool.not_true, push_cast, simprocAttr])
    (refine at_callW [25000] (by refine wk_frz ?_ ?_ ?_ ?_ <;> simp [hYl, frwS, frwH, frwRow, frzT, hasN, delL, hdel, leF, leHF, rowF, frzB, idsL, idsA, idsR, inH, hget, sameRow, viewN, tk]) ?_; simp only [hYl, frwS, frwH, frwRow, frzT, hasN, delL, hdel, idsA, idsL, viewN, hget, tk, isC, List.map_cons, List.map_nil, List.all_cons, List.all_nil, List.append_nil, List.drop, List.getElem?_cons_zero, List.getElem?_cons_succ, Bool.not_false, Bool.not_true, Bool.and_true, if_true, if_false, Nat.zero_add, List.length_map, simprocAttr])
    refine call_PO rfl [blsA Y] ⟨ga_c rfl, trivial⟩ hC2 ?_
    rintro w2 lent2 X x hN ⟨u, us, rfl, hO⟩
    obtain ⟨g0, cp0, rfl⟩ := hO.some (by omega)
    refine go_on ?_
    (try simp only [push_cast, simprocAttr])
    (refine at_retO (hN.ch _ _ (Ch.refl w0)) (l := [.v (.slice (some ⟨g0, 0, none⟩) Y.length cp0), bA true]) (by simp only [Tryz.results48, push_cast, simprocAttr]) ?_)
    exact fun loc a w v hR hG => otOut hR hO hN.xfb hN.xge hG
theorem DiskWrite_new2_o (bs : List BD) (nm : Int) (xs : List Int) (hx : xs.length ≤ 2000000) (hv : diskB bs = true) (hxb : bytesB xs = true) (hi : inB nm 1 3 = true) (hg : getB bs nm = none) (hb : ∃ d0 d1, bs = [d0, d1]) : PO Tryz.prog 48 [blsA bs, iA nm, intsA xs] (otB (writeD bs nm xs).1 (writeD bs nm xs).2) := by
  have hs := disk_sm hv
  have hn3 := disk_len hv
  have hV := DiskValid_pc bs hs
  have hB := bytesValid_pc xs (by omega)
  have hI := in_pc nm 1 3
  have hF := file_pc bs hs.n nm
  have hC := cloneDisk_pc bs hs
  have hi' : inR nm 1 3 = true := hi
  have hnm : 0 ≤ nm ∧ nm ≤ 3 := by simp only [inR, Bool.and_eq_true, decide_eq_true_eq] at hi'; omega
  have hwl := withB_len bs (wrB bs nm xs)
  have hnms := disk_names hv
  have hWs : SmD (wrB bs nm xs) := by
    unfold wrB
    cases hg : getB bs nm with
    | none => exact ⟨by simp, by simp only; omega⟩
    | some d =>
      have hm := (getB_name hg).2
      have hok := disk_okF hv hm
      simp only [okF, Bool.and_eq_true, decide_eq_true_eq] at hok
      exact ⟨(hs.d d hm).s, by simp only [List.length_append]; omega⟩
  have hws : SmB (withB bs (wrB bs nm xs)) := withB_sm hs (by omega) hWs
  obtain ⟨Y, hY⟩ : ∃ Y, Y = withB bs (wrB bs nm xs) := ⟨_, rfl⟩
  rw [← hY] at hws hwl
  have hwr : writeD bs nm xs = if diskB Y = true then (Y, true) else ([], false) := by unfold writeD; rw [hv, hxb, hi, ← hY]; rfl
  have hV2 := DiskValid_pc Y hws
  have hC2 := cloneDisk_o Y hws
  have hix : ixB bs nm = -1 := by
    rcases ixB_cases bs nm with ⟨h1, _⟩ | ⟨j, d, _, _, h3⟩
    · exact h1
    · rw [hg] at h3; cases h3
  rw [hix] at hF
  obtain ⟨d0, d1, rfl⟩ := hb
  have hS := sorted_pcl ([d0, d1, ⟨nm, [], xs⟩] : List BD) (by simp) fun d hd => by
    rcases List.mem_append.1 (show d ∈ [d0, d1] ++ [(⟨nm, [], xs⟩ : BD)] from hd) with hd | hd
    · exact hnms d hd
    · simp only [List.mem_singleton] at hd; subst hd; exact hnm
  cases hd : diskB Y with
  | false =>
    have hr : writeD [d0, d1] nm xs = ([], false) := by rw [hwr, hd]; rfl
    rw [hr]
    refine po_enter Tryz.func48 rfl rfl fun w0 => go_on ?_; (try simp only [Tryz.ntmps48, push_cast, simprocAttr])
    refine at_call ?_
    (try simp only [push_cast, simprocAttr])
    refine rwc_v hV ?_
    (try simp only [push_cast, simprocAttr])
    (refine at_dropS [6] (by refine wk_ok ?_ ?_ ?_ ?_ <;> simp [dropS, dropT, hasN, delL, hdel, leL, leH, idsL, idsA, idsR, inH, hget, sameRow]) ?_; simp only [dropS, dropT, hasN, delL, hdel, idsA, idsL, hget, List.map_cons, List.map_nil, List.all_cons, List.all_nil, List.append_nil, Bool.not_false, Bool.not_true, Bool.and_true, if_true, if_false, simprocAttr])
    refine go_on ?_
    (try simp only [hv, Bool.not_true, push_cast, simprocAttr])
    (refine at_call ?_; (try simp only [push_cast, simprocAttr]); refine rwc_v (hB) (go_on ?_); (try simp only [push_cast, simprocAttr]))
    (try simp only [hxb, Bool.not_true, push_cast, simprocAttr])
    (refine at_call ?_; (try simp only [push_cast, simprocAttr]); refine rwc_v (hI) (go_on ?_); (try simp only [push_cast, simprocAttr]))
    (try simp only [hi', Bool.not_true, push_cast, simprocAttr])
    refine call_share (by simp [isC]) hC ?_
    rintro rv rows ⟨rfl, rfl⟩
    refine ⟨by simp [frB, baseOf], go_on ?_⟩
    (try simp only [bC, push_cast, simprocAttr])
    (refine at_call ?_; simp only [bC, viewN, hget, tk, isC, List.map_cons, List.map_nil, List.length_map, List.length_cons, List.length_nil, Nat.reduceAdd, Nat.reduceEqDiff, if_true, if_false, reduceIte, simprocAttr]; refine rwc_v (hF) (go_on ?_); (try simp only [push_cast, simprocAttr]))
    (try simp only [show ltI (-1) 0 = true from rfl, push_cast, simprocAttr])
    refine at_chk (by first | omega | simp) ?_
    (try simp only [bC, show IntKind.i64.wrap 2 = 2 from rfl, show IntKind.i64.wrap (3 - 1) = 2 from rfl, show toIx 2 3 = some 2 from rfl, Nat.zero_add, push_cast, simprocAttr])
    refine at_chk (by first | omega | simp) ?_
    (try simp only [bC, Nat.zero_add, push_cast, simprocAttr])
    (refine at_callN 25000 1 (by refine wk_nil ?_ ?_ ?_ ?_ <;> simp [nilH, nlCell, nlE_refl, leL, leN, rowN2, nlE, nlC, nlv, idsL, idsA, idsR, inH, hget]) ?_; simp only [nilR, nilH, nlCell, Nat.reduceEqDiff, if_true, if_false, List.map_cons, List.map_nil, simprocAttr])
    (refine at_callW [46] (by refine wk_frz ?_ ?_ ?_ ?_ <;> simp [frwS, frwH, frwRow, frzT, hasN, delL, hdel, leF, leHF, rowF, frzB, idsL, idsA, idsR, inH, hget, sameRow, viewN, tk]) ?_; simp only [frwS, frwH, frwRow, frzT, hasN, delL, hdel, idsA, idsL, viewN, hget, tk, isC, List.map_cons, List.map_nil, List.all_cons, List.all_nil, List.append_nil, List.drop, List.getElem?_cons_zero, List.getElem?_cons_succ, Bool.not_false, Bool.not_true, Bool.and_true, if_true, if_false, Nat.zero_add, List.length_map, simprocAttr])
    (try simp only [push_cast, simprocAttr]); refine call_lend [25000] none (lr := [rowB [d0, d1, ⟨nm, [], xs⟩]]) (by simp [ndB]) (by first | rfl | simp [rowsOf, hget, rdR, rowS, rowN, rowC, sC, ndC, cmC]) (by simp [idsL, idsA]) (by simp [mvN]) (by simpa [rnA, ixOf] using hS) ?_
    rintro rv lr' rows ⟨L', g1, g2, rfl, rfl, rfl⟩
    have hlen := g1.length_eq
    simp only [List.length_cons, List.length_nil, Nat.reduceAdd] at hlen
    have hLY : L' = Y := by rw [hY]; exact wr_new hv hg g1 g2
    (refine ⟨by simp [shB, mvF, hlen], by simp [frB, baseOf], go_on ?_⟩; simp only [killA, killH, killRow, push_cast, simprocAttr])
    rw [hLY]
    have hYl : Y.length = 3 := by rw [← hLY]; exact hlen
    (try simp only [push_cast, simprocAttr])
    (refine at_call ?_; simp only [hYl, viewN, hget, tk, isC, List.map_cons, List.map_nil, List.length_map, List.length_cons, List.length_nil, Nat.reduceAdd, Nat.reduceEqDiff, if_true, if_false, reduceIte, simprocAttr]; refine rwc_v (hV2) (go_on ?_); (try simp only [push_cast, simprocAttr]))
    (try simp only [hd, Bool.not_false, push_cast, simprocAttr])
    (refine at_retO (Ch.refl w0) (l := [.o 6 0, bA false]) (by simp only [Tryz.results48, push_cast, simprocAttr]) ?_)
    exact fun loc a w v hR hG => ownNil (Ch.refl w0) rfl hR hG
  | true =>
    have hr : writeD [d0, d1] nm xs = (Y, true) := by rw [hwr, hd]; rfl
    rw [hr]
    refine po_enter Tryz.func48 rfl rfl fun w0 => go_on ?_; (try simp only [Tryz.ntmps48, push_cast, simprocAttr])
    refine at_call ?_
    (try simp only [push_cast, simprocAttr])
    refine rwc_v hV ?_
    (try simp only [push_cast, simprocAttr])
    (refine at_dropS [6] (by refine wk_ok ?_ ?_ ?_ ?_ <;> simp [dropS, dropT, hasN, delL, hdel, leL, leH, idsL, idsA, idsR, inH, hget, sameRow]) ?_; simp only [dropS, dropT, hasN, delL, hdel, idsA, idsL, hget, List.map_cons, List.map_nil, List.all_cons, List.all_nil, List.append_nil, Bool.not_false, Bool.not_true, Bool.and_true, if_true, if_false, simprocAttr])
    refine go_on ?_
    (try simp only [hv, Bool.not_true, push_cast, simprocAttr])
    (refine at_call ?_; (try simp only [push_cast, simprocAttr]); refine rwc_v (hB) (go_on ?_); (try simp only [push_cast, simprocAttr]))
    (try simp only [hxb, Bool.not_true, push_cast, simprocAttr])
    (refine at_call ?_; (try simp only [push_cast, simprocAttr]); refine rwc_v (hI) (go_on ?_); (try simp only [push_cast, simprocAttr]))
    (try simp only [hi', Bool.not_true, push_cast, simprocAttr])
    refine call_share (by simp [isC]) hC ?_
    rintro rv rows ⟨rfl, rfl⟩
    refine ⟨by simp [frB, baseOf], go_on ?_⟩
    (try simp only [bC, push_cast, simprocAttr])
    (refine at_call ?_; simp only [bC, viewN, hget, tk, isC, List.map_cons, List.map_nil, List.length_map, List.length_cons, List.length_nil, Nat.reduceAdd, Nat.reduceEqDiff, if_true, if_false, reduceIte, simprocAttr]; refine rwc_v (hF) (go_on ?_); (try simp only [push_cast, simprocAttr]))
    (try simp only [show ltI (-1) 0 = true from rfl, push_cast, simprocAttr])
    refine at_chk (by first | omega | simp) ?_
    (try simp only [bC, show IntKind.i64.wrap 2 = 2 from rfl, show IntKind.i64.wrap (3 - 1) = 2 from rfl, show toIx 2 3 = some 2 from rfl, Nat.zero_add, push_cast, simprocAttr])
    refine at_chk (by first | omega | simp) ?_
    (try simp only [bC, Nat.zero_add, push_cast, simprocAttr])
    (refine at_callN 25000 1 (by refine wk_nil ?_ ?_ ?_ ?_ <;> simp [nilH, nlCell, nlE_refl, leL, leN, rowN2, nlE, nlC, nlv, idsL, idsA, idsR, inH, hget]) ?_; simp only [nilR, nilH, nlCell, Nat.reduceEqDiff, if_true, if_false, List.map_cons, List.map_nil, simprocAttr])
    (refine at_callW [46] (by refine wk_frz ?_ ?_ ?_ ?_ <;> simp [frwS, frwH, frwRow, frzT, hasN, delL, hdel, leF, leHF, rowF, frzB, idsL, idsA, idsR, inH, hget, sameRow, viewN, tk]) ?_; simp only [frwS, frwH, frwRow, frzT, hasN, delL, hdel, idsA, idsL, viewN, hget, tk, isC, List.map_cons, List.map_nil, List.all_cons, List.all_nil, List.append_nil, List.drop, List.getElem?_cons_zero, List.getElem?_cons_succ, Bool.not_false, Bool.not_true, Bool.and_true, if_true, if_false, Nat.zero_add, List.length_map, simprocAttr])
    (try simp only [push_cast, simprocAttr]); refine call_lend [25000] none (lr := [rowB [d0, d1, ⟨nm, [], xs⟩]]) (by simp [ndB]) (by first | rfl | simp [rowsOf, hget, rdR, rowS, rowN, rowC, sC, ndC, cmC]) (by simp [idsL, idsA]) (by simp [mvN]) (by simpa [rnA, ixOf] using hS) ?_
    rintro rv lr' rows ⟨L', g1, g2, rfl, rfl, rfl⟩
    have hlen := g1.length_eq
    simp only [List.length_cons, List.length_nil, Nat.reduceAdd] at hlen
    have hLY : L' = Y := by rw [hY]; exact wr_new hv hg g1 g2
    (refine ⟨by simp [shB, mvF, hlen], by simp [frB, baseOf], go_on ?_⟩; simp only [killA, killH, killRow, push_cast, simprocAttr])
    rw [hLY]
    have hYl : Y.length = 3 := by rw [← hLY]; exact hlen
    (try simp only [push_cast, simprocAttr])
    (refine at_call ?_; simp only [hYl, viewN, hget, tk, isC, List.map_cons, List.map_nil, List.length_map, List.length_cons, List.length_nil, Nat.reduceAdd, Nat.reduceEqDiff, if_true, if_false, reduceIte, simprocAttr]; refine rwc_v (hV2) (go_on ?_); (try simp only [push_cast, simprocAttr]))
    (try simp only [hd, Bool.not_true, push_cast, simprocAttr])
    (refine at_callW [25000] (by refine wk_frz ?_ ?_ ?_ ?_ <;> simp [hYl, frwS, frwH, frwRow, frzT, hasN, delL, hdel, leF, leHF, rowF, frzB, idsL, idsA, idsR, inH, hget, sameRow, viewN, tk]) ?_; simp only [hYl, frwS, frwH, frwRow, frzT, hasN, delL, hdel, idsA, idsL, viewN, hget, tk, isC, List.map_cons, List.map_nil, List.all_cons, List.all_nil, List.append_nil, List.drop, List.getElem?_cons_zero, List.getElem?_cons_succ, Bool.not_false, Bool.not_true, Bool.and_true, if_true, if_false, Nat.zero_add, List.length_map, simprocAttr])
    refine call_PO rfl [blsA Y] ⟨ga_c rfl, trivial⟩ hC2 ?_
    rintro w2 lent2 X x hN ⟨u, us, rfl, hO⟩
    obtain ⟨g0, cp0, rfl⟩ := hO.some (by omega)
    refine go_on ?_
    (try simp only [push_cast, simprocAttr])
    (refine at_retO (hN.ch _ _ (Ch.refl w0)) (l := [.v (.slice (some ⟨g0, 0, none⟩) Y.length cp0), bA true]) (by simp only [Tryz.results48, push_cast, simprocAttr]) ?_)
    exact fun loc a w v hR hG => otOut hR hO hN.xfb hN.xge hG
theorem DiskWrite_new3_o (bs : List BD) (nm : Int) (xs : List Int) (hx : xs.length ≤ 2000000) (hv : diskB bs = true) (hxb : bytesB xs = true) (hi : inB nm 1 3 = true) (hg : getB bs nm = none) (hb : ∃ d0 d1 d2, bs = [d0, d1, d2]) : PO Tryz.prog 48 [blsA bs, iA nm, intsA xs] (otB (writeD bs nm xs).1 (writeD bs nm xs).2) := by
  have hs := disk_sm hv
  have hn3 := disk_len hv
  have hV := DiskValid_pc bs hs
  have hB := bytesValid_pc xs (by omega)
  have hI := in_pc nm 1 3
  have hF := file_pc bs hs.n nm
  have hC := cloneDisk_pc bs hs
  have hi' : inR nm 1 3 = true := hi
  have hnm : 0 ≤ nm ∧ nm ≤ 3 := by simp only [inR, Bool.and_eq_true, decide_eq_true_eq] at hi'; omega
  have hwl := withB_len bs (wrB bs nm xs)
  have hnms := disk_names hv
  have hWs : SmD (wrB bs nm xs) := by
    unfold wrB
    cases hg : getB bs nm with
    | none => exact ⟨by simp, by simp only; omega⟩
    | some d =>
      have hm := (getB_name hg).2
      have hok := disk_okF hv hm
      simp only [okF, Bool.and_eq_true, decide_eq_true_eq] at hok
      exact ⟨(hs.d d hm).s, by simp only [List.length_append]; omega⟩
  have hws : SmB (withB bs (wrB bs nm xs)) := withB_sm hs (by omega) hWs
  obtain ⟨Y, hY⟩ : ∃ Y, Y = withB bs (wrB bs nm xs) := ⟨_, rfl⟩
  rw [← hY] at hws hwl
  have hwr : writeD bs nm xs = if diskB Y = true then (Y, true) else ([], false) := by unfold writeD; rw [hv, hxb, hi, ← hY]; rfl
  have hV2 := DiskValid_pc Y hws
  have hC2 := cloneDisk_o Y hws
  have hix : ixB bs nm = -1 := by
    rcases ixB_cases bs nm with ⟨h1, _⟩ | ⟨j, d, _, _, h3⟩
    · exact h1
    · rw [hg] at h3; cases h3
  rw [hix] at hF
  obtain ⟨d0, d1, d2, rfl⟩ := hb
  have hS := sorted_pcl ([d0, d1, d2, ⟨nm, [], xs⟩] : List BD) (by simp) fun d hd => by
    rcases List.mem_append.1 (show d ∈ [d0, d1, d2] ++ [(⟨nm, [], xs⟩ : BD)] from hd) with hd | hd
    · exact hnms d hd
    · simp only [List.mem_singleton] at hd; subst hd; exact hnm
  cases hd : diskB Y with
  | false =>
    have hr : writeD [d0, d1, d2] nm xs = ([], false) := by rw [hwr, hd]; rfl
    rw [hr]
    refine po_enter Tryz.func48 rfl rfl fun w0 => go_on ?_; (try simp only [Tryz.ntmps48, push_cast, simprocAttr])
    refine at_call ?_
    (try simp only [push_cast, simprocAttr])
    refine rwc_v hV ?_
    (try simp only [push_cast, simprocAttr])
    (refine at_dropS [6] (by refine wk_ok ?_ ?_ ?_ ?_ <;> simp [dropS, dropT, hasN, delL, hdel, leL, leH, idsL, idsA, idsR, inH, hget, sameRow]) ?_; simp only [dropS, dropT, hasN, delL, hdel, idsA, idsL, hget, List.map_cons, List.map_nil, List.all_cons, List.all_nil, List.append_nil, Bool.not_false, Bool.not_true, Bool.and_true, if_true, if_false, simprocAttr])
    refine go_on ?_
    (try simp only [hv, Bool.not_true, push_cast, simprocAttr])
    (refine at_call ?_; (try simp only [push_cast, simprocAttr]); refine rwc_v (hB) (go_on ?_); (try simp only [push_cast, simprocAttr]))
    (try simp only [hxb, Bool.not_true, push_cast, simprocAttr])
    (refine at_call ?_; (try simp only [push_cast, simprocAttr]); refine rwc_v (hI) (go_on ?_); (try simp only [push_cast, simprocAttr]))
    (try simp only [hi', Bool.not_true, push_cast, simprocAttr])
    refine call_share (by simp [isC]) hC ?_
    rintro rv rows ⟨rfl, rfl⟩
    refine ⟨by simp [frB, baseOf], go_on ?_⟩
    (try simp only [bC, push_cast, simprocAttr])
    (refine at_call ?_; simp only [bC, viewN, hget, tk, isC, List.map_cons, List.map_nil, List.length_map, List.length_cons, List.length_nil, Nat.reduceAdd, Nat.reduceEqDiff, if_true, if_false, reduceIte, simprocAttr]; refine rwc_v (hF) (go_on ?_); (try simp only [push_cast, simprocAttr]))
    (try simp only [show ltI (-1) 0 = true from rfl, push_cast, simprocAttr])
    refine at_chk (by first | omega | simp) ?_
    (try simp only [bC, show IntKind.i64.wrap 3 = 3 from rfl, show IntKind.i64.wrap (4 - 1) = 3 from rfl, show toIx 3 4 = some 3 from rfl, Nat.zero_add, push_cast, simprocAttr])
    refine at_chk (by first | omega | simp) ?_
    (try simp only [bC, Nat.zero_add, push_cast, simprocAttr])
    (refine at_callN 25000 1 (by refine wk_nil ?_ ?_ ?_ ?_ <;> simp [nilH, nlCell, nlE_refl, leL, leN, rowN2, nlE, nlC, nlv, idsL, idsA, idsR, inH, hget]) ?_; simp only [nilR, nilH, nlCell, Nat.reduceEqDiff, if_true, if_false, List.map_cons, List.map_nil, simprocAttr])
    (refine at_callW [46] (by refine wk_frz ?_ ?_ ?_ ?_ <;> simp [frwS, frwH, frwRow, frzT, hasN, delL, hdel, leF, leHF, rowF, frzB, idsL, idsA, idsR, inH, hget, sameRow, viewN, tk]) ?_; simp only [frwS, frwH, frwRow, frzT, hasN, delL, hdel, idsA, idsL, viewN, hget, tk, isC, List.map_cons, List.map_nil, List.all_cons, List.all_nil, List.append_nil, List.drop, List.getElem?_cons_zero, List.getElem?_cons_succ, Bool.not_false, Bool.not_true, Bool.and_true, if_true, if_false, Nat.zero_add, List.length_map, simprocAttr])
    (try simp only [push_cast, simprocAttr]); refine call_lend [25000] none (lr := [rowB [d0, d1, d2, ⟨nm, [], xs⟩]]) (by simp [ndB]) (by first | rfl | simp [rowsOf, hget, rdR, rowS, rowN, rowC, sC, ndC, cmC]) (by simp [idsL, idsA]) (by simp [mvN]) (by simpa [rnA, ixOf] using hS) ?_
    rintro rv lr' rows ⟨L', g1, g2, rfl, rfl, rfl⟩
    have hlen := g1.length_eq
    simp only [List.length_cons, List.length_nil, Nat.reduceAdd] at hlen
    have hLY : L' = Y := by rw [hY]; exact wr_new hv hg g1 g2
    (refine ⟨by simp [shB, mvF, hlen], by simp [frB, baseOf], go_on ?_⟩; simp only [killA, killH, killRow, push_cast, simprocAttr])
    rw [hLY]
    have hYl : Y.length = 4 := by rw [← hLY]; exact hlen
    (try simp only [push_cast, simprocAttr])
    (refine at_call ?_; simp only [hYl, viewN, hget, tk, isC, List.map_cons, List.map_nil, List.length_map, List.length_cons, List.length_nil, Nat.reduceAdd, Nat.reduceEqDiff, if_true, if_false, reduceIte, simprocAttr]; refine rwc_v (hV2) (go_on ?_); (try simp only [push_cast, simprocAttr]))
    (try simp only [hd, Bool.not_false, push_cast, simprocAttr])
    (refine at_retO (Ch.refl w0) (l := [.o 6 0, bA false]) (by simp only [Tryz.results48, push_cast, simprocAttr]) ?_)
    exact fun loc a w v hR hG => ownNil (Ch.refl w0) rfl hR hG
  | true =>
    have hr : writeD [d0, d1, d2] nm xs = (Y, true) := by rw [hwr, hd]; rfl
    rw [hr]
    refine po_enter Tryz.func48 rfl rfl fun w0 => go_on ?_; (try simp only [Tryz.ntmps48, push_cast, simprocAttr])
    refine at_call ?_
    (try simp only [push_cast, simprocAttr])
    refine rwc_v hV ?_
    (try simp only [push_cast, simprocAttr])
    (refine at_dropS [6] (by refine wk_ok ?_ ?_ ?_ ?_ <;> simp [dropS, dropT, hasN, delL, hdel, leL, leH, idsL, idsA, idsR, inH, hget, sameRow]) ?_; simp only [dropS, dropT, hasN, delL, hdel, idsA, idsL, hget, List.map_cons, List.map_nil, List.all_cons, List.all_nil, List.append_nil, Bool.not_false, Bool.not_true, Bool.and_true, if_true, if_false, simprocAttr])
    refine go_on ?_
    (try simp only [hv, Bool.not_true, push_cast, simprocAttr])
    (refine at_call ?_; (try simp only [push_cast, simprocAttr]); refine rwc_v (hB) (go_on ?_); (try simp only [push_cast, simprocAttr]))
    (try simp only [hxb, Bool.not_true, push_cast, simprocAttr])
    (refine at_call ?_; (try simp only [push_cast, simprocAttr]); refine rwc_v (hI) (go_on ?_); (try simp only [push_cast, simprocAttr]))
    (try simp only [hi', Bool.not_true, push_cast, simprocAttr])
    refine call_share (by simp [isC]) hC ?_
    rintro rv rows ⟨rfl, rfl⟩
    refine ⟨by simp [frB, baseOf], go_on ?_⟩
    (try simp only [bC, push_cast, simprocAttr])
    (refine at_call ?_; simp only [bC, viewN, hget, tk, isC, List.map_cons, List.map_nil, List.length_map, List.length_cons, List.length_nil, Nat.reduceAdd, Nat.reduceEqDiff, if_true, if_false, reduceIte, simprocAttr]; refine rwc_v (hF) (go_on ?_); (try simp only [push_cast, simprocAttr]))
    (try simp only [show ltI (-1) 0 = true from rfl, push_cast, simprocAttr])
    refine at_chk (by first | omega | simp) ?_
    (try simp only [bC, show IntKind.i64.wrap 3 = 3 from rfl, show IntKind.i64.wrap (4 - 1) = 3 from rfl, show toIx 3 4 = some 3 from rfl, Nat.zero_add, push_cast, simprocAttr])
    refine at_chk (by first | omega | simp) ?_
    (try simp only [bC, Nat.zero_add, push_cast, simprocAttr])
    (refine at_callN 25000 1 (by refine wk_nil ?_ ?_ ?_ ?_ <;> simp [nilH, nlCell, nlE_refl, leL, leN, rowN2, nlE, nlC, nlv, idsL, idsA, idsR, inH, hget]) ?_; simp only [nilR, nilH, nlCell, Nat.reduceEqDiff, if_true, if_false, List.map_cons, List.map_nil, simprocAttr])
    (refine at_callW [46] (by refine wk_frz ?_ ?_ ?_ ?_ <;> simp [frwS, frwH, frwRow, frzT, hasN, delL, hdel, leF, leHF, rowF, frzB, idsL, idsA, idsR, inH, hget, sameRow, viewN, tk]) ?_; simp only [frwS, frwH, frwRow, frzT, hasN, delL, hdel, idsA, idsL, viewN, hget, tk, isC, List.map_cons, List.map_nil, List.all_cons, List.all_nil, List.append_nil, List.drop, List.getElem?_cons_zero, List.getElem?_cons_succ, Bool.not_false, Bool.not_true, Bool.and_true, if_true, if_false, Nat.zero_add, List.length_map, simprocAttr])
    (try simp only [push_cast, simprocAttr]); refine call_lend [25000] none (lr := [rowB [d0, d1, d2, ⟨nm, [], xs⟩]]) (by simp [ndB]) (by first | rfl | simp [rowsOf, hget, rdR, rowS, rowN, rowC, sC, ndC, cmC]) (by simp [idsL, idsA]) (by simp [mvN]) (by simpa [rnA, ixOf] using hS) ?_
    rintro rv lr' rows ⟨L', g1, g2, rfl, rfl, rfl⟩
    have hlen := g1.length_eq
    simp only [List.length_cons, List.length_nil, Nat.reduceAdd] at hlen
    have hLY : L' = Y := by rw [hY]; exact wr_new hv hg g1 g2
    (refine ⟨by simp [shB, mvF, hlen], by simp [frB, baseOf], go_on ?_⟩; simp only [killA, killH, killRow, push_cast, simprocAttr])
    rw [hLY]
    have hYl : Y.length = 4 := by rw [← hLY]; exact hlen
    (try simp only [push_cast, simprocAttr])
    (refine at_call ?_; simp only [hYl, viewN, hget, tk, isC, List.map_cons, List.map_nil, List.length_map, List.length_cons, List.length_nil, Nat.reduceAdd, Nat.reduceEqDiff, if_true, if_false, reduceIte, simprocAttr]; refine rwc_v (hV2) (go_on ?_); (try simp only [push_cast, simprocAttr]))
    (try simp only [hd, Bool.not_true, push_cast, simprocAttr])
    (refine at_callW [25000] (by refine wk_frz ?_ ?_ ?_ ?_ <;> simp [hYl, frwS, frwH, frwRow, frzT, hasN, delL, hdel, leF, leHF, rowF, frzB, idsL, idsA, idsR, inH, hget, sameRow, viewN, tk]) ?_; simp only [hYl, frwS, frwH, frwRow, frzT, hasN, delL, hdel, idsA, idsL, viewN, hget, tk, isC, List.map_cons, List.map_nil, List.all_cons, List.all_nil, List.append_nil, List.drop, List.getElem?_cons_zero, List.getElem?_cons_succ, Bool.not_false, Bool.not_true, Bool.and_true, if_true, if_false, Nat.zero_add, List.length_map, simprocAttr])
    refine call_PO rfl [blsA Y] ⟨ga_c rfl, trivial⟩ hC2 ?_
    rintro w2 lent2 X x hN ⟨u, us, rfl, hO⟩
    obtain ⟨g0, cp0, rfl⟩ := hO.some (by omega)
    refine go_on ?_
    (try simp only [push_cast, simprocAttr])
    (refine at_retO (hN.ch _ _ (Ch.refl w0)) (l := [.v (.slice (some ⟨g0, 0, none⟩) Y.length cp0), bA true]) (by simp only [Tryz.results48, push_cast, simprocAttr]) ?_)
    exact fun loc a w v hR hG => otOut hR hO hN.xfb hN.xge hG
end Go.Proofs.YtccifbbjbnjcfaaGreatDoor
