/- A part of the proof of FnExactSiteValid: texts W12 W13 O1. -/
import Derived.Test.YtcjialgknmplbaaDoorG5
import Derived.ChangeArms
import Derived.ChangeSame
import Derived.OpenShut
set_option linter.unusedSimpArgs false
set_option linter.unusedVariables false
/-
  Walks: the laws' own helpers: copies, equalities, sizes.
-/
namespace Go.Proofs.YtcjialgknmplbaaDoor
open Go Go.RowKit Go.Proofs
def sz1 (left len : Int) : Int := if left - len < 0 then -1 else left - len
def szF : Int → List Nat → Int
  | r, [] => r
  | r, a :: l => if r - (a : Int) < 0 then -1 else szF (r - (a : Int)) l
def szS (left : Int) (ls : List Nat) : Int := if left - (ls.length : Int) < 0 then -1 else szF (left - (ls.length : Int)) ls
theorem szF_ge : ∀ (ls : List Nat) (r : Int), 0 ≤ r → -1 ≤ szF r ls ∧ szF r ls ≤ r
  | [], r, h => by simp [szF]; omega
  | a :: l, r, h => by
    unfold szF
    split
    · omega
    · have := szF_ge l (r - a) (by omega)
      omega
theorem szF_mem : ∀ (ls : List Nat) (r : Int), 0 ≤ r → 0 ≤ szF r ls → ∀ a ∈ ls, (a : Int) ≤ r
  | [], r, _, _, a, ha => by cases ha
  | b :: l, r, h, h2, a, ha => by
    unfold szF at h2
    split at h2
    · omega
    · rcases List.mem_cons.1 ha with rfl | ha
      · omega
      · have := szF_mem l (r - b) (by omega) h2 a ha
        omega
theorem szS_ok {left : Int} {ls : List Nat} (h0 : 0 ≤ left) (h : 0 ≤ szS left ls) : (ls.length : Int) ≤ left ∧ (∀ a ∈ ls, (a : Int) ≤ left) ∧ szS left ls ≤ left := by
  unfold szS at *
  split at h
  · omega
  · rename_i h1
    rw [if_neg h1]
    have h2 := szF_ge ls (left - ls.length) (by omega)
    refine ⟨by omega, fun a ha => ?_, by omega⟩
    have := szF_mem ls _ (by omega) h a ha
    omega
theorem szS_ge {left : Int} {ls : List Nat} (h0 : 0 ≤ left) : -1 ≤ szS left ls := by
  unfold szS
  split
  · omega
  · exact (szF_ge ls _ (by omega)).1
attribute [local irreducible] RWp AW run kPe pe Kt effA gd gu br retR RDp runD kPeD brW gW effD
set_option maxRecDepth 100000
theorem toContent_pc (c : Ct) : PC Tryd.prog 67 [ctA c] (vX (ctA c)) := by
  unfold ctA ctC
  refine pc_enter Tryd.func67 rfl rfl fun w0 fb => go_on ?_; (try simp only [Tryd.ntmps67, push_cast, Int.le_refl, Bool.not_not, Option.isSome_some, Option.isSome_none, Bool.true_or, Bool.or_true, Bool.and_self, Bool.false_or, Bool.or_false, Bool.false_and, Bool.and_false, Nat.reduceAdd, Nat.reduceSub, Nat.reduceEqDiff, Nat.reduceLeDiff, Nat.reduceMul, Nat.reduceLT, Int.reduceLE, Int.reduceLT, Int.reduceEq, Int.reduceMul, Int.reduceToNat, Int.reduceNeg, Int.reduceAdd, Int.reduceSub, Int.natCast_nonneg, Int.toNat_natCast, reduceIte, reduceCtorEq])
  refine at_ret ?_; simp only [Tryd.results67, push_cast, Int.le_refl, Bool.not_not, Option.isSome_some, Option.isSome_none, Bool.true_or, Bool.or_true, Bool.and_self, Bool.false_or, Bool.or_false, Bool.false_and, Bool.and_false, Nat.reduceAdd, Nat.reduceSub, Nat.reduceEqDiff, Nat.reduceLeDiff, Nat.reduceMul, Nat.reduceLT, Int.reduceLE, Int.reduceLT, Int.reduceEq, Int.reduceMul, Int.reduceToNat, Int.reduceNeg, Int.reduceAdd, Int.reduceSub, Int.natCast_nonneg, Int.toNat_natCast, reduceIte, reduceCtorEq]
  simp [vX]
theorem eqContent_pc (a b : Ct) : PC Tryd.prog 91 [ctA a, ctA b] (vB (decide (a = b))) := by
  obtain ⟨a1, a2⟩ := a
  obtain ⟨b1, b2⟩ := b
  unfold ctA ctC
  refine pc_enter Tryd.func91 rfl rfl fun w0 fb => go_on ?_; (try simp only [Tryd.ntmps91, push_cast, Int.le_refl, Bool.not_not, Option.isSome_some, Option.isSome_none, Bool.true_or, Bool.or_true, Bool.and_self, Bool.false_or, Bool.or_false, Bool.false_and, Bool.and_false, Nat.reduceAdd, Nat.reduceSub, Nat.reduceEqDiff, Nat.reduceLeDiff, Nat.reduceMul, Nat.reduceLT, Int.reduceLE, Int.reduceLT, Int.reduceEq, Int.reduceMul, Int.reduceToNat, Int.reduceNeg, Int.reduceAdd, Int.reduceSub, Int.natCast_nonneg, Int.toNat_natCast, reduceIte, reduceCtorEq])
  repeat' first | (refine at_b (fun hb => ?_) (fun hb => ?_) <;> simp only [hb, push_cast, Int.le_refl, Bool.not_not, Option.isSome_some, Option.isSome_none, Bool.true_or, Bool.or_true, Bool.and_self, Bool.false_or, Bool.or_false, Bool.false_and, Bool.and_false, Nat.reduceAdd, Nat.reduceSub, Nat.reduceEqDiff, Nat.reduceLeDiff, Nat.reduceMul, Nat.reduceLT, Int.reduceLE, Int.reduceLT, Int.reduceEq, Int.reduceMul, Int.reduceToNat, Int.reduceNeg, Int.reduceAdd, Int.reduceSub, Int.natCast_nonneg, Int.toNat_natCast, reduceIte, reduceCtorEq]) | (refine at_ret ?_; simp only [Tryd.results91, push_cast, Int.le_refl, Bool.not_not, Option.isSome_some, Option.isSome_none, Bool.true_or, Bool.or_true, Bool.and_self, Bool.false_or, Bool.or_false, Bool.false_and, Bool.and_false, Nat.reduceAdd, Nat.reduceSub, Nat.reduceEqDiff, Nat.reduceLeDiff, Nat.reduceMul, Nat.reduceLT, Int.reduceLE, Int.reduceLT, Int.reduceEq, Int.reduceMul, Int.reduceToNat, Int.reduceNeg, Int.reduceAdd, Int.reduceSub, Int.natCast_nonneg, Int.toNat_natCast, reduceIte, reduceCtorEq]) | (show RWp _ _ _ _ _; simp only [push_cast, Int.le_refl, Bool.not_not, Option.isSome_some, Option.isSome_none, Bool.true_or, Bool.or_true, Bool.and_self, Bool.false_or, Bool.or_false, Bool.false_and, Bool.and_false, Nat.reduceAdd, Nat.reduceSub, Nat.reduceEqDiff, Nat.reduceLeDiff, Nat.reduceMul, Nat.reduceLT, Int.reduceLE, Int.reduceLT, Int.reduceEq, Int.reduceMul, Int.reduceToNat, Int.reduceNeg, Int.reduceAdd, Int.reduceSub, Int.natCast_nonneg, Int.toNat_natCast, reduceIte, reduceCtorEq])
  all_goals simp only [Bool.not_eq_true', Bool.not_eq_false', eqI_d, decide_eq_true_eq, decide_eq_false_iff_not] at *
  all_goals simp [vX, *]
theorem nd_ext (a b : Nd) : a = b ↔ a.p = b.p ∧ a.c = b.c := by
  obtain ⟨a1, a2⟩ := a
  obtain ⟨b1, b2⟩ := b
  simp
theorem cm_ext (a b : Cm) : a = b ↔ a.p = b.p ∧ a.a = b.a ∧ a.b = b.b := by
  obtain ⟨a1, a2, a3⟩ := a
  obtain ⟨b1, b2, b3⟩ := b
  simp
theorem toNode_pc (n : Nd) : PC Tryd.prog 83 [.agg (ndC n)] (vX (.agg (ndC n))) := by
  have h1 := toContent_pc n.c
  unfold ctA ctC at h1
  unfold ndC
  refine pc_enter Tryd.func83 rfl rfl fun w0 fb => go_on ?_; (try simp only [Tryd.ntmps83, push_cast, Int.le_refl, Bool.not_not, Option.isSome_some, Option.isSome_none, Bool.true_or, Bool.or_true, Bool.and_self, Bool.false_or, Bool.or_false, Bool.false_and, Bool.and_false, Nat.reduceAdd, Nat.reduceSub, Nat.reduceEqDiff, Nat.reduceLeDiff, Nat.reduceMul, Nat.reduceLT, Int.reduceLE, Int.reduceLT, Int.reduceEq, Int.reduceMul, Int.reduceToNat, Int.reduceNeg, Int.reduceAdd, Int.reduceSub, Int.natCast_nonneg, Int.toNat_natCast, reduceIte, reduceCtorEq])
  (refine at_call ?_; (try simp only [push_cast, Int.le_refl, Bool.not_not, Option.isSome_some, Option.isSome_none, Bool.true_or, Bool.or_true, Bool.and_self, Bool.false_or, Bool.or_false, Bool.false_and, Bool.and_false, Nat.reduceAdd, Nat.reduceSub, Nat.reduceEqDiff, Nat.reduceLeDiff, Nat.reduceMul, Nat.reduceLT, Int.reduceLE, Int.reduceLT, Int.reduceEq, Int.reduceMul, Int.reduceToNat, Int.reduceNeg, Int.reduceAdd, Int.reduceSub, Int.natCast_nonneg, Int.toNat_natCast, reduceIte, reduceCtorEq]); refine rwc_d (h1) (by simp [flatV, flatL, ctC, ndC, cmC]) (by simp [ren, ctC, ndC, cmC]) (go_on ?_); (try simp only [push_cast, Int.le_refl, Bool.not_not, Option.isSome_some, Option.isSome_none, Bool.true_or, Bool.or_true, Bool.and_self, Bool.false_or, Bool.or_false, Bool.false_and, Bool.and_false, Nat.reduceAdd, Nat.reduceSub, Nat.reduceEqDiff, Nat.reduceLeDiff, Nat.reduceMul, Nat.reduceLT, Int.reduceLE, Int.reduceLT, Int.reduceEq, Int.reduceMul, Int.reduceToNat, Int.reduceNeg, Int.reduceAdd, Int.reduceSub, Int.natCast_nonneg, Int.toNat_natCast, reduceIte, reduceCtorEq]))
  refine at_ret ?_; simp only [Tryd.results83, push_cast, Int.le_refl, Bool.not_not, Option.isSome_some, Option.isSome_none, Bool.true_or, Bool.or_true, Bool.and_self, Bool.false_or, Bool.or_false, Bool.false_and, Bool.and_false, Nat.reduceAdd, Nat.reduceSub, Nat.reduceEqDiff, Nat.reduceLeDiff, Nat.reduceMul, Nat.reduceLT, Int.reduceLE, Int.reduceLT, Int.reduceEq, Int.reduceMul, Int.reduceToNat, Int.reduceNeg, Int.reduceAdd, Int.reduceSub, Int.natCast_nonneg, Int.toNat_natCast, reduceIte, reduceCtorEq]
  simp [vX]
theorem eqNode_pc (a b : Nd) : PC Tryd.prog 64 [.agg (ndC a), .agg (ndC b)] (vB (decide (a = b))) := by
  have h1 := eqContent_pc a.c b.c
  unfold ctA ctC at h1
  unfold ndC
  refine pc_enter Tryd.func64 rfl rfl fun w0 fb => go_on ?_; (try simp only [Tryd.ntmps64, push_cast, Int.le_refl, Bool.not_not, Option.isSome_some, Option.isSome_none, Bool.true_or, Bool.or_true, Bool.and_self, Bool.false_or, Bool.or_false, Bool.false_and, Bool.and_false, Nat.reduceAdd, Nat.reduceSub, Nat.reduceEqDiff, Nat.reduceLeDiff, Nat.reduceMul, Nat.reduceLT, Int.reduceLE, Int.reduceLT, Int.reduceEq, Int.reduceMul, Int.reduceToNat, Int.reduceNeg, Int.reduceAdd, Int.reduceSub, Int.natCast_nonneg, Int.toNat_natCast, reduceIte, reduceCtorEq])
  repeat' first | (refine at_b (fun hb => ?_) (fun hb => ?_) <;> simp only [hb, push_cast, Int.le_refl, Bool.not_not, Option.isSome_some, Option.isSome_none, Bool.true_or, Bool.or_true, Bool.and_self, Bool.false_or, Bool.or_false, Bool.false_and, Bool.and_false, Nat.reduceAdd, Nat.reduceSub, Nat.reduceEqDiff, Nat.reduceLeDiff, Nat.reduceMul, Nat.reduceLT, Int.reduceLE, Int.reduceLT, Int.reduceEq, Int.reduceMul, Int.reduceToNat, Int.reduceNeg, Int.reduceAdd, Int.reduceSub, Int.natCast_nonneg, Int.toNat_natCast, reduceIte, reduceCtorEq]) | (refine at_ret ?_; simp only [Tryd.results64, push_cast, Int.le_refl, Bool.not_not, Option.isSome_some, Option.isSome_none, Bool.true_or, Bool.or_true, Bool.and_self, Bool.false_or, Bool.or_false, Bool.false_and, Bool.and_false, Nat.reduceAdd, Nat.reduceSub, Nat.reduceEqDiff, Nat.reduceLeDiff, Nat.reduceMul, Nat.reduceLT, Int.reduceLE, Int.reduceLT, Int.reduceEq, Int.reduceMul, Int.reduceToNat, Int.reduceNeg, Int.reduceAdd, Int.reduceSub, Int.natCast_nonneg, Int.toNat_natCast, reduceIte, reduceCtorEq]) | (refine at_call ?_; (try simp only [push_cast, Int.le_refl, Bool.not_not, Option.isSome_some, Option.isSome_none, Bool.true_or, Bool.or_true, Bool.and_self, Bool.false_or, Bool.or_false, Bool.false_and, Bool.and_false, Nat.reduceAdd, Nat.reduceSub, Nat.reduceEqDiff, Nat.reduceLeDiff, Nat.reduceMul, Nat.reduceLT, Int.reduceLE, Int.reduceLT, Int.reduceEq, Int.reduceMul, Int.reduceToNat, Int.reduceNeg, Int.reduceAdd, Int.reduceSub, Int.natCast_nonneg, Int.toNat_natCast, reduceIte, reduceCtorEq]); refine rwc_v (by first | exact h1) (go_on ?_); simp only [push_cast, Int.le_refl, Bool.not_not, Option.isSome_some, Option.isSome_none, Bool.true_or, Bool.or_true, Bool.and_self, Bool.false_or, Bool.or_false, Bool.false_and, Bool.and_false, Nat.reduceAdd, Nat.reduceSub, Nat.reduceEqDiff, Nat.reduceLeDiff, Nat.reduceMul, Nat.reduceLT, Int.reduceLE, Int.reduceLT, Int.reduceEq, Int.reduceMul, Int.reduceToNat, Int.reduceNeg, Int.reduceAdd, Int.reduceSub, Int.natCast_nonneg, Int.toNat_natCast, reduceIte, reduceCtorEq]) | (show RWp _ _ _ _ _; simp only [push_cast, Int.le_refl, Bool.not_not, Option.isSome_some, Option.isSome_none, Bool.true_or, Bool.or_true, Bool.and_self, Bool.false_or, Bool.or_false, Bool.false_and, Bool.and_false, Nat.reduceAdd, Nat.reduceSub, Nat.reduceEqDiff, Nat.reduceLeDiff, Nat.reduceMul, Nat.reduceLT, Int.reduceLE, Int.reduceLT, Int.reduceEq, Int.reduceMul, Int.reduceToNat, Int.reduceNeg, Int.reduceAdd, Int.reduceSub, Int.natCast_nonneg, Int.toNat_natCast, reduceIte, reduceCtorEq])
  all_goals simp only [Bool.not_eq_true', Bool.not_eq_false', decide_eq_true_eq, decide_eq_false_iff_not] at *
  all_goals simp [vX, nd_ext a b, *]
theorem szNode_pc (n : Nd) (left : Int) (h0 : 0 ≤ left) (h1 : left ≤ 1048576) (hp : n.p.length ≤ 9223372036854775807) : PC Tryd.prog 82 [.agg (ndC n), iA left] (vI (sz1 left n.p.length)) := by
  have w1 := wr (left - (n.p.length : Int)) (by omega)
  unfold ndC
  refine pc_enter Tryd.func82 rfl rfl fun w0 fb => go_on ?_; (try simp only [Tryd.ntmps82, push_cast, Int.le_refl, Bool.not_not, Option.isSome_some, Option.isSome_none, Bool.true_or, Bool.or_true, Bool.and_self, Bool.false_or, Bool.or_false, Bool.false_and, Bool.and_false, Nat.reduceAdd, Nat.reduceSub, Nat.reduceEqDiff, Nat.reduceLeDiff, Nat.reduceMul, Nat.reduceLT, Int.reduceLE, Int.reduceLT, Int.reduceEq, Int.reduceMul, Int.reduceToNat, Int.reduceNeg, Int.reduceAdd, Int.reduceSub, Int.natCast_nonneg, Int.toNat_natCast, reduceIte, reduceCtorEq])
  repeat' first | (refine at_b (fun hb => ?_) (fun hb => ?_) <;> simp only [w1, hb, push_cast, Int.le_refl, Bool.not_not, Option.isSome_some, Option.isSome_none, Bool.true_or, Bool.or_true, Bool.and_self, Bool.false_or, Bool.or_false, Bool.false_and, Bool.and_false, Nat.reduceAdd, Nat.reduceSub, Nat.reduceEqDiff, Nat.reduceLeDiff, Nat.reduceMul, Nat.reduceLT, Int.reduceLE, Int.reduceLT, Int.reduceEq, Int.reduceMul, Int.reduceToNat, Int.reduceNeg, Int.reduceAdd, Int.reduceSub, Int.natCast_nonneg, Int.toNat_natCast, reduceIte, reduceCtorEq]) | (refine at_ret ?_; simp only [w1, Tryd.results82, push_cast, Int.le_refl, Bool.not_not, Option.isSome_some, Option.isSome_none, Bool.true_or, Bool.or_true, Bool.and_self, Bool.false_or, Bool.or_false, Bool.false_and, Bool.and_false, Nat.reduceAdd, Nat.reduceSub, Nat.reduceEqDiff, Nat.reduceLeDiff, Nat.reduceMul, Nat.reduceLT, Int.reduceLE, Int.reduceLT, Int.reduceEq, Int.reduceMul, Int.reduceToNat, Int.reduceNeg, Int.reduceAdd, Int.reduceSub, Int.natCast_nonneg, Int.toNat_natCast, reduceIte, reduceCtorEq]) | (show RWp _ _ _ _ _; simp only [w1, push_cast, Int.le_refl, Bool.not_not, Option.isSome_some, Option.isSome_none, Bool.true_or, Bool.or_true, Bool.and_self, Bool.false_or, Bool.or_false, Bool.false_and, Bool.and_false, Nat.reduceAdd, Nat.reduceSub, Nat.reduceEqDiff, Nat.reduceLeDiff, Nat.reduceMul, Nat.reduceLT, Int.reduceLE, Int.reduceLT, Int.reduceEq, Int.reduceMul, Int.reduceToNat, Int.reduceNeg, Int.reduceAdd, Int.reduceSub, Int.natCast_nonneg, Int.toNat_natCast, reduceIte, reduceCtorEq])
  · have := of_ltI_t hb; rw [w1] at this; simp [vX, sz1, this]
  · have := of_ltI_f hb; rw [w1] at this; simp [vX, sz1]; omega
theorem szNodeS_pc (l : List Nd) (left : Int) (h0 : 0 ≤ left) (h1 : left ≤ 1048576) (hl : l.length ≤ 9223372036854775807) (hp : ∀ n ∈ l, n.p.length ≤ 9223372036854775807) :
    PC Tryd.prog 51 [.sl 3 (l.map ndC), iA left] (vI (szS left (l.map fun n => n.p.length))) := by
  have w1 := wr (left - (l.length : Int)) (by omega)
  refine pc_enter Tryd.func51 rfl rfl fun w0 fb => go_on ?_; (try simp only [Tryd.ntmps51, push_cast, Int.le_refl, Bool.not_not, Option.isSome_some, Option.isSome_none, Bool.true_or, Bool.or_true, Bool.and_self, Bool.false_or, Bool.or_false, Bool.false_and, Bool.and_false, Nat.reduceAdd, Nat.reduceSub, Nat.reduceEqDiff, Nat.reduceLeDiff, Nat.reduceMul, Nat.reduceLT, Int.reduceLE, Int.reduceLT, Int.reduceEq, Int.reduceMul, Int.reduceToNat, Int.reduceNeg, Int.reduceAdd, Int.reduceSub, Int.natCast_nonneg, Int.toNat_natCast, reduceIte, reduceCtorEq])
  (try simp only [w1, push_cast, Int.le_refl, Bool.not_not, Option.isSome_some, Option.isSome_none, Bool.true_or, Bool.or_true, Bool.and_self, Bool.false_or, Bool.or_false, Bool.false_and, Bool.and_false, Nat.reduceAdd, Nat.reduceSub, Nat.reduceEqDiff, Nat.reduceLeDiff, Nat.reduceMul, Nat.reduceLT, Int.reduceLE, Int.reduceLT, Int.reduceEq, Int.reduceMul, Int.reduceToNat, Int.reduceNeg, Int.reduceAdd, Int.reduceSub, Int.natCast_nonneg, Int.toNat_natCast, reduceIte, reduceCtorEq])
  refine at_b (fun hb => ?_) (fun hb => ?_)
  · have := of_ltI_t hb
    (try simp only [hb, push_cast, Int.le_refl, Bool.not_not, Option.isSome_some, Option.isSome_none, Bool.true_or, Bool.or_true, Bool.and_self, Bool.false_or, Bool.or_false, Bool.false_and, Bool.and_false, Nat.reduceAdd, Nat.reduceSub, Nat.reduceEqDiff, Nat.reduceLeDiff, Nat.reduceMul, Nat.reduceLT, Int.reduceLE, Int.reduceLT, Int.reduceEq, Int.reduceMul, Int.reduceToNat, Int.reduceNeg, Int.reduceAdd, Int.reduceSub, Int.natCast_nonneg, Int.toNat_natCast, reduceIte, reduceCtorEq])
    refine at_ret ?_; simp only [Tryd.results51, push_cast, Int.le_refl, Bool.not_not, Option.isSome_some, Option.isSome_none, Bool.true_or, Bool.or_true, Bool.and_self, Bool.false_or, Bool.or_false, Bool.false_and, Bool.and_false, Nat.reduceAdd, Nat.reduceSub, Nat.reduceEqDiff, Nat.reduceLeDiff, Nat.reduceMul, Nat.reduceLT, Int.reduceLE, Int.reduceLT, Int.reduceEq, Int.reduceMul, Int.reduceToNat, Int.reduceNeg, Int.reduceAdd, Int.reduceSub, Int.natCast_nonneg, Int.toNat_natCast, reduceIte, reduceCtorEq]
    simp [vX, szS, this]
  · have h2 := of_ltI_f hb
    have e : szS left (l.map fun n => n.p.length) = szF (left - l.length) (l.map fun n => n.p.length) := by unfold szS; rw [if_neg (by simp; omega), List.length_map]
    rw [e]
    (try simp only [hb, push_cast, Int.le_refl, Bool.not_not, Option.isSome_some, Option.isSome_none, Bool.true_or, Bool.or_true, Bool.and_self, Bool.false_or, Bool.or_false, Bool.false_and, Bool.and_false, Nat.reduceAdd, Nat.reduceSub, Nat.reduceEqDiff, Nat.reduceLeDiff, Nat.reduceMul, Nat.reduceLT, Int.reduceLE, Int.reduceLT, Int.reduceEq, Int.reduceMul, Int.reduceToNat, Int.reduceNeg, Int.reduceAdd, Int.reduceSub, Int.natCast_nonneg, Int.toNat_natCast, reduceIte, reduceCtorEq])
    refine at_loop (X := Nat × Int) (fun x => [(1, iA x.2), (5, iA x.1)]) (fun _ => []) (fun x => x.1 ≤ l.length ∧ 0 ≤ x.2 ∧ x.2 ≤ 1048576 ∧ szF (left - l.length) (l.map fun n => n.p.length) = szF x.2 ((l.drop x.1).map fun n => n.p.length)) (fun x => l.length - x.1) (0, left - l.length) ⟨Nat.zero_le _, h2, by dsimp only; omega, rfl⟩ ?_ ?_
    · (refine wk_ok ?_ ?_ ?_ ?_ <;> simp [leL, leH, idsL, idsA, idsR, inH, hget, sameRow, upA, hvA, dsts, dstO, setA_0, setA_1, setA_8, List.append, List.cons_append, List.nil_append])
    · rintro ⟨k, r⟩ ⟨q1, q2, q3, q4⟩
      simp only at q1 q2 q3 q4
      simp only [upA, hvA, dsts, dstO, setA_0, setA_1, setA_8, List.append, List.cons_append, List.nil_append]
      refine go_on ?_
      (try simp only [push_cast, Int.le_refl, Bool.not_not, Option.isSome_some, Option.isSome_none, Bool.true_or, Bool.or_true, Bool.and_self, Bool.false_or, Bool.or_false, Bool.false_and, Bool.and_false, Nat.reduceAdd, Nat.reduceSub, Nat.reduceEqDiff, Nat.reduceLeDiff, Nat.reduceMul, Nat.reduceLT, Int.reduceLE, Int.reduceLT, Int.reduceEq, Int.reduceMul, Int.reduceToNat, Int.reduceNeg, Int.reduceAdd, Int.reduceSub, Int.natCast_nonneg, Int.toNat_natCast, reduceIte, reduceCtorEq])
      refine at_b (fun hg => ?_) (fun hg => ?_)
      · have hlt := lt_tt hg
        obtain ⟨x, hk⟩ := get_of_lt hlt
        have i1 := ix_n hk
        have i2 := map_get ndC hk
        have hS := szNode_pc x r q2 q3 (hp x (mem_of_get hk))
        simp only [ndC] at i2 hS
        rw [drop_of_get hk, List.map_cons, szF] at q4
        have w2 := wr ((k : Int) + 1) (by omega)
        (try simp only [hg, i1, i2, push_cast, Int.le_refl, Bool.not_not, Option.isSome_some, Option.isSome_none, Bool.true_or, Bool.or_true, Bool.and_self, Bool.false_or, Bool.or_false, Bool.false_and, Bool.and_false, Nat.reduceAdd, Nat.reduceSub, Nat.reduceEqDiff, Nat.reduceLeDiff, Nat.reduceMul, Nat.reduceLT, Int.reduceLE, Int.reduceLT, Int.reduceEq, Int.reduceMul, Int.reduceToNat, Int.reduceNeg, Int.reduceAdd, Int.reduceSub, Int.natCast_nonneg, Int.toNat_natCast, reduceIte, reduceCtorEq])
        (refine at_call ?_; (try simp only [push_cast, Int.le_refl, Bool.not_not, Option.isSome_some, Option.isSome_none, Bool.true_or, Bool.or_true, Bool.and_self, Bool.false_or, Bool.or_false, Bool.false_and, Bool.and_false, Nat.reduceAdd, Nat.reduceSub, Nat.reduceEqDiff, Nat.reduceLeDiff, Nat.reduceMul, Nat.reduceLT, Int.reduceLE, Int.reduceLT, Int.reduceEq, Int.reduceMul, Int.reduceToNat, Int.reduceNeg, Int.reduceAdd, Int.reduceSub, Int.natCast_nonneg, Int.toNat_natCast, reduceIte, reduceCtorEq]); refine rwc_v (hS) (go_on ?_); (try simp only [push_cast, Int.le_refl, Bool.not_not, Option.isSome_some, Option.isSome_none, Bool.true_or, Bool.or_true, Bool.and_self, Bool.false_or, Bool.or_false, Bool.false_and, Bool.and_false, Nat.reduceAdd, Nat.reduceSub, Nat.reduceEqDiff, Nat.reduceLeDiff, Nat.reduceMul, Nat.reduceLT, Int.reduceLE, Int.reduceLT, Int.reduceEq, Int.reduceMul, Int.reduceToNat, Int.reduceNeg, Int.reduceAdd, Int.reduceSub, Int.natCast_nonneg, Int.toNat_natCast, reduceIte, reduceCtorEq]))
        by_cases hz : r - (x.p.length : Int) < 0
        · have e2 : sz1 r x.p.length = -1 := by unfold sz1; rw [if_pos hz]
          rw [e2]
          (try simp only [show ltI (-1) 0 = true from rfl, push_cast, Int.le_refl, Bool.not_not, Option.isSome_some, Option.isSome_none, Bool.true_or, Bool.or_true, Bool.and_self, Bool.false_or, Bool.or_false, Bool.false_and, Bool.and_false, Nat.reduceAdd, Nat.reduceSub, Nat.reduceEqDiff, Nat.reduceLeDiff, Nat.reduceMul, Nat.reduceLT, Int.reduceLE, Int.reduceLT, Int.reduceEq, Int.reduceMul, Int.reduceToNat, Int.reduceNeg, Int.reduceAdd, Int.reduceSub, Int.natCast_nonneg, Int.toNat_natCast, reduceIte, reduceCtorEq])
          refine at_ret ?_; simp only [Tryd.results51, push_cast, Int.le_refl, Bool.not_not, Option.isSome_some, Option.isSome_none, Bool.true_or, Bool.or_true, Bool.and_self, Bool.false_or, Bool.or_false, Bool.false_and, Bool.and_false, Nat.reduceAdd, Nat.reduceSub, Nat.reduceEqDiff, Nat.reduceLeDiff, Nat.reduceMul, Nat.reduceLT, Int.reduceLE, Int.reduceLT, Int.reduceEq, Int.reduceMul, Int.reduceToNat, Int.reduceNeg, Int.reduceAdd, Int.reduceSub, Int.natCast_nonneg, Int.toNat_natCast, reduceIte, reduceCtorEq]
          rw [if_pos hz] at q4
          simp [vX, q4]
        · have e2 : sz1 r x.p.length = r - x.p.length := by unfold sz1; rw [if_neg hz]
          have e3 : ltI (r - (x.p.length : Int)) 0 = false := ltI_f (by omega)
          rw [e2]
          (try simp only [e3, w2, push_cast, Int.le_refl, Bool.not_not, Option.isSome_some, Option.isSome_none, Bool.true_or, Bool.or_true, Bool.and_self, Bool.false_or, Bool.or_false, Bool.false_and, Bool.and_false, Nat.reduceAdd, Nat.reduceSub, Nat.reduceEqDiff, Nat.reduceLeDiff, Nat.reduceMul, Nat.reduceLT, Int.reduceLE, Int.reduceLT, Int.reduceEq, Int.reduceMul, Int.reduceToNat, Int.reduceNeg, Int.reduceAdd, Int.reduceSub, Int.natCast_nonneg, Int.toNat_natCast, reduceIte, reduceCtorEq])
          rw [if_neg hz] at q4
          refine at_fin ⟨(k + 1, r - x.p.length), ⟨by dsimp only; omega, by dsimp only; omega, by dsimp only; omega, q4⟩, by dsimp only; omega, ?_⟩
          (refine wk_ok ?_ ?_ ?_ ?_ <;> simp [leL, leH, idsL, idsA, idsR, inH, hget, sameRow, upA, hvA, dsts, dstO, setA_0, setA_1, setA_8, List.append, List.cons_append, List.nil_append])
      · have h3 := lt_ff hg
        rw [List.drop_of_length_le h3] at q4
        (try simp only [hg, push_cast, Int.le_refl, Bool.not_not, Option.isSome_some, Option.isSome_none, Bool.true_or, Bool.or_true, Bool.and_self, Bool.false_or, Bool.or_false, Bool.false_and, Bool.and_false, Nat.reduceAdd, Nat.reduceSub, Nat.reduceEqDiff, Nat.reduceLeDiff, Nat.reduceMul, Nat.reduceLT, Int.reduceLE, Int.reduceLT, Int.reduceEq, Int.reduceMul, Int.reduceToNat, Int.reduceNeg, Int.reduceAdd, Int.reduceSub, Int.natCast_nonneg, Int.toNat_natCast, reduceIte, reduceCtorEq])
        refine at_ret ?_; simp only [Tryd.results51, push_cast, Int.le_refl, Bool.not_not, Option.isSome_some, Option.isSome_none, Bool.true_or, Bool.or_true, Bool.and_self, Bool.false_or, Bool.or_false, Bool.false_and, Bool.and_false, Nat.reduceAdd, Nat.reduceSub, Nat.reduceEqDiff, Nat.reduceLeDiff, Nat.reduceMul, Nat.reduceLT, Int.reduceLE, Int.reduceLT, Int.reduceEq, Int.reduceMul, Int.reduceToNat, Int.reduceNeg, Int.reduceAdd, Int.reduceSub, Int.natCast_nonneg, Int.toNat_natCast, reduceIte, reduceCtorEq]
        simp [vX, q4, szF]
theorem toNodeS_pc (l : List Nd) (hl : l.length ≤ 1048576) : PC Tryd.prog 53 [.sl 3 (l.map ndC)] (rX (.o 0 l.length) [rowN l]) := by
  refine pc_enter Tryd.func53 rfl rfl fun w0 fb => go_on ?_; (try simp only [Tryd.ntmps53, push_cast, Int.le_refl, Bool.not_not, Option.isSome_some, Option.isSome_none, Bool.true_or, Bool.or_true, Bool.and_self, Bool.false_or, Bool.or_false, Bool.false_and, Bool.and_false, Nat.reduceAdd, Nat.reduceSub, Nat.reduceEqDiff, Nat.reduceLeDiff, Nat.reduceMul, Nat.reduceLT, Int.reduceLE, Int.reduceLT, Int.reduceEq, Int.reduceMul, Int.reduceToNat, Int.reduceNeg, Int.reduceAdd, Int.reduceSub, Int.natCast_nonneg, Int.toNat_natCast, reduceIte, reduceCtorEq])
  refine at_chk ⟨by omega, by omega⟩ ?_
  refine at_loop (X := Nat) (fun k => [(4, iA k)]) (fun k => [(2, rowN []), (7, ⟨70, 3, (l.take k).map ndC ++ List.replicate (l.length - k) [AV.v (Value.string ⟨#[]⟩), iA 0, iA 0], true⟩)]) (fun k => k ≤ l.length) (fun k => l.length - k) 0 (Nat.zero_le _) ?_ ?_
  · (refine wk_ok ?_ ?_ ?_ ?_ <;> simp [leL, leH, idsL, idsA, idsR, inH, hget, sameRow, upA, hvA, dsts, dstO, setA_0, setA_1, setA_8, List.append, List.cons_append, List.nil_append])
  · intro k h1
    simp only [upA, hvA, dsts, dstO, setA_0, setA_1, setA_8, List.append, List.cons_append, List.nil_append]
    refine go_on ?_
    (try simp only [push_cast, Int.le_refl, Bool.not_not, Option.isSome_some, Option.isSome_none, Bool.true_or, Bool.or_true, Bool.and_self, Bool.false_or, Bool.or_false, Bool.false_and, Bool.and_false, Nat.reduceAdd, Nat.reduceSub, Nat.reduceEqDiff, Nat.reduceLeDiff, Nat.reduceMul, Nat.reduceLT, Int.reduceLE, Int.reduceLT, Int.reduceEq, Int.reduceMul, Int.reduceToNat, Int.reduceNeg, Int.reduceAdd, Int.reduceSub, Int.natCast_nonneg, Int.toNat_natCast, reduceIte, reduceCtorEq])
    refine at_b (fun hg => ?_) (fun hg => ?_)
    · have hlt := lt_tt hg
      obtain ⟨x, hk⟩ := get_of_lt hlt
      have i1 := ix_n hk
      have i2 := map_get ndC hk
      have hT := toNode_pc x
      simp only [ndC] at i2 hT
      have w2 := wr ((k : Int) + 1) (by omega)
      obtain ⟨es, hes⟩ : ∃ es, es = (l.take k).map ndC ++ List.replicate (l.length - k) [AV.v (Value.string ⟨#[]⟩), iA 0, iA 0] := ⟨_, rfl⟩
      have hlen : ((l.take k).map ndC).length = k := by rw [List.length_map, List.length_take]; omega
      have i3 : es[k]? = some [AV.v (Value.string ⟨#[]⟩), iA 0, iA 0] := by rw [hes, List.getElem?_append_right (by omega), hlen, Nat.sub_self, List.getElem?_replicate, if_pos (by omega)]
      have hset : es.set k [sA x.p, iA x.c.k, iA x.c.v] = (l.take (k + 1)).map ndC ++ List.replicate (l.length - (k + 1)) [AV.v (Value.string ⟨#[]⟩), iA 0, iA 0] := by
        rw [hes, List.set_append_right _ _ (by omega), hlen, Nat.sub_self, List.take_add_one, hk, show l.length - k = (l.length - (k + 1)) + 1 by omega, List.replicate_succ, List.set_cons_zero]
        simp [ndC]
      rw [← hes]
      (try simp only [hg, i1, i2, push_cast, Int.le_refl, Bool.not_not, Option.isSome_some, Option.isSome_none, Bool.true_or, Bool.or_true, Bool.and_self, Bool.false_or, Bool.or_false, Bool.false_and, Bool.and_false, Nat.reduceAdd, Nat.reduceSub, Nat.reduceEqDiff, Nat.reduceLeDiff, Nat.reduceMul, Nat.reduceLT, Int.reduceLE, Int.reduceLT, Int.reduceEq, Int.reduceMul, Int.reduceToNat, Int.reduceNeg, Int.reduceAdd, Int.reduceSub, Int.natCast_nonneg, Int.toNat_natCast, reduceIte, reduceCtorEq])
      (refine at_call ?_; (try simp only [push_cast, Int.le_refl, Bool.not_not, Option.isSome_some, Option.isSome_none, Bool.true_or, Bool.or_true, Bool.and_self, Bool.false_or, Bool.or_false, Bool.false_and, Bool.and_false, Nat.reduceAdd, Nat.reduceSub, Nat.reduceEqDiff, Nat.reduceLeDiff, Nat.reduceMul, Nat.reduceLT, Int.reduceLE, Int.reduceLT, Int.reduceEq, Int.reduceMul, Int.reduceToNat, Int.reduceNeg, Int.reduceAdd, Int.reduceSub, Int.natCast_nonneg, Int.toNat_natCast, reduceIte, reduceCtorEq]); refine rwc_d (hT) (by simp [flatV, flatL, ctC, ndC, cmC]) (by simp [ren, ctC, ndC, cmC]) (go_on ?_); (try simp only [push_cast, Int.le_refl, Bool.not_not, Option.isSome_some, Option.isSome_none, Bool.true_or, Bool.or_true, Bool.and_self, Bool.false_or, Bool.or_false, Bool.false_and, Bool.and_false, Nat.reduceAdd, Nat.reduceSub, Nat.reduceEqDiff, Nat.reduceLeDiff, Nat.reduceMul, Nat.reduceLT, Int.reduceLE, Int.reduceLT, Int.reduceEq, Int.reduceMul, Int.reduceToNat, Int.reduceNeg, Int.reduceAdd, Int.reduceSub, Int.natCast_nonneg, Int.toNat_natCast, reduceIte, reduceCtorEq]))
      (try simp only [i1, i3, List.length_replicate, w2, push_cast, Int.le_refl, Bool.not_not, Option.isSome_some, Option.isSome_none, Bool.true_or, Bool.or_true, Bool.and_self, Bool.false_or, Bool.or_false, Bool.false_and, Bool.and_false, Nat.reduceAdd, Nat.reduceSub, Nat.reduceEqDiff, Nat.reduceLeDiff, Nat.reduceMul, Nat.reduceLT, Int.reduceLE, Int.reduceLT, Int.reduceEq, Int.reduceMul, Int.reduceToNat, Int.reduceNeg, Int.reduceAdd, Int.reduceSub, Int.natCast_nonneg, Int.toNat_natCast, reduceIte, reduceCtorEq])
      refine at_fin ⟨k + 1, by omega, by omega, ?_⟩
      rw [hset]
      (refine wk_ok ?_ ?_ ?_ ?_ <;> simp [leL, leH, idsL, idsA, idsR, inH, hget, sameRow, upA, hvA, dsts, dstO, setA_0, setA_1, setA_8, List.append, List.cons_append, List.nil_append])
    · have h3 := lt_ff hg
      have hk : k = l.length := by omega
      subst hk
      (try simp only [hg, push_cast, Int.le_refl, Bool.not_not, Option.isSome_some, Option.isSome_none, Bool.true_or, Bool.or_true, Bool.and_self, Bool.false_or, Bool.or_false, Bool.false_and, Bool.and_false, Nat.reduceAdd, Nat.reduceSub, Nat.reduceEqDiff, Nat.reduceLeDiff, Nat.reduceMul, Nat.reduceLT, Int.reduceLE, Int.reduceLT, Int.reduceEq, Int.reduceMul, Int.reduceToNat, Int.reduceNeg, Int.reduceAdd, Int.reduceSub, Int.natCast_nonneg, Int.toNat_natCast, reduceIte, reduceCtorEq])
      refine at_ret ?_; simp only [Tryd.results53, push_cast, Int.le_refl, Bool.not_not, Option.isSome_some, Option.isSome_none, Bool.true_or, Bool.or_true, Bool.and_self, Bool.false_or, Bool.or_false, Bool.false_and, Bool.and_false, Nat.reduceAdd, Nat.reduceSub, Nat.reduceEqDiff, Nat.reduceLeDiff, Nat.reduceMul, Nat.reduceLT, Int.reduceLE, Int.reduceLT, Int.reduceEq, Int.reduceMul, Int.reduceToNat, Int.reduceNeg, Int.reduceAdd, Int.reduceSub, Int.natCast_nonneg, Int.toNat_natCast, reduceIte, reduceCtorEq]
      simp [rX, ixOf]
theorem eqNodeS_pc (a b : List Nd) (hl : a.length < 4294967281) : PC Tryd.prog 28 [.sl 3 (a.map ndC), .sl 3 (b.map ndC)] (vB (decide (a = b))) := by
  refine pc_enter Tryd.func28 rfl rfl fun w0 fb => go_on ?_; (try simp only [Tryd.ntmps28, push_cast, Int.le_refl, Bool.not_not, Option.isSome_some, Option.isSome_none, Bool.true_or, Bool.or_true, Bool.and_self, Bool.false_or, Bool.or_false, Bool.false_and, Bool.and_false, Nat.reduceAdd, Nat.reduceSub, Nat.reduceEqDiff, Nat.reduceLeDiff, Nat.reduceMul, Nat.reduceLT, Int.reduceLE, Int.reduceLT, Int.reduceEq, Int.reduceMul, Int.reduceToNat, Int.reduceNeg, Int.reduceAdd, Int.reduceSub, Int.natCast_nonneg, Int.toNat_natCast, reduceIte, reduceCtorEq])
  refine at_b (fun hb => ?_) (fun hb => ?_)
  · have h1 := of_eqI_f (not_t hb)
    have h2 : a ≠ b := by rintro rfl; exact h1 rfl
    (try simp only [hb, push_cast, Int.le_refl, Bool.not_not, Option.isSome_some, Option.isSome_none, Bool.true_or, Bool.or_true, Bool.and_self, Bool.false_or, Bool.or_false, Bool.false_and, Bool.and_false, Nat.reduceAdd, Nat.reduceSub, Nat.reduceEqDiff, Nat.reduceLeDiff, Nat.reduceMul, Nat.reduceLT, Int.reduceLE, Int.reduceLT, Int.reduceEq, Int.reduceMul, Int.reduceToNat, Int.reduceNeg, Int.reduceAdd, Int.reduceSub, Int.natCast_nonneg, Int.toNat_natCast, reduceIte, reduceCtorEq])
    refine at_ret ?_; simp only [Tryd.results28, push_cast, Int.le_refl, Bool.not_not, Option.isSome_some, Option.isSome_none, Bool.true_or, Bool.or_true, Bool.and_self, Bool.false_or, Bool.or_false, Bool.false_and, Bool.and_false, Nat.reduceAdd, Nat.reduceSub, Nat.reduceEqDiff, Nat.reduceLeDiff, Nat.reduceMul, Nat.reduceLT, Int.reduceLE, Int.reduceLT, Int.reduceEq, Int.reduceMul, Int.reduceToNat, Int.reduceNeg, Int.reduceAdd, Int.reduceSub, Int.natCast_nonneg, Int.toNat_natCast, reduceIte, reduceCtorEq]
    simp [vX, h2]
  · have h1 : a.length = b.length := by have := of_eqI_t (not_f hb); omega
    (try simp only [hb, push_cast, Int.le_refl, Bool.not_not, Option.isSome_some, Option.isSome_none, Bool.true_or, Bool.or_true, Bool.and_self, Bool.false_or, Bool.or_false, Bool.false_and, Bool.and_false, Nat.reduceAdd, Nat.reduceSub, Nat.reduceEqDiff, Nat.reduceLeDiff, Nat.reduceMul, Nat.reduceLT, Int.reduceLE, Int.reduceLT, Int.reduceEq, Int.reduceMul, Int.reduceToNat, Int.reduceNeg, Int.reduceAdd, Int.reduceSub, Int.natCast_nonneg, Int.toNat_natCast, reduceIte, reduceCtorEq])
    refine at_loop (X := Nat) (fun k => [(5, iA k)]) (fun _ => []) (fun k => k ≤ a.length ∧ decide (a = b) = decide (a.drop k = b.drop k)) (fun k => a.length - k) 0 ⟨Nat.zero_le _, rfl⟩ ?_ ?_
    · (refine wk_ok ?_ ?_ ?_ ?_ <;> simp [leL, leH, idsL, idsA, idsR, inH, hget, sameRow, upA, hvA, dsts, dstO, setA_0, setA_1, setA_8, List.append, List.cons_append, List.nil_append])
    · rintro k ⟨q1, q2⟩
      simp only [upA, hvA, dsts, dstO, setA_0, setA_1, setA_8, List.append, List.cons_append, List.nil_append]
      refine go_on ?_
      (try simp only [push_cast, Int.le_refl, Bool.not_not, Option.isSome_some, Option.isSome_none, Bool.true_or, Bool.or_true, Bool.and_self, Bool.false_or, Bool.or_false, Bool.false_and, Bool.and_false, Nat.reduceAdd, Nat.reduceSub, Nat.reduceEqDiff, Nat.reduceLeDiff, Nat.reduceMul, Nat.reduceLT, Int.reduceLE, Int.reduceLT, Int.reduceEq, Int.reduceMul, Int.reduceToNat, Int.reduceNeg, Int.reduceAdd, Int.reduceSub, Int.natCast_nonneg, Int.toNat_natCast, reduceIte, reduceCtorEq])
      refine at_b (fun hg => ?_) (fun hg => ?_)
      · have hlt := lt_tt hg
        obtain ⟨x, hx⟩ := get_of_lt hlt
        obtain ⟨y, hy⟩ := get_of_lt (l := b) (k := k) (by omega)
        have i1 := ix_n hx
        have i3 := ix_n hy
        have i2 := map_get ndC hx
        have i4 := map_get ndC hy
        have hE := eqNode_pc x y
        simp only [ndC] at i2 i4 hE
        rw [drop_of_get hx, drop_of_get hy] at q2
        have w2 := wr ((k : Int) + 1) (by omega)
        (try simp only [hg, push_cast, Int.le_refl, Bool.not_not, Option.isSome_some, Option.isSome_none, Bool.true_or, Bool.or_true, Bool.and_self, Bool.false_or, Bool.or_false, Bool.false_and, Bool.and_false, Nat.reduceAdd, Nat.reduceSub, Nat.reduceEqDiff, Nat.reduceLeDiff, Nat.reduceMul, Nat.reduceLT, Int.reduceLE, Int.reduceLT, Int.reduceEq, Int.reduceMul, Int.reduceToNat, Int.reduceNeg, Int.reduceAdd, Int.reduceSub, Int.natCast_nonneg, Int.toNat_natCast, reduceIte, reduceCtorEq])
        refine at_draw rfl (by kernel_rfl) ?_
        (try simp only [i1, i2, i3, i4, push_cast, Int.le_refl, Bool.not_not, Option.isSome_some, Option.isSome_none, Bool.true_or, Bool.or_true, Bool.and_self, Bool.false_or, Bool.or_false, Bool.false_and, Bool.and_false, Nat.reduceAdd, Nat.reduceSub, Nat.reduceEqDiff, Nat.reduceLeDiff, Nat.reduceMul, Nat.reduceLT, Int.reduceLE, Int.reduceLT, Int.reduceEq, Int.reduceMul, Int.reduceToNat, Int.reduceNeg, Int.reduceAdd, Int.reduceSub, Int.natCast_nonneg, Int.toNat_natCast, reduceIte, reduceCtorEq])
        repeat' first | (refine at_bWn (fun hb => ?_) (fun hb => ?_) <;> simp only [i1, i2, i3, i4, hb, push_cast, Int.le_refl, Bool.not_not, Option.isSome_some, Option.isSome_none, Bool.true_or, Bool.or_true, Bool.and_self, Bool.false_or, Bool.or_false, Bool.false_and, Bool.and_false, Nat.reduceAdd, Nat.reduceSub, Nat.reduceEqDiff, Nat.reduceLeDiff, Nat.reduceMul, Nat.reduceLT, Int.reduceLE, Int.reduceLT, Int.reduceEq, Int.reduceMul, Int.reduceToNat, Int.reduceNeg, Int.reduceAdd, Int.reduceSub, Int.natCast_nonneg, Int.toNat_natCast, reduceIte, reduceCtorEq]) | (refine at_bW (fun hb => ?_) (fun hb => ?_) <;> simp only [i1, i2, i3, i4, hb, push_cast, Int.le_refl, Bool.not_not, Option.isSome_some, Option.isSome_none, Bool.true_or, Bool.or_true, Bool.and_self, Bool.false_or, Bool.or_false, Bool.false_and, Bool.and_false, Nat.reduceAdd, Nat.reduceSub, Nat.reduceEqDiff, Nat.reduceLeDiff, Nat.reduceMul, Nat.reduceLT, Int.reduceLE, Int.reduceLT, Int.reduceEq, Int.reduceMul, Int.reduceToNat, Int.reduceNeg, Int.reduceAdd, Int.reduceSub, Int.natCast_nonneg, Int.toNat_natCast, reduceIte, reduceCtorEq]) | (refine at_callD (by simp [clB, idsL, idsA, hget]) ?_; (try simp only [push_cast, Int.le_refl, Bool.not_not, Option.isSome_some, Option.isSome_none, Bool.true_or, Bool.or_true, Bool.and_self, Bool.false_or, Bool.or_false, Bool.false_and, Bool.and_false, Nat.reduceAdd, Nat.reduceSub, Nat.reduceEqDiff, Nat.reduceLeDiff, Nat.reduceMul, Nat.reduceLT, Int.reduceLE, Int.reduceLT, Int.reduceEq, Int.reduceMul, Int.reduceToNat, Int.reduceNeg, Int.reduceAdd, Int.reduceSub, Int.natCast_nonneg, Int.toNat_natCast, reduceIte, reduceCtorEq]); first | (refine rcd_v (hE) ?_; simp only [i1, i2, i3, i4, push_cast, Int.le_refl, Bool.not_not, Option.isSome_some, Option.isSome_none, Bool.true_or, Bool.or_true, Bool.and_self, Bool.false_or, Bool.or_false, Bool.false_and, Bool.and_false, Nat.reduceAdd, Nat.reduceSub, Nat.reduceEqDiff, Nat.reduceLeDiff, Nat.reduceMul, Nat.reduceLT, Int.reduceLE, Int.reduceLT, Int.reduceEq, Int.reduceMul, Int.reduceToNat, Int.reduceNeg, Int.reduceAdd, Int.reduceSub, Int.natCast_nonneg, Int.toNat_natCast, reduceIte, reduceCtorEq]) | (refine rcd_d (hE) (by simp [flatV, flatL, ctC, ndC, cmC]) (by simp [ren, ctC, ndC, cmC]) ?_; simp only [i1, i2, i3, i4, push_cast, Int.le_refl, Bool.not_not, Option.isSome_some, Option.isSome_none, Bool.true_or, Bool.or_true, Bool.and_self, Bool.false_or, Bool.or_false, Bool.false_and, Bool.and_false, Nat.reduceAdd, Nat.reduceSub, Nat.reduceEqDiff, Nat.reduceLeDiff, Nat.reduceMul, Nat.reduceLT, Int.reduceLE, Int.reduceLT, Int.reduceEq, Int.reduceMul, Int.reduceToNat, Int.reduceNeg, Int.reduceAdd, Int.reduceSub, Int.natCast_nonneg, Int.toNat_natCast, reduceIte, reduceCtorEq])) | (refine at_done (by kernel_rfl) (by kernel_rfl) (go_on ?_); (try simp only [i1, i2, i3, i4, push_cast, Int.le_refl, Bool.not_not, Option.isSome_some, Option.isSome_none, Bool.true_or, Bool.or_true, Bool.and_self, Bool.false_or, Bool.or_false, Bool.false_and, Bool.and_false, Nat.reduceAdd, Nat.reduceSub, Nat.reduceEqDiff, Nat.reduceLeDiff, Nat.reduceMul, Nat.reduceLT, Int.reduceLE, Int.reduceLT, Int.reduceEq, Int.reduceMul, Int.reduceToNat, Int.reduceNeg, Int.reduceAdd, Int.reduceSub, Int.natCast_nonneg, Int.toNat_natCast, reduceIte, reduceCtorEq]))
        refine at_b (fun hn => ?_) (fun hn => ?_)
        · (try simp only [hn, push_cast, Int.le_refl, Bool.not_not, Option.isSome_some, Option.isSome_none, Bool.true_or, Bool.or_true, Bool.and_self, Bool.false_or, Bool.or_false, Bool.false_and, Bool.and_false, Nat.reduceAdd, Nat.reduceSub, Nat.reduceEqDiff, Nat.reduceLeDiff, Nat.reduceMul, Nat.reduceLT, Int.reduceLE, Int.reduceLT, Int.reduceEq, Int.reduceMul, Int.reduceToNat, Int.reduceNeg, Int.reduceAdd, Int.reduceSub, Int.natCast_nonneg, Int.toNat_natCast, reduceIte, reduceCtorEq])
          refine at_ret ?_; simp only [Tryd.results28, push_cast, Int.le_refl, Bool.not_not, Option.isSome_some, Option.isSome_none, Bool.true_or, Bool.or_true, Bool.and_self, Bool.false_or, Bool.or_false, Bool.false_and, Bool.and_false, Nat.reduceAdd, Nat.reduceSub, Nat.reduceEqDiff, Nat.reduceLeDiff, Nat.reduceMul, Nat.reduceLT, Int.reduceLE, Int.reduceLT, Int.reduceEq, Int.reduceMul, Int.reduceToNat, Int.reduceNeg, Int.reduceAdd, Int.reduceSub, Int.natCast_nonneg, Int.toNat_natCast, reduceIte, reduceCtorEq]
          have := not_t hn
          simp only [decide_eq_false_iff_not] at this
          simp [vX, q2, this]
        · have hn' := not_f hn
          simp only [decide_eq_true_eq] at hn'
          (try simp only [hn, w2, push_cast, Int.le_refl, Bool.not_not, Option.isSome_some, Option.isSome_none, Bool.true_or, Bool.or_true, Bool.and_self, Bool.false_or, Bool.or_false, Bool.false_and, Bool.and_false, Nat.reduceAdd, Nat.reduceSub, Nat.reduceEqDiff, Nat.reduceLeDiff, Nat.reduceMul, Nat.reduceLT, Int.reduceLE, Int.reduceLT, Int.reduceEq, Int.reduceMul, Int.reduceToNat, Int.reduceNeg, Int.reduceAdd, Int.reduceSub, Int.natCast_nonneg, Int.toNat_natCast, reduceIte, reduceCtorEq])
          refine at_fin ⟨k + 1, ⟨by omega, ?_⟩, by omega, ?_⟩
          · rw [q2]; simp [hn']
          · (refine wk_ok ?_ ?_ ?_ ?_ <;> simp [leL, leH, idsL, idsA, idsR, inH, hget, sameRow, upA, hvA, dsts, dstO, setA_0, setA_1, setA_8, List.append, List.cons_append, List.nil_append])
      · have h3 := lt_ff hg
        rw [List.drop_of_length_le h3, List.drop_of_length_le (by omega)] at q2
        (try simp only [hg, push_cast, Int.le_refl, Bool.not_not, Option.isSome_some, Option.isSome_none, Bool.true_or, Bool.or_true, Bool.and_self, Bool.false_or, Bool.or_false, Bool.false_and, Bool.and_false, Nat.reduceAdd, Nat.reduceSub, Nat.reduceEqDiff, Nat.reduceLeDiff, Nat.reduceMul, Nat.reduceLT, Int.reduceLE, Int.reduceLT, Int.reduceEq, Int.reduceMul, Int.reduceToNat, Int.reduceNeg, Int.reduceAdd, Int.reduceSub, Int.natCast_nonneg, Int.toNat_natCast, reduceIte, reduceCtorEq])
        refine at_ret ?_; simp only [Tryd.results28, push_cast, Int.le_refl, Bool.not_not, Option.isSome_some, Option.isSome_none, Bool.true_or, Bool.or_true, Bool.and_self, Bool.false_or, Bool.or_false, Bool.false_and, Bool.and_false, Nat.reduceAdd, Nat.reduceSub, Nat.reduceEqDiff, Nat.reduceLeDiff, Nat.reduceMul, Nat.reduceLT, Int.reduceLE, Int.reduceLT, Int.reduceEq, Int.reduceMul, Int.reduceToNat, Int.reduceNeg, Int.reduceAdd, Int.reduceSub, Int.natCast_nonneg, Int.toNat_natCast, reduceIte, reduceCtorEq]
        simp [vX, q2]
theorem toCommand_pc (n : Cm) : PC Tryd.prog 33 [.agg (cmC n)] (vX (.agg (cmC n))) := by
  have h1 := toContent_pc n.a
  have h2 := toContent_pc n.b
  unfold ctA ctC at h1 h2
  unfold cmC
  refine pc_enter Tryd.func33 rfl rfl fun w0 fb => go_on ?_; (try simp only [Tryd.ntmps33, push_cast, Int.le_refl, Bool.not_not, Option.isSome_some, Option.isSome_none, Bool.true_or, Bool.or_true, Bool.and_self, Bool.false_or, Bool.or_false, Bool.false_and, Bool.and_false, Nat.reduceAdd, Nat.reduceSub, Nat.reduceEqDiff, Nat.reduceLeDiff, Nat.reduceMul, Nat.reduceLT, Int.reduceLE, Int.reduceLT, Int.reduceEq, Int.reduceMul, Int.reduceToNat, Int.reduceNeg, Int.reduceAdd, Int.reduceSub, Int.natCast_nonneg, Int.toNat_natCast, reduceIte, reduceCtorEq])
  (refine at_call ?_; (try simp only [push_cast, Int.le_refl, Bool.not_not, Option.isSome_some, Option.isSome_none, Bool.true_or, Bool.or_true, Bool.and_self, Bool.false_or, Bool.or_false, Bool.false_and, Bool.and_false, Nat.reduceAdd, Nat.reduceSub, Nat.reduceEqDiff, Nat.reduceLeDiff, Nat.reduceMul, Nat.reduceLT, Int.reduceLE, Int.reduceLT, Int.reduceEq, Int.reduceMul, Int.reduceToNat, Int.reduceNeg, Int.reduceAdd, Int.reduceSub, Int.natCast_nonneg, Int.toNat_natCast, reduceIte, reduceCtorEq]); refine rwc_d (h1) (by simp [flatV, flatL, ctC, ndC, cmC]) (by simp [ren, ctC, ndC, cmC]) (go_on ?_); (try simp only [push_cast, Int.le_refl, Bool.not_not, Option.isSome_some, Option.isSome_none, Bool.true_or, Bool.or_true, Bool.and_self, Bool.false_or, Bool.or_false, Bool.false_and, Bool.and_false, Nat.reduceAdd, Nat.reduceSub, Nat.reduceEqDiff, Nat.reduceLeDiff, Nat.reduceMul, Nat.reduceLT, Int.reduceLE, Int.reduceLT, Int.reduceEq, Int.reduceMul, Int.reduceToNat, Int.reduceNeg, Int.reduceAdd, Int.reduceSub, Int.natCast_nonneg, Int.toNat_natCast, reduceIte, reduceCtorEq]))
  (refine at_call ?_; (try simp only [push_cast, Int.le_refl, Bool.not_not, Option.isSome_some, Option.isSome_none, Bool.true_or, Bool.or_true, Bool.and_self, Bool.false_or, Bool.or_false, Bool.false_and, Bool.and_false, Nat.reduceAdd, Nat.reduceSub, Nat.reduceEqDiff, Nat.reduceLeDiff, Nat.reduceMul, Nat.reduceLT, Int.reduceLE, Int.reduceLT, Int.reduceEq, Int.reduceMul, Int.reduceToNat, Int.reduceNeg, Int.reduceAdd, Int.reduceSub, Int.natCast_nonneg, Int.toNat_natCast, reduceIte, reduceCtorEq]); refine rwc_d (h2) (by simp [flatV, flatL, ctC, ndC, cmC]) (by simp [ren, ctC, ndC, cmC]) (go_on ?_); (try simp only [push_cast, Int.le_refl, Bool.not_not, Option.isSome_some, Option.isSome_none, Bool.true_or, Bool.or_true, Bool.and_self, Bool.false_or, Bool.or_false, Bool.false_and, Bool.and_false, Nat.reduceAdd, Nat.reduceSub, Nat.reduceEqDiff, Nat.reduceLeDiff, Nat.reduceMul, Nat.reduceLT, Int.reduceLE, Int.reduceLT, Int.reduceEq, Int.reduceMul, Int.reduceToNat, Int.reduceNeg, Int.reduceAdd, Int.reduceSub, Int.natCast_nonneg, Int.toNat_natCast, reduceIte, reduceCtorEq]))
  refine at_ret ?_; simp only [Tryd.results33, push_cast, Int.le_refl, Bool.not_not, Option.isSome_some, Option.isSome_none, Bool.true_or, Bool.or_true, Bool.and_self, Bool.false_or, Bool.or_false, Bool.false_and, Bool.and_false, Nat.reduceAdd, Nat.reduceSub, Nat.reduceEqDiff, Nat.reduceLeDiff, Nat.reduceMul, Nat.reduceLT, Int.reduceLE, Int.reduceLT, Int.reduceEq, Int.reduceMul, Int.reduceToNat, Int.reduceNeg, Int.reduceAdd, Int.reduceSub, Int.natCast_nonneg, Int.toNat_natCast, reduceIte, reduceCtorEq]
  simp [vX]
theorem eqCommand_pc (a b : Cm) : PC Tryd.prog 84 [.agg (cmC a), .agg (cmC b)] (vB (decide (a = b))) := by
  have h1 := eqContent_pc a.a b.a
  have h2 := eqContent_pc a.b b.b
  unfold ctA ctC at h1 h2
  unfold cmC
  refine pc_enter Tryd.func84 rfl rfl fun w0 fb => go_on ?_; (try simp only [Tryd.ntmps84, push_cast, Int.le_refl, Bool.not_not, Option.isSome_some, Option.isSome_none, Bool.true_or, Bool.or_true, Bool.and_self, Bool.false_or, Bool.or_false, Bool.false_and, Bool.and_false, Nat.reduceAdd, Nat.reduceSub, Nat.reduceEqDiff, Nat.reduceLeDiff, Nat.reduceMul, Nat.reduceLT, Int.reduceLE, Int.reduceLT, Int.reduceEq, Int.reduceMul, Int.reduceToNat, Int.reduceNeg, Int.reduceAdd, Int.reduceSub, Int.natCast_nonneg, Int.toNat_natCast, reduceIte, reduceCtorEq])
  repeat' first | (refine at_b (fun hb => ?_) (fun hb => ?_) <;> simp only [hb, push_cast, Int.le_refl, Bool.not_not, Option.isSome_some, Option.isSome_none, Bool.true_or, Bool.or_true, Bool.and_self, Bool.false_or, Bool.or_false, Bool.false_and, Bool.and_false, Nat.reduceAdd, Nat.reduceSub, Nat.reduceEqDiff, Nat.reduceLeDiff, Nat.reduceMul, Nat.reduceLT, Int.reduceLE, Int.reduceLT, Int.reduceEq, Int.reduceMul, Int.reduceToNat, Int.reduceNeg, Int.reduceAdd, Int.reduceSub, Int.natCast_nonneg, Int.toNat_natCast, reduceIte, reduceCtorEq]) | (refine at_ret ?_; simp only [Tryd.results84, push_cast, Int.le_refl, Bool.not_not, Option.isSome_some, Option.isSome_none, Bool.true_or, Bool.or_true, Bool.and_self, Bool.false_or, Bool.or_false, Bool.false_and, Bool.and_false, Nat.reduceAdd, Nat.reduceSub, Nat.reduceEqDiff, Nat.reduceLeDiff, Nat.reduceMul, Nat.reduceLT, Int.reduceLE, Int.reduceLT, Int.reduceEq, Int.reduceMul, Int.reduceToNat, Int.reduceNeg, Int.reduceAdd, Int.reduceSub, Int.natCast_nonneg, Int.toNat_natCast, reduceIte, reduceCtorEq]) | (refine at_call ?_; (try simp only [push_cast, Int.le_refl, Bool.not_not, Option.isSome_some, Option.isSome_none, Bool.true_or, Bool.or_true, Bool.and_self, Bool.false_or, Bool.or_false, Bool.false_and, Bool.and_false, Nat.reduceAdd, Nat.reduceSub, Nat.reduceEqDiff, Nat.reduceLeDiff, Nat.reduceMul, Nat.reduceLT, Int.reduceLE, Int.reduceLT, Int.reduceEq, Int.reduceMul, Int.reduceToNat, Int.reduceNeg, Int.reduceAdd, Int.reduceSub, Int.natCast_nonneg, Int.toNat_natCast, reduceIte, reduceCtorEq]); refine rwc_v (by first | exact h1 | exact h2) (go_on ?_); simp only [push_cast, Int.le_refl, Bool.not_not, Option.isSome_some, Option.isSome_none, Bool.true_or, Bool.or_true, Bool.and_self, Bool.false_or, Bool.or_false, Bool.false_and, Bool.and_false, Nat.reduceAdd, Nat.reduceSub, Nat.reduceEqDiff, Nat.reduceLeDiff, Nat.reduceMul, Nat.reduceLT, Int.reduceLE, Int.reduceLT, Int.reduceEq, Int.reduceMul, Int.reduceToNat, Int.reduceNeg, Int.reduceAdd, Int.reduceSub, Int.natCast_nonneg, Int.toNat_natCast, reduceIte, reduceCtorEq]) | (show RWp _ _ _ _ _; simp only [push_cast, Int.le_refl, Bool.not_not, Option.isSome_some, Option.isSome_none, Bool.true_or, Bool.or_true, Bool.and_self, Bool.false_or, Bool.or_false, Bool.false_and, Bool.and_false, Nat.reduceAdd, Nat.reduceSub, Nat.reduceEqDiff, Nat.reduceLeDiff, Nat.reduceMul, Nat.reduceLT, Int.reduceLE, Int.reduceLT, Int.reduceEq, Int.reduceMul, Int.reduceToNat, Int.reduceNeg, Int.reduceAdd, Int.reduceSub, Int.natCast_nonneg, Int.toNat_natCast, reduceIte, reduceCtorEq])
  all_goals simp only [Bool.not_eq_true', Bool.not_eq_false', decide_eq_true_eq, decide_eq_false_iff_not] at *
  all_goals simp [vX, cm_ext a b, *]
theorem szCommand_pc (n : Cm) (left : Int) (h0 : 0 ≤ left) (h1 : left ≤ 1048576) (hp : n.p.length ≤ 9223372036854775807) : PC Tryd.prog 32 [.agg (cmC n), iA left] (vI (sz1 left n.p.length)) := by
  have w1 := wr (left - (n.p.length : Int)) (by omega)
  unfold cmC
  refine pc_enter Tryd.func32 rfl rfl fun w0 fb => go_on ?_; (try simp only [Tryd.ntmps32, push_cast, Int.le_refl, Bool.not_not, Option.isSome_some, Option.isSome_none, Bool.true_or, Bool.or_true, Bool.and_self, Bool.false_or, Bool.or_false, Bool.false_and, Bool.and_false, Nat.reduceAdd, Nat.reduceSub, Nat.reduceEqDiff, Nat.reduceLeDiff, Nat.reduceMul, Nat.reduceLT, Int.reduceLE, Int.reduceLT, Int.reduceEq, Int.reduceMul, Int.reduceToNat, Int.reduceNeg, Int.reduceAdd, Int.reduceSub, Int.natCast_nonneg, Int.toNat_natCast, reduceIte, reduceCtorEq])
  repeat' first | (refine at_b (fun hb => ?_) (fun hb => ?_) <;> simp only [w1, hb, push_cast, Int.le_refl, Bool.not_not, Option.isSome_some, Option.isSome_none, Bool.true_or, Bool.or_true, Bool.and_self, Bool.false_or, Bool.or_false, Bool.false_and, Bool.and_false, Nat.reduceAdd, Nat.reduceSub, Nat.reduceEqDiff, Nat.reduceLeDiff, Nat.reduceMul, Nat.reduceLT, Int.reduceLE, Int.reduceLT, Int.reduceEq, Int.reduceMul, Int.reduceToNat, Int.reduceNeg, Int.reduceAdd, Int.reduceSub, Int.natCast_nonneg, Int.toNat_natCast, reduceIte, reduceCtorEq]) | (refine at_ret ?_; simp only [w1, Tryd.results32, push_cast, Int.le_refl, Bool.not_not, Option.isSome_some, Option.isSome_none, Bool.true_or, Bool.or_true, Bool.and_self, Bool.false_or, Bool.or_false, Bool.false_and, Bool.and_false, Nat.reduceAdd, Nat.reduceSub, Nat.reduceEqDiff, Nat.reduceLeDiff, Nat.reduceMul, Nat.reduceLT, Int.reduceLE, Int.reduceLT, Int.reduceEq, Int.reduceMul, Int.reduceToNat, Int.reduceNeg, Int.reduceAdd, Int.reduceSub, Int.natCast_nonneg, Int.toNat_natCast, reduceIte, reduceCtorEq]) | (show RWp _ _ _ _ _; simp only [w1, push_cast, Int.le_refl, Bool.not_not, Option.isSome_some, Option.isSome_none, Bool.true_or, Bool.or_true, Bool.and_self, Bool.false_or, Bool.or_false, Bool.false_and, Bool.and_false, Nat.reduceAdd, Nat.reduceSub, Nat.reduceEqDiff, Nat.reduceLeDiff, Nat.reduceMul, Nat.reduceLT, Int.reduceLE, Int.reduceLT, Int.reduceEq, Int.reduceMul, Int.reduceToNat, Int.reduceNeg, Int.reduceAdd, Int.reduceSub, Int.natCast_nonneg, Int.toNat_natCast, reduceIte, reduceCtorEq])
  · have := of_ltI_t hb; rw [w1] at this; simp [vX, sz1, this]
  · have := of_ltI_f hb; rw [w1] at this; simp [vX, sz1]; omega
theorem szCommandS_pc (l : List Cm) (left : Int) (h0 : 0 ≤ left) (h1 : left ≤ 1048576) (hl : l.length ≤ 9223372036854775807) (hp : ∀ n ∈ l, n.p.length ≤ 9223372036854775807) :
    PC Tryd.prog 52 [.sl 5 (l.map cmC), iA left] (vI (szS left (l.map fun n => n.p.length))) := by
  have w1 := wr (left - (l.length : Int)) (by omega)
  refine pc_enter Tryd.func52 rfl rfl fun w0 fb => go_on ?_; (try simp only [Tryd.ntmps52, push_cast, Int.le_refl, Bool.not_not, Option.isSome_some, Option.isSome_none, Bool.true_or, Bool.or_true, Bool.and_self, Bool.false_or, Bool.or_false, Bool.false_and, Bool.and_false, Nat.reduceAdd, Nat.reduceSub, Nat.reduceEqDiff, Nat.reduceLeDiff, Nat.reduceMul, Nat.reduceLT, Int.reduceLE, Int.reduceLT, Int.reduceEq, Int.reduceMul, Int.reduceToNat, Int.reduceNeg, Int.reduceAdd, Int.reduceSub, Int.natCast_nonneg, Int.toNat_natCast, reduceIte, reduceCtorEq])
  (try simp only [w1, push_cast, Int.le_refl, Bool.not_not, Option.isSome_some, Option.isSome_none, Bool.true_or, Bool.or_true, Bool.and_self, Bool.false_or, Bool.or_false, Bool.false_and, Bool.and_false, Nat.reduceAdd, Nat.reduceSub, Nat.reduceEqDiff, Nat.reduceLeDiff, Nat.reduceMul, Nat.reduceLT, Int.reduceLE, Int.reduceLT, Int.reduceEq, Int.reduceMul, Int.reduceToNat, Int.reduceNeg, Int.reduceAdd, Int.reduceSub, Int.natCast_nonneg, Int.toNat_natCast, reduceIte, reduceCtorEq])
  refine at_b (fun hb => ?_) (fun hb => ?_)
  · have := of_ltI_t hb
    (try simp only [hb, push_cast, Int.le_refl, Bool.not_not, Option.isSome_some, Option.isSome_none, Bool.true_or, Bool.or_true, Bool.and_self, Bool.false_or, Bool.or_false, Bool.false_and, Bool.and_false, Nat.reduceAdd, Nat.reduceSub, Nat.reduceEqDiff, Nat.reduceLeDiff, Nat.reduceMul, Nat.reduceLT, Int.reduceLE, Int.reduceLT, Int.reduceEq, Int.reduceMul, Int.reduceToNat, Int.reduceNeg, Int.reduceAdd, Int.reduceSub, Int.natCast_nonneg, Int.toNat_natCast, reduceIte, reduceCtorEq])
    refine at_ret ?_; simp only [Tryd.results52, push_cast, Int.le_refl, Bool.not_not, Option.isSome_some, Option.isSome_none, Bool.true_or, Bool.or_true, Bool.and_self, Bool.false_or, Bool.or_false, Bool.false_and, Bool.and_false, Nat.reduceAdd, Nat.reduceSub, Nat.reduceEqDiff, Nat.reduceLeDiff, Nat.reduceMul, Nat.reduceLT, Int.reduceLE, Int.reduceLT, Int.reduceEq, Int.reduceMul, Int.reduceToNat, Int.reduceNeg, Int.reduceAdd, Int.reduceSub, Int.natCast_nonneg, Int.toNat_natCast, reduceIte, reduceCtorEq]
    simp [vX, szS, this]
  · have h2 := of_ltI_f hb
    have e : szS left (l.map fun n => n.p.length) = szF (left - l.length) (l.map fun n => n.p.length) := by unfold szS; rw [if_neg (by simp; omega), List.length_map]
    rw [e]
    (try simp only [hb, push_cast, Int.le_refl, Bool.not_not, Option.isSome_some, Option.isSome_none, Bool.true_or, Bool.or_true, Bool.and_self, Bool.false_or, Bool.or_false, Bool.false_and, Bool.and_false, Nat.reduceAdd, Nat.reduceSub, Nat.reduceEqDiff, Nat.reduceLeDiff, Nat.reduceMul, Nat.reduceLT, Int.reduceLE, Int.reduceLT, Int.reduceEq, Int.reduceMul, Int.reduceToNat, Int.reduceNeg, Int.reduceAdd, Int.reduceSub, Int.natCast_nonneg, Int.toNat_natCast, reduceIte, reduceCtorEq])
    refine at_loop (X := Nat × Int) (fun x => [(1, iA x.2), (5, iA x.1)]) (fun _ => []) (fun x => x.1 ≤ l.length ∧ 0 ≤ x.2 ∧ x.2 ≤ 1048576 ∧ szF (left - l.length) (l.map fun n => n.p.length) = szF x.2 ((l.drop x.1).map fun n => n.p.length)) (fun x => l.length - x.1) (0, left - l.length) ⟨Nat.zero_le _, h2, by dsimp only; omega, rfl⟩ ?_ ?_
    · (refine wk_ok ?_ ?_ ?_ ?_ <;> simp [leL, leH, idsL, idsA, idsR, inH, hget, sameRow, upA, hvA, dsts, dstO, setA_0, setA_1, setA_8, List.append, List.cons_append, List.nil_append])
    · rintro ⟨k, r⟩ ⟨q1, q2, q3, q4⟩
      simp only at q1 q2 q3 q4
      simp only [upA, hvA, dsts, dstO, setA_0, setA_1, setA_8, List.append, List.cons_append, List.nil_append]
      refine go_on ?_
      (try simp only [push_cast, Int.le_refl, Bool.not_not, Option.isSome_some, Option.isSome_none, Bool.true_or, Bool.or_true, Bool.and_self, Bool.false_or, Bool.or_false, Bool.false_and, Bool.and_false, Nat.reduceAdd, Nat.reduceSub, Nat.reduceEqDiff, Nat.reduceLeDiff, Nat.reduceMul, Nat.reduceLT, Int.reduceLE, Int.reduceLT, Int.reduceEq, Int.reduceMul, Int.reduceToNat, Int.reduceNeg, Int.reduceAdd, Int.reduceSub, Int.natCast_nonneg, Int.toNat_natCast, reduceIte, reduceCtorEq])
      refine at_b (fun hg => ?_) (fun hg => ?_)
      · have hlt := lt_tt hg
        obtain ⟨x, hk⟩ := get_of_lt hlt
        have i1 := ix_n hk
        have i2 := map_get cmC hk
        have hS := szCommand_pc x r q2 q3 (hp x (mem_of_get hk))
        simp only [cmC] at i2 hS
        rw [drop_of_get hk, List.map_cons, szF] at q4
        have w2 := wr ((k : Int) + 1) (by omega)
        (try simp only [hg, i1, i2, push_cast, Int.le_refl, Bool.not_not, Option.isSome_some, Option.isSome_none, Bool.true_or, Bool.or_true, Bool.and_self, Bool.false_or, Bool.or_false, Bool.false_and, Bool.and_false, Nat.reduceAdd, Nat.reduceSub, Nat.reduceEqDiff, Nat.reduceLeDiff, Nat.reduceMul, Nat.reduceLT, Int.reduceLE, Int.reduceLT, Int.reduceEq, Int.reduceMul, Int.reduceToNat, Int.reduceNeg, Int.reduceAdd, Int.reduceSub, Int.natCast_nonneg, Int.toNat_natCast, reduceIte, reduceCtorEq])
        (refine at_call ?_; (try simp only [push_cast, Int.le_refl, Bool.not_not, Option.isSome_some, Option.isSome_none, Bool.true_or, Bool.or_true, Bool.and_self, Bool.false_or, Bool.or_false, Bool.false_and, Bool.and_false, Nat.reduceAdd, Nat.reduceSub, Nat.reduceEqDiff, Nat.reduceLeDiff, Nat.reduceMul, Nat.reduceLT, Int.reduceLE, Int.reduceLT, Int.reduceEq, Int.reduceMul, Int.reduceToNat, Int.reduceNeg, Int.reduceAdd, Int.reduceSub, Int.natCast_nonneg, Int.toNat_natCast, reduceIte, reduceCtorEq]); refine rwc_v (hS) (go_on ?_); (try simp only [push_cast, Int.le_refl, Bool.not_not, Option.isSome_some, Option.isSome_none, Bool.true_or, Bool.or_true, Bool.and_self, Bool.false_or, Bool.or_false, Bool.false_and, Bool.and_false, Nat.reduceAdd, Nat.reduceSub, Nat.reduceEqDiff, Nat.reduceLeDiff, Nat.reduceMul, Nat.reduceLT, Int.reduceLE, Int.reduceLT, Int.reduceEq, Int.reduceMul, Int.reduceToNat, Int.reduceNeg, Int.reduceAdd, Int.reduceSub, Int.natCast_nonneg, Int.toNat_natCast, reduceIte, reduceCtorEq]))
        by_cases hz : r - (x.p.length : Int) < 0
        · have e2 : sz1 r x.p.length = -1 := by unfold sz1; rw [if_pos hz]
          rw [e2]
          (try simp only [show ltI (-1) 0 = true from rfl, push_cast, Int.le_refl, Bool.not_not, Option.isSome_some, Option.isSome_none, Bool.true_or, Bool.or_true, Bool.and_self, Bool.false_or, Bool.or_false, Bool.false_and, Bool.and_false, Nat.reduceAdd, Nat.reduceSub, Nat.reduceEqDiff, Nat.reduceLeDiff, Nat.reduceMul, Nat.reduceLT, Int.reduceLE, Int.reduceLT, Int.reduceEq, Int.reduceMul, Int.reduceToNat, Int.reduceNeg, Int.reduceAdd, Int.reduceSub, Int.natCast_nonneg, Int.toNat_natCast, reduceIte, reduceCtorEq])
          refine at_ret ?_; simp only [Tryd.results52, push_cast, Int.le_refl, Bool.not_not, Option.isSome_some, Option.isSome_none, Bool.true_or, Bool.or_true, Bool.and_self, Bool.false_or, Bool.or_false, Bool.false_and, Bool.and_false, Nat.reduceAdd, Nat.reduceSub, Nat.reduceEqDiff, Nat.reduceLeDiff, Nat.reduceMul, Nat.reduceLT, Int.reduceLE, Int.reduceLT, Int.reduceEq, Int.reduceMul, Int.reduceToNat, Int.reduceNeg, Int.reduceAdd, Int.reduceSub, Int.natCast_nonneg, Int.toNat_natCast, reduceIte, reduceCtorEq]
          rw [if_pos hz] at q4
          simp [vX, q4]
        · have e2 : sz1 r x.p.length = r - x.p.length := by unfold sz1; rw [if_neg hz]
          have e3 : ltI (r - (x.p.length : Int)) 0 = false := ltI_f (by omega)
          rw [e2]
          (try simp only [e3, w2, push_cast, Int.le_refl, Bool.not_not, Option.isSome_some, Option.isSome_none, Bool.true_or, Bool.or_true, Bool.and_self, Bool.false_or, Bool.or_false, Bool.false_and, Bool.and_false, Nat.reduceAdd, Nat.reduceSub, Nat.reduceEqDiff, Nat.reduceLeDiff, Nat.reduceMul, Nat.reduceLT, Int.reduceLE, Int.reduceLT, Int.reduceEq, Int.reduceMul, Int.reduceToNat, Int.reduceNeg, Int.reduceAdd, Int.reduceSub, Int.natCast_nonneg, Int.toNat_natCast, reduceIte, reduceCtorEq])
          rw [if_neg hz] at q4
          refine at_fin ⟨(k + 1, r - x.p.length), ⟨by dsimp only; omega, by dsimp only; omega, by dsimp only; omega, q4⟩, by dsimp only; omega, ?_⟩
          (refine wk_ok ?_ ?_ ?_ ?_ <;> simp [leL, leH, idsL, idsA, idsR, inH, hget, sameRow, upA, hvA, dsts, dstO, setA_0, setA_1, setA_8, List.append, List.cons_append, List.nil_append])
      · have h3 := lt_ff hg
        rw [List.drop_of_length_le h3] at q4
        (try simp only [hg, push_cast, Int.le_refl, Bool.not_not, Option.isSome_some, Option.isSome_none, Bool.true_or, Bool.or_true, Bool.and_self, Bool.false_or, Bool.or_false, Bool.false_and, Bool.and_false, Nat.reduceAdd, Nat.reduceSub, Nat.reduceEqDiff, Nat.reduceLeDiff, Nat.reduceMul, Nat.reduceLT, Int.reduceLE, Int.reduceLT, Int.reduceEq, Int.reduceMul, Int.reduceToNat, Int.reduceNeg, Int.reduceAdd, Int.reduceSub, Int.natCast_nonneg, Int.toNat_natCast, reduceIte, reduceCtorEq])
        refine at_ret ?_; simp only [Tryd.results52, push_cast, Int.le_refl, Bool.not_not, Option.isSome_some, Option.isSome_none, Bool.true_or, Bool.or_true, Bool.and_self, Bool.false_or, Bool.or_false, Bool.false_and, Bool.and_false, Nat.reduceAdd, Nat.reduceSub, Nat.reduceEqDiff, Nat.reduceLeDiff, Nat.reduceMul, Nat.reduceLT, Int.reduceLE, Int.reduceLT, Int.reduceEq, Int.reduceMul, Int.reduceToNat, Int.reduceNeg, Int.reduceAdd, Int.reduceSub, Int.natCast_nonneg, Int.toNat_natCast, reduceIte, reduceCtorEq]
        simp [vX, q4, szF]
theorem toCommandS_pc (l : List Cm) (hl : l.length ≤ 1048576) : PC Tryd.prog 54 [.sl 5 (l.map cmC)] (rX (.o 0 l.length) [rowC l]) := by
  refine pc_enter Tryd.func54 rfl rfl fun w0 fb => go_on ?_; (try simp only [Tryd.ntmps54, push_cast, Int.le_refl, Bool.not_not, Option.isSome_some, Option.isSome_none, Bool.true_or, Bool.or_true, Bool.and_self, Bool.false_or, Bool.or_false, Bool.false_and, Bool.and_false, Nat.reduceAdd, Nat.reduceSub, Nat.reduceEqDiff, Nat.reduceLeDiff, Nat.reduceMul, Nat.reduceLT, Int.reduceLE, Int.reduceLT, Int.reduceEq, Int.reduceMul, Int.reduceToNat, Int.reduceNeg, Int.reduceAdd, Int.reduceSub, Int.natCast_nonneg, Int.toNat_natCast, reduceIte, reduceCtorEq])
  refine at_chk ⟨by omega, by omega⟩ ?_
  refine at_loop (X := Nat) (fun k => [(4, iA k)]) (fun k => [(2, rowC []), (7, ⟨47, 5, (l.take k).map cmC ++ List.replicate (l.length - k) [AV.v (Value.string ⟨#[]⟩), iA 0, iA 0, iA 0, iA 0], true⟩)]) (fun k => k ≤ l.length) (fun k => l.length - k) 0 (Nat.zero_le _) ?_ ?_
  · (refine wk_ok ?_ ?_ ?_ ?_ <;> simp [leL, leH, idsL, idsA, idsR, inH, hget, sameRow, upA, hvA, dsts, dstO, setA_0, setA_1, setA_8, List.append, List.cons_append, List.nil_append])
  · intro k h1
    simp only [upA, hvA, dsts, dstO, setA_0, setA_1, setA_8, List.append, List.cons_append, List.nil_append]
    refine go_on ?_
    (try simp only [push_cast, Int.le_refl, Bool.not_not, Option.isSome_some, Option.isSome_none, Bool.true_or, Bool.or_true, Bool.and_self, Bool.false_or, Bool.or_false, Bool.false_and, Bool.and_false, Nat.reduceAdd, Nat.reduceSub, Nat.reduceEqDiff, Nat.reduceLeDiff, Nat.reduceMul, Nat.reduceLT, Int.reduceLE, Int.reduceLT, Int.reduceEq, Int.reduceMul, Int.reduceToNat, Int.reduceNeg, Int.reduceAdd, Int.reduceSub, Int.natCast_nonneg, Int.toNat_natCast, reduceIte, reduceCtorEq])
    refine at_b (fun hg => ?_) (fun hg => ?_)
    · have hlt := lt_tt hg
      obtain ⟨x, hk⟩ := get_of_lt hlt
      have i1 := ix_n hk
      have i2 := map_get cmC hk
      have hT := toCommand_pc x
      simp only [cmC] at i2 hT
      have w2 := wr ((k : Int) + 1) (by omega)
      obtain ⟨es, hes⟩ : ∃ es, es = (l.take k).map cmC ++ List.replicate (l.length - k) [AV.v (Value.string ⟨#[]⟩), iA 0, iA 0, iA 0, iA 0] := ⟨_, rfl⟩
      have hlen : ((l.take k).map cmC).length = k := by rw [List.length_map, List.length_take]; omega
      have i3 : es[k]? = some [AV.v (Value.string ⟨#[]⟩), iA 0, iA 0, iA 0, iA 0] := by rw [hes, List.getElem?_append_right (by omega), hlen, Nat.sub_self, List.getElem?_replicate, if_pos (by omega)]
      have hset : es.set k [sA x.p, iA x.a.k, iA x.a.v, iA x.b.k, iA x.b.v] = (l.take (k + 1)).map cmC ++ List.replicate (l.length - (k + 1)) [AV.v (Value.string ⟨#[]⟩), iA 0, iA 0, iA 0, iA 0] := by
        rw [hes, List.set_append_right _ _ (by omega), hlen, Nat.sub_self, List.take_add_one, hk, show l.length - k = (l.length - (k + 1)) + 1 by omega, List.replicate_succ, List.set_cons_zero]
        simp [cmC]
      rw [← hes]
      (try simp only [hg, i1, i2, push_cast, Int.le_refl, Bool.not_not, Option.isSome_some, Option.isSome_none, Bool.true_or, Bool.or_true, Bool.and_self, Bool.false_or, Bool.or_false, Bool.false_and, Bool.and_false, Nat.reduceAdd, Nat.reduceSub, Nat.reduceEqDiff, Nat.reduceLeDiff, Nat.reduceMul, Nat.reduceLT, Int.reduceLE, Int.reduceLT, Int.reduceEq, Int.reduceMul, Int.reduceToNat, Int.reduceNeg, Int.reduceAdd, Int.reduceSub, Int.natCast_nonneg, Int.toNat_natCast, reduceIte, reduceCtorEq])
      (refine at_call ?_; (try simp only [push_cast, Int.le_refl, Bool.not_not, Option.isSome_some, Option.isSome_none, Bool.true_or, Bool.or_true, Bool.and_self, Bool.false_or, Bool.or_false, Bool.false_and, Bool.and_false, Nat.reduceAdd, Nat.reduceSub, Nat.reduceEqDiff, Nat.reduceLeDiff, Nat.reduceMul, Nat.reduceLT, Int.reduceLE, Int.reduceLT, Int.reduceEq, Int.reduceMul, Int.reduceToNat, Int.reduceNeg, Int.reduceAdd, Int.reduceSub, Int.natCast_nonneg, Int.toNat_natCast, reduceIte, reduceCtorEq]); refine rwc_d (hT) (by simp [flatV, flatL, ctC, ndC, cmC]) (by simp [ren, ctC, ndC, cmC]) (go_on ?_); (try simp only [push_cast, Int.le_refl, Bool.not_not, Option.isSome_some, Option.isSome_none, Bool.true_or, Bool.or_true, Bool.and_self, Bool.false_or, Bool.or_false, Bool.false_and, Bool.and_false, Nat.reduceAdd, Nat.reduceSub, Nat.reduceEqDiff, Nat.reduceLeDiff, Nat.reduceMul, Nat.reduceLT, Int.reduceLE, Int.reduceLT, Int.reduceEq, Int.reduceMul, Int.reduceToNat, Int.reduceNeg, Int.reduceAdd, Int.reduceSub, Int.natCast_nonneg, Int.toNat_natCast, reduceIte, reduceCtorEq]))
      (try simp only [i1, i3, List.length_replicate, w2, push_cast, Int.le_refl, Bool.not_not, Option.isSome_some, Option.isSome_none, Bool.true_or, Bool.or_true, Bool.and_self, Bool.false_or, Bool.or_false, Bool.false_and, Bool.and_false, Nat.reduceAdd, Nat.reduceSub, Nat.reduceEqDiff, Nat.reduceLeDiff, Nat.reduceMul, Nat.reduceLT, Int.reduceLE, Int.reduceLT, Int.reduceEq, Int.reduceMul, Int.reduceToNat, Int.reduceNeg, Int.reduceAdd, Int.reduceSub, Int.natCast_nonneg, Int.toNat_natCast, reduceIte, reduceCtorEq])
      refine at_fin ⟨k + 1, by omega, by omega, ?_⟩
      rw [hset]
      (refine wk_ok ?_ ?_ ?_ ?_ <;> simp [leL, leH, idsL, idsA, idsR, inH, hget, sameRow, upA, hvA, dsts, dstO, setA_0, setA_1, setA_8, List.append, List.cons_append, List.nil_append])
    · have h3 := lt_ff hg
      have hk : k = l.length := by omega
      subst hk
      (try simp only [hg, push_cast, Int.le_refl, Bool.not_not, Option.isSome_some, Option.isSome_none, Bool.true_or, Bool.or_true, Bool.and_self, Bool.false_or, Bool.or_false, Bool.false_and, Bool.and_false, Nat.reduceAdd, Nat.reduceSub, Nat.reduceEqDiff, Nat.reduceLeDiff, Nat.reduceMul, Nat.reduceLT, Int.reduceLE, Int.reduceLT, Int.reduceEq, Int.reduceMul, Int.reduceToNat, Int.reduceNeg, Int.reduceAdd, Int.reduceSub, Int.natCast_nonneg, Int.toNat_natCast, reduceIte, reduceCtorEq])
      refine at_ret ?_; simp only [Tryd.results54, push_cast, Int.le_refl, Bool.not_not, Option.isSome_some, Option.isSome_none, Bool.true_or, Bool.or_true, Bool.and_self, Bool.false_or, Bool.or_false, Bool.false_and, Bool.and_false, Nat.reduceAdd, Nat.reduceSub, Nat.reduceEqDiff, Nat.reduceLeDiff, Nat.reduceMul, Nat.reduceLT, Int.reduceLE, Int.reduceLT, Int.reduceEq, Int.reduceMul, Int.reduceToNat, Int.reduceNeg, Int.reduceAdd, Int.reduceSub, Int.natCast_nonneg, Int.toNat_natCast, reduceIte, reduceCtorEq]
      simp [rX, ixOf]
theorem eqCommandS_pc (a b : List Cm) (hl : a.length < 4294967281) : PC Tryd.prog 55 [.sl 5 (a.map cmC), .sl 5 (b.map cmC)] (vB (decide (a = b))) := by
  refine pc_enter Tryd.func55 rfl rfl fun w0 fb => go_on ?_; (try simp only [Tryd.ntmps55, push_cast, Int.le_refl, Bool.not_not, Option.isSome_some, Option.isSome_none, Bool.true_or, Bool.or_true, Bool.and_self, Bool.false_or, Bool.or_false, Bool.false_and, Bool.and_false, Nat.reduceAdd, Nat.reduceSub, Nat.reduceEqDiff, Nat.reduceLeDiff, Nat.reduceMul, Nat.reduceLT, Int.reduceLE, Int.reduceLT, Int.reduceEq, Int.reduceMul, Int.reduceToNat, Int.reduceNeg, Int.reduceAdd, Int.reduceSub, Int.natCast_nonneg, Int.toNat_natCast, reduceIte, reduceCtorEq])
  refine at_b (fun hb => ?_) (fun hb => ?_)
  · have h1 := of_eqI_f (not_t hb)
    have h2 : a ≠ b := by rintro rfl; exact h1 rfl
    (try simp only [hb, push_cast, Int.le_refl, Bool.not_not, Option.isSome_some, Option.isSome_none, Bool.true_or, Bool.or_true, Bool.and_self, Bool.false_or, Bool.or_false, Bool.false_and, Bool.and_false, Nat.reduceAdd, Nat.reduceSub, Nat.reduceEqDiff, Nat.reduceLeDiff, Nat.reduceMul, Nat.reduceLT, Int.reduceLE, Int.reduceLT, Int.reduceEq, Int.reduceMul, Int.reduceToNat, Int.reduceNeg, Int.reduceAdd, Int.reduceSub, Int.natCast_nonneg, Int.toNat_natCast, reduceIte, reduceCtorEq])
    refine at_ret ?_; simp only [Tryd.results55, push_cast, Int.le_refl, Bool.not_not, Option.isSome_some, Option.isSome_none, Bool.true_or, Bool.or_true, Bool.and_self, Bool.false_or, Bool.or_false, Bool.false_and, Bool.and_false, Nat.reduceAdd, Nat.reduceSub, Nat.reduceEqDiff, Nat.reduceLeDiff, Nat.reduceMul, Nat.reduceLT, Int.reduceLE, Int.reduceLT, Int.reduceEq, Int.reduceMul, Int.reduceToNat, Int.reduceNeg, Int.reduceAdd, Int.reduceSub, Int.natCast_nonneg, Int.toNat_natCast, reduceIte, reduceCtorEq]
    simp [vX, h2]
  · have h1 : a.length = b.length := by have := of_eqI_t (not_f hb); omega
    (try simp only [hb, push_cast, Int.le_refl, Bool.not_not, Option.isSome_some, Option.isSome_none, Bool.true_or, Bool.or_true, Bool.and_self, Bool.false_or, Bool.or_false, Bool.false_and, Bool.and_false, Nat.reduceAdd, Nat.reduceSub, Nat.reduceEqDiff, Nat.reduceLeDiff, Nat.reduceMul, Nat.reduceLT, Int.reduceLE, Int.reduceLT, Int.reduceEq, Int.reduceMul, Int.reduceToNat, Int.reduceNeg, Int.reduceAdd, Int.reduceSub, Int.natCast_nonneg, Int.toNat_natCast, reduceIte, reduceCtorEq])
    refine at_loop (X := Nat) (fun k => [(5, iA k)]) (fun _ => []) (fun k => k ≤ a.length ∧ decide (a = b) = decide (a.drop k = b.drop k)) (fun k => a.length - k) 0 ⟨Nat.zero_le _, rfl⟩ ?_ ?_
    · (refine wk_ok ?_ ?_ ?_ ?_ <;> simp [leL, leH, idsL, idsA, idsR, inH, hget, sameRow, upA, hvA, dsts, dstO, setA_0, setA_1, setA_8, List.append, List.cons_append, List.nil_append])
    · rintro k ⟨q1, q2⟩
      simp only [upA, hvA, dsts, dstO, setA_0, setA_1, setA_8, List.append, List.cons_append, List.nil_append]
      refine go_on ?_
      (try simp only [push_cast, Int.le_refl, Bool.not_not, Option.isSome_some, Option.isSome_none, Bool.true_or, Bool.or_true, Bool.and_self, Bool.false_or, Bool.or_false, Bool.false_and, Bool.and_false, Nat.reduceAdd, Nat.reduceSub, Nat.reduceEqDiff, Nat.reduceLeDiff, Nat.reduceMul, Nat.reduceLT, Int.reduceLE, Int.reduceLT, Int.reduceEq, Int.reduceMul, Int.reduceToNat, Int.reduceNeg, Int.reduceAdd, Int.reduceSub, Int.natCast_nonneg, Int.toNat_natCast, reduceIte, reduceCtorEq])
      refine at_b (fun hg => ?_) (fun hg => ?_)
      · have hlt := lt_tt hg
        obtain ⟨x, hx⟩ := get_of_lt hlt
        obtain ⟨y, hy⟩ := get_of_lt (l := b) (k := k) (by omega)
        have i1 := ix_n hx
        have i3 := ix_n hy
        have i2 := map_get cmC hx
        have i4 := map_get cmC hy
        have hE := eqCommand_pc x y
        simp only [cmC] at i2 i4 hE
        rw [drop_of_get hx, drop_of_get hy] at q2
        have w2 := wr ((k : Int) + 1) (by omega)
        (try simp only [hg, push_cast, Int.le_refl, Bool.not_not, Option.isSome_some, Option.isSome_none, Bool.true_or, Bool.or_true, Bool.and_self, Bool.false_or, Bool.or_false, Bool.false_and, Bool.and_false, Nat.reduceAdd, Nat.reduceSub, Nat.reduceEqDiff, Nat.reduceLeDiff, Nat.reduceMul, Nat.reduceLT, Int.reduceLE, Int.reduceLT, Int.reduceEq, Int.reduceMul, Int.reduceToNat, Int.reduceNeg, Int.reduceAdd, Int.reduceSub, Int.natCast_nonneg, Int.toNat_natCast, reduceIte, reduceCtorEq])
        refine at_draw rfl (by kernel_rfl) ?_
        (try simp only [i1, i2, i3, i4, push_cast, Int.le_refl, Bool.not_not, Option.isSome_some, Option.isSome_none, Bool.true_or, Bool.or_true, Bool.and_self, Bool.false_or, Bool.or_false, Bool.false_and, Bool.and_false, Nat.reduceAdd, Nat.reduceSub, Nat.reduceEqDiff, Nat.reduceLeDiff, Nat.reduceMul, Nat.reduceLT, Int.reduceLE, Int.reduceLT, Int.reduceEq, Int.reduceMul, Int.reduceToNat, Int.reduceNeg, Int.reduceAdd, Int.reduceSub, Int.natCast_nonneg, Int.toNat_natCast, reduceIte, reduceCtorEq])
        repeat' first | (refine at_bWn (fun hb => ?_) (fun hb => ?_) <;> simp only [i1, i2, i3, i4, hb, push_cast, Int.le_refl, Bool.not_not, Option.isSome_some, Option.isSome_none, Bool.true_or, Bool.or_true, Bool.and_self, Bool.false_or, Bool.or_false, Bool.false_and, Bool.and_false, Nat.reduceAdd, Nat.reduceSub, Nat.reduceEqDiff, Nat.reduceLeDiff, Nat.reduceMul, Nat.reduceLT, Int.reduceLE, Int.reduceLT, Int.reduceEq, Int.reduceMul, Int.reduceToNat, Int.reduceNeg, Int.reduceAdd, Int.reduceSub, Int.natCast_nonneg, Int.toNat_natCast, reduceIte, reduceCtorEq]) | (refine at_bW (fun hb => ?_) (fun hb => ?_) <;> simp only [i1, i2, i3, i4, hb, push_cast, Int.le_refl, Bool.not_not, Option.isSome_some, Option.isSome_none, Bool.true_or, Bool.or_true, Bool.and_self, Bool.false_or, Bool.or_false, Bool.false_and, Bool.and_false, Nat.reduceAdd, Nat.reduceSub, Nat.reduceEqDiff, Nat.reduceLeDiff, Nat.reduceMul, Nat.reduceLT, Int.reduceLE, Int.reduceLT, Int.reduceEq, Int.reduceMul, Int.reduceToNat, Int.reduceNeg, Int.reduceAdd, Int.reduceSub, Int.natCast_nonneg, Int.toNat_natCast, reduceIte, reduceCtorEq]) | (refine at_callD (by simp [clB, idsL, idsA, hget]) ?_; (try simp only [push_cast, Int.le_refl, Bool.not_not, Option.isSome_some, Option.isSome_none, Bool.true_or, Bool.or_true, Bool.and_self, Bool.false_or, Bool.or_false, Bool.false_and, Bool.and_false, Nat.reduceAdd, Nat.reduceSub, Nat.reduceEqDiff, Nat.reduceLeDiff, Nat.reduceMul, Nat.reduceLT, Int.reduceLE, Int.reduceLT, Int.reduceEq, Int.reduceMul, Int.reduceToNat, Int.reduceNeg, Int.reduceAdd, Int.reduceSub, Int.natCast_nonneg, Int.toNat_natCast, reduceIte, reduceCtorEq]); first | (refine rcd_v (hE) ?_; simp only [i1, i2, i3, i4, push_cast, Int.le_refl, Bool.not_not, Option.isSome_some, Option.isSome_none, Bool.true_or, Bool.or_true, Bool.and_self, Bool.false_or, Bool.or_false, Bool.false_and, Bool.and_false, Nat.reduceAdd, Nat.reduceSub, Nat.reduceEqDiff, Nat.reduceLeDiff, Nat.reduceMul, Nat.reduceLT, Int.reduceLE, Int.reduceLT, Int.reduceEq, Int.reduceMul, Int.reduceToNat, Int.reduceNeg, Int.reduceAdd, Int.reduceSub, Int.natCast_nonneg, Int.toNat_natCast, reduceIte, reduceCtorEq]) | (refine rcd_d (hE) (by simp [flatV, flatL, ctC, ndC, cmC]) (by simp [ren, ctC, ndC, cmC]) ?_; simp only [i1, i2, i3, i4, push_cast, Int.le_refl, Bool.not_not, Option.isSome_some, Option.isSome_none, Bool.true_or, Bool.or_true, Bool.and_self, Bool.false_or, Bool.or_false, Bool.false_and, Bool.and_false, Nat.reduceAdd, Nat.reduceSub, Nat.reduceEqDiff, Nat.reduceLeDiff, Nat.reduceMul, Nat.reduceLT, Int.reduceLE, Int.reduceLT, Int.reduceEq, Int.reduceMul, Int.reduceToNat, Int.reduceNeg, Int.reduceAdd, Int.reduceSub, Int.natCast_nonneg, Int.toNat_natCast, reduceIte, reduceCtorEq])) | (refine at_done (by kernel_rfl) (by kernel_rfl) (go_on ?_); (try simp only [i1, i2, i3, i4, push_cast, Int.le_refl, Bool.not_not, Option.isSome_some, Option.isSome_none, Bool.true_or, Bool.or_true, Bool.and_self, Bool.false_or, Bool.or_false, Bool.false_and, Bool.and_false, Nat.reduceAdd, Nat.reduceSub, Nat.reduceEqDiff, Nat.reduceLeDiff, Nat.reduceMul, Nat.reduceLT, Int.reduceLE, Int.reduceLT, Int.reduceEq, Int.reduceMul, Int.reduceToNat, Int.reduceNeg, Int.reduceAdd, Int.reduceSub, Int.natCast_nonneg, Int.toNat_natCast, reduceIte, reduceCtorEq]))
        refine at_b (fun hn => ?_) (fun hn => ?_)
        · (try simp only [hn, push_cast, Int.le_refl, Bool.not_not, Option.isSome_some, Option.isSome_none, Bool.true_or, Bool.or_true, Bool.and_self, Bool.false_or, Bool.or_false, Bool.false_and, Bool.and_false, Nat.reduceAdd, Nat.reduceSub, Nat.reduceEqDiff, Nat.reduceLeDiff, Nat.reduceMul, Nat.reduceLT, Int.reduceLE, Int.reduceLT, Int.reduceEq, Int.reduceMul, Int.reduceToNat, Int.reduceNeg, Int.reduceAdd, Int.reduceSub, Int.natCast_nonneg, Int.toNat_natCast, reduceIte, reduceCtorEq])
          refine at_ret ?_; simp only [Tryd.results55, push_cast, Int.le_refl, Bool.not_not, Option.isSome_some, Option.isSome_none, Bool.true_or, Bool.or_true, Bool.and_self, Bool.false_or, Bool.or_false, Bool.false_and, Bool.and_false, Nat.reduceAdd, Nat.reduceSub, Nat.reduceEqDiff, Nat.reduceLeDiff, Nat.reduceMul, Nat.reduceLT, Int.reduceLE, Int.reduceLT, Int.reduceEq, Int.reduceMul, Int.reduceToNat, Int.reduceNeg, Int.reduceAdd, Int.reduceSub, Int.natCast_nonneg, Int.toNat_natCast, reduceIte, reduceCtorEq]
          have := not_t hn
          simp only [decide_eq_false_iff_not] at this
          simp [vX, q2, this]
        · have hn' := not_f hn
          simp only [decide_eq_true_eq] at hn'
          (try simp only [hn, w2, push_cast, Int.le_refl, Bool.not_not, Option.isSome_some, Option.isSome_none, Bool.true_or, Bool.or_true, Bool.and_self, Bool.false_or, Bool.or_false, Bool.false_and, Bool.and_false, Nat.reduceAdd, Nat.reduceSub, Nat.reduceEqDiff, Nat.reduceLeDiff, Nat.reduceMul, Nat.reduceLT, Int.reduceLE, Int.reduceLT, Int.reduceEq, Int.reduceMul, Int.reduceToNat, Int.reduceNeg, Int.reduceAdd, Int.reduceSub, Int.natCast_nonneg, Int.toNat_natCast, reduceIte, reduceCtorEq])
          refine at_fin ⟨k + 1, ⟨by omega, ?_⟩, by omega, ?_⟩
          · rw [q2]; simp [hn']
          · (refine wk_ok ?_ ?_ ?_ ?_ <;> simp [leL, leH, idsL, idsA, idsR, inH, hget, sameRow, upA, hvA, dsts, dstO, setA_0, setA_1, setA_8, List.append, List.cons_append, List.nil_append])
      · have h3 := lt_ff hg
        rw [List.drop_of_length_le h3, List.drop_of_length_le (by omega)] at q2
        (try simp only [hg, push_cast, Int.le_refl, Bool.not_not, Option.isSome_some, Option.isSome_none, Bool.true_or, Bool.or_true, Bool.and_self, Bool.false_or, Bool.or_false, Bool.false_and, Bool.and_false, Nat.reduceAdd, Nat.reduceSub, Nat.reduceEqDiff, Nat.reduceLeDiff, Nat.reduceMul, Nat.reduceLT, Int.reduceLE, Int.reduceLT, Int.reduceEq, Int.reduceMul, Int.reduceToNat, Int.reduceNeg, Int.reduceAdd, Int.reduceSub, Int.natCast_nonneg, Int.toNat_natCast, reduceIte, reduceCtorEq])
        refine at_ret ?_; simp only [Tryd.results55, push_cast, Int.le_refl, Bool.not_not, Option.isSome_some, Option.isSome_none, Bool.true_or, Bool.or_true, Bool.and_self, Bool.false_or, Bool.or_false, Bool.false_and, Bool.and_false, Nat.reduceAdd, Nat.reduceSub, Nat.reduceEqDiff, Nat.reduceLeDiff, Nat.reduceMul, Nat.reduceLT, Int.reduceLE, Int.reduceLT, Int.reduceEq, Int.reduceMul, Int.reduceToNat, Int.reduceNeg, Int.reduceAdd, Int.reduceSub, Int.natCast_nonneg, Int.toNat_natCast, reduceIte, reduceCtorEq]
        simp [vX, q2]
end Go.Proofs.YtcjialgknmplbaaDoor
/-
  Walks: a side of the laws: its size, its copy, its equality.
-/
namespace Go.Proofs.YtcjialgknmplbaaDoor
open Go Go.RowKit Go.Proofs
theorem flat_app {a b : List Row} (ha : FlatR a) (hb : FlatR b) : FlatR (a ++ b) := fun row h => by
  rcases List.mem_append.1 h with h | h
  · exact ha row h
  · exact hb row h
theorem flat_nc {E E' : TypeId} {sz sz' : Nat} {cl cl' : Bool} (l : List Nd) (m : List Cm) : FlatR [⟨E, sz, l.map ndC, cl⟩, ⟨E', sz', m.map cmC, cl'⟩] := flat_app (flat_n l) (flat_c m)
def stO (s : St) : AV := .agg [iA s.ep, .o 0 s.base.length, .o 1 s.log.length]
attribute [local irreducible] RWp AW run kPe pe Kt effA gd gu br retR RDp runD kPeD brW gW effD
set_option maxRecDepth 100000
theorem toSite_pc (s : St) (h1 : s.base.length ≤ 1048576) (h2 : s.log.length ≤ 1048576) : PC Tryd.prog 20 [stA' s] (rX (stO s) [rowN s.base, rowC s.log]) := by
  unfold stA' stC stO
  refine pc_enter Tryd.func20 rfl rfl fun w0 fb => go_on ?_; (try simp only [Tryd.ntmps20, push_cast, Int.le_refl, Bool.not_not, Option.isSome_some, Option.isSome_none, Bool.true_or, Bool.or_true, Bool.and_self, Bool.false_or, Bool.or_false, Bool.false_and, Bool.and_false, Nat.reduceAdd, Nat.reduceSub, Nat.reduceEqDiff, Nat.reduceLeDiff, Nat.reduceMul, Nat.reduceLT, Int.reduceLE, Int.reduceLT, Int.reduceEq, Int.reduceMul, Int.reduceToNat, Int.reduceNeg, Int.reduceAdd, Int.reduceSub, Int.natCast_nonneg, Int.toNat_natCast, reduceIte, reduceCtorEq])
  (refine at_call ?_; (try simp only [push_cast, Int.le_refl, Bool.not_not, Option.isSome_some, Option.isSome_none, Bool.true_or, Bool.or_true, Bool.and_self, Bool.false_or, Bool.or_false, Bool.false_and, Bool.and_false, Nat.reduceAdd, Nat.reduceSub, Nat.reduceEqDiff, Nat.reduceLeDiff, Nat.reduceMul, Nat.reduceLT, Int.reduceLE, Int.reduceLT, Int.reduceEq, Int.reduceMul, Int.reduceToNat, Int.reduceNeg, Int.reduceAdd, Int.reduceSub, Int.natCast_nonneg, Int.toNat_natCast, reduceIte, reduceCtorEq]); refine rwc_r (toNodeS_pc s.base h1) rfl (flat_n _) (by simp [frB, baseOf]) (go_on ?_); (try simp only [push_cast, Int.le_refl, Bool.not_not, Option.isSome_some, Option.isSome_none, Bool.true_or, Bool.or_true, Bool.and_self, Bool.false_or, Bool.or_false, Bool.false_and, Bool.and_false, Nat.reduceAdd, Nat.reduceSub, Nat.reduceEqDiff, Nat.reduceLeDiff, Nat.reduceMul, Nat.reduceLT, Int.reduceLE, Int.reduceLT, Int.reduceEq, Int.reduceMul, Int.reduceToNat, Int.reduceNeg, Int.reduceAdd, Int.reduceSub, Int.natCast_nonneg, Int.toNat_natCast, reduceIte, reduceCtorEq]))
  (refine at_call ?_; (try simp only [push_cast, Int.le_refl, Bool.not_not, Option.isSome_some, Option.isSome_none, Bool.true_or, Bool.or_true, Bool.and_self, Bool.false_or, Bool.or_false, Bool.false_and, Bool.and_false, Nat.reduceAdd, Nat.reduceSub, Nat.reduceEqDiff, Nat.reduceLeDiff, Nat.reduceMul, Nat.reduceLT, Int.reduceLE, Int.reduceLT, Int.reduceEq, Int.reduceMul, Int.reduceToNat, Int.reduceNeg, Int.reduceAdd, Int.reduceSub, Int.natCast_nonneg, Int.toNat_natCast, reduceIte, reduceCtorEq]); refine rwc_r (toCommandS_pc s.log h2) rfl (flat_c _) (by simp [frB, baseOf]) (go_on ?_); (try simp only [push_cast, Int.le_refl, Bool.not_not, Option.isSome_some, Option.isSome_none, Bool.true_or, Bool.or_true, Bool.and_self, Bool.false_or, Bool.or_false, Bool.false_and, Bool.and_false, Nat.reduceAdd, Nat.reduceSub, Nat.reduceEqDiff, Nat.reduceLeDiff, Nat.reduceMul, Nat.reduceLT, Int.reduceLE, Int.reduceLT, Int.reduceEq, Int.reduceMul, Int.reduceToNat, Int.reduceNeg, Int.reduceAdd, Int.reduceSub, Int.natCast_nonneg, Int.toNat_natCast, reduceIte, reduceCtorEq]))
  refine at_ret ?_; simp only [Tryd.results20, push_cast, Int.le_refl, Bool.not_not, Option.isSome_some, Option.isSome_none, Bool.true_or, Bool.or_true, Bool.and_self, Bool.false_or, Bool.or_false, Bool.false_and, Bool.and_false, Nat.reduceAdd, Nat.reduceSub, Nat.reduceEqDiff, Nat.reduceLeDiff, Nat.reduceMul, Nat.reduceLT, Int.reduceLE, Int.reduceLT, Int.reduceEq, Int.reduceMul, Int.reduceToNat, Int.reduceNeg, Int.reduceAdd, Int.reduceSub, Int.natCast_nonneg, Int.toNat_natCast, reduceIte, reduceCtorEq]
  simp [rX, ixOf]
structure SiteOk (s : St) : Prop where
  b : s.base.length ≤ maxLen
  bp : ∀ n ∈ s.base, n.p.length ≤ maxLen
  l : s.log.length ≤ maxLen
  lp : ∀ n ∈ s.log, n.p.length ≤ maxLen
/-- The room that is left behind a side. -/
def szT (s : St) (left : Int) : Int :=
  let a := szS left (s.base.map fun n => n.p.length)
  if a < 0 then -1 else (let b := szS a (s.log.map fun n => n.p.length); if b < 0 then -1 else b)
theorem max63 : maxLen ≤ 9223372036854775807 := by decide
theorem szSite_pc (s : St) (left : Int) (h0 : 0 ≤ left) (h1 : left ≤ 1048576) (q : SiteOk s) : PC Tryd.prog 19 [stA' s, iA left] (vI (szT s left)) := by
  have hm := max63
  have hN := szNodeS_pc s.base left h0 h1 (by have := q.b; omega) (fun n hn => by have := q.bp n hn; omega)
  unfold stA' stC
  refine pc_enter Tryd.func19 rfl rfl fun w0 fb => go_on ?_; (try simp only [Tryd.ntmps19, push_cast, Int.le_refl, Bool.not_not, Option.isSome_some, Option.isSome_none, Bool.true_or, Bool.or_true, Bool.and_self, Bool.false_or, Bool.or_false, Bool.false_and, Bool.and_false, Nat.reduceAdd, Nat.reduceSub, Nat.reduceEqDiff, Nat.reduceLeDiff, Nat.reduceMul, Nat.reduceLT, Int.reduceLE, Int.reduceLT, Int.reduceEq, Int.reduceMul, Int.reduceToNat, Int.reduceNeg, Int.reduceAdd, Int.reduceSub, Int.natCast_nonneg, Int.toNat_natCast, reduceIte, reduceCtorEq])
  (refine at_call ?_; (try simp only [push_cast, Int.le_refl, Bool.not_not, Option.isSome_some, Option.isSome_none, Bool.true_or, Bool.or_true, Bool.and_self, Bool.false_or, Bool.or_false, Bool.false_and, Bool.and_false, Nat.reduceAdd, Nat.reduceSub, Nat.reduceEqDiff, Nat.reduceLeDiff, Nat.reduceMul, Nat.reduceLT, Int.reduceLE, Int.reduceLT, Int.reduceEq, Int.reduceMul, Int.reduceToNat, Int.reduceNeg, Int.reduceAdd, Int.reduceSub, Int.natCast_nonneg, Int.toNat_natCast, reduceIte, reduceCtorEq]); refine rwc_v (hN) (go_on ?_); (try simp only [push_cast, Int.le_refl, Bool.not_not, Option.isSome_some, Option.isSome_none, Bool.true_or, Bool.or_true, Bool.and_self, Bool.false_or, Bool.or_false, Bool.false_and, Bool.and_false, Nat.reduceAdd, Nat.reduceSub, Nat.reduceEqDiff, Nat.reduceLeDiff, Nat.reduceMul, Nat.reduceLT, Int.reduceLE, Int.reduceLT, Int.reduceEq, Int.reduceMul, Int.reduceToNat, Int.reduceNeg, Int.reduceAdd, Int.reduceSub, Int.natCast_nonneg, Int.toNat_natCast, reduceIte, reduceCtorEq]))
  refine at_b (fun hb => ?_) (fun hb => ?_)
  · have := of_ltI_t hb
    (try simp only [hb, push_cast, Int.le_refl, Bool.not_not, Option.isSome_some, Option.isSome_none, Bool.true_or, Bool.or_true, Bool.and_self, Bool.false_or, Bool.or_false, Bool.false_and, Bool.and_false, Nat.reduceAdd, Nat.reduceSub, Nat.reduceEqDiff, Nat.reduceLeDiff, Nat.reduceMul, Nat.reduceLT, Int.reduceLE, Int.reduceLT, Int.reduceEq, Int.reduceMul, Int.reduceToNat, Int.reduceNeg, Int.reduceAdd, Int.reduceSub, Int.natCast_nonneg, Int.toNat_natCast, reduceIte, reduceCtorEq])
    refine at_ret ?_; simp only [Tryd.results19, push_cast, Int.le_refl, Bool.not_not, Option.isSome_some, Option.isSome_none, Bool.true_or, Bool.or_true, Bool.and_self, Bool.false_or, Bool.or_false, Bool.false_and, Bool.and_false, Nat.reduceAdd, Nat.reduceSub, Nat.reduceEqDiff, Nat.reduceLeDiff, Nat.reduceMul, Nat.reduceLT, Int.reduceLE, Int.reduceLT, Int.reduceEq, Int.reduceMul, Int.reduceToNat, Int.reduceNeg, Int.reduceAdd, Int.reduceSub, Int.natCast_nonneg, Int.toNat_natCast, reduceIte, reduceCtorEq]
    simp [vX, szT, this]
  · have hb' := of_ltI_f hb
    have h3 : szS left (s.base.map fun n => n.p.length) ≤ 1048576 := by have := (szS_ok h0 hb').2.2; omega
    have hC := szCommandS_pc s.log _ hb' h3 (by have := q.l; omega) (fun n hn => by have := q.lp n hn; omega)
    (try simp only [hb, push_cast, Int.le_refl, Bool.not_not, Option.isSome_some, Option.isSome_none, Bool.true_or, Bool.or_true, Bool.and_self, Bool.false_or, Bool.or_false, Bool.false_and, Bool.and_false, Nat.reduceAdd, Nat.reduceSub, Nat.reduceEqDiff, Nat.reduceLeDiff, Nat.reduceMul, Nat.reduceLT, Int.reduceLE, Int.reduceLT, Int.reduceEq, Int.reduceMul, Int.reduceToNat, Int.reduceNeg, Int.reduceAdd, Int.reduceSub, Int.natCast_nonneg, Int.toNat_natCast, reduceIte, reduceCtorEq])
    (refine at_call ?_; (try simp only [push_cast, Int.le_refl, Bool.not_not, Option.isSome_some, Option.isSome_none, Bool.true_or, Bool.or_true, Bool.and_self, Bool.false_or, Bool.or_false, Bool.false_and, Bool.and_false, Nat.reduceAdd, Nat.reduceSub, Nat.reduceEqDiff, Nat.reduceLeDiff, Nat.reduceMul, Nat.reduceLT, Int.reduceLE, Int.reduceLT, Int.reduceEq, Int.reduceMul, Int.reduceToNat, Int.reduceNeg, Int.reduceAdd, Int.reduceSub, Int.natCast_nonneg, Int.toNat_natCast, reduceIte, reduceCtorEq]); refine rwc_v (hC) (go_on ?_); (try simp only [push_cast, Int.le_refl, Bool.not_not, Option.isSome_some, Option.isSome_none, Bool.true_or, Bool.or_true, Bool.and_self, Bool.false_or, Bool.or_false, Bool.false_and, Bool.and_false, Nat.reduceAdd, Nat.reduceSub, Nat.reduceEqDiff, Nat.reduceLeDiff, Nat.reduceMul, Nat.reduceLT, Int.reduceLE, Int.reduceLT, Int.reduceEq, Int.reduceMul, Int.reduceToNat, Int.reduceNeg, Int.reduceAdd, Int.reduceSub, Int.natCast_nonneg, Int.toNat_natCast, reduceIte, reduceCtorEq]))
    refine at_b (fun hc => ?_) (fun hc => ?_)
    · have := of_ltI_t hc
      (try simp only [hc, push_cast, Int.le_refl, Bool.not_not, Option.isSome_some, Option.isSome_none, Bool.true_or, Bool.or_true, Bool.and_self, Bool.false_or, Bool.or_false, Bool.false_and, Bool.and_false, Nat.reduceAdd, Nat.reduceSub, Nat.reduceEqDiff, Nat.reduceLeDiff, Nat.reduceMul, Nat.reduceLT, Int.reduceLE, Int.reduceLT, Int.reduceEq, Int.reduceMul, Int.reduceToNat, Int.reduceNeg, Int.reduceAdd, Int.reduceSub, Int.natCast_nonneg, Int.toNat_natCast, reduceIte, reduceCtorEq])
      refine at_ret ?_; simp only [Tryd.results19, push_cast, Int.le_refl, Bool.not_not, Option.isSome_some, Option.isSome_none, Bool.true_or, Bool.or_true, Bool.and_self, Bool.false_or, Bool.or_false, Bool.false_and, Bool.and_false, Nat.reduceAdd, Nat.reduceSub, Nat.reduceEqDiff, Nat.reduceLeDiff, Nat.reduceMul, Nat.reduceLT, Int.reduceLE, Int.reduceLT, Int.reduceEq, Int.reduceMul, Int.reduceToNat, Int.reduceNeg, Int.reduceAdd, Int.reduceSub, Int.natCast_nonneg, Int.toNat_natCast, reduceIte, reduceCtorEq]
      simp [vX, szT, this]
    · have hc' := of_ltI_f hc
      (try simp only [hc, push_cast, Int.le_refl, Bool.not_not, Option.isSome_some, Option.isSome_none, Bool.true_or, Bool.or_true, Bool.and_self, Bool.false_or, Bool.or_false, Bool.false_and, Bool.and_false, Nat.reduceAdd, Nat.reduceSub, Nat.reduceEqDiff, Nat.reduceLeDiff, Nat.reduceMul, Nat.reduceLT, Int.reduceLE, Int.reduceLT, Int.reduceEq, Int.reduceMul, Int.reduceToNat, Int.reduceNeg, Int.reduceAdd, Int.reduceSub, Int.natCast_nonneg, Int.toNat_natCast, reduceIte, reduceCtorEq])
      refine at_ret ?_; simp only [Tryd.results19, push_cast, Int.le_refl, Bool.not_not, Option.isSome_some, Option.isSome_none, Bool.true_or, Bool.or_true, Bool.and_self, Bool.false_or, Bool.or_false, Bool.false_and, Bool.and_false, Nat.reduceAdd, Nat.reduceSub, Nat.reduceEqDiff, Nat.reduceLeDiff, Nat.reduceMul, Nat.reduceLT, Int.reduceLE, Int.reduceLT, Int.reduceEq, Int.reduceMul, Int.reduceToNat, Int.reduceNeg, Int.reduceAdd, Int.reduceSub, Int.natCast_nonneg, Int.toNat_natCast, reduceIte, reduceCtorEq]
      have e1 : ¬ szS left (s.base.map fun n => n.p.length) < 0 := by omega
      have e2 : ¬ szS (szS left (s.base.map fun n => n.p.length)) (s.log.map fun n => n.p.length) < 0 := by omega
      simp [vX, szT, e1, e2]
theorem szT_ok {s : St} {left : Int} (h0 : 0 ≤ left) (h1 : left ≤ 1048576) (h : 0 ≤ szT s left) :
    szT s left ≤ left ∧ s.base.length ≤ 1048576 ∧ s.log.length ≤ 1048576 ∧ (∀ n ∈ s.base, n.p.length ≤ 1048576) ∧ ∀ n ∈ s.log, n.p.length ≤ 1048576 := by
  unfold szT at *
  simp only at *
  split at h
  · omega
  · rename_i ha
    rw [if_neg ha]
    split at h
    · omega
    · rename_i hb
      rw [if_neg hb]
      obtain ⟨a1, a2, a3⟩ := szS_ok h0 (by omega : 0 ≤ szS left (s.base.map fun n => n.p.length))
      obtain ⟨b1, b2, b3⟩ := szS_ok (by omega : 0 ≤ szS left (s.base.map fun n => n.p.length)) (by omega : 0 ≤ szS (szS left (s.base.map fun n => n.p.length)) (s.log.map fun n => n.p.length))
      simp only [List.length_map, List.mem_map, forall_exists_index, and_imp, forall_apply_eq_imp_iff₂] at a1 a2 b1 b2
      refine ⟨by omega, by omega, by omega, fun n hn => ?_, fun n hn => ?_⟩
      · have := a2 n hn; omega
      · have := b2 n hn; omega
theorem szT_sm {s : St} {left : Int} (h0 : 0 ≤ left) (h1 : left ≤ 1048576) (h : 0 ≤ szT s left) : SmS s := by
  obtain ⟨_, a1, a2, a3, a4⟩ := szT_ok h0 h1 h
  exact ⟨⟨⟨by omega, fun n hn => by have := a3 n hn; omega⟩, by omega⟩, ⟨by omega, fun n hn => by have := a4 n hn; omega⟩⟩
theorem st_ext (a b : St) : a = b ↔ a.ep = b.ep ∧ a.base = b.base ∧ a.log = b.log := by
  obtain ⟨a1, a2, a3⟩ := a
  obtain ⟨b1, b2, b3⟩ := b
  simp
theorem eqSite_pc (a b : St) (h1 : a.base.length < 4294967281) (h2 : a.log.length < 4294967281) : PC Tryd.prog 21 [stA' a, stA' b] (vB (decide (a = b))) := by
  have hN := eqNodeS_pc a.base b.base h1
  have hC := eqCommandS_pc a.log b.log h2
  unfold stA' stC
  refine pc_enter Tryd.func21 rfl rfl fun w0 fb => go_on ?_; (try simp only [Tryd.ntmps21, push_cast, Int.le_refl, Bool.not_not, Option.isSome_some, Option.isSome_none, Bool.true_or, Bool.or_true, Bool.and_self, Bool.false_or, Bool.or_false, Bool.false_and, Bool.and_false, Nat.reduceAdd, Nat.reduceSub, Nat.reduceEqDiff, Nat.reduceLeDiff, Nat.reduceMul, Nat.reduceLT, Int.reduceLE, Int.reduceLT, Int.reduceEq, Int.reduceMul, Int.reduceToNat, Int.reduceNeg, Int.reduceAdd, Int.reduceSub, Int.natCast_nonneg, Int.toNat_natCast, reduceIte, reduceCtorEq])
  repeat' first | (refine at_b (fun hb => ?_) (fun hb => ?_) <;> simp only [hb, push_cast, Int.le_refl, Bool.not_not, Option.isSome_some, Option.isSome_none, Bool.true_or, Bool.or_true, Bool.and_self, Bool.false_or, Bool.or_false, Bool.false_and, Bool.and_false, Nat.reduceAdd, Nat.reduceSub, Nat.reduceEqDiff, Nat.reduceLeDiff, Nat.reduceMul, Nat.reduceLT, Int.reduceLE, Int.reduceLT, Int.reduceEq, Int.reduceMul, Int.reduceToNat, Int.reduceNeg, Int.reduceAdd, Int.reduceSub, Int.natCast_nonneg, Int.toNat_natCast, reduceIte, reduceCtorEq]) | (refine at_ret ?_; simp only [Tryd.results21, push_cast, Int.le_refl, Bool.not_not, Option.isSome_some, Option.isSome_none, Bool.true_or, Bool.or_true, Bool.and_self, Bool.false_or, Bool.or_false, Bool.false_and, Bool.and_false, Nat.reduceAdd, Nat.reduceSub, Nat.reduceEqDiff, Nat.reduceLeDiff, Nat.reduceMul, Nat.reduceLT, Int.reduceLE, Int.reduceLT, Int.reduceEq, Int.reduceMul, Int.reduceToNat, Int.reduceNeg, Int.reduceAdd, Int.reduceSub, Int.natCast_nonneg, Int.toNat_natCast, reduceIte, reduceCtorEq]) | (refine at_call ?_; (try simp only [push_cast, Int.le_refl, Bool.not_not, Option.isSome_some, Option.isSome_none, Bool.true_or, Bool.or_true, Bool.and_self, Bool.false_or, Bool.or_false, Bool.false_and, Bool.and_false, Nat.reduceAdd, Nat.reduceSub, Nat.reduceEqDiff, Nat.reduceLeDiff, Nat.reduceMul, Nat.reduceLT, Int.reduceLE, Int.reduceLT, Int.reduceEq, Int.reduceMul, Int.reduceToNat, Int.reduceNeg, Int.reduceAdd, Int.reduceSub, Int.natCast_nonneg, Int.toNat_natCast, reduceIte, reduceCtorEq]); refine rwc_v (by first | exact hN | exact hC) (go_on ?_); simp only [push_cast, Int.le_refl, Bool.not_not, Option.isSome_some, Option.isSome_none, Bool.true_or, Bool.or_true, Bool.and_self, Bool.false_or, Bool.or_false, Bool.false_and, Bool.and_false, Nat.reduceAdd, Nat.reduceSub, Nat.reduceEqDiff, Nat.reduceLeDiff, Nat.reduceMul, Nat.reduceLT, Int.reduceLE, Int.reduceLT, Int.reduceEq, Int.reduceMul, Int.reduceToNat, Int.reduceNeg, Int.reduceAdd, Int.reduceSub, Int.natCast_nonneg, Int.toNat_natCast, reduceIte, reduceCtorEq]) | (show RWp _ _ _ _ _; simp only [push_cast, Int.le_refl, Bool.not_not, Option.isSome_some, Option.isSome_none, Bool.true_or, Bool.or_true, Bool.and_self, Bool.false_or, Bool.or_false, Bool.false_and, Bool.and_false, Nat.reduceAdd, Nat.reduceSub, Nat.reduceEqDiff, Nat.reduceLeDiff, Nat.reduceMul, Nat.reduceLT, Int.reduceLE, Int.reduceLT, Int.reduceEq, Int.reduceMul, Int.reduceToNat, Int.reduceNeg, Int.reduceAdd, Int.reduceSub, Int.natCast_nonneg, Int.toNat_natCast, reduceIte, reduceCtorEq])
  all_goals simp only [Bool.not_eq_true', Bool.not_eq_false', eqI_d, decide_eq_true_eq, decide_eq_false_iff_not] at *
  all_goals simp [vX, st_ext a b, *]
theorem FnExactSiteValid_pc (s : St) (q : SiteOk s) : PC Tryd.prog 5 [stA' s] (vB true) := by
  have hZ := szSite_pc s 1048576 (by omega) (by omega) q
  unfold stA' stC at hZ ⊢
  refine pc_enter Tryd.func5 rfl rfl fun w0 fb => go_on ?_; (try simp only [Tryd.ntmps5, push_cast, Int.le_refl, Bool.not_not, Option.isSome_some, Option.isSome_none, Bool.true_or, Bool.or_true, Bool.and_self, Bool.false_or, Bool.or_false, Bool.false_and, Bool.and_false, Nat.reduceAdd, Nat.reduceSub, Nat.reduceEqDiff, Nat.reduceLeDiff, Nat.reduceMul, Nat.reduceLT, Int.reduceLE, Int.reduceLT, Int.reduceEq, Int.reduceMul, Int.reduceToNat, Int.reduceNeg, Int.reduceAdd, Int.reduceSub, Int.natCast_nonneg, Int.toNat_natCast, reduceIte, reduceCtorEq])
  (refine at_call ?_; (try simp only [push_cast, Int.le_refl, Bool.not_not, Option.isSome_some, Option.isSome_none, Bool.true_or, Bool.or_true, Bool.and_self, Bool.false_or, Bool.or_false, Bool.false_and, Bool.and_false, Nat.reduceAdd, Nat.reduceSub, Nat.reduceEqDiff, Nat.reduceLeDiff, Nat.reduceMul, Nat.reduceLT, Int.reduceLE, Int.reduceLT, Int.reduceEq, Int.reduceMul, Int.reduceToNat, Int.reduceNeg, Int.reduceAdd, Int.reduceSub, Int.natCast_nonneg, Int.toNat_natCast, reduceIte, reduceCtorEq]); refine rwc_v (hZ) (go_on ?_); (try simp only [push_cast, Int.le_refl, Bool.not_not, Option.isSome_some, Option.isSome_none, Bool.true_or, Bool.or_true, Bool.and_self, Bool.false_or, Bool.or_false, Bool.false_and, Bool.and_false, Nat.reduceAdd, Nat.reduceSub, Nat.reduceEqDiff, Nat.reduceLeDiff, Nat.reduceMul, Nat.reduceLT, Int.reduceLE, Int.reduceLT, Int.reduceEq, Int.reduceMul, Int.reduceToNat, Int.reduceNeg, Int.reduceAdd, Int.reduceSub, Int.natCast_nonneg, Int.toNat_natCast, reduceIte, reduceCtorEq]))
  refine at_b (fun hb => ?_) (fun hb => ?_)
  · (try simp only [hb, push_cast, Int.le_refl, Bool.not_not, Option.isSome_some, Option.isSome_none, Bool.true_or, Bool.or_true, Bool.and_self, Bool.false_or, Bool.or_false, Bool.false_and, Bool.and_false, Nat.reduceAdd, Nat.reduceSub, Nat.reduceEqDiff, Nat.reduceLeDiff, Nat.reduceMul, Nat.reduceLT, Int.reduceLE, Int.reduceLT, Int.reduceEq, Int.reduceMul, Int.reduceToNat, Int.reduceNeg, Int.reduceAdd, Int.reduceSub, Int.natCast_nonneg, Int.toNat_natCast, reduceIte, reduceCtorEq])
    refine at_ret ?_; simp only [Tryd.results5, push_cast, Int.le_refl, Bool.not_not, Option.isSome_some, Option.isSome_none, Bool.true_or, Bool.or_true, Bool.and_self, Bool.false_or, Bool.or_false, Bool.false_and, Bool.and_false, Nat.reduceAdd, Nat.reduceSub, Nat.reduceEqDiff, Nat.reduceLeDiff, Nat.reduceMul, Nat.reduceLT, Int.reduceLE, Int.reduceLT, Int.reduceEq, Int.reduceMul, Int.reduceToNat, Int.reduceNeg, Int.reduceAdd, Int.reduceSub, Int.natCast_nonneg, Int.toNat_natCast, reduceIte, reduceCtorEq]
    simp [vX]
  · have hb' := of_ltI_f hb
    have hs := szT_sm (by omega) (by omega) hb'
    obtain ⟨_, a1, a2, _⟩ := szT_ok (by omega) (by omega) hb'
    have hT := toSite_pc s a1 a2
    have hV := specSiteValid_pc s hs
    have hI := SiteValid_pc s hs
    have hE := eqSite_pc s s (by omega) (by omega)
    unfold stA' stC stO at hT
    unfold stA' stC at hV hI hE
    (try simp only [hb, push_cast, Int.le_refl, Bool.not_not, Option.isSome_some, Option.isSome_none, Bool.true_or, Bool.or_true, Bool.and_self, Bool.false_or, Bool.or_false, Bool.false_and, Bool.and_false, Nat.reduceAdd, Nat.reduceSub, Nat.reduceEqDiff, Nat.reduceLeDiff, Nat.reduceMul, Nat.reduceLT, Int.reduceLE, Int.reduceLT, Int.reduceEq, Int.reduceMul, Int.reduceToNat, Int.reduceNeg, Int.reduceAdd, Int.reduceSub, Int.natCast_nonneg, Int.toNat_natCast, reduceIte, reduceCtorEq])
    (refine at_call ?_; (try simp only [push_cast, Int.le_refl, Bool.not_not, Option.isSome_some, Option.isSome_none, Bool.true_or, Bool.or_true, Bool.and_self, Bool.false_or, Bool.or_false, Bool.false_and, Bool.and_false, Nat.reduceAdd, Nat.reduceSub, Nat.reduceEqDiff, Nat.reduceLeDiff, Nat.reduceMul, Nat.reduceLT, Int.reduceLE, Int.reduceLT, Int.reduceEq, Int.reduceMul, Int.reduceToNat, Int.reduceNeg, Int.reduceAdd, Int.reduceSub, Int.natCast_nonneg, Int.toNat_natCast, reduceIte, reduceCtorEq]); refine rwc_r (hT) (by simp [flatV, flatL]) (flat_nc _ _) (by simp [frB, baseOf]) (go_on ?_); (try simp only [push_cast, Int.le_refl, Bool.not_not, Option.isSome_some, Option.isSome_none, Bool.true_or, Bool.or_true, Bool.and_self, Bool.false_or, Bool.or_false, Bool.false_and, Bool.and_false, Nat.reduceAdd, Nat.reduceSub, Nat.reduceEqDiff, Nat.reduceLeDiff, Nat.reduceMul, Nat.reduceLT, Int.reduceLE, Int.reduceLT, Int.reduceEq, Int.reduceMul, Int.reduceToNat, Int.reduceNeg, Int.reduceAdd, Int.reduceSub, Int.natCast_nonneg, Int.toNat_natCast, reduceIte, reduceCtorEq]))
    (refine at_call ?_; (try simp only [push_cast, Int.le_refl, Bool.not_not, Option.isSome_some, Option.isSome_none, Bool.true_or, Bool.or_true, Bool.and_self, Bool.false_or, Bool.or_false, Bool.false_and, Bool.and_false, Nat.reduceAdd, Nat.reduceSub, Nat.reduceEqDiff, Nat.reduceLeDiff, Nat.reduceMul, Nat.reduceLT, Int.reduceLE, Int.reduceLT, Int.reduceEq, Int.reduceMul, Int.reduceToNat, Int.reduceNeg, Int.reduceAdd, Int.reduceSub, Int.natCast_nonneg, Int.toNat_natCast, reduceIte, reduceCtorEq]); refine rwc_v (hV) (go_on ?_); (try simp only [push_cast, Int.le_refl, Bool.not_not, Option.isSome_some, Option.isSome_none, Bool.true_or, Bool.or_true, Bool.and_self, Bool.false_or, Bool.or_false, Bool.false_and, Bool.and_false, Nat.reduceAdd, Nat.reduceSub, Nat.reduceEqDiff, Nat.reduceLeDiff, Nat.reduceMul, Nat.reduceLT, Int.reduceLE, Int.reduceLT, Int.reduceEq, Int.reduceMul, Int.reduceToNat, Int.reduceNeg, Int.reduceAdd, Int.reduceSub, Int.natCast_nonneg, Int.toNat_natCast, reduceIte, reduceCtorEq]))
    (refine at_call ?_; (try simp only [push_cast, Int.le_refl, Bool.not_not, Option.isSome_some, Option.isSome_none, Bool.true_or, Bool.or_true, Bool.and_self, Bool.false_or, Bool.or_false, Bool.false_and, Bool.and_false, Nat.reduceAdd, Nat.reduceSub, Nat.reduceEqDiff, Nat.reduceLeDiff, Nat.reduceMul, Nat.reduceLT, Int.reduceLE, Int.reduceLT, Int.reduceEq, Int.reduceMul, Int.reduceToNat, Int.reduceNeg, Int.reduceAdd, Int.reduceSub, Int.natCast_nonneg, Int.toNat_natCast, reduceIte, reduceCtorEq]); refine rwc_r (hT) (by simp [flatV, flatL]) (flat_nc _ _) (by simp [frB, baseOf]) (go_on ?_); (try simp only [push_cast, Int.le_refl, Bool.not_not, Option.isSome_some, Option.isSome_none, Bool.true_or, Bool.or_true, Bool.and_self, Bool.false_or, Bool.or_false, Bool.false_and, Bool.and_false, Nat.reduceAdd, Nat.reduceSub, Nat.reduceEqDiff, Nat.reduceLeDiff, Nat.reduceMul, Nat.reduceLT, Int.reduceLE, Int.reduceLT, Int.reduceEq, Int.reduceMul, Int.reduceToNat, Int.reduceNeg, Int.reduceAdd, Int.reduceSub, Int.natCast_nonneg, Int.toNat_natCast, reduceIte, reduceCtorEq]))
    (refine at_call ?_; (try simp only [push_cast, Int.le_refl, Bool.not_not, Option.isSome_some, Option.isSome_none, Bool.true_or, Bool.or_true, Bool.and_self, Bool.false_or, Bool.or_false, Bool.false_and, Bool.and_false, Nat.reduceAdd, Nat.reduceSub, Nat.reduceEqDiff, Nat.reduceLeDiff, Nat.reduceMul, Nat.reduceLT, Int.reduceLE, Int.reduceLT, Int.reduceEq, Int.reduceMul, Int.reduceToNat, Int.reduceNeg, Int.reduceAdd, Int.reduceSub, Int.natCast_nonneg, Int.toNat_natCast, reduceIte, reduceCtorEq]); refine rwc_v (hI) (go_on ?_); (try simp only [push_cast, Int.le_refl, Bool.not_not, Option.isSome_some, Option.isSome_none, Bool.true_or, Bool.or_true, Bool.and_self, Bool.false_or, Bool.or_false, Bool.false_and, Bool.and_false, Nat.reduceAdd, Nat.reduceSub, Nat.reduceEqDiff, Nat.reduceLeDiff, Nat.reduceMul, Nat.reduceLT, Int.reduceLE, Int.reduceLT, Int.reduceEq, Int.reduceMul, Int.reduceToNat, Int.reduceNeg, Int.reduceAdd, Int.reduceSub, Int.natCast_nonneg, Int.toNat_natCast, reduceIte, reduceCtorEq]))
    refine at_b (fun hc => (by simp at hc)) (fun hc => ?_)
    (try simp only [hc, push_cast, Int.le_refl, Bool.not_not, Option.isSome_some, Option.isSome_none, Bool.true_or, Bool.or_true, Bool.and_self, Bool.false_or, Bool.or_false, Bool.false_and, Bool.and_false, Nat.reduceAdd, Nat.reduceSub, Nat.reduceEqDiff, Nat.reduceLeDiff, Nat.reduceMul, Nat.reduceLT, Int.reduceLE, Int.reduceLT, Int.reduceEq, Int.reduceMul, Int.reduceToNat, Int.reduceNeg, Int.reduceAdd, Int.reduceSub, Int.natCast_nonneg, Int.toNat_natCast, reduceIte, reduceCtorEq])
    refine at_draw rfl (by kernel_rfl) ?_; simp only [push_cast, Int.le_refl, Bool.not_not, Option.isSome_some, Option.isSome_none, Bool.true_or, Bool.or_true, Bool.and_self, Bool.false_or, Bool.or_false, Bool.false_and, Bool.and_false, Nat.reduceAdd, Nat.reduceSub, Nat.reduceEqDiff, Nat.reduceLeDiff, Nat.reduceMul, Nat.reduceLT, Int.reduceLE, Int.reduceLT, Int.reduceEq, Int.reduceMul, Int.reduceToNat, Int.reduceNeg, Int.reduceAdd, Int.reduceSub, Int.natCast_nonneg, Int.toNat_natCast, reduceIte, reduceCtorEq]
    (refine at_callD (by simp [clB, idsL, idsA, hget]) ?_; (try simp only [push_cast, Int.le_refl, Bool.not_not, Option.isSome_some, Option.isSome_none, Bool.true_or, Bool.or_true, Bool.and_self, Bool.false_or, Bool.or_false, Bool.false_and, Bool.and_false, Nat.reduceAdd, Nat.reduceSub, Nat.reduceEqDiff, Nat.reduceLeDiff, Nat.reduceMul, Nat.reduceLT, Int.reduceLE, Int.reduceLT, Int.reduceEq, Int.reduceMul, Int.reduceToNat, Int.reduceNeg, Int.reduceAdd, Int.reduceSub, Int.natCast_nonneg, Int.toNat_natCast, reduceIte, reduceCtorEq]); refine rcd_r hT (by simp [flatV, flatL]) (flat_nc _ _) (by simp [frB, baseOf]) ?_; (try simp only [push_cast, Int.le_refl, Bool.not_not, Option.isSome_some, Option.isSome_none, Bool.true_or, Bool.or_true, Bool.and_self, Bool.false_or, Bool.or_false, Bool.false_and, Bool.and_false, Nat.reduceAdd, Nat.reduceSub, Nat.reduceEqDiff, Nat.reduceLeDiff, Nat.reduceMul, Nat.reduceLT, Int.reduceLE, Int.reduceLT, Int.reduceEq, Int.reduceMul, Int.reduceToNat, Int.reduceNeg, Int.reduceAdd, Int.reduceSub, Int.natCast_nonneg, Int.toNat_natCast, reduceIte, reduceCtorEq]))
    repeat' first | (refine at_bWn (fun hb => ?_) (fun hb => ?_) <;> simp only [decide_true, Bool.not_true, hb, push_cast, Int.le_refl, Bool.not_not, Option.isSome_some, Option.isSome_none, Bool.true_or, Bool.or_true, Bool.and_self, Bool.false_or, Bool.or_false, Bool.false_and, Bool.and_false, Nat.reduceAdd, Nat.reduceSub, Nat.reduceEqDiff, Nat.reduceLeDiff, Nat.reduceMul, Nat.reduceLT, Int.reduceLE, Int.reduceLT, Int.reduceEq, Int.reduceMul, Int.reduceToNat, Int.reduceNeg, Int.reduceAdd, Int.reduceSub, Int.natCast_nonneg, Int.toNat_natCast, reduceIte, reduceCtorEq]) | (refine at_bW (fun hb => ?_) (fun hb => ?_) <;> simp only [decide_true, Bool.not_true, hb, push_cast, Int.le_refl, Bool.not_not, Option.isSome_some, Option.isSome_none, Bool.true_or, Bool.or_true, Bool.and_self, Bool.false_or, Bool.or_false, Bool.false_and, Bool.and_false, Nat.reduceAdd, Nat.reduceSub, Nat.reduceEqDiff, Nat.reduceLeDiff, Nat.reduceMul, Nat.reduceLT, Int.reduceLE, Int.reduceLT, Int.reduceEq, Int.reduceMul, Int.reduceToNat, Int.reduceNeg, Int.reduceAdd, Int.reduceSub, Int.natCast_nonneg, Int.toNat_natCast, reduceIte, reduceCtorEq]) | (refine at_callD (by simp [clB, idsL, idsA, hget]) ?_; (try simp only [push_cast, Int.le_refl, Bool.not_not, Option.isSome_some, Option.isSome_none, Bool.true_or, Bool.or_true, Bool.and_self, Bool.false_or, Bool.or_false, Bool.false_and, Bool.and_false, Nat.reduceAdd, Nat.reduceSub, Nat.reduceEqDiff, Nat.reduceLeDiff, Nat.reduceMul, Nat.reduceLT, Int.reduceLE, Int.reduceLT, Int.reduceEq, Int.reduceMul, Int.reduceToNat, Int.reduceNeg, Int.reduceAdd, Int.reduceSub, Int.natCast_nonneg, Int.toNat_natCast, reduceIte, reduceCtorEq]); first | (refine rcd_v (hE) ?_; simp only [decide_true, Bool.not_true, push_cast, Int.le_refl, Bool.not_not, Option.isSome_some, Option.isSome_none, Bool.true_or, Bool.or_true, Bool.and_self, Bool.false_or, Bool.or_false, Bool.false_and, Bool.and_false, Nat.reduceAdd, Nat.reduceSub, Nat.reduceEqDiff, Nat.reduceLeDiff, Nat.reduceMul, Nat.reduceLT, Int.reduceLE, Int.reduceLT, Int.reduceEq, Int.reduceMul, Int.reduceToNat, Int.reduceNeg, Int.reduceAdd, Int.reduceSub, Int.natCast_nonneg, Int.toNat_natCast, reduceIte, reduceCtorEq]) | (refine rcd_d (hE) (by simp [flatV, flatL, ctC, ndC, cmC]) (by simp [ren, ctC, ndC, cmC]) ?_; simp only [decide_true, Bool.not_true, push_cast, Int.le_refl, Bool.not_not, Option.isSome_some, Option.isSome_none, Bool.true_or, Bool.or_true, Bool.and_self, Bool.false_or, Bool.or_false, Bool.false_and, Bool.and_false, Nat.reduceAdd, Nat.reduceSub, Nat.reduceEqDiff, Nat.reduceLeDiff, Nat.reduceMul, Nat.reduceLT, Int.reduceLE, Int.reduceLT, Int.reduceEq, Int.reduceMul, Int.reduceToNat, Int.reduceNeg, Int.reduceAdd, Int.reduceSub, Int.natCast_nonneg, Int.toNat_natCast, reduceIte, reduceCtorEq])) | (refine at_done (by kernel_rfl) (by kernel_rfl) (go_on ?_); (try simp only [decide_true, Bool.not_true, push_cast, Int.le_refl, Bool.not_not, Option.isSome_some, Option.isSome_none, Bool.true_or, Bool.or_true, Bool.and_self, Bool.false_or, Bool.or_false, Bool.false_and, Bool.and_false, Nat.reduceAdd, Nat.reduceSub, Nat.reduceEqDiff, Nat.reduceLeDiff, Nat.reduceMul, Nat.reduceLT, Int.reduceLE, Int.reduceLT, Int.reduceEq, Int.reduceMul, Int.reduceToNat, Int.reduceNeg, Int.reduceAdd, Int.reduceSub, Int.natCast_nonneg, Int.toNat_natCast, reduceIte, reduceCtorEq]))
    refine at_ret ?_; simp only [Tryd.results5, push_cast, Int.le_refl, Bool.not_not, Option.isSome_some, Option.isSome_none, Bool.true_or, Bool.or_true, Bool.and_self, Bool.false_or, Bool.or_false, Bool.false_and, Bool.and_false, Nat.reduceAdd, Nat.reduceSub, Nat.reduceEqDiff, Nat.reduceLeDiff, Nat.reduceMul, Nat.reduceLT, Int.reduceLE, Int.reduceLT, Int.reduceEq, Int.reduceMul, Int.reduceToNat, Int.reduceNeg, Int.reduceAdd, Int.reduceSub, Int.natCast_nonneg, Int.toNat_natCast, reduceIte, reduceCtorEq]
    simp [vX]
end Go.Proofs.YtcjialgknmplbaaDoor
/-
  Opening a side that a law is handed: what it reads as, in the machine's words.
-/
namespace Go.Proofs.YtcjialgknmplbaaDoor
open Go Go.RowKit Go.Proofs
set_option maxRecDepth 100000
section
variable {H : Type} {enc : TypeId × Value → H} {W : World} {base : Nat} {sp : Nat → Bool} {held : Bool} {fuel : Nat} {cs : List Value} {x : DataW H × List MemPlace}
theorem two_of {α : Type} {l : List α} (h : l.length = 2) : ∃ a b, l = [a, b] := by
  match l, h with
  | [a, b], _ => exact ⟨a, b, rfl⟩
theorem three_of {α : Type} {l : List α} (h : l.length = 3) : ∃ a b c, l = [a, b, c] := by
  match l, h with
  | [a, b, c], _ => exact ⟨a, b, c, rfl⟩
theorem five_of {α : Type} {l : List α} (h : l.length = 5) : ∃ a b c d e, l = [a, b, c, d, e] := by
  match l, h with
  | [a, b, c, d, e], _ => exact ⟨a, b, c, d, e, rfl⟩
theorem str_of (b : ByteArray) : ∃ s : Str, (⟨s.toArray⟩ : ByteArray) = b ∧ s.length = b.size := ⟨b.data.toList, by simp, by rw [Array.length_toList]; rfl⟩
theorem open_content (h : DataW.trod enc Tryd.prog W base sp held fuel 57 cs = some x) : ∃ c : Ct, cs = [.int .i64 c.k, .int .i64 c.v] := by
  obtain ⟨xs, n, rfl, rfl, hl, hlen, hf⟩ := DataW.trod_struct Tryd.underlying57 h
  rw [show Tryd.prog.cellsOf 57 = 2 by kernel_rfl] at hl
  obtain ⟨a, b, rfl⟩ := two_of hl
  obtain ⟨y0, y1, rfl⟩ := two_of hlen
  have h0 := hf 0 _ rfl
  have h1 := hf 1 _ rfl
  simp only [show Tryd.prog.cellsOf 3 = 1 by kernel_rfl, List.drop, List.take, List.getElem?_cons_zero, List.getElem?_cons_succ] at h0 h1
  obtain ⟨k, e1, _⟩ := DataW.trod_int Tryd.underlying3 h0
  obtain ⟨v, e2, _⟩ := DataW.trod_int Tryd.underlying3 h1
  cases e1
  cases e2
  exact ⟨⟨k, v⟩, rfl⟩
theorem open_node (h : DataW.trod enc Tryd.prog W base sp held fuel 106 cs = some x) : ∃ n : Nd, cs = [.string ⟨n.p.toArray⟩, .int .i64 n.c.k, .int .i64 n.c.v] ∧ n.p.length ≤ maxLen := by
  obtain ⟨xs, n, rfl, rfl, hl, hlen, hf⟩ := DataW.trod_struct Tryd.underlying106 h
  rw [show Tryd.prog.cellsOf 106 = 3 by kernel_rfl] at hl
  obtain ⟨a, b, c, rfl⟩ := three_of hl
  obtain ⟨y0, y1, rfl⟩ := two_of hlen
  have h0 := hf 0 _ rfl
  have h1 := hf 1 _ rfl
  simp only [show Tryd.prog.cellsOf 9 = 1 by kernel_rfl, show Tryd.prog.cellsOf 57 = 2 by kernel_rfl, List.drop, List.take, List.getElem?_cons_zero, List.getElem?_cons_succ] at h0 h1
  obtain ⟨s, e1, _, hs⟩ := DataW.trod_string Tryd.underlying9 h0
  obtain ⟨v, e2⟩ := open_content h1
  obtain ⟨q, rfl, hq⟩ := str_of s
  cases e1
  cases e2
  exact ⟨⟨q, v⟩, rfl, by simpa only [hq] using hs⟩
theorem open_command (h : DataW.trod enc Tryd.prog W base sp held fuel 59 cs = some x) : ∃ n : Cm, cs = [.string ⟨n.p.toArray⟩, .int .i64 n.a.k, .int .i64 n.a.v, .int .i64 n.b.k, .int .i64 n.b.v] ∧ n.p.length ≤ maxLen := by
  obtain ⟨xs, n, rfl, rfl, hl, hlen, hf⟩ := DataW.trod_struct Tryd.underlying59 h
  rw [show Tryd.prog.cellsOf 59 = 5 by kernel_rfl] at hl
  obtain ⟨a, b, c, d, e, rfl⟩ := five_of hl
  obtain ⟨y0, y1, y2, rfl⟩ := three_of hlen
  have h0 := hf 0 _ rfl
  have h1 := hf 1 _ rfl
  have h2 := hf 2 _ rfl
  simp only [show Tryd.prog.cellsOf 9 = 1 by kernel_rfl, show Tryd.prog.cellsOf 57 = 2 by kernel_rfl, List.drop, List.take, List.getElem?_cons_zero, List.getElem?_cons_succ] at h0 h1 h2
  obtain ⟨s, e1, _, hs⟩ := DataW.trod_string Tryd.underlying9 h0
  obtain ⟨v, e2⟩ := open_content h1
  obtain ⟨u, e3⟩ := open_content h2
  obtain ⟨q, rfl, hq⟩ := str_of s
  cases e1
  cases e2
  cases e3
  exact ⟨⟨q, v, u⟩, rfl, by simpa only [hq] using hs⟩
theorem choose_list {α : Type} {n : Nat} {p : Nat → α → Prop} (h : ∀ i, i < n → ∃ a, p i a) : ∃ l : List α, l.length = n ∧ ∀ (i : Nat) a, l[i]? = some a → p i a := by
  induction n with
  | zero => exact ⟨[], rfl, fun i a h => by simp at h⟩
  | succ n ih =>
    obtain ⟨l, h1, h2⟩ := ih fun i hi => h i (by omega)
    obtain ⟨a, ha⟩ := h n (by omega)
    refine ⟨l ++ [a], by simp [h1], fun i b hb => ?_⟩
    by_cases hi : i < l.length
    · rw [List.getElem?_append_left hi] at hb
      exact h2 i b hb
    · rw [List.getElem?_append_right (by omega)] at hb
      by_cases h0 : i - l.length = 0
      · rw [h0] at hb
        cases hb
        obtain rfl : i = n := by omega
        exact ha
      · have := (List.getElem?_eq_some_iff.1 hb).1
        simp at this
        omega
theorem cells_get {a : Addr} {n : Nat} {l : List Value} (h : W.cells? base a n = some l) : l.length = n ∧ ∀ j, j < n → W.cell? (a.add j) = l[j]? := by
  unfold World.cells? at h
  split at h
  · refine ⟨by have := mapM_some_length h; simpa using this, fun j hj => mapM_some_get h j j (by simp [hj])⟩
  · cases h
/-- A slice of structs of plain data. -/
theorem open_sl {α : Type} {K : α → List AV} {V : α → List Value} {Q : α → Prop} {t e sz : Nat} {lv : Nat → Prop} (ht : Tryd.prog.underlying t = some (.slice e)) (hz : Tryd.prog.cellsOf e = sz) (h0 : 0 < sz)
    (hel : ∀ (fuel : Nat) (cs : List Value) (x : DataW H × List MemPlace), DataW.trod enc Tryd.prog W 0 sp held fuel e cs = some x → ∃ a, cs = V a ∧ Q a)
    (hV : ∀ a, (V a).length = sz ∧ (V a).all Value.oneCell' = true ∧ K a = (V a).map AV.v) (hlv : ∀ b, b < W.heap.size → ¬ lv b)
    (h : DataW.trod enc Tryd.prog W 0 sp held fuel t cs = some x) :
    ∃ (l : List α) (v : Value), cs = [v] ∧ C lv 0 W (.sl sz (l.map K)) v ∧ l.length ≤ maxLen ∧ ∀ a ∈ l, Q a := by
  rcases DataW.trod_slice ht h with ⟨rfl, _⟩ | ⟨a, len, cap, elems, rest, n, rfl, rfl, _, _, hl, hm, hlen, hg, _, _⟩
  · refine ⟨[], _, rfl, C.sl [] (fun _ _ => undef) ⟨by simp, fun h => absurd h (by simp)⟩ (fun h => absurd h (by simp)) (by simp) (by omega) ?_ ?_ ?_, by simp, by simp⟩ <;> intro k e <;> simp
  · have hex : ∀ i, i < len → ∃ b, (∀ j, j < sz → W.cell? (a.add (i * sz + j)) = (V b)[j]?) ∧ Q b := by
      intro i hi
      have h1 := hg i hi
      rw [hz] at h1
      obtain ⟨y, hy⟩ : ∃ y, elems[i]? = some y := ⟨_, List.getElem?_eq_getElem (by omega)⟩
      rw [hy, Option.bind_eq_some_iff] at h1
      obtain ⟨cs', hcs, hy'⟩ := h1
      obtain ⟨b, rfl, hb⟩ := hel _ _ _ hy'
      refine ⟨b, fun j hj => ?_, hb⟩
      have h2 := (cells_get hcs).2 j hj
      rw [← h2]
      congr 1
      unfold Addr.add
      by_cases g1 : j = 0
      · subst g1; simp
      · by_cases g2 : i * sz = 0
        · simp [g2]
        · rw [if_neg (by omega), if_neg g1, if_neg g2]
          simp only [Nat.add_assoc]
    obtain ⟨l, hll, hlg⟩ := choose_list hex
    subst hll
    have hcell : ∀ (i : Nat) b j, l[i]? = some b → j < sz → W.cell? (a.add (i * sz + j)) = (V b)[j]? := fun i b j hb hj => (hlg i b hb).1 j hj
    have hQ : ∀ b ∈ l, Q b := fun b hb => by
      obtain ⟨i, hi⟩ := List.getElem?_of_mem hb
      exact (hlg i b hi).2
    have xget : ∀ (l : List α) (i : Nat) b j, l[i]? = some b → j < sz → (l.flatMap V)[i * sz + j]? = (V b)[j]? := by
      intro l
      induction l with
      | nil => intro i b j hb; simp at hb
      | cons c l ih =>
        intro i b j hb hj
        cases i with
        | zero =>
          cases hb
          rw [List.flatMap_cons, Nat.zero_mul, Nat.zero_add, List.getElem?_append_left (by rw [(hV c).1]; exact hj)]
        | succ i =>
          rw [List.flatMap_cons, List.getElem?_append_right (by rw [(hV c).1, Nat.succ_mul]; omega), (hV c).1, show (i + 1) * sz + j - sz = i * sz + j by rw [Nat.succ_mul]; omega]
          exact ih i b j hb hj
    have xlen : ∀ l : List α, (l.flatMap V).length = l.length * sz := by
      intro l
      induction l with
      | nil => simp
      | cons c l ih => rw [List.flatMap_cons, List.length_append, (hV c).1, ih, List.length_cons, Nat.succ_mul]; omega
    have hVj : ∀ b j, j < sz → ∃ u, (V b)[j]? = some u ∧ u.oneCell' = true ∧ (K b)[j]? = some (.v u) := by
      intro b j hj
      obtain ⟨u, hu⟩ : ∃ u, (V b)[j]? = some u := ⟨_, List.getElem?_eq_getElem (by rw [(hV b).1]; exact hj)⟩
      refine ⟨u, hu, ?_, ?_⟩
      · exact List.all_eq_true.1 (hV b).2.1 u (List.mem_of_getElem? hu)
      · rw [(hV b).2.2, List.getElem?_map, hu]; rfl
    have hKl : ∀ b, (K b).length = sz := fun b => by rw [(hV b).2.2, List.length_map, (hV b).1]
    refine ⟨l, _, rfl, ?_, by omega, hQ⟩
    rw [← List.length_map (f := K)]
    refine C.sl (l.flatMap V) (fun i j => ((l.flatMap V)[i * sz + j]?).getD undef) ⟨by rw [xlen, List.length_map], fun hp => ?_⟩ (fun hp ad had => ?_) (by rw [List.length_map]; exact hl) hm (fun k e he => ?_) (fun k e j he hj => ?_) (fun k e j c he hj => ?_)
    · rw [List.length_map] at hp
      obtain ⟨b0, hb0⟩ : ∃ b, l[0]? = some b := ⟨_, List.getElem?_eq_getElem hp⟩
      obtain ⟨u0, hu0, _⟩ := hVj b0 0 h0
      have hc0 := hcell 0 b0 0 hb0 h0
      rw [hu0, Nat.zero_mul, Nat.zero_add] at hc0
      have hs : a.spot = none := by simpa [Addr.add] using World.cell?_spot hc0
      obtain ⟨b, off, spt⟩ := a
      simp only at hs
      subst hs
      refine ⟨b, off, rfl, Nat.zero_le _, ?_, fun j u hj => ?_⟩
      · have hc1 := hc0
        rw [show (⟨b, off, none⟩ : Addr).add 0 = ⟨b, off, none⟩ from rfl] at hc1
        obtain ⟨e', m, hsh, _, _⟩ := World.shape?_of_cell? hc1
        by_cases hb : b < W.heap.size
        · exact hb
        · rw [World.shape?, Array.getElem?_eq_none (by simpa using hb)] at hsh
          cases hsh
      · have hj1 : j < l.length * sz := by have := (List.getElem?_eq_some_iff.1 hj).1; rw [xlen] at this; exact this
        have hq : j / sz < l.length := Nat.div_lt_of_lt_mul (by rw [Nat.mul_comm]; exact hj1)
        obtain ⟨b1, hb1⟩ : ∃ b, l[j / sz]? = some b := ⟨_, List.getElem?_eq_getElem hq⟩
        have hm1 : j % sz < sz := Nat.mod_lt _ h0
        have ej : j / sz * sz + j % sz = j := by rw [Nat.mul_comm]; exact Nat.div_add_mod j sz
        have h3 := hcell _ b1 _ hb1 hm1
        have h4 := xget l _ b1 _ hb1 hm1
        rw [ej] at h3 h4
        rw [← h4, hj] at h3
        rw [← Go.WideShapes.add_plain]
        exact h3
    · rw [List.length_map] at hp
      cases had
      obtain ⟨b0, hb0⟩ : ∃ b, l[0]? = some b := ⟨_, List.getElem?_eq_getElem hp⟩
      obtain ⟨u0, hu0, _⟩ := hVj b0 0 h0
      have hc0 := hcell 0 b0 0 hb0 h0
      rw [hu0, Nat.zero_mul, Nat.zero_add] at hc0
      obtain ⟨e', m, hsh, _, _⟩ := World.shape?_of_cell? hc0
      refine hlv _ ?_
      by_cases hb : a.block < W.heap.size
      · exact hb
      · rw [World.shape?, Array.getElem?_eq_none (by simpa [Addr.add] using hb)] at hsh
        cases hsh
    · rw [List.getElem?_map, Option.map_eq_some_iff] at he
      obtain ⟨b, _, rfl⟩ := he
      exact hKl b
    · rw [List.getElem?_map, Option.map_eq_some_iff] at he
      obtain ⟨b, hb, rfl⟩ := he
      rw [hKl] at hj
      obtain ⟨u, hu, ho, _⟩ := hVj b j hj
      rw [xget l k b j hb hj, hu]
      exact ⟨rfl, ho⟩
    · rw [List.getElem?_map, Option.map_eq_some_iff] at he
      obtain ⟨b, hb, rfl⟩ := he
      have hj2 : j < sz := by have := (List.getElem?_eq_some_iff.1 hj).1; rwa [hKl] at this
      obtain ⟨u, hu, ho, hk⟩ := hVj b j hj2
      rw [hk] at hj
      cases hj
      rw [xget l k b j hb hj2, hu]
      exact C.v
theorem open_nodes {lv : Nat → Prop} (hlv : ∀ b, b < W.heap.size → ¬ lv b) (h : DataW.trod enc Tryd.prog W 0 sp held fuel 36 cs = some x) :
    ∃ (l : List Nd) (v : Value), cs = [v] ∧ C lv 0 W (ndA l) v ∧ l.length ≤ maxLen ∧ ∀ n ∈ l, n.p.length ≤ maxLen :=
  open_sl (V := fun n : Nd => [.string ⟨n.p.toArray⟩, .int .i64 n.c.k, .int .i64 n.c.v]) Tryd.underlying36 (by kernel_rfl) (by omega) (fun _ _ _ h => open_node h) (fun a => ⟨rfl, rfl, rfl⟩) hlv h
theorem open_commands {lv : Nat → Prop} (hlv : ∀ b, b < W.heap.size → ¬ lv b) (h : DataW.trod enc Tryd.prog W 0 sp held fuel 37 cs = some x) :
    ∃ (l : List Cm) (v : Value), cs = [v] ∧ C lv 0 W (cmA l) v ∧ l.length ≤ maxLen ∧ ∀ n ∈ l, n.p.length ≤ maxLen :=
  open_sl (V := fun n : Cm => [.string ⟨n.p.toArray⟩, .int .i64 n.a.k, .int .i64 n.a.v, .int .i64 n.b.k, .int .i64 n.b.v]) Tryd.underlying37 (by kernel_rfl) (by omega) (fun _ _ _ h => open_command h) (fun a => ⟨rfl, rfl, rfl⟩) hlv h
theorem res_bool {fb : Nat → Prop} {b : Bool} {base : Nat} {w' : World} {rows : List Row} {rv : AV} {u : Value} (hd : vB b rv rows) (hr : Res fb base w' rows rv u) : u = .bool b := by
  obtain ⟨rfl, rfl⟩ := hd
  obtain ⟨loc, _, hG, _⟩ := hr
  cases hG with
  | cl hc => cases hc; rfl
theorem open_cmd {lv : Nat → Prop} {cs : Array Value} {d : DataW H × List MemPlace} (h : DataW.trod enc Tryd.prog W 0 sp held fuel 59 cs.toList = some d) :
    ∃ c : Cm, C lv 0 W (cmdA c) (.agg cs) ∧ c.p.length ≤ maxLen := by
  obtain ⟨c, hc, hl⟩ := open_command h
  obtain rfl : cs = #[.string ⟨c.p.toArray⟩, .int .i64 c.a.k, .int .i64 c.a.v, .int .i64 c.b.k, .int .i64 c.b.v] := by cases cs; simp_all
  refine ⟨c, C.agg _ rfl fun j a ha => ?_, hl⟩
  rcases j with _ | _ | _ | _ | _ | j
  · cases ha; exact C.v
  · cases ha; exact C.v
  · cases ha; exact C.v
  · cases ha; exact C.v
  · cases ha; exact C.v
  · simp [cmC] at ha
theorem open_site {lv : Nat → Prop} {cs : Array Value} (hlv : ∀ b, b < W.heap.size → ¬ lv b) (h : DataW.trod enc Tryd.prog W 0 sp held fuel 39 cs.toList = some x) :
    ∃ s : St, C lv 0 W (stA' s) (.agg cs) ∧ SiteOk s := by
  obtain ⟨cs⟩ := cs
  simp only at h
  obtain ⟨xs, n, rfl, rfl, hl, hlen, hf⟩ := DataW.trod_struct Tryd.underlying39 h
  rw [show Tryd.prog.cellsOf 39 = 3 by kernel_rfl] at hl
  obtain ⟨a, b, c, rfl⟩ := three_of hl
  obtain ⟨y0, y1, y2, rfl⟩ := three_of hlen
  have h0 := hf 0 _ rfl
  have h1 := hf 1 _ rfl
  have h2 := hf 2 _ rfl
  simp only [show Tryd.prog.cellsOf 3 = 1 by kernel_rfl, show Tryd.prog.cellsOf 36 = 1 by kernel_rfl, show Tryd.prog.cellsOf 37 = 1 by kernel_rfl, List.drop, List.take, List.getElem?_cons_zero, List.getElem?_cons_succ] at h0 h1 h2
  obtain ⟨ep, e1, _⟩ := DataW.trod_int Tryd.underlying3 h0
  obtain ⟨lb, vb, e2, hb, b1, b2⟩ := open_nodes hlv h1
  obtain ⟨ll, vl, e3, hl', l1, l2⟩ := open_commands hlv h2
  cases e1
  cases e2
  cases e3
  refine ⟨⟨ep, lb, ll⟩, C.agg _ rfl fun j a ha => ?_, ⟨b1, b2, l1, l2⟩⟩
  rcases j with _ | _ | _ | j
  · cases ha; exact C.v
  · cases ha; exact hb
  · cases ha; exact hl'
  · simp [stC] at ha
end
end Go.Proofs.YtcjialgknmplbaaDoor
