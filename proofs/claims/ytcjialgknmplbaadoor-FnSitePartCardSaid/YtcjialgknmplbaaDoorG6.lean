/- A part of the proof of FnSitePart: texts W12 W13 O1 D1 O2 D2. -/
import Derived.Test.YtcjialgknmplbaaDoorG5
import Derived.ChangeArms
import Derived.ChangeSame
import Derived.OpenShut
set_option linter.unusedSimpArgs false
set_option linter.unusedVariables false
/-
  Walks: the laws' own helpers: copies, equalities, sizes.
-/
namespace Go.Proofs.YtcjialgknmplbaaDoor
open Go Go.RowKit Go.Proofs
def sz1 (left len : Int) : Int := if left - len < 0 then -1 else left - len
def szF : Int → List Nat → Int
  | r, [] => r
  | r, a :: l => if r - (a : Int) < 0 then -1 else szF (r - (a : Int)) l
def szS (left : Int) (ls : List Nat) : Int := if left - (ls.length : Int) < 0 then -1 else szF (left - (ls.length : Int)) ls
theorem szF_ge : ∀ (ls : List Nat) (r : Int), 0 ≤ r → -1 ≤ szF r ls ∧ szF r ls ≤ r
  | [], r, h => by simp [szF]; omega
  | a :: l, r, h => by
    unfold szF
    split
    · omega
    · have := szF_ge l (r - a) (by omega)
      omega
theorem szF_mem : ∀ (ls : List Nat) (r : Int), 0 ≤ r → 0 ≤ szF r ls → ∀ a ∈ ls, (a : Int) ≤ r
  | [], r, _, _, a, ha => by cases ha
  | b :: l, r, h, h2, a, ha => by
    unfold szF at h2
    split at h2
    · omega
    · rcases List.mem_cons.1 ha with rfl | ha
      · omega
      · have := szF_mem l (r - b) (by omega) h2 a ha
        omega
theorem szS_ok {left : Int} {ls : List Nat} (h0 : 0 ≤ left) (h : 0 ≤ szS left ls) : (ls.length : Int) ≤ left ∧ (∀ a ∈ ls, (a : Int) ≤ left) ∧ szS left ls ≤ left := by
  unfold szS at *
  split at h
  · omega
  · rename_i h1
    rw [if_neg h1]
    have h2 := szF_ge ls (left - ls.length) (by omega)
    refine ⟨by omega, fun a ha => ?_, by omega⟩
    have := szF_mem ls _ (by omega) h a ha
    omega
theorem szS_ge {left : Int} {ls : List Nat} (h0 : 0 ≤ left) : -1 ≤ szS left ls := by
  unfold szS
  split
  · omega
  · exact (szF_ge ls _ (by omega)).1
attribute [local irreducible] RWp AW run kPe pe Kt effA gd gu br retR RDp runD kPeD brW gW effD
set_option maxRecDepth 100000
theorem toContent_pc (c : Ct) : PC Tryd.prog 67 [ctA c] (vX (ctA c)) := by
  unfold ctA ctC
  refine pc_enter Tryd.func67 rfl rfl fun w0 fb => go_on ?_; (try simp only [Tryd.ntmps67, push_cast, Int.le_refl, Bool.not_not, Option.isSome_some, Option.isSome_none, Bool.true_or, Bool.or_true, Bool.and_self, Bool.false_or, Bool.or_false, Bool.false_and, Bool.and_false, Nat.reduceAdd, Nat.reduceSub, Nat.reduceEqDiff, Nat.reduceLeDiff, Nat.reduceMul, Nat.reduceLT, Int.reduceLE, Int.reduceLT, Int.reduceEq, Int.reduceMul, Int.reduceToNat, Int.reduceNeg, Int.reduceAdd, Int.reduceSub, Int.natCast_nonneg, Int.toNat_natCast, reduceIte, reduceCtorEq])
  refine at_ret ?_; simp only [Tryd.results67, push_cast, Int.le_refl, Bool.not_not, Option.isSome_some, Option.isSome_none, Bool.true_or, Bool.or_true, Bool.and_self, Bool.false_or, Bool.or_false, Bool.false_and, Bool.and_false, Nat.reduceAdd, Nat.reduceSub, Nat.reduceEqDiff, Nat.reduceLeDiff, Nat.reduceMul, Nat.reduceLT, Int.reduceLE, Int.reduceLT, Int.reduceEq, Int.reduceMul, Int.reduceToNat, Int.reduceNeg, Int.reduceAdd, Int.reduceSub, Int.natCast_nonneg, Int.toNat_natCast, reduceIte, reduceCtorEq]
  simp [vX]
theorem eqContent_pc (a b : Ct) : PC Tryd.prog 91 [ctA a, ctA b] (vB (decide (a = b))) := by
  obtain ⟨a1, a2⟩ := a
  obtain ⟨b1, b2⟩ := b
  unfold ctA ctC
  refine pc_enter Tryd.func91 rfl rfl fun w0 fb => go_on ?_; (try simp only [Tryd.ntmps91, push_cast, Int.le_refl, Bool.not_not, Option.isSome_some, Option.isSome_none, Bool.true_or, Bool.or_true, Bool.and_self, Bool.false_or, Bool.or_false, Bool.false_and, Bool.and_false, Nat.reduceAdd, Nat.reduceSub, Nat.reduceEqDiff, Nat.reduceLeDiff, Nat.reduceMul, Nat.reduceLT, Int.reduceLE, Int.reduceLT, Int.reduceEq, Int.reduceMul, Int.reduceToNat, Int.reduceNeg, Int.reduceAdd, Int.reduceSub, Int.natCast_nonneg, Int.toNat_natCast, reduceIte, reduceCtorEq])
  repeat' first | (refine at_b (fun hb => ?_) (fun hb => ?_) <;> simp only [hb, push_cast, Int.le_refl, Bool.not_not, Option.isSome_some, Option.isSome_none, Bool.true_or, Bool.or_true, Bool.and_self, Bool.false_or, Bool.or_false, Bool.false_and, Bool.and_false, Nat.reduceAdd, Nat.reduceSub, Nat.reduceEqDiff, Nat.reduceLeDiff, Nat.reduceMul, Nat.reduceLT, Int.reduceLE, Int.reduceLT, Int.reduceEq, Int.reduceMul, Int.reduceToNat, Int.reduceNeg, Int.reduceAdd, Int.reduceSub, Int.natCast_nonneg, Int.toNat_natCast, reduceIte, reduceCtorEq]) | (refine at_ret ?_; simp only [Tryd.results91, push_cast, Int.le_refl, Bool.not_not, Option.isSome_some, Option.isSome_none, Bool.true_or, Bool.or_true, Bool.and_self, Bool.false_or, Bool.or_false, Bool.false_and, Bool.and_false, Nat.reduceAdd, Nat.reduceSub, Nat.reduceEqDiff, Nat.reduceLeDiff, Nat.reduceMul, Nat.reduceLT, Int.reduceLE, Int.reduceLT, Int.reduceEq, Int.reduceMul, Int.reduceToNat, Int.reduceNeg, Int.reduceAdd, Int.reduceSub, Int.natCast_nonneg, Int.toNat_natCast, reduceIte, reduceCtorEq]) | (show RWp _ _ _ _ _; simp only [push_cast, Int.le_refl, Bool.not_not, Option.isSome_some, Option.isSome_none, Bool.true_or, Bool.or_true, Bool.and_self, Bool.false_or, Bool.or_false, Bool.false_and, Bool.and_false, Nat.reduceAdd, Nat.reduceSub, Nat.reduceEqDiff, Nat.reduceLeDiff, Nat.reduceMul, Nat.reduceLT, Int.reduceLE, Int.reduceLT, Int.reduceEq, Int.reduceMul, Int.reduceToNat, Int.reduceNeg, Int.reduceAdd, Int.reduceSub, Int.natCast_nonneg, Int.toNat_natCast, reduceIte, reduceCtorEq])
  all_goals simp only [Bool.not_eq_true', Bool.not_eq_false', eqI_d, decide_eq_true_eq, decide_eq_false_iff_not] at *
  all_goals simp [vX, *]
theorem nd_ext (a b : Nd) : a = b ↔ a.p = b.p ∧ a.c = b.c := by
  obtain ⟨a1, a2⟩ := a
  obtain ⟨b1, b2⟩ := b
  simp
theorem cm_ext (a b : Cm) : a = b ↔ a.p = b.p ∧ a.a = b.a ∧ a.b = b.b := by
  obtain ⟨a1, a2, a3⟩ := a
  obtain ⟨b1, b2, b3⟩ := b
  simp
theorem toNode_pc (n : Nd) : PC Tryd.prog 83 [.agg (ndC n)] (vX (.agg (ndC n))) := by
  have h1 := toContent_pc n.c
  unfold ctA ctC at h1
  unfold ndC
  refine pc_enter Tryd.func83 rfl rfl fun w0 fb => go_on ?_; (try simp only [Tryd.ntmps83, push_cast, Int.le_refl, Bool.not_not, Option.isSome_some, Option.isSome_none, Bool.true_or, Bool.or_true, Bool.and_self, Bool.false_or, Bool.or_false, Bool.false_and, Bool.and_false, Nat.reduceAdd, Nat.reduceSub, Nat.reduceEqDiff, Nat.reduceLeDiff, Nat.reduceMul, Nat.reduceLT, Int.reduceLE, Int.reduceLT, Int.reduceEq, Int.reduceMul, Int.reduceToNat, Int.reduceNeg, Int.reduceAdd, Int.reduceSub, Int.natCast_nonneg, Int.toNat_natCast, reduceIte, reduceCtorEq])
  (refine at_call ?_; (try simp only [push_cast, Int.le_refl, Bool.not_not, Option.isSome_some, Option.isSome_none, Bool.true_or, Bool.or_true, Bool.and_self, Bool.false_or, Bool.or_false, Bool.false_and, Bool.and_false, Nat.reduceAdd, Nat.reduceSub, Nat.reduceEqDiff, Nat.reduceLeDiff, Nat.reduceMul, Nat.reduceLT, Int.reduceLE, Int.reduceLT, Int.reduceEq, Int.reduceMul, Int.reduceToNat, Int.reduceNeg, Int.reduceAdd, Int.reduceSub, Int.natCast_nonneg, Int.toNat_natCast, reduceIte, reduceCtorEq]); refine rwc_d (h1) (by simp [flatV, flatL, ctC, ndC, cmC]) (by simp [ren, ctC, ndC, cmC]) (go_on ?_); (try simp only [push_cast, Int.le_refl, Bool.not_not, Option.isSome_some, Option.isSome_none, Bool.true_or, Bool.or_true, Bool.and_self, Bool.false_or, Bool.or_false, Bool.false_and, Bool.and_false, Nat.reduceAdd, Nat.reduceSub, Nat.reduceEqDiff, Nat.reduceLeDiff, Nat.reduceMul, Nat.reduceLT, Int.reduceLE, Int.reduceLT, Int.reduceEq, Int.reduceMul, Int.reduceToNat, Int.reduceNeg, Int.reduceAdd, Int.reduceSub, Int.natCast_nonneg, Int.toNat_natCast, reduceIte, reduceCtorEq]))
  refine at_ret ?_; simp only [Tryd.results83, push_cast, Int.le_refl, Bool.not_not, Option.isSome_some, Option.isSome_none, Bool.true_or, Bool.or_true, Bool.and_self, Bool.false_or, Bool.or_false, Bool.false_and, Bool.and_false, Nat.reduceAdd, Nat.reduceSub, Nat.reduceEqDiff, Nat.reduceLeDiff, Nat.reduceMul, Nat.reduceLT, Int.reduceLE, Int.reduceLT, Int.reduceEq, Int.reduceMul, Int.reduceToNat, Int.reduceNeg, Int.reduceAdd, Int.reduceSub, Int.natCast_nonneg, Int.toNat_natCast, reduceIte, reduceCtorEq]
  simp [vX]
theorem eqNode_pc (a b : Nd) : PC Tryd.prog 64 [.agg (ndC a), .agg (ndC b)] (vB (decide (a = b))) := by
  have h1 := eqContent_pc a.c b.c
  unfold ctA ctC at h1
  unfold ndC
  refine pc_enter Tryd.func64 rfl rfl fun w0 fb => go_on ?_; (try simp only [Tryd.ntmps64, push_cast, Int.le_refl, Bool.not_not, Option.isSome_some, Option.isSome_none, Bool.true_or, Bool.or_true, Bool.and_self, Bool.false_or, Bool.or_false, Bool.false_and, Bool.and_false, Nat.reduceAdd, Nat.reduceSub, Nat.reduceEqDiff, Nat.reduceLeDiff, Nat.reduceMul, Nat.reduceLT, Int.reduceLE, Int.reduceLT, Int.reduceEq, Int.reduceMul, Int.reduceToNat, Int.reduceNeg, Int.reduceAdd, Int.reduceSub, Int.natCast_nonneg, Int.toNat_natCast, reduceIte, reduceCtorEq])
  repeat' first | (refine at_b (fun hb => ?_) (fun hb => ?_) <;> simp only [hb, push_cast, Int.le_refl, Bool.not_not, Option.isSome_some, Option.isSome_none, Bool.true_or, Bool.or_true, Bool.and_self, Bool.false_or, Bool.or_false, Bool.false_and, Bool.and_false, Nat.reduceAdd, Nat.reduceSub, Nat.reduceEqDiff, Nat.reduceLeDiff, Nat.reduceMul, Nat.reduceLT, Int.reduceLE, Int.reduceLT, Int.reduceEq, Int.reduceMul, Int.reduceToNat, Int.reduceNeg, Int.reduceAdd, Int.reduceSub, Int.natCast_nonneg, Int.toNat_natCast, reduceIte, reduceCtorEq]) | (refine at_ret ?_; simp only [Tryd.results64, push_cast, Int.le_refl, Bool.not_not, Option.isSome_some, Option.isSome_none, Bool.true_or, Bool.or_true, Bool.and_self, Bool.false_or, Bool.or_false, Bool.false_and, Bool.and_false, Nat.reduceAdd, Nat.reduceSub, Nat.reduceEqDiff, Nat.reduceLeDiff, Nat.reduceMul, Nat.reduceLT, Int.reduceLE, Int.reduceLT, Int.reduceEq, Int.reduceMul, Int.reduceToNat, Int.reduceNeg, Int.reduceAdd, Int.reduceSub, Int.natCast_nonneg, Int.toNat_natCast, reduceIte, reduceCtorEq]) | (refine at_call ?_; (try simp only [push_cast, Int.le_refl, Bool.not_not, Option.isSome_some, Option.isSome_none, Bool.true_or, Bool.or_true, Bool.and_self, Bool.false_or, Bool.or_false, Bool.false_and, Bool.and_false, Nat.reduceAdd, Nat.reduceSub, Nat.reduceEqDiff, Nat.reduceLeDiff, Nat.reduceMul, Nat.reduceLT, Int.reduceLE, Int.reduceLT, Int.reduceEq, Int.reduceMul, Int.reduceToNat, Int.reduceNeg, Int.reduceAdd, Int.reduceSub, Int.natCast_nonneg, Int.toNat_natCast, reduceIte, reduceCtorEq]); refine rwc_v (by first | exact h1) (go_on ?_); simp only [push_cast, Int.le_refl, Bool.not_not, Option.isSome_some, Option.isSome_none, Bool.true_or, Bool.or_true, Bool.and_self, Bool.false_or, Bool.or_false, Bool.false_and, Bool.and_false, Nat.reduceAdd, Nat.reduceSub, Nat.reduceEqDiff, Nat.reduceLeDiff, Nat.reduceMul, Nat.reduceLT, Int.reduceLE, Int.reduceLT, Int.reduceEq, Int.reduceMul, Int.reduceToNat, Int.reduceNeg, Int.reduceAdd, Int.reduceSub, Int.natCast_nonneg, Int.toNat_natCast, reduceIte, reduceCtorEq]) | (show RWp _ _ _ _ _; simp only [push_cast, Int.le_refl, Bool.not_not, Option.isSome_some, Option.isSome_none, Bool.true_or, Bool.or_true, Bool.and_self, Bool.false_or, Bool.or_false, Bool.false_and, Bool.and_false, Nat.reduceAdd, Nat.reduceSub, Nat.reduceEqDiff, Nat.reduceLeDiff, Nat.reduceMul, Nat.reduceLT, Int.reduceLE, Int.reduceLT, Int.reduceEq, Int.reduceMul, Int.reduceToNat, Int.reduceNeg, Int.reduceAdd, Int.reduceSub, Int.natCast_nonneg, Int.toNat_natCast, reduceIte, reduceCtorEq])
  all_goals simp only [Bool.not_eq_true', Bool.not_eq_false', decide_eq_true_eq, decide_eq_false_iff_not] at *
  all_goals simp [vX, nd_ext a b, *]
theorem szNode_pc (n : Nd) (left : Int) (h0 : 0 ≤ left) (h1 : left ≤ 1048576) (hp : n.p.length ≤ 9223372036854775807) : PC Tryd.prog 82 [.agg (ndC n), iA left] (vI (sz1 left n.p.length)) := by
  have w1 := wr (left - (n.p.length : Int)) (by omega)
  unfold ndC
  refine pc_enter Tryd.func82 rfl rfl fun w0 fb => go_on ?_; (try simp only [Tryd.ntmps82, push_cast, Int.le_refl, Bool.not_not, Option.isSome_some, Option.isSome_none, Bool.true_or, Bool.or_true, Bool.and_self, Bool.false_or, Bool.or_false, Bool.false_and, Bool.and_false, Nat.reduceAdd, Nat.reduceSub, Nat.reduceEqDiff, Nat.reduceLeDiff, Nat.reduceMul, Nat.reduceLT, Int.reduceLE, Int.reduceLT, Int.reduceEq, Int.reduceMul, Int.reduceToNat, Int.reduceNeg, Int.reduceAdd, Int.reduceSub, Int.natCast_nonneg, Int.toNat_natCast, reduceIte, reduceCtorEq])
  repeat' first | (refine at_b (fun hb => ?_) (fun hb => ?_) <;> simp only [w1, hb, push_cast, Int.le_refl, Bool.not_not, Option.isSome_some, Option.isSome_none, Bool.true_or, Bool.or_true, Bool.and_self, Bool.false_or, Bool.or_false, Bool.false_and, Bool.and_false, Nat.reduceAdd, Nat.reduceSub, Nat.reduceEqDiff, Nat.reduceLeDiff, Nat.reduceMul, Nat.reduceLT, Int.reduceLE, Int.reduceLT, Int.reduceEq, Int.reduceMul, Int.reduceToNat, Int.reduceNeg, Int.reduceAdd, Int.reduceSub, Int.natCast_nonneg, Int.toNat_natCast, reduceIte, reduceCtorEq]) | (refine at_ret ?_; simp only [w1, Tryd.results82, push_cast, Int.le_refl, Bool.not_not, Option.isSome_some, Option.isSome_none, Bool.true_or, Bool.or_true, Bool.and_self, Bool.false_or, Bool.or_false, Bool.false_and, Bool.and_false, Nat.reduceAdd, Nat.reduceSub, Nat.reduceEqDiff, Nat.reduceLeDiff, Nat.reduceMul, Nat.reduceLT, Int.reduceLE, Int.reduceLT, Int.reduceEq, Int.reduceMul, Int.reduceToNat, Int.reduceNeg, Int.reduceAdd, Int.reduceSub, Int.natCast_nonneg, Int.toNat_natCast, reduceIte, reduceCtorEq]) | (show RWp _ _ _ _ _; simp only [w1, push_cast, Int.le_refl, Bool.not_not, Option.isSome_some, Option.isSome_none, Bool.true_or, Bool.or_true, Bool.and_self, Bool.false_or, Bool.or_false, Bool.false_and, Bool.and_false, Nat.reduceAdd, Nat.reduceSub, Nat.reduceEqDiff, Nat.reduceLeDiff, Nat.reduceMul, Nat.reduceLT, Int.reduceLE, Int.reduceLT, Int.reduceEq, Int.reduceMul, Int.reduceToNat, Int.reduceNeg, Int.reduceAdd, Int.reduceSub, Int.natCast_nonneg, Int.toNat_natCast, reduceIte, reduceCtorEq])
  · have := of_ltI_t hb; rw [w1] at this; simp [vX, sz1, this]
  · have := of_ltI_f hb; rw [w1] at this; simp [vX, sz1]; omega
theorem szNodeS_pc (l : List Nd) (left : Int) (h0 : 0 ≤ left) (h1 : left ≤ 1048576) (hl : l.length ≤ 9223372036854775807) (hp : ∀ n ∈ l, n.p.length ≤ 9223372036854775807) :
    PC Tryd.prog 51 [.sl 3 (l.map ndC), iA left] (vI (szS left (l.map fun n => n.p.length))) := by
  have w1 := wr (left - (l.length : Int)) (by omega)
  refine pc_enter Tryd.func51 rfl rfl fun w0 fb => go_on ?_; (try simp only [Tryd.ntmps51, push_cast, Int.le_refl, Bool.not_not, Option.isSome_some, Option.isSome_none, Bool.true_or, Bool.or_true, Bool.and_self, Bool.false_or, Bool.or_false, Bool.false_and, Bool.and_false, Nat.reduceAdd, Nat.reduceSub, Nat.reduceEqDiff, Nat.reduceLeDiff, Nat.reduceMul, Nat.reduceLT, Int.reduceLE, Int.reduceLT, Int.reduceEq, Int.reduceMul, Int.reduceToNat, Int.reduceNeg, Int.reduceAdd, Int.reduceSub, Int.natCast_nonneg, Int.toNat_natCast, reduceIte, reduceCtorEq])
  (try simp only [w1, push_cast, Int.le_refl, Bool.not_not, Option.isSome_some, Option.isSome_none, Bool.true_or, Bool.or_true, Bool.and_self, Bool.false_or, Bool.or_false, Bool.false_and, Bool.and_false, Nat.reduceAdd, Nat.reduceSub, Nat.reduceEqDiff, Nat.reduceLeDiff, Nat.reduceMul, Nat.reduceLT, Int.reduceLE, Int.reduceLT, Int.reduceEq, Int.reduceMul, Int.reduceToNat, Int.reduceNeg, Int.reduceAdd, Int.reduceSub, Int.natCast_nonneg, Int.toNat_natCast, reduceIte, reduceCtorEq])
  refine at_b (fun hb => ?_) (fun hb => ?_)
  · have := of_ltI_t hb
    (try simp only [hb, push_cast, Int.le_refl, Bool.not_not, Option.isSome_some, Option.isSome_none, Bool.true_or, Bool.or_true, Bool.and_self, Bool.false_or, Bool.or_false, Bool.false_and, Bool.and_false, Nat.reduceAdd, Nat.reduceSub, Nat.reduceEqDiff, Nat.reduceLeDiff, Nat.reduceMul, Nat.reduceLT, Int.reduceLE, Int.reduceLT, Int.reduceEq, Int.reduceMul, Int.reduceToNat, Int.reduceNeg, Int.reduceAdd, Int.reduceSub, Int.natCast_nonneg, Int.toNat_natCast, reduceIte, reduceCtorEq])
    refine at_ret ?_; simp only [Tryd.results51, push_cast, Int.le_refl, Bool.not_not, Option.isSome_some, Option.isSome_none, Bool.true_or, Bool.or_true, Bool.and_self, Bool.false_or, Bool.or_false, Bool.false_and, Bool.and_false, Nat.reduceAdd, Nat.reduceSub, Nat.reduceEqDiff, Nat.reduceLeDiff, Nat.reduceMul, Nat.reduceLT, Int.reduceLE, Int.reduceLT, Int.reduceEq, Int.reduceMul, Int.reduceToNat, Int.reduceNeg, Int.reduceAdd, Int.reduceSub, Int.natCast_nonneg, Int.toNat_natCast, reduceIte, reduceCtorEq]
    simp [vX, szS, this]
  · have h2 := of_ltI_f hb
    have e : szS left (l.map fun n => n.p.length) = szF (left - l.length) (l.map fun n => n.p.length) := by unfold szS; rw [if_neg (by simp; omega), List.length_map]
    rw [e]
    (try simp only [hb, push_cast, Int.le_refl, Bool.not_not, Option.isSome_some, Option.isSome_none, Bool.true_or, Bool.or_true, Bool.and_self, Bool.false_or, Bool.or_false, Bool.false_and, Bool.and_false, Nat.reduceAdd, Nat.reduceSub, Nat.reduceEqDiff, Nat.reduceLeDiff, Nat.reduceMul, Nat.reduceLT, Int.reduceLE, Int.reduceLT, Int.reduceEq, Int.reduceMul, Int.reduceToNat, Int.reduceNeg, Int.reduceAdd, Int.reduceSub, Int.natCast_nonneg, Int.toNat_natCast, reduceIte, reduceCtorEq])
    refine at_loop (X := Nat × Int) (fun x => [(1, iA x.2), (5, iA x.1)]) (fun _ => []) (fun x => x.1 ≤ l.length ∧ 0 ≤ x.2 ∧ x.2 ≤ 1048576 ∧ szF (left - l.length) (l.map fun n => n.p.length) = szF x.2 ((l.drop x.1).map fun n => n.p.length)) (fun x => l.length - x.1) (0, left - l.length) ⟨Nat.zero_le _, h2, by dsimp only; omega, rfl⟩ ?_ ?_
    · (refine wk_ok ?_ ?_ ?_ ?_ <;> simp [leL, leH, idsL, idsA, idsR, inH, hget, sameRow, upA, hvA, dsts, dstO, setA_0, setA_1, setA_8, List.append, List.cons_append, List.nil_append])
    · rintro ⟨k, r⟩ ⟨q1, q2, q3, q4⟩
      simp only at q1 q2 q3 q4
      simp only [upA, hvA, dsts, dstO, setA_0, setA_1, setA_8, List.append, List.cons_append, List.nil_append]
      refine go_on ?_
      (try simp only [push_cast, Int.le_refl, Bool.not_not, Option.isSome_some, Option.isSome_none, Bool.true_or, Bool.or_true, Bool.and_self, Bool.false_or, Bool.or_false, Bool.false_and, Bool.and_false, Nat.reduceAdd, Nat.reduceSub, Nat.reduceEqDiff, Nat.reduceLeDiff, Nat.reduceMul, Nat.reduceLT, Int.reduceLE, Int.reduceLT, Int.reduceEq, Int.reduceMul, Int.reduceToNat, Int.reduceNeg, Int.reduceAdd, Int.reduceSub, Int.natCast_nonneg, Int.toNat_natCast, reduceIte, reduceCtorEq])
      refine at_b (fun hg => ?_) (fun hg => ?_)
      · have hlt := lt_tt hg
        obtain ⟨x, hk⟩ := get_of_lt hlt
        have i1 := ix_n hk
        have i2 := map_get ndC hk
        have hS := szNode_pc x r q2 q3 (hp x (mem_of_get hk))
        simp only [ndC] at i2 hS
        rw [drop_of_get hk, List.map_cons, szF] at q4
        have w2 := wr ((k : Int) + 1) (by omega)
        (try simp only [hg, i1, i2, push_cast, Int.le_refl, Bool.not_not, Option.isSome_some, Option.isSome_none, Bool.true_or, Bool.or_true, Bool.and_self, Bool.false_or, Bool.or_false, Bool.false_and, Bool.and_false, Nat.reduceAdd, Nat.reduceSub, Nat.reduceEqDiff, Nat.reduceLeDiff, Nat.reduceMul, Nat.reduceLT, Int.reduceLE, Int.reduceLT, Int.reduceEq, Int.reduceMul, Int.reduceToNat, Int.reduceNeg, Int.reduceAdd, Int.reduceSub, Int.natCast_nonneg, Int.toNat_natCast, reduceIte, reduceCtorEq])
        (refine at_call ?_; (try simp only [push_cast, Int.le_refl, Bool.not_not, Option.isSome_some, Option.isSome_none, Bool.true_or, Bool.or_true, Bool.and_self, Bool.false_or, Bool.or_false, Bool.false_and, Bool.and_false, Nat.reduceAdd, Nat.reduceSub, Nat.reduceEqDiff, Nat.reduceLeDiff, Nat.reduceMul, Nat.reduceLT, Int.reduceLE, Int.reduceLT, Int.reduceEq, Int.reduceMul, Int.reduceToNat, Int.reduceNeg, Int.reduceAdd, Int.reduceSub, Int.natCast_nonneg, Int.toNat_natCast, reduceIte, reduceCtorEq]); refine rwc_v (hS) (go_on ?_); (try simp only [push_cast, Int.le_refl, Bool.not_not, Option.isSome_some, Option.isSome_none, Bool.true_or, Bool.or_true, Bool.and_self, Bool.false_or, Bool.or_false, Bool.false_and, Bool.and_false, Nat.reduceAdd, Nat.reduceSub, Nat.reduceEqDiff, Nat.reduceLeDiff, Nat.reduceMul, Nat.reduceLT, Int.reduceLE, Int.reduceLT, Int.reduceEq, Int.reduceMul, Int.reduceToNat, Int.reduceNeg, Int.reduceAdd, Int.reduceSub, Int.natCast_nonneg, Int.toNat_natCast, reduceIte, reduceCtorEq]))
        by_cases hz : r - (x.p.length : Int) < 0
        · have e2 : sz1 r x.p.length = -1 := by unfold sz1; rw [if_pos hz]
          rw [e2]
          (try simp only [show ltI (-1) 0 = true from rfl, push_cast, Int.le_refl, Bool.not_not, Option.isSome_some, Option.isSome_none, Bool.true_or, Bool.or_true, Bool.and_self, Bool.false_or, Bool.or_false, Bool.false_and, Bool.and_false, Nat.reduceAdd, Nat.reduceSub, Nat.reduceEqDiff, Nat.reduceLeDiff, Nat.reduceMul, Nat.reduceLT, Int.reduceLE, Int.reduceLT, Int.reduceEq, Int.reduceMul, Int.reduceToNat, Int.reduceNeg, Int.reduceAdd, Int.reduceSub, Int.natCast_nonneg, Int.toNat_natCast, reduceIte, reduceCtorEq])
          refine at_ret ?_; simp only [Tryd.results51, push_cast, Int.le_refl, Bool.not_not, Option.isSome_some, Option.isSome_none, Bool.true_or, Bool.or_true, Bool.and_self, Bool.false_or, Bool.or_false, Bool.false_and, Bool.and_false, Nat.reduceAdd, Nat.reduceSub, Nat.reduceEqDiff, Nat.reduceLeDiff, Nat.reduceMul, Nat.reduceLT, Int.reduceLE, Int.reduceLT, Int.reduceEq, Int.reduceMul, Int.reduceToNat, Int.reduceNeg, Int.reduceAdd, Int.reduceSub, Int.natCast_nonneg, Int.toNat_natCast, reduceIte, reduceCtorEq]
          rw [if_pos hz] at q4
          simp [vX, q4]
        · have e2 : sz1 r x.p.length = r - x.p.length := by unfold sz1; rw [if_neg hz]
          have e3 : ltI (r - (x.p.length : Int)) 0 = false := ltI_f (by omega)
          rw [e2]
          (try simp only [e3, w2, push_cast, Int.le_refl, Bool.not_not, Option.isSome_some, Option.isSome_none, Bool.true_or, Bool.or_true, Bool.and_self, Bool.false_or, Bool.or_false, Bool.false_and, Bool.and_false, Nat.reduceAdd, Nat.reduceSub, Nat.reduceEqDiff, Nat.reduceLeDiff, Nat.reduceMul, Nat.reduceLT, Int.reduceLE, Int.reduceLT, Int.reduceEq, Int.reduceMul, Int.reduceToNat, Int.reduceNeg, Int.reduceAdd, Int.reduceSub, Int.natCast_nonneg, Int.toNat_natCast, reduceIte, reduceCtorEq])
          rw [if_neg hz] at q4
          refine at_fin ⟨(k + 1, r - x.p.length), ⟨by dsimp only; omega, by dsimp only; omega, by dsimp only; omega, q4⟩, by dsimp only; omega, ?_⟩
          (refine wk_ok ?_ ?_ ?_ ?_ <;> simp [leL, leH, idsL, idsA, idsR, inH, hget, sameRow, upA, hvA, dsts, dstO, setA_0, setA_1, setA_8, List.append, List.cons_append, List.nil_append])
      · have h3 := lt_ff hg
        rw [List.drop_of_length_le h3] at q4
        (try simp only [hg, push_cast, Int.le_refl, Bool.not_not, Option.isSome_some, Option.isSome_none, Bool.true_or, Bool.or_true, Bool.and_self, Bool.false_or, Bool.or_false, Bool.false_and, Bool.and_false, Nat.reduceAdd, Nat.reduceSub, Nat.reduceEqDiff, Nat.reduceLeDiff, Nat.reduceMul, Nat.reduceLT, Int.reduceLE, Int.reduceLT, Int.reduceEq, Int.reduceMul, Int.reduceToNat, Int.reduceNeg, Int.reduceAdd, Int.reduceSub, Int.natCast_nonneg, Int.toNat_natCast, reduceIte, reduceCtorEq])
        refine at_ret ?_; simp only [Tryd.results51, push_cast, Int.le_refl, Bool.not_not, Option.isSome_some, Option.isSome_none, Bool.true_or, Bool.or_true, Bool.and_self, Bool.false_or, Bool.or_false, Bool.false_and, Bool.and_false, Nat.reduceAdd, Nat.reduceSub, Nat.reduceEqDiff, Nat.reduceLeDiff, Nat.reduceMul, Nat.reduceLT, Int.reduceLE, Int.reduceLT, Int.reduceEq, Int.reduceMul, Int.reduceToNat, Int.reduceNeg, Int.reduceAdd, Int.reduceSub, Int.natCast_nonneg, Int.toNat_natCast, reduceIte, reduceCtorEq]
        simp [vX, q4, szF]
theorem toNodeS_pc (l : List Nd) (hl : l.length ≤ 1048576) : PC Tryd.prog 53 [.sl 3 (l.map ndC)] (rX (.o 0 l.length) [rowN l]) := by
  refine pc_enter Tryd.func53 rfl rfl fun w0 fb => go_on ?_; (try simp only [Tryd.ntmps53, push_cast, Int.le_refl, Bool.not_not, Option.isSome_some, Option.isSome_none, Bool.true_or, Bool.or_true, Bool.and_self, Bool.false_or, Bool.or_false, Bool.false_and, Bool.and_false, Nat.reduceAdd, Nat.reduceSub, Nat.reduceEqDiff, Nat.reduceLeDiff, Nat.reduceMul, Nat.reduceLT, Int.reduceLE, Int.reduceLT, Int.reduceEq, Int.reduceMul, Int.reduceToNat, Int.reduceNeg, Int.reduceAdd, Int.reduceSub, Int.natCast_nonneg, Int.toNat_natCast, reduceIte, reduceCtorEq])
  refine at_chk ⟨by omega, by omega⟩ ?_
  refine at_loop (X := Nat) (fun k => [(4, iA k)]) (fun k => [(2, rowN []), (7, ⟨70, 3, (l.take k).map ndC ++ List.replicate (l.length - k) [AV.v (Value.string ⟨#[]⟩), iA 0, iA 0], true⟩)]) (fun k => k ≤ l.length) (fun k => l.length - k) 0 (Nat.zero_le _) ?_ ?_
  · (refine wk_ok ?_ ?_ ?_ ?_ <;> simp [leL, leH, idsL, idsA, idsR, inH, hget, sameRow, upA, hvA, dsts, dstO, setA_0, setA_1, setA_8, List.append, List.cons_append, List.nil_append])
  · intro k h1
    simp only [upA, hvA, dsts, dstO, setA_0, setA_1, setA_8, List.append, List.cons_append, List.nil_append]
    refine go_on ?_
    (try simp only [push_cast, Int.le_refl, Bool.not_not, Option.isSome_some, Option.isSome_none, Bool.true_or, Bool.or_true, Bool.and_self, Bool.false_or, Bool.or_false, Bool.false_and, Bool.and_false, Nat.reduceAdd, Nat.reduceSub, Nat.reduceEqDiff, Nat.reduceLeDiff, Nat.reduceMul, Nat.reduceLT, Int.reduceLE, Int.reduceLT, Int.reduceEq, Int.reduceMul, Int.reduceToNat, Int.reduceNeg, Int.reduceAdd, Int.reduceSub, Int.natCast_nonneg, Int.toNat_natCast, reduceIte, reduceCtorEq])
    refine at_b (fun hg => ?_) (fun hg => ?_)
    · have hlt := lt_tt hg
      obtain ⟨x, hk⟩ := get_of_lt hlt
      have i1 := ix_n hk
      have i2 := map_get ndC hk
      have hT := toNode_pc x
      simp only [ndC] at i2 hT
      have w2 := wr ((k : Int) + 1) (by omega)
      obtain ⟨es, hes⟩ : ∃ es, es = (l.take k).map ndC ++ List.replicate (l.length - k) [AV.v (Value.string ⟨#[]⟩), iA 0, iA 0] := ⟨_, rfl⟩
      have hlen : ((l.take k).map ndC).length = k := by rw [List.length_map, List.length_take]; omega
      have i3 : es[k]? = some [AV.v (Value.string ⟨#[]⟩), iA 0, iA 0] := by rw [hes, List.getElem?_append_right (by omega), hlen, Nat.sub_self, List.getElem?_replicate, if_pos (by omega)]
      have hset : es.set k [sA x.p, iA x.c.k, iA x.c.v] = (l.take (k + 1)).map ndC ++ List.replicate (l.length - (k + 1)) [AV.v (Value.string ⟨#[]⟩), iA 0, iA 0] := by
        rw [hes, List.set_append_right _ _ (by omega), hlen, Nat.sub_self, List.take_add_one, hk, show l.length - k = (l.length - (k + 1)) + 1 by omega, List.replicate_succ, List.set_cons_zero]
        simp [ndC]
      rw [← hes]
      (try simp only [hg, i1, i2, push_cast, Int.le_refl, Bool.not_not, Option.isSome_some, Option.isSome_none, Bool.true_or, Bool.or_true, Bool.and_self, Bool.false_or, Bool.or_false, Bool.false_and, Bool.and_false, Nat.reduceAdd, Nat.reduceSub, Nat.reduceEqDiff, Nat.reduceLeDiff, Nat.reduceMul, Nat.reduceLT, Int.reduceLE, Int.reduceLT, Int.reduceEq, Int.reduceMul, Int.reduceToNat, Int.reduceNeg, Int.reduceAdd, Int.reduceSub, Int.natCast_nonneg, Int.toNat_natCast, reduceIte, reduceCtorEq])
      (refine at_call ?_; (try simp only [push_cast, Int.le_refl, Bool.not_not, Option.isSome_some, Option.isSome_none, Bool.true_or, Bool.or_true, Bool.and_self, Bool.false_or, Bool.or_false, Bool.false_and, Bool.and_false, Nat.reduceAdd, Nat.reduceSub, Nat.reduceEqDiff, Nat.reduceLeDiff, Nat.reduceMul, Nat.reduceLT, Int.reduceLE, Int.reduceLT, Int.reduceEq, Int.reduceMul, Int.reduceToNat, Int.reduceNeg, Int.reduceAdd, Int.reduceSub, Int.natCast_nonneg, Int.toNat_natCast, reduceIte, reduceCtorEq]); refine rwc_d (hT) (by simp [flatV, flatL, ctC, ndC, cmC]) (by simp [ren, ctC, ndC, cmC]) (go_on ?_); (try simp only [push_cast, Int.le_refl, Bool.not_not, Option.isSome_some, Option.isSome_none, Bool.true_or, Bool.or_true, Bool.and_self, Bool.false_or, Bool.or_false, Bool.false_and, Bool.and_false, Nat.reduceAdd, Nat.reduceSub, Nat.reduceEqDiff, Nat.reduceLeDiff, Nat.reduceMul, Nat.reduceLT, Int.reduceLE, Int.reduceLT, Int.reduceEq, Int.reduceMul, Int.reduceToNat, Int.reduceNeg, Int.reduceAdd, Int.reduceSub, Int.natCast_nonneg, Int.toNat_natCast, reduceIte, reduceCtorEq]))
      (try simp only [i1, i3, List.length_replicate, w2, push_cast, Int.le_refl, Bool.not_not, Option.isSome_some, Option.isSome_none, Bool.true_or, Bool.or_true, Bool.and_self, Bool.false_or, Bool.or_false, Bool.false_and, Bool.and_false, Nat.reduceAdd, Nat.reduceSub, Nat.reduceEqDiff, Nat.reduceLeDiff, Nat.reduceMul, Nat.reduceLT, Int.reduceLE, Int.reduceLT, Int.reduceEq, Int.reduceMul, Int.reduceToNat, Int.reduceNeg, Int.reduceAdd, Int.reduceSub, Int.natCast_nonneg, Int.toNat_natCast, reduceIte, reduceCtorEq])
      refine at_fin ⟨k + 1, by omega, by omega, ?_⟩
      rw [hset]
      (refine wk_ok ?_ ?_ ?_ ?_ <;> simp [leL, leH, idsL, idsA, idsR, inH, hget, sameRow, upA, hvA, dsts, dstO, setA_0, setA_1, setA_8, List.append, List.cons_append, List.nil_append])
    · have h3 := lt_ff hg
      have hk : k = l.length := by omega
      subst hk
      (try simp only [hg, push_cast, Int.le_refl, Bool.not_not, Option.isSome_some, Option.isSome_none, Bool.true_or, Bool.or_true, Bool.and_self, Bool.false_or, Bool.or_false, Bool.false_and, Bool.and_false, Nat.reduceAdd, Nat.reduceSub, Nat.reduceEqDiff, Nat.reduceLeDiff, Nat.reduceMul, Nat.reduceLT, Int.reduceLE, Int.reduceLT, Int.reduceEq, Int.reduceMul, Int.reduceToNat, Int.reduceNeg, Int.reduceAdd, Int.reduceSub, Int.natCast_nonneg, Int.toNat_natCast, reduceIte, reduceCtorEq])
      refine at_ret ?_; simp only [Tryd.results53, push_cast, Int.le_refl, Bool.not_not, Option.isSome_some, Option.isSome_none, Bool.true_or, Bool.or_true, Bool.and_self, Bool.false_or, Bool.or_false, Bool.false_and, Bool.and_false, Nat.reduceAdd, Nat.reduceSub, Nat.reduceEqDiff, Nat.reduceLeDiff, Nat.reduceMul, Nat.reduceLT, Int.reduceLE, Int.reduceLT, Int.reduceEq, Int.reduceMul, Int.reduceToNat, Int.reduceNeg, Int.reduceAdd, Int.reduceSub, Int.natCast_nonneg, Int.toNat_natCast, reduceIte, reduceCtorEq]
      simp [rX, ixOf]
theorem eqNodeS_pc (a b : List Nd) (hl : a.length < 4294967281) : PC Tryd.prog 28 [.sl 3 (a.map ndC), .sl 3 (b.map ndC)] (vB (decide (a = b))) := by
  refine pc_enter Tryd.func28 rfl rfl fun w0 fb => go_on ?_; (try simp only [Tryd.ntmps28, push_cast, Int.le_refl, Bool.not_not, Option.isSome_some, Option.isSome_none, Bool.true_or, Bool.or_true, Bool.and_self, Bool.false_or, Bool.or_false, Bool.false_and, Bool.and_false, Nat.reduceAdd, Nat.reduceSub, Nat.reduceEqDiff, Nat.reduceLeDiff, Nat.reduceMul, Nat.reduceLT, Int.reduceLE, Int.reduceLT, Int.reduceEq, Int.reduceMul, Int.reduceToNat, Int.reduceNeg, Int.reduceAdd, Int.reduceSub, Int.natCast_nonneg, Int.toNat_natCast, reduceIte, reduceCtorEq])
  refine at_b (fun hb => ?_) (fun hb => ?_)
  · have h1 := of_eqI_f (not_t hb)
    have h2 : a ≠ b := by rintro rfl; exact h1 rfl
    (try simp only [hb, push_cast, Int.le_refl, Bool.not_not, Option.isSome_some, Option.isSome_none, Bool.true_or, Bool.or_true, Bool.and_self, Bool.false_or, Bool.or_false, Bool.false_and, Bool.and_false, Nat.reduceAdd, Nat.reduceSub, Nat.reduceEqDiff, Nat.reduceLeDiff, Nat.reduceMul, Nat.reduceLT, Int.reduceLE, Int.reduceLT, Int.reduceEq, Int.reduceMul, Int.reduceToNat, Int.reduceNeg, Int.reduceAdd, Int.reduceSub, Int.natCast_nonneg, Int.toNat_natCast, reduceIte, reduceCtorEq])
    refine at_ret ?_; simp only [Tryd.results28, push_cast, Int.le_refl, Bool.not_not, Option.isSome_some, Option.isSome_none, Bool.true_or, Bool.or_true, Bool.and_self, Bool.false_or, Bool.or_false, Bool.false_and, Bool.and_false, Nat.reduceAdd, Nat.reduceSub, Nat.reduceEqDiff, Nat.reduceLeDiff, Nat.reduceMul, Nat.reduceLT, Int.reduceLE, Int.reduceLT, Int.reduceEq, Int.reduceMul, Int.reduceToNat, Int.reduceNeg, Int.reduceAdd, Int.reduceSub, Int.natCast_nonneg, Int.toNat_natCast, reduceIte, reduceCtorEq]
    simp [vX, h2]
  · have h1 : a.length = b.length := by have := of_eqI_t (not_f hb); omega
    (try simp only [hb, push_cast, Int.le_refl, Bool.not_not, Option.isSome_some, Option.isSome_none, Bool.true_or, Bool.or_true, Bool.and_self, Bool.false_or, Bool.or_false, Bool.false_and, Bool.and_false, Nat.reduceAdd, Nat.reduceSub, Nat.reduceEqDiff, Nat.reduceLeDiff, Nat.reduceMul, Nat.reduceLT, Int.reduceLE, Int.reduceLT, Int.reduceEq, Int.reduceMul, Int.reduceToNat, Int.reduceNeg, Int.reduceAdd, Int.reduceSub, Int.natCast_nonneg, Int.toNat_natCast, reduceIte, reduceCtorEq])
    refine at_loop (X := Nat) (fun k => [(5, iA k)]) (fun _ => []) (fun k => k ≤ a.length ∧ decide (a = b) = decide (a.drop k = b.drop k)) (fun k => a.length - k) 0 ⟨Nat.zero_le _, rfl⟩ ?_ ?_
    · (refine wk_ok ?_ ?_ ?_ ?_ <;> simp [leL, leH, idsL, idsA, idsR, inH, hget, sameRow, upA, hvA, dsts, dstO, setA_0, setA_1, setA_8, List.append, List.cons_append, List.nil_append])
    · rintro k ⟨q1, q2⟩
      simp only [upA, hvA, dsts, dstO, setA_0, setA_1, setA_8, List.append, List.cons_append, List.nil_append]
      refine go_on ?_
      (try simp only [push_cast, Int.le_refl, Bool.not_not, Option.isSome_some, Option.isSome_none, Bool.true_or, Bool.or_true, Bool.and_self, Bool.false_or, Bool.or_false, Bool.false_and, Bool.and_false, Nat.reduceAdd, Nat.reduceSub, Nat.reduceEqDiff, Nat.reduceLeDiff, Nat.reduceMul, Nat.reduceLT, Int.reduceLE, Int.reduceLT, Int.reduceEq, Int.reduceMul, Int.reduceToNat, Int.reduceNeg, Int.reduceAdd, Int.reduceSub, Int.natCast_nonneg, Int.toNat_natCast, reduceIte, reduceCtorEq])
      refine at_b (fun hg => ?_) (fun hg => ?_)
      · have hlt := lt_tt hg
        obtain ⟨x, hx⟩ := get_of_lt hlt
        obtain ⟨y, hy⟩ := get_of_lt (l := b) (k := k) (by omega)
        have i1 := ix_n hx
        have i3 := ix_n hy
        have i2 := map_get ndC hx
        have i4 := map_get ndC hy
        have hE := eqNode_pc x y
        simp only [ndC] at i2 i4 hE
        rw [drop_of_get hx, drop_of_get hy] at q2
        have w2 := wr ((k : Int) + 1) (by omega)
        (try simp only [hg, push_cast, Int.le_refl, Bool.not_not, Option.isSome_some, Option.isSome_none, Bool.true_or, Bool.or_true, Bool.and_self, Bool.false_or, Bool.or_false, Bool.false_and, Bool.and_false, Nat.reduceAdd, Nat.reduceSub, Nat.reduceEqDiff, Nat.reduceLeDiff, Nat.reduceMul, Nat.reduceLT, Int.reduceLE, Int.reduceLT, Int.reduceEq, Int.reduceMul, Int.reduceToNat, Int.reduceNeg, Int.reduceAdd, Int.reduceSub, Int.natCast_nonneg, Int.toNat_natCast, reduceIte, reduceCtorEq])
        refine at_draw rfl (by kernel_rfl) ?_
        (try simp only [i1, i2, i3, i4, push_cast, Int.le_refl, Bool.not_not, Option.isSome_some, Option.isSome_none, Bool.true_or, Bool.or_true, Bool.and_self, Bool.false_or, Bool.or_false, Bool.false_and, Bool.and_false, Nat.reduceAdd, Nat.reduceSub, Nat.reduceEqDiff, Nat.reduceLeDiff, Nat.reduceMul, Nat.reduceLT, Int.reduceLE, Int.reduceLT, Int.reduceEq, Int.reduceMul, Int.reduceToNat, Int.reduceNeg, Int.reduceAdd, Int.reduceSub, Int.natCast_nonneg, Int.toNat_natCast, reduceIte, reduceCtorEq])
        repeat' first | (refine at_bWn (fun hb => ?_) (fun hb => ?_) <;> simp only [i1, i2, i3, i4, hb, push_cast, Int.le_refl, Bool.not_not, Option.isSome_some, Option.isSome_none, Bool.true_or, Bool.or_true, Bool.and_self, Bool.false_or, Bool.or_false, Bool.false_and, Bool.and_false, Nat.reduceAdd, Nat.reduceSub, Nat.reduceEqDiff, Nat.reduceLeDiff, Nat.reduceMul, Nat.reduceLT, Int.reduceLE, Int.reduceLT, Int.reduceEq, Int.reduceMul, Int.reduceToNat, Int.reduceNeg, Int.reduceAdd, Int.reduceSub, Int.natCast_nonneg, Int.toNat_natCast, reduceIte, reduceCtorEq]) | (refine at_bW (fun hb => ?_) (fun hb => ?_) <;> simp only [i1, i2, i3, i4, hb, push_cast, Int.le_refl, Bool.not_not, Option.isSome_some, Option.isSome_none, Bool.true_or, Bool.or_true, Bool.and_self, Bool.false_or, Bool.or_false, Bool.false_and, Bool.and_false, Nat.reduceAdd, Nat.reduceSub, Nat.reduceEqDiff, Nat.reduceLeDiff, Nat.reduceMul, Nat.reduceLT, Int.reduceLE, Int.reduceLT, Int.reduceEq, Int.reduceMul, Int.reduceToNat, Int.reduceNeg, Int.reduceAdd, Int.reduceSub, Int.natCast_nonneg, Int.toNat_natCast, reduceIte, reduceCtorEq]) | (refine at_callD (by simp [clB, idsL, idsA, hget]) ?_; (try simp only [push_cast, Int.le_refl, Bool.not_not, Option.isSome_some, Option.isSome_none, Bool.true_or, Bool.or_true, Bool.and_self, Bool.false_or, Bool.or_false, Bool.false_and, Bool.and_false, Nat.reduceAdd, Nat.reduceSub, Nat.reduceEqDiff, Nat.reduceLeDiff, Nat.reduceMul, Nat.reduceLT, Int.reduceLE, Int.reduceLT, Int.reduceEq, Int.reduceMul, Int.reduceToNat, Int.reduceNeg, Int.reduceAdd, Int.reduceSub, Int.natCast_nonneg, Int.toNat_natCast, reduceIte, reduceCtorEq]); first | (refine rcd_v (hE) ?_; simp only [i1, i2, i3, i4, push_cast, Int.le_refl, Bool.not_not, Option.isSome_some, Option.isSome_none, Bool.true_or, Bool.or_true, Bool.and_self, Bool.false_or, Bool.or_false, Bool.false_and, Bool.and_false, Nat.reduceAdd, Nat.reduceSub, Nat.reduceEqDiff, Nat.reduceLeDiff, Nat.reduceMul, Nat.reduceLT, Int.reduceLE, Int.reduceLT, Int.reduceEq, Int.reduceMul, Int.reduceToNat, Int.reduceNeg, Int.reduceAdd, Int.reduceSub, Int.natCast_nonneg, Int.toNat_natCast, reduceIte, reduceCtorEq]) | (refine rcd_d (hE) (by simp [flatV, flatL, ctC, ndC, cmC]) (by simp [ren, ctC, ndC, cmC]) ?_; simp only [i1, i2, i3, i4, push_cast, Int.le_refl, Bool.not_not, Option.isSome_some, Option.isSome_none, Bool.true_or, Bool.or_true, Bool.and_self, Bool.false_or, Bool.or_false, Bool.false_and, Bool.and_false, Nat.reduceAdd, Nat.reduceSub, Nat.reduceEqDiff, Nat.reduceLeDiff, Nat.reduceMul, Nat.reduceLT, Int.reduceLE, Int.reduceLT, Int.reduceEq, Int.reduceMul, Int.reduceToNat, Int.reduceNeg, Int.reduceAdd, Int.reduceSub, Int.natCast_nonneg, Int.toNat_natCast, reduceIte, reduceCtorEq])) | (refine at_done (by kernel_rfl) (by kernel_rfl) (go_on ?_); (try simp only [i1, i2, i3, i4, push_cast, Int.le_refl, Bool.not_not, Option.isSome_some, Option.isSome_none, Bool.true_or, Bool.or_true, Bool.and_self, Bool.false_or, Bool.or_false, Bool.false_and, Bool.and_false, Nat.reduceAdd, Nat.reduceSub, Nat.reduceEqDiff, Nat.reduceLeDiff, Nat.reduceMul, Nat.reduceLT, Int.reduceLE, Int.reduceLT, Int.reduceEq, Int.reduceMul, Int.reduceToNat, Int.reduceNeg, Int.reduceAdd, Int.reduceSub, Int.natCast_nonneg, Int.toNat_natCast, reduceIte, reduceCtorEq]))
        refine at_b (fun hn => ?_) (fun hn => ?_)
        · (try simp only [hn, push_cast, Int.le_refl, Bool.not_not, Option.isSome_some, Option.isSome_none, Bool.true_or, Bool.or_true, Bool.and_self, Bool.false_or, Bool.or_false, Bool.false_and, Bool.and_false, Nat.reduceAdd, Nat.reduceSub, Nat.reduceEqDiff, Nat.reduceLeDiff, Nat.reduceMul, Nat.reduceLT, Int.reduceLE, Int.reduceLT, Int.reduceEq, Int.reduceMul, Int.reduceToNat, Int.reduceNeg, Int.reduceAdd, Int.reduceSub, Int.natCast_nonneg, Int.toNat_natCast, reduceIte, reduceCtorEq])
          refine at_ret ?_; simp only [Tryd.results28, push_cast, Int.le_refl, Bool.not_not, Option.isSome_some, Option.isSome_none, Bool.true_or, Bool.or_true, Bool.and_self, Bool.false_or, Bool.or_false, Bool.false_and, Bool.and_false, Nat.reduceAdd, Nat.reduceSub, Nat.reduceEqDiff, Nat.reduceLeDiff, Nat.reduceMul, Nat.reduceLT, Int.reduceLE, Int.reduceLT, Int.reduceEq, Int.reduceMul, Int.reduceToNat, Int.reduceNeg, Int.reduceAdd, Int.reduceSub, Int.natCast_nonneg, Int.toNat_natCast, reduceIte, reduceCtorEq]
          have := not_t hn
          simp only [decide_eq_false_iff_not] at this
          simp [vX, q2, this]
        · have hn' := not_f hn
          simp only [decide_eq_true_eq] at hn'
          (try simp only [hn, w2, push_cast, Int.le_refl, Bool.not_not, Option.isSome_some, Option.isSome_none, Bool.true_or, Bool.or_true, Bool.and_self, Bool.false_or, Bool.or_false, Bool.false_and, Bool.and_false, Nat.reduceAdd, Nat.reduceSub, Nat.reduceEqDiff, Nat.reduceLeDiff, Nat.reduceMul, Nat.reduceLT, Int.reduceLE, Int.reduceLT, Int.reduceEq, Int.reduceMul, Int.reduceToNat, Int.reduceNeg, Int.reduceAdd, Int.reduceSub, Int.natCast_nonneg, Int.toNat_natCast, reduceIte, reduceCtorEq])
          refine at_fin ⟨k + 1, ⟨by omega, ?_⟩, by omega, ?_⟩
          · rw [q2]; simp [hn']
          · (refine wk_ok ?_ ?_ ?_ ?_ <;> simp [leL, leH, idsL, idsA, idsR, inH, hget, sameRow, upA, hvA, dsts, dstO, setA_0, setA_1, setA_8, List.append, List.cons_append, List.nil_append])
      · have h3 := lt_ff hg
        rw [List.drop_of_length_le h3, List.drop_of_length_le (by omega)] at q2
        (try simp only [hg, push_cast, Int.le_refl, Bool.not_not, Option.isSome_some, Option.isSome_none, Bool.true_or, Bool.or_true, Bool.and_self, Bool.false_or, Bool.or_false, Bool.false_and, Bool.and_false, Nat.reduceAdd, Nat.reduceSub, Nat.reduceEqDiff, Nat.reduceLeDiff, Nat.reduceMul, Nat.reduceLT, Int.reduceLE, Int.reduceLT, Int.reduceEq, Int.reduceMul, Int.reduceToNat, Int.reduceNeg, Int.reduceAdd, Int.reduceSub, Int.natCast_nonneg, Int.toNat_natCast, reduceIte, reduceCtorEq])
        refine at_ret ?_; simp only [Tryd.results28, push_cast, Int.le_refl, Bool.not_not, Option.isSome_some, Option.isSome_none, Bool.true_or, Bool.or_true, Bool.and_self, Bool.false_or, Bool.or_false, Bool.false_and, Bool.and_false, Nat.reduceAdd, Nat.reduceSub, Nat.reduceEqDiff, Nat.reduceLeDiff, Nat.reduceMul, Nat.reduceLT, Int.reduceLE, Int.reduceLT, Int.reduceEq, Int.reduceMul, Int.reduceToNat, Int.reduceNeg, Int.reduceAdd, Int.reduceSub, Int.natCast_nonneg, Int.toNat_natCast, reduceIte, reduceCtorEq]
        simp [vX, q2]
theorem toCommand_pc (n : Cm) : PC Tryd.prog 33 [.agg (cmC n)] (vX (.agg (cmC n))) := by
  have h1 := toContent_pc n.a
  have h2 := toContent_pc n.b
  unfold ctA ctC at h1 h2
  unfold cmC
  refine pc_enter Tryd.func33 rfl rfl fun w0 fb => go_on ?_; (try simp only [Tryd.ntmps33, push_cast, Int.le_refl, Bool.not_not, Option.isSome_some, Option.isSome_none, Bool.true_or, Bool.or_true, Bool.and_self, Bool.false_or, Bool.or_false, Bool.false_and, Bool.and_false, Nat.reduceAdd, Nat.reduceSub, Nat.reduceEqDiff, Nat.reduceLeDiff, Nat.reduceMul, Nat.reduceLT, Int.reduceLE, Int.reduceLT, Int.reduceEq, Int.reduceMul, Int.reduceToNat, Int.reduceNeg, Int.reduceAdd, Int.reduceSub, Int.natCast_nonneg, Int.toNat_natCast, reduceIte, reduceCtorEq])
  (refine at_call ?_; (try simp only [push_cast, Int.le_refl, Bool.not_not, Option.isSome_some, Option.isSome_none, Bool.true_or, Bool.or_true, Bool.and_self, Bool.false_or, Bool.or_false, Bool.false_and, Bool.and_false, Nat.reduceAdd, Nat.reduceSub, Nat.reduceEqDiff, Nat.reduceLeDiff, Nat.reduceMul, Nat.reduceLT, Int.reduceLE, Int.reduceLT, Int.reduceEq, Int.reduceMul, Int.reduceToNat, Int.reduceNeg, Int.reduceAdd, Int.reduceSub, Int.natCast_nonneg, Int.toNat_natCast, reduceIte, reduceCtorEq]); refine rwc_d (h1) (by simp [flatV, flatL, ctC, ndC, cmC]) (by simp [ren, ctC, ndC, cmC]) (go_on ?_); (try simp only [push_cast, Int.le_refl, Bool.not_not, Option.isSome_some, Option.isSome_none, Bool.true_or, Bool.or_true, Bool.and_self, Bool.false_or, Bool.or_false, Bool.false_and, Bool.and_false, Nat.reduceAdd, Nat.reduceSub, Nat.reduceEqDiff, Nat.reduceLeDiff, Nat.reduceMul, Nat.reduceLT, Int.reduceLE, Int.reduceLT, Int.reduceEq, Int.reduceMul, Int.reduceToNat, Int.reduceNeg, Int.reduceAdd, Int.reduceSub, Int.natCast_nonneg, Int.toNat_natCast, reduceIte, reduceCtorEq]))
  (refine at_call ?_; (try simp only [push_cast, Int.le_refl, Bool.not_not, Option.isSome_some, Option.isSome_none, Bool.true_or, Bool.or_true, Bool.and_self, Bool.false_or, Bool.or_false, Bool.false_and, Bool.and_false, Nat.reduceAdd, Nat.reduceSub, Nat.reduceEqDiff, Nat.reduceLeDiff, Nat.reduceMul, Nat.reduceLT, Int.reduceLE, Int.reduceLT, Int.reduceEq, Int.reduceMul, Int.reduceToNat, Int.reduceNeg, Int.reduceAdd, Int.reduceSub, Int.natCast_nonneg, Int.toNat_natCast, reduceIte, reduceCtorEq]); refine rwc_d (h2) (by simp [flatV, flatL, ctC, ndC, cmC]) (by simp [ren, ctC, ndC, cmC]) (go_on ?_); (try simp only [push_cast, Int.le_refl, Bool.not_not, Option.isSome_some, Option.isSome_none, Bool.true_or, Bool.or_true, Bool.and_self, Bool.false_or, Bool.or_false, Bool.false_and, Bool.and_false, Nat.reduceAdd, Nat.reduceSub, Nat.reduceEqDiff, Nat.reduceLeDiff, Nat.reduceMul, Nat.reduceLT, Int.reduceLE, Int.reduceLT, Int.reduceEq, Int.reduceMul, Int.reduceToNat, Int.reduceNeg, Int.reduceAdd, Int.reduceSub, Int.natCast_nonneg, Int.toNat_natCast, reduceIte, reduceCtorEq]))
  refine at_ret ?_; simp only [Tryd.results33, push_cast, Int.le_refl, Bool.not_not, Option.isSome_some, Option.isSome_none, Bool.true_or, Bool.or_true, Bool.and_self, Bool.false_or, Bool.or_false, Bool.false_and, Bool.and_false, Nat.reduceAdd, Nat.reduceSub, Nat.reduceEqDiff, Nat.reduceLeDiff, Nat.reduceMul, Nat.reduceLT, Int.reduceLE, Int.reduceLT, Int.reduceEq, Int.reduceMul, Int.reduceToNat, Int.reduceNeg, Int.reduceAdd, Int.reduceSub, Int.natCast_nonneg, Int.toNat_natCast, reduceIte, reduceCtorEq]
  simp [vX]
theorem eqCommand_pc (a b : Cm) : PC Tryd.prog 84 [.agg (cmC a), .agg (cmC b)] (vB (decide (a = b))) := by
  have h1 := eqContent_pc a.a b.a
  have h2 := eqContent_pc a.b b.b
  unfold ctA ctC at h1 h2
  unfold cmC
  refine pc_enter Tryd.func84 rfl rfl fun w0 fb => go_on ?_; (try simp only [Tryd.ntmps84, push_cast, Int.le_refl, Bool.not_not, Option.isSome_some, Option.isSome_none, Bool.true_or, Bool.or_true, Bool.and_self, Bool.false_or, Bool.or_false, Bool.false_and, Bool.and_false, Nat.reduceAdd, Nat.reduceSub, Nat.reduceEqDiff, Nat.reduceLeDiff, Nat.reduceMul, Nat.reduceLT, Int.reduceLE, Int.reduceLT, Int.reduceEq, Int.reduceMul, Int.reduceToNat, Int.reduceNeg, Int.reduceAdd, Int.reduceSub, Int.natCast_nonneg, Int.toNat_natCast, reduceIte, reduceCtorEq])
  repeat' first | (refine at_b (fun hb => ?_) (fun hb => ?_) <;> simp only [hb, push_cast, Int.le_refl, Bool.not_not, Option.isSome_some, Option.isSome_none, Bool.true_or, Bool.or_true, Bool.and_self, Bool.false_or, Bool.or_false, Bool.false_and, Bool.and_false, Nat.reduceAdd, Nat.reduceSub, Nat.reduceEqDiff, Nat.reduceLeDiff, Nat.reduceMul, Nat.reduceLT, Int.reduceLE, Int.reduceLT, Int.reduceEq, Int.reduceMul, Int.reduceToNat, Int.reduceNeg, Int.reduceAdd, Int.reduceSub, Int.natCast_nonneg, Int.toNat_natCast, reduceIte, reduceCtorEq]) | (refine at_ret ?_; simp only [Tryd.results84, push_cast, Int.le_refl, Bool.not_not, Option.isSome_some, Option.isSome_none, Bool.true_or, Bool.or_true, Bool.and_self, Bool.false_or, Bool.or_false, Bool.false_and, Bool.and_false, Nat.reduceAdd, Nat.reduceSub, Nat.reduceEqDiff, Nat.reduceLeDiff, Nat.reduceMul, Nat.reduceLT, Int.reduceLE, Int.reduceLT, Int.reduceEq, Int.reduceMul, Int.reduceToNat, Int.reduceNeg, Int.reduceAdd, Int.reduceSub, Int.natCast_nonneg, Int.toNat_natCast, reduceIte, reduceCtorEq]) | (refine at_call ?_; (try simp only [push_cast, Int.le_refl, Bool.not_not, Option.isSome_some, Option.isSome_none, Bool.true_or, Bool.or_true, Bool.and_self, Bool.false_or, Bool.or_false, Bool.false_and, Bool.and_false, Nat.reduceAdd, Nat.reduceSub, Nat.reduceEqDiff, Nat.reduceLeDiff, Nat.reduceMul, Nat.reduceLT, Int.reduceLE, Int.reduceLT, Int.reduceEq, Int.reduceMul, Int.reduceToNat, Int.reduceNeg, Int.reduceAdd, Int.reduceSub, Int.natCast_nonneg, Int.toNat_natCast, reduceIte, reduceCtorEq]); refine rwc_v (by first | exact h1 | exact h2) (go_on ?_); simp only [push_cast, Int.le_refl, Bool.not_not, Option.isSome_some, Option.isSome_none, Bool.true_or, Bool.or_true, Bool.and_self, Bool.false_or, Bool.or_false, Bool.false_and, Bool.and_false, Nat.reduceAdd, Nat.reduceSub, Nat.reduceEqDiff, Nat.reduceLeDiff, Nat.reduceMul, Nat.reduceLT, Int.reduceLE, Int.reduceLT, Int.reduceEq, Int.reduceMul, Int.reduceToNat, Int.reduceNeg, Int.reduceAdd, Int.reduceSub, Int.natCast_nonneg, Int.toNat_natCast, reduceIte, reduceCtorEq]) | (show RWp _ _ _ _ _; simp only [push_cast, Int.le_refl, Bool.not_not, Option.isSome_some, Option.isSome_none, Bool.true_or, Bool.or_true, Bool.and_self, Bool.false_or, Bool.or_false, Bool.false_and, Bool.and_false, Nat.reduceAdd, Nat.reduceSub, Nat.reduceEqDiff, Nat.reduceLeDiff, Nat.reduceMul, Nat.reduceLT, Int.reduceLE, Int.reduceLT, Int.reduceEq, Int.reduceMul, Int.reduceToNat, Int.reduceNeg, Int.reduceAdd, Int.reduceSub, Int.natCast_nonneg, Int.toNat_natCast, reduceIte, reduceCtorEq])
  all_goals simp only [Bool.not_eq_true', Bool.not_eq_false', decide_eq_true_eq, decide_eq_false_iff_not] at *
  all_goals simp [vX, cm_ext a b, *]
theorem szCommand_pc (n : Cm) (left : Int) (h0 : 0 ≤ left) (h1 : left ≤ 1048576) (hp : n.p.length ≤ 9223372036854775807) : PC Tryd.prog 32 [.agg (cmC n), iA left] (vI (sz1 left n.p.length)) := by
  have w1 := wr (left - (n.p.length : Int)) (by omega)
  unfold cmC
  refine pc_enter Tryd.func32 rfl rfl fun w0 fb => go_on ?_; (try simp only [Tryd.ntmps32, push_cast, Int.le_refl, Bool.not_not, Option.isSome_some, Option.isSome_none, Bool.true_or, Bool.or_true, Bool.and_self, Bool.false_or, Bool.or_false, Bool.false_and, Bool.and_false, Nat.reduceAdd, Nat.reduceSub, Nat.reduceEqDiff, Nat.reduceLeDiff, Nat.reduceMul, Nat.reduceLT, Int.reduceLE, Int.reduceLT, Int.reduceEq, Int.reduceMul, Int.reduceToNat, Int.reduceNeg, Int.reduceAdd, Int.reduceSub, Int.natCast_nonneg, Int.toNat_natCast, reduceIte, reduceCtorEq])
  repeat' first | (refine at_b (fun hb => ?_) (fun hb => ?_) <;> simp only [w1, hb, push_cast, Int.le_refl, Bool.not_not, Option.isSome_some, Option.isSome_none, Bool.true_or, Bool.or_true, Bool.and_self, Bool.false_or, Bool.or_false, Bool.false_and, Bool.and_false, Nat.reduceAdd, Nat.reduceSub, Nat.reduceEqDiff, Nat.reduceLeDiff, Nat.reduceMul, Nat.reduceLT, Int.reduceLE, Int.reduceLT, Int.reduceEq, Int.reduceMul, Int.reduceToNat, Int.reduceNeg, Int.reduceAdd, Int.reduceSub, Int.natCast_nonneg, Int.toNat_natCast, reduceIte, reduceCtorEq]) | (refine at_ret ?_; simp only [w1, Tryd.results32, push_cast, Int.le_refl, Bool.not_not, Option.isSome_some, Option.isSome_none, Bool.true_or, Bool.or_true, Bool.and_self, Bool.false_or, Bool.or_false, Bool.false_and, Bool.and_false, Nat.reduceAdd, Nat.reduceSub, Nat.reduceEqDiff, Nat.reduceLeDiff, Nat.reduceMul, Nat.reduceLT, Int.reduceLE, Int.reduceLT, Int.reduceEq, Int.reduceMul, Int.reduceToNat, Int.reduceNeg, Int.reduceAdd, Int.reduceSub, Int.natCast_nonneg, Int.toNat_natCast, reduceIte, reduceCtorEq]) | (show RWp _ _ _ _ _; simp only [w1, push_cast, Int.le_refl, Bool.not_not, Option.isSome_some, Option.isSome_none, Bool.true_or, Bool.or_true, Bool.and_self, Bool.false_or, Bool.or_false, Bool.false_and, Bool.and_false, Nat.reduceAdd, Nat.reduceSub, Nat.reduceEqDiff, Nat.reduceLeDiff, Nat.reduceMul, Nat.reduceLT, Int.reduceLE, Int.reduceLT, Int.reduceEq, Int.reduceMul, Int.reduceToNat, Int.reduceNeg, Int.reduceAdd, Int.reduceSub, Int.natCast_nonneg, Int.toNat_natCast, reduceIte, reduceCtorEq])
  · have := of_ltI_t hb; rw [w1] at this; simp [vX, sz1, this]
  · have := of_ltI_f hb; rw [w1] at this; simp [vX, sz1]; omega
theorem szCommandS_pc (l : List Cm) (left : Int) (h0 : 0 ≤ left) (h1 : left ≤ 1048576) (hl : l.length ≤ 9223372036854775807) (hp : ∀ n ∈ l, n.p.length ≤ 9223372036854775807) :
    PC Tryd.prog 52 [.sl 5 (l.map cmC), iA left] (vI (szS left (l.map fun n => n.p.length))) := by
  have w1 := wr (left - (l.length : Int)) (by omega)
  refine pc_enter Tryd.func52 rfl rfl fun w0 fb => go_on ?_; (try simp only [Tryd.ntmps52, push_cast, Int.le_refl, Bool.not_not, Option.isSome_some, Option.isSome_none, Bool.true_or, Bool.or_true, Bool.and_self, Bool.false_or, Bool.or_false, Bool.false_and, Bool.and_false, Nat.reduceAdd, Nat.reduceSub, Nat.reduceEqDiff, Nat.reduceLeDiff, Nat.reduceMul, Nat.reduceLT, Int.reduceLE, Int.reduceLT, Int.reduceEq, Int.reduceMul, Int.reduceToNat, Int.reduceNeg, Int.reduceAdd, Int.reduceSub, Int.natCast_nonneg, Int.toNat_natCast, reduceIte, reduceCtorEq])
  (try simp only [w1, push_cast, Int.le_refl, Bool.not_not, Option.isSome_some, Option.isSome_none, Bool.true_or, Bool.or_true, Bool.and_self, Bool.false_or, Bool.or_false, Bool.false_and, Bool.and_false, Nat.reduceAdd, Nat.reduceSub, Nat.reduceEqDiff, Nat.reduceLeDiff, Nat.reduceMul, Nat.reduceLT, Int.reduceLE, Int.reduceLT, Int.reduceEq, Int.reduceMul, Int.reduceToNat, Int.reduceNeg, Int.reduceAdd, Int.reduceSub, Int.natCast_nonneg, Int.toNat_natCast, reduceIte, reduceCtorEq])
  refine at_b (fun hb => ?_) (fun hb => ?_)
  · have := of_ltI_t hb
    (try simp only [hb, push_cast, Int.le_refl, Bool.not_not, Option.isSome_some, Option.isSome_none, Bool.true_or, Bool.or_true, Bool.and_self, Bool.false_or, Bool.or_false, Bool.false_and, Bool.and_false, Nat.reduceAdd, Nat.reduceSub, Nat.reduceEqDiff, Nat.reduceLeDiff, Nat.reduceMul, Nat.reduceLT, Int.reduceLE, Int.reduceLT, Int.reduceEq, Int.reduceMul, Int.reduceToNat, Int.reduceNeg, Int.reduceAdd, Int.reduceSub, Int.natCast_nonneg, Int.toNat_natCast, reduceIte, reduceCtorEq])
    refine at_ret ?_; simp only [Tryd.results52, push_cast, Int.le_refl, Bool.not_not, Option.isSome_some, Option.isSome_none, Bool.true_or, Bool.or_true, Bool.and_self, Bool.false_or, Bool.or_false, Bool.false_and, Bool.and_false, Nat.reduceAdd, Nat.reduceSub, Nat.reduceEqDiff, Nat.reduceLeDiff, Nat.reduceMul, Nat.reduceLT, Int.reduceLE, Int.reduceLT, Int.reduceEq, Int.reduceMul, Int.reduceToNat, Int.reduceNeg, Int.reduceAdd, Int.reduceSub, Int.natCast_nonneg, Int.toNat_natCast, reduceIte, reduceCtorEq]
    simp [vX, szS, this]
  · have h2 := of_ltI_f hb
    have e : szS left (l.map fun n => n.p.length) = szF (left - l.length) (l.map fun n => n.p.length) := by unfold szS; rw [if_neg (by simp; omega), List.length_map]
    rw [e]
    (try simp only [hb, push_cast, Int.le_refl, Bool.not_not, Option.isSome_some, Option.isSome_none, Bool.true_or, Bool.or_true, Bool.and_self, Bool.false_or, Bool.or_false, Bool.false_and, Bool.and_false, Nat.reduceAdd, Nat.reduceSub, Nat.reduceEqDiff, Nat.reduceLeDiff, Nat.reduceMul, Nat.reduceLT, Int.reduceLE, Int.reduceLT, Int.reduceEq, Int.reduceMul, Int.reduceToNat, Int.reduceNeg, Int.reduceAdd, Int.reduceSub, Int.natCast_nonneg, Int.toNat_natCast, reduceIte, reduceCtorEq])
    refine at_loop (X := Nat × Int) (fun x => [(1, iA x.2), (5, iA x.1)]) (fun _ => []) (fun x => x.1 ≤ l.length ∧ 0 ≤ x.2 ∧ x.2 ≤ 1048576 ∧ szF (left - l.length) (l.map fun n => n.p.length) = szF x.2 ((l.drop x.1).map fun n => n.p.length)) (fun x => l.length - x.1) (0, left - l.length) ⟨Nat.zero_le _, h2, by dsimp only; omega, rfl⟩ ?_ ?_
    · (refine wk_ok ?_ ?_ ?_ ?_ <;> simp [leL, leH, idsL, idsA, idsR, inH, hget, sameRow, upA, hvA, dsts, dstO, setA_0, setA_1, setA_8, List.append, List.cons_append, List.nil_append])
    · rintro ⟨k, r⟩ ⟨q1, q2, q3, q4⟩
      simp only at q1 q2 q3 q4
      simp only [upA, hvA, dsts, dstO, setA_0, setA_1, setA_8, List.append, List.cons_append, List.nil_append]
      refine go_on ?_
      (try simp only [push_cast, Int.le_refl, Bool.not_not, Option.isSome_some, Option.isSome_none, Bool.true_or, Bool.or_true, Bool.and_self, Bool.false_or, Bool.or_false, Bool.false_and, Bool.and_false, Nat.reduceAdd, Nat.reduceSub, Nat.reduceEqDiff, Nat.reduceLeDiff, Nat.reduceMul, Nat.reduceLT, Int.reduceLE, Int.reduceLT, Int.reduceEq, Int.reduceMul, Int.reduceToNat, Int.reduceNeg, Int.reduceAdd, Int.reduceSub, Int.natCast_nonneg, Int.toNat_natCast, reduceIte, reduceCtorEq])
      refine at_b (fun hg => ?_) (fun hg => ?_)
      · have hlt := lt_tt hg
        obtain ⟨x, hk⟩ := get_of_lt hlt
        have i1 := ix_n hk
        have i2 := map_get cmC hk
        have hS := szCommand_pc x r q2 q3 (hp x (mem_of_get hk))
        simp only [cmC] at i2 hS
        rw [drop_of_get hk, List.map_cons, szF] at q4
        have w2 := wr ((k : Int) + 1) (by omega)
        (try simp only [hg, i1, i2, push_cast, Int.le_refl, Bool.not_not, Option.isSome_some, Option.isSome_none, Bool.true_or, Bool.or_true, Bool.and_self, Bool.false_or, Bool.or_false, Bool.false_and, Bool.and_false, Nat.reduceAdd, Nat.reduceSub, Nat.reduceEqDiff, Nat.reduceLeDiff, Nat.reduceMul, Nat.reduceLT, Int.reduceLE, Int.reduceLT, Int.reduceEq, Int.reduceMul, Int.reduceToNat, Int.reduceNeg, Int.reduceAdd, Int.reduceSub, Int.natCast_nonneg, Int.toNat_natCast, reduceIte, reduceCtorEq])
        (refine at_call ?_; (try simp only [push_cast, Int.le_refl, Bool.not_not, Option.isSome_some, Option.isSome_none, Bool.true_or, Bool.or_true, Bool.and_self, Bool.false_or, Bool.or_false, Bool.false_and, Bool.and_false, Nat.reduceAdd, Nat.reduceSub, Nat.reduceEqDiff, Nat.reduceLeDiff, Nat.reduceMul, Nat.reduceLT, Int.reduceLE, Int.reduceLT, Int.reduceEq, Int.reduceMul, Int.reduceToNat, Int.reduceNeg, Int.reduceAdd, Int.reduceSub, Int.natCast_nonneg, Int.toNat_natCast, reduceIte, reduceCtorEq]); refine rwc_v (hS) (go_on ?_); (try simp only [push_cast, Int.le_refl, Bool.not_not, Option.isSome_some, Option.isSome_none, Bool.true_or, Bool.or_true, Bool.and_self, Bool.false_or, Bool.or_false, Bool.false_and, Bool.and_false, Nat.reduceAdd, Nat.reduceSub, Nat.reduceEqDiff, Nat.reduceLeDiff, Nat.reduceMul, Nat.reduceLT, Int.reduceLE, Int.reduceLT, Int.reduceEq, Int.reduceMul, Int.reduceToNat, Int.reduceNeg, Int.reduceAdd, Int.reduceSub, Int.natCast_nonneg, Int.toNat_natCast, reduceIte, reduceCtorEq]))
        by_cases hz : r - (x.p.length : Int) < 0
        · have e2 : sz1 r x.p.length = -1 := by unfold sz1; rw [if_pos hz]
          rw [e2]
          (try simp only [show ltI (-1) 0 = true from rfl, push_cast, Int.le_refl, Bool.not_not, Option.isSome_some, Option.isSome_none, Bool.true_or, Bool.or_true, Bool.and_self, Bool.false_or, Bool.or_false, Bool.false_and, Bool.and_false, Nat.reduceAdd, Nat.reduceSub, Nat.reduceEqDiff, Nat.reduceLeDiff, Nat.reduceMul, Nat.reduceLT, Int.reduceLE, Int.reduceLT, Int.reduceEq, Int.reduceMul, Int.reduceToNat, Int.reduceNeg, Int.reduceAdd, Int.reduceSub, Int.natCast_nonneg, Int.toNat_natCast, reduceIte, reduceCtorEq])
          refine at_ret ?_; simp only [Tryd.results52, push_cast, Int.le_refl, Bool.not_not, Option.isSome_some, Option.isSome_none, Bool.true_or, Bool.or_true, Bool.and_self, Bool.false_or, Bool.or_false, Bool.false_and, Bool.and_false, Nat.reduceAdd, Nat.reduceSub, Nat.reduceEqDiff, Nat.reduceLeDiff, Nat.reduceMul, Nat.reduceLT, Int.reduceLE, Int.reduceLT, Int.reduceEq, Int.reduceMul, Int.reduceToNat, Int.reduceNeg, Int.reduceAdd, Int.reduceSub, Int.natCast_nonneg, Int.toNat_natCast, reduceIte, reduceCtorEq]
          rw [if_pos hz] at q4
          simp [vX, q4]
        · have e2 : sz1 r x.p.length = r - x.p.length := by unfold sz1; rw [if_neg hz]
          have e3 : ltI (r - (x.p.length : Int)) 0 = false := ltI_f (by omega)
          rw [e2]
          (try simp only [e3, w2, push_cast, Int.le_refl, Bool.not_not, Option.isSome_some, Option.isSome_none, Bool.true_or, Bool.or_true, Bool.and_self, Bool.false_or, Bool.or_false, Bool.false_and, Bool.and_false, Nat.reduceAdd, Nat.reduceSub, Nat.reduceEqDiff, Nat.reduceLeDiff, Nat.reduceMul, Nat.reduceLT, Int.reduceLE, Int.reduceLT, Int.reduceEq, Int.reduceMul, Int.reduceToNat, Int.reduceNeg, Int.reduceAdd, Int.reduceSub, Int.natCast_nonneg, Int.toNat_natCast, reduceIte, reduceCtorEq])
          rw [if_neg hz] at q4
          refine at_fin ⟨(k + 1, r - x.p.length), ⟨by dsimp only; omega, by dsimp only; omega, by dsimp only; omega, q4⟩, by dsimp only; omega, ?_⟩
          (refine wk_ok ?_ ?_ ?_ ?_ <;> simp [leL, leH, idsL, idsA, idsR, inH, hget, sameRow, upA, hvA, dsts, dstO, setA_0, setA_1, setA_8, List.append, List.cons_append, List.nil_append])
      · have h3 := lt_ff hg
        rw [List.drop_of_length_le h3] at q4
        (try simp only [hg, push_cast, Int.le_refl, Bool.not_not, Option.isSome_some, Option.isSome_none, Bool.true_or, Bool.or_true, Bool.and_self, Bool.false_or, Bool.or_false, Bool.false_and, Bool.and_false, Nat.reduceAdd, Nat.reduceSub, Nat.reduceEqDiff, Nat.reduceLeDiff, Nat.reduceMul, Nat.reduceLT, Int.reduceLE, Int.reduceLT, Int.reduceEq, Int.reduceMul, Int.reduceToNat, Int.reduceNeg, Int.reduceAdd, Int.reduceSub, Int.natCast_nonneg, Int.toNat_natCast, reduceIte, reduceCtorEq])
        refine at_ret ?_; simp only [Tryd.results52, push_cast, Int.le_refl, Bool.not_not, Option.isSome_some, Option.isSome_none, Bool.true_or, Bool.or_true, Bool.and_self, Bool.false_or, Bool.or_false, Bool.false_and, Bool.and_false, Nat.reduceAdd, Nat.reduceSub, Nat.reduceEqDiff, Nat.reduceLeDiff, Nat.reduceMul, Nat.reduceLT, Int.reduceLE, Int.reduceLT, Int.reduceEq, Int.reduceMul, Int.reduceToNat, Int.reduceNeg, Int.reduceAdd, Int.reduceSub, Int.natCast_nonneg, Int.toNat_natCast, reduceIte, reduceCtorEq]
        simp [vX, q4, szF]
theorem toCommandS_pc (l : List Cm) (hl : l.length ≤ 1048576) : PC Tryd.prog 54 [.sl 5 (l.map cmC)] (rX (.o 0 l.length) [rowC l]) := by
  refine pc_enter Tryd.func54 rfl rfl fun w0 fb => go_on ?_; (try simp only [Tryd.ntmps54, push_cast, Int.le_refl, Bool.not_not, Option.isSome_some, Option.isSome_none, Bool.true_or, Bool.or_true, Bool.and_self, Bool.false_or, Bool.or_false, Bool.false_and, Bool.and_false, Nat.reduceAdd, Nat.reduceSub, Nat.reduceEqDiff, Nat.reduceLeDiff, Nat.reduceMul, Nat.reduceLT, Int.reduceLE, Int.reduceLT, Int.reduceEq, Int.reduceMul, Int.reduceToNat, Int.reduceNeg, Int.reduceAdd, Int.reduceSub, Int.natCast_nonneg, Int.toNat_natCast, reduceIte, reduceCtorEq])
  refine at_chk ⟨by omega, by omega⟩ ?_
  refine at_loop (X := Nat) (fun k => [(4, iA k)]) (fun k => [(2, rowC []), (7, ⟨47, 5, (l.take k).map cmC ++ List.replicate (l.length - k) [AV.v (Value.string ⟨#[]⟩), iA 0, iA 0, iA 0, iA 0], true⟩)]) (fun k => k ≤ l.length) (fun k => l.length - k) 0 (Nat.zero_le _) ?_ ?_
  · (refine wk_ok ?_ ?_ ?_ ?_ <;> simp [leL, leH, idsL, idsA, idsR, inH, hget, sameRow, upA, hvA, dsts, dstO, setA_0, setA_1, setA_8, List.append, List.cons_append, List.nil_append])
  · intro k h1
    simp only [upA, hvA, dsts, dstO, setA_0, setA_1, setA_8, List.append, List.cons_append, List.nil_append]
    refine go_on ?_
    (try simp only [push_cast, Int.le_refl, Bool.not_not, Option.isSome_some, Option.isSome_none, Bool.true_or, Bool.or_true, Bool.and_self, Bool.false_or, Bool.or_false, Bool.false_and, Bool.and_false, Nat.reduceAdd, Nat.reduceSub, Nat.reduceEqDiff, Nat.reduceLeDiff, Nat.reduceMul, Nat.reduceLT, Int.reduceLE, Int.reduceLT, Int.reduceEq, Int.reduceMul, Int.reduceToNat, Int.reduceNeg, Int.reduceAdd, Int.reduceSub, Int.natCast_nonneg, Int.toNat_natCast, reduceIte, reduceCtorEq])
    refine at_b (fun hg => ?_) (fun hg => ?_)
    · have hlt := lt_tt hg
      obtain ⟨x, hk⟩ := get_of_lt hlt
      have i1 := ix_n hk
      have i2 := map_get cmC hk
      have hT := toCommand_pc x
      simp only [cmC] at i2 hT
      have w2 := wr ((k : Int) + 1) (by omega)
      obtain ⟨es, hes⟩ : ∃ es, es = (l.take k).map cmC ++ List.replicate (l.length - k) [AV.v (Value.string ⟨#[]⟩), iA 0, iA 0, iA 0, iA 0] := ⟨_, rfl⟩
      have hlen : ((l.take k).map cmC).length = k := by rw [List.length_map, List.length_take]; omega
      have i3 : es[k]? = some [AV.v (Value.string ⟨#[]⟩), iA 0, iA 0, iA 0, iA 0] := by rw [hes, List.getElem?_append_right (by omega), hlen, Nat.sub_self, List.getElem?_replicate, if_pos (by omega)]
      have hset : es.set k [sA x.p, iA x.a.k, iA x.a.v, iA x.b.k, iA x.b.v] = (l.take (k + 1)).map cmC ++ List.replicate (l.length - (k + 1)) [AV.v (Value.string ⟨#[]⟩), iA 0, iA 0, iA 0, iA 0] := by
        rw [hes, List.set_append_right _ _ (by omega), hlen, Nat.sub_self, List.take_add_one, hk, show l.length - k = (l.length - (k + 1)) + 1 by omega, List.replicate_succ, List.set_cons_zero]
        simp [cmC]
      rw [← hes]
      (try simp only [hg, i1, i2, push_cast, Int.le_refl, Bool.not_not, Option.isSome_some, Option.isSome_none, Bool.true_or, Bool.or_true, Bool.and_self, Bool.false_or, Bool.or_false, Bool.false_and, Bool.and_false, Nat.reduceAdd, Nat.reduceSub, Nat.reduceEqDiff, Nat.reduceLeDiff, Nat.reduceMul, Nat.reduceLT, Int.reduceLE, Int.reduceLT, Int.reduceEq, Int.reduceMul, Int.reduceToNat, Int.reduceNeg, Int.reduceAdd, Int.reduceSub, Int.natCast_nonneg, Int.toNat_natCast, reduceIte, reduceCtorEq])
      (refine at_call ?_; (try simp only [push_cast, Int.le_refl, Bool.not_not, Option.isSome_some, Option.isSome_none, Bool.true_or, Bool.or_true, Bool.and_self, Bool.false_or, Bool.or_false, Bool.false_and, Bool.and_false, Nat.reduceAdd, Nat.reduceSub, Nat.reduceEqDiff, Nat.reduceLeDiff, Nat.reduceMul, Nat.reduceLT, Int.reduceLE, Int.reduceLT, Int.reduceEq, Int.reduceMul, Int.reduceToNat, Int.reduceNeg, Int.reduceAdd, Int.reduceSub, Int.natCast_nonneg, Int.toNat_natCast, reduceIte, reduceCtorEq]); refine rwc_d (hT) (by simp [flatV, flatL, ctC, ndC, cmC]) (by simp [ren, ctC, ndC, cmC]) (go_on ?_); (try simp only [push_cast, Int.le_refl, Bool.not_not, Option.isSome_some, Option.isSome_none, Bool.true_or, Bool.or_true, Bool.and_self, Bool.false_or, Bool.or_false, Bool.false_and, Bool.and_false, Nat.reduceAdd, Nat.reduceSub, Nat.reduceEqDiff, Nat.reduceLeDiff, Nat.reduceMul, Nat.reduceLT, Int.reduceLE, Int.reduceLT, Int.reduceEq, Int.reduceMul, Int.reduceToNat, Int.reduceNeg, Int.reduceAdd, Int.reduceSub, Int.natCast_nonneg, Int.toNat_natCast, reduceIte, reduceCtorEq]))
      (try simp only [i1, i3, List.length_replicate, w2, push_cast, Int.le_refl, Bool.not_not, Option.isSome_some, Option.isSome_none, Bool.true_or, Bool.or_true, Bool.and_self, Bool.false_or, Bool.or_false, Bool.false_and, Bool.and_false, Nat.reduceAdd, Nat.reduceSub, Nat.reduceEqDiff, Nat.reduceLeDiff, Nat.reduceMul, Nat.reduceLT, Int.reduceLE, Int.reduceLT, Int.reduceEq, Int.reduceMul, Int.reduceToNat, Int.reduceNeg, Int.reduceAdd, Int.reduceSub, Int.natCast_nonneg, Int.toNat_natCast, reduceIte, reduceCtorEq])
      refine at_fin ⟨k + 1, by omega, by omega, ?_⟩
      rw [hset]
      (refine wk_ok ?_ ?_ ?_ ?_ <;> simp [leL, leH, idsL, idsA, idsR, inH, hget, sameRow, upA, hvA, dsts, dstO, setA_0, setA_1, setA_8, List.append, List.cons_append, List.nil_append])
    · have h3 := lt_ff hg
      have hk : k = l.length := by omega
      subst hk
      (try simp only [hg, push_cast, Int.le_refl, Bool.not_not, Option.isSome_some, Option.isSome_none, Bool.true_or, Bool.or_true, Bool.and_self, Bool.false_or, Bool.or_false, Bool.false_and, Bool.and_false, Nat.reduceAdd, Nat.reduceSub, Nat.reduceEqDiff, Nat.reduceLeDiff, Nat.reduceMul, Nat.reduceLT, Int.reduceLE, Int.reduceLT, Int.reduceEq, Int.reduceMul, Int.reduceToNat, Int.reduceNeg, Int.reduceAdd, Int.reduceSub, Int.natCast_nonneg, Int.toNat_natCast, reduceIte, reduceCtorEq])
      refine at_ret ?_; simp only [Tryd.results54, push_cast, Int.le_refl, Bool.not_not, Option.isSome_some, Option.isSome_none, Bool.true_or, Bool.or_true, Bool.and_self, Bool.false_or, Bool.or_false, Bool.false_and, Bool.and_false, Nat.reduceAdd, Nat.reduceSub, Nat.reduceEqDiff, Nat.reduceLeDiff, Nat.reduceMul, Nat.reduceLT, Int.reduceLE, Int.reduceLT, Int.reduceEq, Int.reduceMul, Int.reduceToNat, Int.reduceNeg, Int.reduceAdd, Int.reduceSub, Int.natCast_nonneg, Int.toNat_natCast, reduceIte, reduceCtorEq]
      simp [rX, ixOf]
theorem eqCommandS_pc (a b : List Cm) (hl : a.length < 4294967281) : PC Tryd.prog 55 [.sl 5 (a.map cmC), .sl 5 (b.map cmC)] (vB (decide (a = b))) := by
  refine pc_enter Tryd.func55 rfl rfl fun w0 fb => go_on ?_; (try simp only [Tryd.ntmps55, push_cast, Int.le_refl, Bool.not_not, Option.isSome_some, Option.isSome_none, Bool.true_or, Bool.or_true, Bool.and_self, Bool.false_or, Bool.or_false, Bool.false_and, Bool.and_false, Nat.reduceAdd, Nat.reduceSub, Nat.reduceEqDiff, Nat.reduceLeDiff, Nat.reduceMul, Nat.reduceLT, Int.reduceLE, Int.reduceLT, Int.reduceEq, Int.reduceMul, Int.reduceToNat, Int.reduceNeg, Int.reduceAdd, Int.reduceSub, Int.natCast_nonneg, Int.toNat_natCast, reduceIte, reduceCtorEq])
  refine at_b (fun hb => ?_) (fun hb => ?_)
  · have h1 := of_eqI_f (not_t hb)
    have h2 : a ≠ b := by rintro rfl; exact h1 rfl
    (try simp only [hb, push_cast, Int.le_refl, Bool.not_not, Option.isSome_some, Option.isSome_none, Bool.true_or, Bool.or_true, Bool.and_self, Bool.false_or, Bool.or_false, Bool.false_and, Bool.and_false, Nat.reduceAdd, Nat.reduceSub, Nat.reduceEqDiff, Nat.reduceLeDiff, Nat.reduceMul, Nat.reduceLT, Int.reduceLE, Int.reduceLT, Int.reduceEq, Int.reduceMul, Int.reduceToNat, Int.reduceNeg, Int.reduceAdd, Int.reduceSub, Int.natCast_nonneg, Int.toNat_natCast, reduceIte, reduceCtorEq])
    refine at_ret ?_; simp only [Tryd.results55, push_cast, Int.le_refl, Bool.not_not, Option.isSome_some, Option.isSome_none, Bool.true_or, Bool.or_true, Bool.and_self, Bool.false_or, Bool.or_false, Bool.false_and, Bool.and_false, Nat.reduceAdd, Nat.reduceSub, Nat.reduceEqDiff, Nat.reduceLeDiff, Nat.reduceMul, Nat.reduceLT, Int.reduceLE, Int.reduceLT, Int.reduceEq, Int.reduceMul, Int.reduceToNat, Int.reduceNeg, Int.reduceAdd, Int.reduceSub, Int.natCast_nonneg, Int.toNat_natCast, reduceIte, reduceCtorEq]
    simp [vX, h2]
  · have h1 : a.length = b.length := by have := of_eqI_t (not_f hb); omega
    (try simp only [hb, push_cast, Int.le_refl, Bool.not_not, Option.isSome_some, Option.isSome_none, Bool.true_or, Bool.or_true, Bool.and_self, Bool.false_or, Bool.or_false, Bool.false_and, Bool.and_false, Nat.reduceAdd, Nat.reduceSub, Nat.reduceEqDiff, Nat.reduceLeDiff, Nat.reduceMul, Nat.reduceLT, Int.reduceLE, Int.reduceLT, Int.reduceEq, Int.reduceMul, Int.reduceToNat, Int.reduceNeg, Int.reduceAdd, Int.reduceSub, Int.natCast_nonneg, Int.toNat_natCast, reduceIte, reduceCtorEq])
    refine at_loop (X := Nat) (fun k => [(5, iA k)]) (fun _ => []) (fun k => k ≤ a.length ∧ decide (a = b) = decide (a.drop k = b.drop k)) (fun k => a.length - k) 0 ⟨Nat.zero_le _, rfl⟩ ?_ ?_
    · (refine wk_ok ?_ ?_ ?_ ?_ <;> simp [leL, leH, idsL, idsA, idsR, inH, hget, sameRow, upA, hvA, dsts, dstO, setA_0, setA_1, setA_8, List.append, List.cons_append, List.nil_append])
    · rintro k ⟨q1, q2⟩
      simp only [upA, hvA, dsts, dstO, setA_0, setA_1, setA_8, List.append, List.cons_append, List.nil_append]
      refine go_on ?_
      (try simp only [push_cast, Int.le_refl, Bool.not_not, Option.isSome_some, Option.isSome_none, Bool.true_or, Bool.or_true, Bool.and_self, Bool.false_or, Bool.or_false, Bool.false_and, Bool.and_false, Nat.reduceAdd, Nat.reduceSub, Nat.reduceEqDiff, Nat.reduceLeDiff, Nat.reduceMul, Nat.reduceLT, Int.reduceLE, Int.reduceLT, Int.reduceEq, Int.reduceMul, Int.reduceToNat, Int.reduceNeg, Int.reduceAdd, Int.reduceSub, Int.natCast_nonneg, Int.toNat_natCast, reduceIte, reduceCtorEq])
      refine at_b (fun hg => ?_) (fun hg => ?_)
      · have hlt := lt_tt hg
        obtain ⟨x, hx⟩ := get_of_lt hlt
        obtain ⟨y, hy⟩ := get_of_lt (l := b) (k := k) (by omega)
        have i1 := ix_n hx
        have i3 := ix_n hy
        have i2 := map_get cmC hx
        have i4 := map_get cmC hy
        have hE := eqCommand_pc x y
        simp only [cmC] at i2 i4 hE
        rw [drop_of_get hx, drop_of_get hy] at q2
        have w2 := wr ((k : Int) + 1) (by omega)
        (try simp only [hg, push_cast, Int.le_refl, Bool.not_not, Option.isSome_some, Option.isSome_none, Bool.true_or, Bool.or_true, Bool.and_self, Bool.false_or, Bool.or_false, Bool.false_and, Bool.and_false, Nat.reduceAdd, Nat.reduceSub, Nat.reduceEqDiff, Nat.reduceLeDiff, Nat.reduceMul, Nat.reduceLT, Int.reduceLE, Int.reduceLT, Int.reduceEq, Int.reduceMul, Int.reduceToNat, Int.reduceNeg, Int.reduceAdd, Int.reduceSub, Int.natCast_nonneg, Int.toNat_natCast, reduceIte, reduceCtorEq])
        refine at_draw rfl (by kernel_rfl) ?_
        (try simp only [i1, i2, i3, i4, push_cast, Int.le_refl, Bool.not_not, Option.isSome_some, Option.isSome_none, Bool.true_or, Bool.or_true, Bool.and_self, Bool.false_or, Bool.or_false, Bool.false_and, Bool.and_false, Nat.reduceAdd, Nat.reduceSub, Nat.reduceEqDiff, Nat.reduceLeDiff, Nat.reduceMul, Nat.reduceLT, Int.reduceLE, Int.reduceLT, Int.reduceEq, Int.reduceMul, Int.reduceToNat, Int.reduceNeg, Int.reduceAdd, Int.reduceSub, Int.natCast_nonneg, Int.toNat_natCast, reduceIte, reduceCtorEq])
        repeat' first | (refine at_bWn (fun hb => ?_) (fun hb => ?_) <;> simp only [i1, i2, i3, i4, hb, push_cast, Int.le_refl, Bool.not_not, Option.isSome_some, Option.isSome_none, Bool.true_or, Bool.or_true, Bool.and_self, Bool.false_or, Bool.or_false, Bool.false_and, Bool.and_false, Nat.reduceAdd, Nat.reduceSub, Nat.reduceEqDiff, Nat.reduceLeDiff, Nat.reduceMul, Nat.reduceLT, Int.reduceLE, Int.reduceLT, Int.reduceEq, Int.reduceMul, Int.reduceToNat, Int.reduceNeg, Int.reduceAdd, Int.reduceSub, Int.natCast_nonneg, Int.toNat_natCast, reduceIte, reduceCtorEq]) | (refine at_bW (fun hb => ?_) (fun hb => ?_) <;> simp only [i1, i2, i3, i4, hb, push_cast, Int.le_refl, Bool.not_not, Option.isSome_some, Option.isSome_none, Bool.true_or, Bool.or_true, Bool.and_self, Bool.false_or, Bool.or_false, Bool.false_and, Bool.and_false, Nat.reduceAdd, Nat.reduceSub, Nat.reduceEqDiff, Nat.reduceLeDiff, Nat.reduceMul, Nat.reduceLT, Int.reduceLE, Int.reduceLT, Int.reduceEq, Int.reduceMul, Int.reduceToNat, Int.reduceNeg, Int.reduceAdd, Int.reduceSub, Int.natCast_nonneg, Int.toNat_natCast, reduceIte, reduceCtorEq]) | (refine at_callD (by simp [clB, idsL, idsA, hget]) ?_; (try simp only [push_cast, Int.le_refl, Bool.not_not, Option.isSome_some, Option.isSome_none, Bool.true_or, Bool.or_true, Bool.and_self, Bool.false_or, Bool.or_false, Bool.false_and, Bool.and_false, Nat.reduceAdd, Nat.reduceSub, Nat.reduceEqDiff, Nat.reduceLeDiff, Nat.reduceMul, Nat.reduceLT, Int.reduceLE, Int.reduceLT, Int.reduceEq, Int.reduceMul, Int.reduceToNat, Int.reduceNeg, Int.reduceAdd, Int.reduceSub, Int.natCast_nonneg, Int.toNat_natCast, reduceIte, reduceCtorEq]); first | (refine rcd_v (hE) ?_; simp only [i1, i2, i3, i4, push_cast, Int.le_refl, Bool.not_not, Option.isSome_some, Option.isSome_none, Bool.true_or, Bool.or_true, Bool.and_self, Bool.false_or, Bool.or_false, Bool.false_and, Bool.and_false, Nat.reduceAdd, Nat.reduceSub, Nat.reduceEqDiff, Nat.reduceLeDiff, Nat.reduceMul, Nat.reduceLT, Int.reduceLE, Int.reduceLT, Int.reduceEq, Int.reduceMul, Int.reduceToNat, Int.reduceNeg, Int.reduceAdd, Int.reduceSub, Int.natCast_nonneg, Int.toNat_natCast, reduceIte, reduceCtorEq]) | (refine rcd_d (hE) (by simp [flatV, flatL, ctC, ndC, cmC]) (by simp [ren, ctC, ndC, cmC]) ?_; simp only [i1, i2, i3, i4, push_cast, Int.le_refl, Bool.not_not, Option.isSome_some, Option.isSome_none, Bool.true_or, Bool.or_true, Bool.and_self, Bool.false_or, Bool.or_false, Bool.false_and, Bool.and_false, Nat.reduceAdd, Nat.reduceSub, Nat.reduceEqDiff, Nat.reduceLeDiff, Nat.reduceMul, Nat.reduceLT, Int.reduceLE, Int.reduceLT, Int.reduceEq, Int.reduceMul, Int.reduceToNat, Int.reduceNeg, Int.reduceAdd, Int.reduceSub, Int.natCast_nonneg, Int.toNat_natCast, reduceIte, reduceCtorEq])) | (refine at_done (by kernel_rfl) (by kernel_rfl) (go_on ?_); (try simp only [i1, i2, i3, i4, push_cast, Int.le_refl, Bool.not_not, Option.isSome_some, Option.isSome_none, Bool.true_or, Bool.or_true, Bool.and_self, Bool.false_or, Bool.or_false, Bool.false_and, Bool.and_false, Nat.reduceAdd, Nat.reduceSub, Nat.reduceEqDiff, Nat.reduceLeDiff, Nat.reduceMul, Nat.reduceLT, Int.reduceLE, Int.reduceLT, Int.reduceEq, Int.reduceMul, Int.reduceToNat, Int.reduceNeg, Int.reduceAdd, Int.reduceSub, Int.natCast_nonneg, Int.toNat_natCast, reduceIte, reduceCtorEq]))
        refine at_b (fun hn => ?_) (fun hn => ?_)
        · (try simp only [hn, push_cast, Int.le_refl, Bool.not_not, Option.isSome_some, Option.isSome_none, Bool.true_or, Bool.or_true, Bool.and_self, Bool.false_or, Bool.or_false, Bool.false_and, Bool.and_false, Nat.reduceAdd, Nat.reduceSub, Nat.reduceEqDiff, Nat.reduceLeDiff, Nat.reduceMul, Nat.reduceLT, Int.reduceLE, Int.reduceLT, Int.reduceEq, Int.reduceMul, Int.reduceToNat, Int.reduceNeg, Int.reduceAdd, Int.reduceSub, Int.natCast_nonneg, Int.toNat_natCast, reduceIte, reduceCtorEq])
          refine at_ret ?_; simp only [Tryd.results55, push_cast, Int.le_refl, Bool.not_not, Option.isSome_some, Option.isSome_none, Bool.true_or, Bool.or_true, Bool.and_self, Bool.false_or, Bool.or_false, Bool.false_and, Bool.and_false, Nat.reduceAdd, Nat.reduceSub, Nat.reduceEqDiff, Nat.reduceLeDiff, Nat.reduceMul, Nat.reduceLT, Int.reduceLE, Int.reduceLT, Int.reduceEq, Int.reduceMul, Int.reduceToNat, Int.reduceNeg, Int.reduceAdd, Int.reduceSub, Int.natCast_nonneg, Int.toNat_natCast, reduceIte, reduceCtorEq]
          have := not_t hn
          simp only [decide_eq_false_iff_not] at this
          simp [vX, q2, this]
        · have hn' := not_f hn
          simp only [decide_eq_true_eq] at hn'
          (try simp only [hn, w2, push_cast, Int.le_refl, Bool.not_not, Option.isSome_some, Option.isSome_none, Bool.true_or, Bool.or_true, Bool.and_self, Bool.false_or, Bool.or_false, Bool.false_and, Bool.and_false, Nat.reduceAdd, Nat.reduceSub, Nat.reduceEqDiff, Nat.reduceLeDiff, Nat.reduceMul, Nat.reduceLT, Int.reduceLE, Int.reduceLT, Int.reduceEq, Int.reduceMul, Int.reduceToNat, Int.reduceNeg, Int.reduceAdd, Int.reduceSub, Int.natCast_nonneg, Int.toNat_natCast, reduceIte, reduceCtorEq])
          refine at_fin ⟨k + 1, ⟨by omega, ?_⟩, by omega, ?_⟩
          · rw [q2]; simp [hn']
          · (refine wk_ok ?_ ?_ ?_ ?_ <;> simp [leL, leH, idsL, idsA, idsR, inH, hget, sameRow, upA, hvA, dsts, dstO, setA_0, setA_1, setA_8, List.append, List.cons_append, List.nil_append])
      · have h3 := lt_ff hg
        rw [List.drop_of_length_le h3, List.drop_of_length_le (by omega)] at q2
        (try simp only [hg, push_cast, Int.le_refl, Bool.not_not, Option.isSome_some, Option.isSome_none, Bool.true_or, Bool.or_true, Bool.and_self, Bool.false_or, Bool.or_false, Bool.false_and, Bool.and_false, Nat.reduceAdd, Nat.reduceSub, Nat.reduceEqDiff, Nat.reduceLeDiff, Nat.reduceMul, Nat.reduceLT, Int.reduceLE, Int.reduceLT, Int.reduceEq, Int.reduceMul, Int.reduceToNat, Int.reduceNeg, Int.reduceAdd, Int.reduceSub, Int.natCast_nonneg, Int.toNat_natCast, reduceIte, reduceCtorEq])
        refine at_ret ?_; simp only [Tryd.results55, push_cast, Int.le_refl, Bool.not_not, Option.isSome_some, Option.isSome_none, Bool.true_or, Bool.or_true, Bool.and_self, Bool.false_or, Bool.or_false, Bool.false_and, Bool.and_false, Nat.reduceAdd, Nat.reduceSub, Nat.reduceEqDiff, Nat.reduceLeDiff, Nat.reduceMul, Nat.reduceLT, Int.reduceLE, Int.reduceLT, Int.reduceEq, Int.reduceMul, Int.reduceToNat, Int.reduceNeg, Int.reduceAdd, Int.reduceSub, Int.natCast_nonneg, Int.toNat_natCast, reduceIte, reduceCtorEq]
        simp [vX, q2]
end Go.Proofs.YtcjialgknmplbaaDoor
/-
  Walks: a side of the laws: its size, its copy, its equality.
-/
namespace Go.Proofs.YtcjialgknmplbaaDoor
open Go Go.RowKit Go.Proofs
theorem flat_app {a b : List Row} (ha : FlatR a) (hb : FlatR b) : FlatR (a ++ b) := fun row h => by
  rcases List.mem_append.1 h with h | h
  · exact ha row h
  · exact hb row h
theorem flat_nc {E E' : TypeId} {sz sz' : Nat} {cl cl' : Bool} (l : List Nd) (m : List Cm) : FlatR [⟨E, sz, l.map ndC, cl⟩, ⟨E', sz', m.map cmC, cl'⟩] := flat_app (flat_n l) (flat_c m)
def stO (s : St) : AV := .agg [iA s.ep, .o 0 s.base.length, .o 1 s.log.length]
attribute [local irreducible] RWp AW run kPe pe Kt effA gd gu br retR RDp runD kPeD brW gW effD
set_option maxRecDepth 100000
theorem toSite_pc (s : St) (h1 : s.base.length ≤ 1048576) (h2 : s.log.length ≤ 1048576) : PC Tryd.prog 20 [stA' s] (rX (stO s) [rowN s.base, rowC s.log]) := by
  unfold stA' stC stO
  refine pc_enter Tryd.func20 rfl rfl fun w0 fb => go_on ?_; (try simp only [Tryd.ntmps20, push_cast, Int.le_refl, Bool.not_not, Option.isSome_some, Option.isSome_none, Bool.true_or, Bool.or_true, Bool.and_self, Bool.false_or, Bool.or_false, Bool.false_and, Bool.and_false, Nat.reduceAdd, Nat.reduceSub, Nat.reduceEqDiff, Nat.reduceLeDiff, Nat.reduceMul, Nat.reduceLT, Int.reduceLE, Int.reduceLT, Int.reduceEq, Int.reduceMul, Int.reduceToNat, Int.reduceNeg, Int.reduceAdd, Int.reduceSub, Int.natCast_nonneg, Int.toNat_natCast, reduceIte, reduceCtorEq])
  (refine at_call ?_; (try simp only [push_cast, Int.le_refl, Bool.not_not, Option.isSome_some, Option.isSome_none, Bool.true_or, Bool.or_true, Bool.and_self, Bool.false_or, Bool.or_false, Bool.false_and, Bool.and_false, Nat.reduceAdd, Nat.reduceSub, Nat.reduceEqDiff, Nat.reduceLeDiff, Nat.reduceMul, Nat.reduceLT, Int.reduceLE, Int.reduceLT, Int.reduceEq, Int.reduceMul, Int.reduceToNat, Int.reduceNeg, Int.reduceAdd, Int.reduceSub, Int.natCast_nonneg, Int.toNat_natCast, reduceIte, reduceCtorEq]); refine rwc_r (toNodeS_pc s.base h1) rfl (flat_n _) (by simp [frB, baseOf]) (go_on ?_); (try simp only [push_cast, Int.le_refl, Bool.not_not, Option.isSome_some, Option.isSome_none, Bool.true_or, Bool.or_true, Bool.and_self, Bool.false_or, Bool.or_false, Bool.false_and, Bool.and_false, Nat.reduceAdd, Nat.reduceSub, Nat.reduceEqDiff, Nat.reduceLeDiff, Nat.reduceMul, Nat.reduceLT, Int.reduceLE, Int.reduceLT, Int.reduceEq, Int.reduceMul, Int.reduceToNat, Int.reduceNeg, Int.reduceAdd, Int.reduceSub, Int.natCast_nonneg, Int.toNat_natCast, reduceIte, reduceCtorEq]))
  (refine at_call ?_; (try simp only [push_cast, Int.le_refl, Bool.not_not, Option.isSome_some, Option.isSome_none, Bool.true_or, Bool.or_true, Bool.and_self, Bool.false_or, Bool.or_false, Bool.false_and, Bool.and_false, Nat.reduceAdd, Nat.reduceSub, Nat.reduceEqDiff, Nat.reduceLeDiff, Nat.reduceMul, Nat.reduceLT, Int.reduceLE, Int.reduceLT, Int.reduceEq, Int.reduceMul, Int.reduceToNat, Int.reduceNeg, Int.reduceAdd, Int.reduceSub, Int.natCast_nonneg, Int.toNat_natCast, reduceIte, reduceCtorEq]); refine rwc_r (toCommandS_pc s.log h2) rfl (flat_c _) (by simp [frB, baseOf]) (go_on ?_); (try simp only [push_cast, Int.le_refl, Bool.not_not, Option.isSome_some, Option.isSome_none, Bool.true_or, Bool.or_true, Bool.and_self, Bool.false_or, Bool.or_false, Bool.false_and, Bool.and_false, Nat.reduceAdd, Nat.reduceSub, Nat.reduceEqDiff, Nat.reduceLeDiff, Nat.reduceMul, Nat.reduceLT, Int.reduceLE, Int.reduceLT, Int.reduceEq, Int.reduceMul, Int.reduceToNat, Int.reduceNeg, Int.reduceAdd, Int.reduceSub, Int.natCast_nonneg, Int.toNat_natCast, reduceIte, reduceCtorEq]))
  refine at_ret ?_; simp only [Tryd.results20, push_cast, Int.le_refl, Bool.not_not, Option.isSome_some, Option.isSome_none, Bool.true_or, Bool.or_true, Bool.and_self, Bool.false_or, Bool.or_false, Bool.false_and, Bool.and_false, Nat.reduceAdd, Nat.reduceSub, Nat.reduceEqDiff, Nat.reduceLeDiff, Nat.reduceMul, Nat.reduceLT, Int.reduceLE, Int.reduceLT, Int.reduceEq, Int.reduceMul, Int.reduceToNat, Int.reduceNeg, Int.reduceAdd, Int.reduceSub, Int.natCast_nonneg, Int.toNat_natCast, reduceIte, reduceCtorEq]
  simp [rX, ixOf]
structure SiteOk (s : St) : Prop where
  b : s.base.length ≤ maxLen
  bp : ∀ n ∈ s.base, n.p.length ≤ maxLen
  l : s.log.length ≤ maxLen
  lp : ∀ n ∈ s.log, n.p.length ≤ maxLen
/-- The room that is left behind a side. -/
def szT (s : St) (left : Int) : Int :=
  let a := szS left (s.base.map fun n => n.p.length)
  if a < 0 then -1 else (let b := szS a (s.log.map fun n => n.p.length); if b < 0 then -1 else b)
theorem max63 : maxLen ≤ 9223372036854775807 := by decide
theorem szSite_pc (s : St) (left : Int) (h0 : 0 ≤ left) (h1 : left ≤ 1048576) (q : SiteOk s) : PC Tryd.prog 19 [stA' s, iA left] (vI (szT s left)) := by
  have hm := max63
  have hN := szNodeS_pc s.base left h0 h1 (by have := q.b; omega) (fun n hn => by have := q.bp n hn; omega)
  unfold stA' stC
  refine pc_enter Tryd.func19 rfl rfl fun w0 fb => go_on ?_; (try simp only [Tryd.ntmps19, push_cast, Int.le_refl, Bool.not_not, Option.isSome_some, Option.isSome_none, Bool.true_or, Bool.or_true, Bool.and_self, Bool.false_or, Bool.or_false, Bool.false_and, Bool.and_false, Nat.reduceAdd, Nat.reduceSub, Nat.reduceEqDiff, Nat.reduceLeDiff, Nat.reduceMul, Nat.reduceLT, Int.reduceLE, Int.reduceLT, Int.reduceEq, Int.reduceMul, Int.reduceToNat, Int.reduceNeg, Int.reduceAdd, Int.reduceSub, Int.natCast_nonneg, Int.toNat_natCast, reduceIte, reduceCtorEq])
  (refine at_call ?_; (try simp only [push_cast, Int.le_refl, Bool.not_not, Option.isSome_some, Option.isSome_none, Bool.true_or, Bool.or_true, Bool.and_self, Bool.false_or, Bool.or_false, Bool.false_and, Bool.and_false, Nat.reduceAdd, Nat.reduceSub, Nat.reduceEqDiff, Nat.reduceLeDiff, Nat.reduceMul, Nat.reduceLT, Int.reduceLE, Int.reduceLT, Int.reduceEq, Int.reduceMul, Int.reduceToNat, Int.reduceNeg, Int.reduceAdd, Int.reduceSub, Int.natCast_nonneg, Int.toNat_natCast, reduceIte, reduceCtorEq]); refine rwc_v (hN) (go_on ?_); (try simp only [push_cast, Int.le_refl, Bool.not_not, Option.isSome_some, Option.isSome_none, Bool.true_or, Bool.or_true, Bool.and_self, Bool.false_or, Bool.or_false, Bool.false_and, Bool.and_false, Nat.reduceAdd, Nat.reduceSub, Nat.reduceEqDiff, Nat.reduceLeDiff, Nat.reduceMul, Nat.reduceLT, Int.reduceLE, Int.reduceLT, Int.reduceEq, Int.reduceMul, Int.reduceToNat, Int.reduceNeg, Int.reduceAdd, Int.reduceSub, Int.natCast_nonneg, Int.toNat_natCast, reduceIte, reduceCtorEq]))
  refine at_b (fun hb => ?_) (fun hb => ?_)
  · have := of_ltI_t hb
    (try simp only [hb, push_cast, Int.le_refl, Bool.not_not, Option.isSome_some, Option.isSome_none, Bool.true_or, Bool.or_true, Bool.and_self, Bool.false_or, Bool.or_false, Bool.false_and, Bool.and_false, Nat.reduceAdd, Nat.reduceSub, Nat.reduceEqDiff, Nat.reduceLeDiff, Nat.reduceMul, Nat.reduceLT, Int.reduceLE, Int.reduceLT, Int.reduceEq, Int.reduceMul, Int.reduceToNat, Int.reduceNeg, Int.reduceAdd, Int.reduceSub, Int.natCast_nonneg, Int.toNat_natCast, reduceIte, reduceCtorEq])
    refine at_ret ?_; simp only [Tryd.results19, push_cast, Int.le_refl, Bool.not_not, Option.isSome_some, Option.isSome_none, Bool.true_or, Bool.or_true, Bool.and_self, Bool.false_or, Bool.or_false, Bool.false_and, Bool.and_false, Nat.reduceAdd, Nat.reduceSub, Nat.reduceEqDiff, Nat.reduceLeDiff, Nat.reduceMul, Nat.reduceLT, Int.reduceLE, Int.reduceLT, Int.reduceEq, Int.reduceMul, Int.reduceToNat, Int.reduceNeg, Int.reduceAdd, Int.reduceSub, Int.natCast_nonneg, Int.toNat_natCast, reduceIte, reduceCtorEq]
    simp [vX, szT, this]
  · have hb' := of_ltI_f hb
    have h3 : szS left (s.base.map fun n => n.p.length) ≤ 1048576 := by have := (szS_ok h0 hb').2.2; omega
    have hC := szCommandS_pc s.log _ hb' h3 (by have := q.l; omega) (fun n hn => by have := q.lp n hn; omega)
    (try simp only [hb, push_cast, Int.le_refl, Bool.not_not, Option.isSome_some, Option.isSome_none, Bool.true_or, Bool.or_true, Bool.and_self, Bool.false_or, Bool.or_false, Bool.false_and, Bool.and_false, Nat.reduceAdd, Nat.reduceSub, Nat.reduceEqDiff, Nat.reduceLeDiff, Nat.reduceMul, Nat.reduceLT, Int.reduceLE, Int.reduceLT, Int.reduceEq, Int.reduceMul, Int.reduceToNat, Int.reduceNeg, Int.reduceAdd, Int.reduceSub, Int.natCast_nonneg, Int.toNat_natCast, reduceIte, reduceCtorEq])
    (refine at_call ?_; (try simp only [push_cast, Int.le_refl, Bool.not_not, Option.isSome_some, Option.isSome_none, Bool.true_or, Bool.or_true, Bool.and_self, Bool.false_or, Bool.or_false, Bool.false_and, Bool.and_false, Nat.reduceAdd, Nat.reduceSub, Nat.reduceEqDiff, Nat.reduceLeDiff, Nat.reduceMul, Nat.reduceLT, Int.reduceLE, Int.reduceLT, Int.reduceEq, Int.reduceMul, Int.reduceToNat, Int.reduceNeg, Int.reduceAdd, Int.reduceSub, Int.natCast_nonneg, Int.toNat_natCast, reduceIte, reduceCtorEq]); refine rwc_v (hC) (go_on ?_); (try simp only [push_cast, Int.le_refl, Bool.not_not, Option.isSome_some, Option.isSome_none, Bool.true_or, Bool.or_true, Bool.and_self, Bool.false_or, Bool.or_false, Bool.false_and, Bool.and_false, Nat.reduceAdd, Nat.reduceSub, Nat.reduceEqDiff, Nat.reduceLeDiff, Nat.reduceMul, Nat.reduceLT, Int.reduceLE, Int.reduceLT, Int.reduceEq, Int.reduceMul, Int.reduceToNat, Int.reduceNeg, Int.reduceAdd, Int.reduceSub, Int.natCast_nonneg, Int.toNat_natCast, reduceIte, reduceCtorEq]))
    refine at_b (fun hc => ?_) (fun hc => ?_)
    · have := of_ltI_t hc
      (try simp only [hc, push_cast, Int.le_refl, Bool.not_not, Option.isSome_some, Option.isSome_none, Bool.true_or, Bool.or_true, Bool.and_self, Bool.false_or, Bool.or_false, Bool.false_and, Bool.and_false, Nat.reduceAdd, Nat.reduceSub, Nat.reduceEqDiff, Nat.reduceLeDiff, Nat.reduceMul, Nat.reduceLT, Int.reduceLE, Int.reduceLT, Int.reduceEq, Int.reduceMul, Int.reduceToNat, Int.reduceNeg, Int.reduceAdd, Int.reduceSub, Int.natCast_nonneg, Int.toNat_natCast, reduceIte, reduceCtorEq])
      refine at_ret ?_; simp only [Tryd.results19, push_cast, Int.le_refl, Bool.not_not, Option.isSome_some, Option.isSome_none, Bool.true_or, Bool.or_true, Bool.and_self, Bool.false_or, Bool.or_false, Bool.false_and, Bool.and_false, Nat.reduceAdd, Nat.reduceSub, Nat.reduceEqDiff, Nat.reduceLeDiff, Nat.reduceMul, Nat.reduceLT, Int.reduceLE, Int.reduceLT, Int.reduceEq, Int.reduceMul, Int.reduceToNat, Int.reduceNeg, Int.reduceAdd, Int.reduceSub, Int.natCast_nonneg, Int.toNat_natCast, reduceIte, reduceCtorEq]
      simp [vX, szT, this]
    · have hc' := of_ltI_f hc
      (try simp only [hc, push_cast, Int.le_refl, Bool.not_not, Option.isSome_some, Option.isSome_none, Bool.true_or, Bool.or_true, Bool.and_self, Bool.false_or, Bool.or_false, Bool.false_and, Bool.and_false, Nat.reduceAdd, Nat.reduceSub, Nat.reduceEqDiff, Nat.reduceLeDiff, Nat.reduceMul, Nat.reduceLT, Int.reduceLE, Int.reduceLT, Int.reduceEq, Int.reduceMul, Int.reduceToNat, Int.reduceNeg, Int.reduceAdd, Int.reduceSub, Int.natCast_nonneg, Int.toNat_natCast, reduceIte, reduceCtorEq])
      refine at_ret ?_; simp only [Tryd.results19, push_cast, Int.le_refl, Bool.not_not, Option.isSome_some, Option.isSome_none, Bool.true_or, Bool.or_true, Bool.and_self, Bool.false_or, Bool.or_false, Bool.false_and, Bool.and_false, Nat.reduceAdd, Nat.reduceSub, Nat.reduceEqDiff, Nat.reduceLeDiff, Nat.reduceMul, Nat.reduceLT, Int.reduceLE, Int.reduceLT, Int.reduceEq, Int.reduceMul, Int.reduceToNat, Int.reduceNeg, Int.reduceAdd, Int.reduceSub, Int.natCast_nonneg, Int.toNat_natCast, reduceIte, reduceCtorEq]
      have e1 : ¬ szS left (s.base.map fun n => n.p.length) < 0 := by omega
      have e2 : ¬ szS (szS left (s.base.map fun n => n.p.length)) (s.log.map fun n => n.p.length) < 0 := by omega
      simp [vX, szT, e1, e2]
theorem szT_ok {s : St} {left : Int} (h0 : 0 ≤ left) (h1 : left ≤ 1048576) (h : 0 ≤ szT s left) :
    szT s left ≤ left ∧ s.base.length ≤ 1048576 ∧ s.log.length ≤ 1048576 ∧ (∀ n ∈ s.base, n.p.length ≤ 1048576) ∧ ∀ n ∈ s.log, n.p.length ≤ 1048576 := by
  unfold szT at *
  simp only at *
  split at h
  · omega
  · rename_i ha
    rw [if_neg ha]
    split at h
    · omega
    · rename_i hb
      rw [if_neg hb]
      obtain ⟨a1, a2, a3⟩ := szS_ok h0 (by omega : 0 ≤ szS left (s.base.map fun n => n.p.length))
      obtain ⟨b1, b2, b3⟩ := szS_ok (by omega : 0 ≤ szS left (s.base.map fun n => n.p.length)) (by omega : 0 ≤ szS (szS left (s.base.map fun n => n.p.length)) (s.log.map fun n => n.p.length))
      simp only [List.length_map, List.mem_map, forall_exists_index, and_imp, forall_apply_eq_imp_iff₂] at a1 a2 b1 b2
      refine ⟨by omega, by omega, by omega, fun n hn => ?_, fun n hn => ?_⟩
      · have := a2 n hn; omega
      · have := b2 n hn; omega
theorem szT_sm {s : St} {left : Int} (h0 : 0 ≤ left) (h1 : left ≤ 1048576) (h : 0 ≤ szT s left) : SmS s := by
  obtain ⟨_, a1, a2, a3, a4⟩ := szT_ok h0 h1 h
  exact ⟨⟨⟨by omega, fun n hn => by have := a3 n hn; omega⟩, by omega⟩, ⟨by omega, fun n hn => by have := a4 n hn; omega⟩⟩
theorem st_ext (a b : St) : a = b ↔ a.ep = b.ep ∧ a.base = b.base ∧ a.log = b.log := by
  obtain ⟨a1, a2, a3⟩ := a
  obtain ⟨b1, b2, b3⟩ := b
  simp
theorem eqSite_pc (a b : St) (h1 : a.base.length < 4294967281) (h2 : a.log.length < 4294967281) : PC Tryd.prog 21 [stA' a, stA' b] (vB (decide (a = b))) := by
  have hN := eqNodeS_pc a.base b.base h1
  have hC := eqCommandS_pc a.log b.log h2
  unfold stA' stC
  refine pc_enter Tryd.func21 rfl rfl fun w0 fb => go_on ?_; (try simp only [Tryd.ntmps21, push_cast, Int.le_refl, Bool.not_not, Option.isSome_some, Option.isSome_none, Bool.true_or, Bool.or_true, Bool.and_self, Bool.false_or, Bool.or_false, Bool.false_and, Bool.and_false, Nat.reduceAdd, Nat.reduceSub, Nat.reduceEqDiff, Nat.reduceLeDiff, Nat.reduceMul, Nat.reduceLT, Int.reduceLE, Int.reduceLT, Int.reduceEq, Int.reduceMul, Int.reduceToNat, Int.reduceNeg, Int.reduceAdd, Int.reduceSub, Int.natCast_nonneg, Int.toNat_natCast, reduceIte, reduceCtorEq])
  repeat' first | (refine at_b (fun hb => ?_) (fun hb => ?_) <;> simp only [hb, push_cast, Int.le_refl, Bool.not_not, Option.isSome_some, Option.isSome_none, Bool.true_or, Bool.or_true, Bool.and_self, Bool.false_or, Bool.or_false, Bool.false_and, Bool.and_false, Nat.reduceAdd, Nat.reduceSub, Nat.reduceEqDiff, Nat.reduceLeDiff, Nat.reduceMul, Nat.reduceLT, Int.reduceLE, Int.reduceLT, Int.reduceEq, Int.reduceMul, Int.reduceToNat, Int.reduceNeg, Int.reduceAdd, Int.reduceSub, Int.natCast_nonneg, Int.toNat_natCast, reduceIte, reduceCtorEq]) | (refine at_ret ?_; simp only [Tryd.results21, push_cast, Int.le_refl, Bool.not_not, Option.isSome_some, Option.isSome_none, Bool.true_or, Bool.or_true, Bool.and_self, Bool.false_or, Bool.or_false, Bool.false_and, Bool.and_false, Nat.reduceAdd, Nat.reduceSub, Nat.reduceEqDiff, Nat.reduceLeDiff, Nat.reduceMul, Nat.reduceLT, Int.reduceLE, Int.reduceLT, Int.reduceEq, Int.reduceMul, Int.reduceToNat, Int.reduceNeg, Int.reduceAdd, Int.reduceSub, Int.natCast_nonneg, Int.toNat_natCast, reduceIte, reduceCtorEq]) | (refine at_call ?_; (try simp only [push_cast, Int.le_refl, Bool.not_not, Option.isSome_some, Option.isSome_none, Bool.true_or, Bool.or_true, Bool.and_self, Bool.false_or, Bool.or_false, Bool.false_and, Bool.and_false, Nat.reduceAdd, Nat.reduceSub, Nat.reduceEqDiff, Nat.reduceLeDiff, Nat.reduceMul, Nat.reduceLT, Int.reduceLE, Int.reduceLT, Int.reduceEq, Int.reduceMul, Int.reduceToNat, Int.reduceNeg, Int.reduceAdd, Int.reduceSub, Int.natCast_nonneg, Int.toNat_natCast, reduceIte, reduceCtorEq]); refine rwc_v (by first | exact hN | exact hC) (go_on ?_); simp only [push_cast, Int.le_refl, Bool.not_not, Option.isSome_some, Option.isSome_none, Bool.true_or, Bool.or_true, Bool.and_self, Bool.false_or, Bool.or_false, Bool.false_and, Bool.and_false, Nat.reduceAdd, Nat.reduceSub, Nat.reduceEqDiff, Nat.reduceLeDiff, Nat.reduceMul, Nat.reduceLT, Int.reduceLE, Int.reduceLT, Int.reduceEq, Int.reduceMul, Int.reduceToNat, Int.reduceNeg, Int.reduceAdd, Int.reduceSub, Int.natCast_nonneg, Int.toNat_natCast, reduceIte, reduceCtorEq]) | (show RWp _ _ _ _ _; simp only [push_cast, Int.le_refl, Bool.not_not, Option.isSome_some, Option.isSome_none, Bool.true_or, Bool.or_true, Bool.and_self, Bool.false_or, Bool.or_false, Bool.false_and, Bool.and_false, Nat.reduceAdd, Nat.reduceSub, Nat.reduceEqDiff, Nat.reduceLeDiff, Nat.reduceMul, Nat.reduceLT, Int.reduceLE, Int.reduceLT, Int.reduceEq, Int.reduceMul, Int.reduceToNat, Int.reduceNeg, Int.reduceAdd, Int.reduceSub, Int.natCast_nonneg, Int.toNat_natCast, reduceIte, reduceCtorEq])
  all_goals simp only [Bool.not_eq_true', Bool.not_eq_false', eqI_d, decide_eq_true_eq, decide_eq_false_iff_not] at *
  all_goals simp [vX, st_ext a b, *]
end Go.Proofs.YtcjialgknmplbaaDoor
/-
  Opening a side that a law is handed: what it reads as, in the machine's words.
-/
namespace Go.Proofs.YtcjialgknmplbaaDoor
open Go Go.RowKit Go.Proofs
set_option maxRecDepth 100000
section
variable {H : Type} {enc : TypeId × Value → H} {W : World} {base : Nat} {sp : Nat → Bool} {held : Bool} {fuel : Nat} {cs : List Value} {x : DataW H × List MemPlace}
theorem two_of {α : Type} {l : List α} (h : l.length = 2) : ∃ a b, l = [a, b] := by
  match l, h with
  | [a, b], _ => exact ⟨a, b, rfl⟩
theorem three_of {α : Type} {l : List α} (h : l.length = 3) : ∃ a b c, l = [a, b, c] := by
  match l, h with
  | [a, b, c], _ => exact ⟨a, b, c, rfl⟩
theorem five_of {α : Type} {l : List α} (h : l.length = 5) : ∃ a b c d e, l = [a, b, c, d, e] := by
  match l, h with
  | [a, b, c, d, e], _ => exact ⟨a, b, c, d, e, rfl⟩
theorem str_of (b : ByteArray) : ∃ s : Str, (⟨s.toArray⟩ : ByteArray) = b ∧ s.length = b.size := ⟨b.data.toList, by simp, by rw [Array.length_toList]; rfl⟩
theorem open_content (h : DataW.trod enc Tryd.prog W base sp held fuel 57 cs = some x) : ∃ c : Ct, cs = [.int .i64 c.k, .int .i64 c.v] := by
  obtain ⟨xs, n, rfl, rfl, hl, hlen, hf⟩ := DataW.trod_struct Tryd.underlying57 h
  rw [show Tryd.prog.cellsOf 57 = 2 by kernel_rfl] at hl
  obtain ⟨a, b, rfl⟩ := two_of hl
  obtain ⟨y0, y1, rfl⟩ := two_of hlen
  have h0 := hf 0 _ rfl
  have h1 := hf 1 _ rfl
  simp only [show Tryd.prog.cellsOf 3 = 1 by kernel_rfl, List.drop, List.take, List.getElem?_cons_zero, List.getElem?_cons_succ] at h0 h1
  obtain ⟨k, e1, _⟩ := DataW.trod_int Tryd.underlying3 h0
  obtain ⟨v, e2, _⟩ := DataW.trod_int Tryd.underlying3 h1
  cases e1
  cases e2
  exact ⟨⟨k, v⟩, rfl⟩
theorem open_node (h : DataW.trod enc Tryd.prog W base sp held fuel 106 cs = some x) : ∃ n : Nd, cs = [.string ⟨n.p.toArray⟩, .int .i64 n.c.k, .int .i64 n.c.v] ∧ n.p.length ≤ maxLen := by
  obtain ⟨xs, n, rfl, rfl, hl, hlen, hf⟩ := DataW.trod_struct Tryd.underlying106 h
  rw [show Tryd.prog.cellsOf 106 = 3 by kernel_rfl] at hl
  obtain ⟨a, b, c, rfl⟩ := three_of hl
  obtain ⟨y0, y1, rfl⟩ := two_of hlen
  have h0 := hf 0 _ rfl
  have h1 := hf 1 _ rfl
  simp only [show Tryd.prog.cellsOf 9 = 1 by kernel_rfl, show Tryd.prog.cellsOf 57 = 2 by kernel_rfl, List.drop, List.take, List.getElem?_cons_zero, List.getElem?_cons_succ] at h0 h1
  obtain ⟨s, e1, _, hs⟩ := DataW.trod_string Tryd.underlying9 h0
  obtain ⟨v, e2⟩ := open_content h1
  obtain ⟨q, rfl, hq⟩ := str_of s
  cases e1
  cases e2
  exact ⟨⟨q, v⟩, rfl, by simpa only [hq] using hs⟩
theorem open_command (h : DataW.trod enc Tryd.prog W base sp held fuel 59 cs = some x) : ∃ n : Cm, cs = [.string ⟨n.p.toArray⟩, .int .i64 n.a.k, .int .i64 n.a.v, .int .i64 n.b.k, .int .i64 n.b.v] ∧ n.p.length ≤ maxLen := by
  obtain ⟨xs, n, rfl, rfl, hl, hlen, hf⟩ := DataW.trod_struct Tryd.underlying59 h
  rw [show Tryd.prog.cellsOf 59 = 5 by kernel_rfl] at hl
  obtain ⟨a, b, c, d, e, rfl⟩ := five_of hl
  obtain ⟨y0, y1, y2, rfl⟩ := three_of hlen
  have h0 := hf 0 _ rfl
  have h1 := hf 1 _ rfl
  have h2 := hf 2 _ rfl
  simp only [show Tryd.prog.cellsOf 9 = 1 by kernel_rfl, show Tryd.prog.cellsOf 57 = 2 by kernel_rfl, List.drop, List.take, List.getElem?_cons_zero, List.getElem?_cons_succ] at h0 h1 h2
  obtain ⟨s, e1, _, hs⟩ := DataW.trod_string Tryd.underlying9 h0
  obtain ⟨v, e2⟩ := open_content h1
  obtain ⟨u, e3⟩ := open_content h2
  obtain ⟨q, rfl, hq⟩ := str_of s
  cases e1
  cases e2
  cases e3
  exact ⟨⟨q, v, u⟩, rfl, by simpa only [hq] using hs⟩
theorem choose_list {α : Type} {n : Nat} {p : Nat → α → Prop} (h : ∀ i, i < n → ∃ a, p i a) : ∃ l : List α, l.length = n ∧ ∀ (i : Nat) a, l[i]? = some a → p i a := by
  induction n with
  | zero => exact ⟨[], rfl, fun i a h => by simp at h⟩
  | succ n ih =>
    obtain ⟨l, h1, h2⟩ := ih fun i hi => h i (by omega)
    obtain ⟨a, ha⟩ := h n (by omega)
    refine ⟨l ++ [a], by simp [h1], fun i b hb => ?_⟩
    by_cases hi : i < l.length
    · rw [List.getElem?_append_left hi] at hb
      exact h2 i b hb
    · rw [List.getElem?_append_right (by omega)] at hb
      by_cases h0 : i - l.length = 0
      · rw [h0] at hb
        cases hb
        obtain rfl : i = n := by omega
        exact ha
      · have := (List.getElem?_eq_some_iff.1 hb).1
        simp at this
        omega
theorem cells_get {a : Addr} {n : Nat} {l : List Value} (h : W.cells? base a n = some l) : l.length = n ∧ ∀ j, j < n → W.cell? (a.add j) = l[j]? := by
  unfold World.cells? at h
  split at h
  · refine ⟨by have := mapM_some_length h; simpa using this, fun j hj => mapM_some_get h j j (by simp [hj])⟩
  · cases h
/-- A slice of structs of plain data. -/
theorem open_sl {α : Type} {K : α → List AV} {V : α → List Value} {Q : α → Prop} {t e sz : Nat} {lv : Nat → Prop} (ht : Tryd.prog.underlying t = some (.slice e)) (hz : Tryd.prog.cellsOf e = sz) (h0 : 0 < sz)
    (hel : ∀ (fuel : Nat) (cs : List Value) (x : DataW H × List MemPlace), DataW.trod enc Tryd.prog W 0 sp held fuel e cs = some x → ∃ a, cs = V a ∧ Q a)
    (hV : ∀ a, (V a).length = sz ∧ (V a).all Value.oneCell' = true ∧ K a = (V a).map AV.v) (hlv : ∀ b, b < W.heap.size → ¬ lv b)
    (h : DataW.trod enc Tryd.prog W 0 sp held fuel t cs = some x) :
    ∃ (l : List α) (v : Value), cs = [v] ∧ C lv 0 W (.sl sz (l.map K)) v ∧ l.length ≤ maxLen ∧ ∀ a ∈ l, Q a := by
  rcases DataW.trod_slice ht h with ⟨rfl, _⟩ | ⟨a, len, cap, elems, rest, n, rfl, rfl, _, _, hl, hm, hlen, hg, _, _⟩
  · refine ⟨[], _, rfl, C.sl [] (fun _ _ => undef) ⟨by simp, fun h => absurd h (by simp)⟩ (fun h => absurd h (by simp)) (by simp) (by omega) ?_ ?_ ?_, by simp, by simp⟩ <;> intro k e <;> simp
  · have hex : ∀ i, i < len → ∃ b, (∀ j, j < sz → W.cell? (a.add (i * sz + j)) = (V b)[j]?) ∧ Q b := by
      intro i hi
      have h1 := hg i hi
      rw [hz] at h1
      obtain ⟨y, hy⟩ : ∃ y, elems[i]? = some y := ⟨_, List.getElem?_eq_getElem (by omega)⟩
      rw [hy, Option.bind_eq_some_iff] at h1
      obtain ⟨cs', hcs, hy'⟩ := h1
      obtain ⟨b, rfl, hb⟩ := hel _ _ _ hy'
      refine ⟨b, fun j hj => ?_, hb⟩
      have h2 := (cells_get hcs).2 j hj
      rw [← h2]
      congr 1
      unfold Addr.add
      by_cases g1 : j = 0
      · subst g1; simp
      · by_cases g2 : i * sz = 0
        · simp [g2]
        · rw [if_neg (by omega), if_neg g1, if_neg g2]
          simp only [Nat.add_assoc]
    obtain ⟨l, hll, hlg⟩ := choose_list hex
    subst hll
    have hcell : ∀ (i : Nat) b j, l[i]? = some b → j < sz → W.cell? (a.add (i * sz + j)) = (V b)[j]? := fun i b j hb hj => (hlg i b hb).1 j hj
    have hQ : ∀ b ∈ l, Q b := fun b hb => by
      obtain ⟨i, hi⟩ := List.getElem?_of_mem hb
      exact (hlg i b hi).2
    have xget : ∀ (l : List α) (i : Nat) b j, l[i]? = some b → j < sz → (l.flatMap V)[i * sz + j]? = (V b)[j]? := by
      intro l
      induction l with
      | nil => intro i b j hb; simp at hb
      | cons c l ih =>
        intro i b j hb hj
        cases i with
        | zero =>
          cases hb
          rw [List.flatMap_cons, Nat.zero_mul, Nat.zero_add, List.getElem?_append_left (by rw [(hV c).1]; exact hj)]
        | succ i =>
          rw [List.flatMap_cons, List.getElem?_append_right (by rw [(hV c).1, Nat.succ_mul]; omega), (hV c).1, show (i + 1) * sz + j - sz = i * sz + j by rw [Nat.succ_mul]; omega]
          exact ih i b j hb hj
    have xlen : ∀ l : List α, (l.flatMap V).length = l.length * sz := by
      intro l
      induction l with
      | nil => simp
      | cons c l ih => rw [List.flatMap_cons, List.length_append, (hV c).1, ih, List.length_cons, Nat.succ_mul]; omega
    have hVj : ∀ b j, j < sz → ∃ u, (V b)[j]? = some u ∧ u.oneCell' = true ∧ (K b)[j]? = some (.v u) := by
      intro b j hj
      obtain ⟨u, hu⟩ : ∃ u, (V b)[j]? = some u := ⟨_, List.getElem?_eq_getElem (by rw [(hV b).1]; exact hj)⟩
      refine ⟨u, hu, ?_, ?_⟩
      · exact List.all_eq_true.1 (hV b).2.1 u (List.mem_of_getElem? hu)
      · rw [(hV b).2.2, List.getElem?_map, hu]; rfl
    have hKl : ∀ b, (K b).length = sz := fun b => by rw [(hV b).2.2, List.length_map, (hV b).1]
    refine ⟨l, _, rfl, ?_, by omega, hQ⟩
    rw [← List.length_map (f := K)]
    refine C.sl (l.flatMap V) (fun i j => ((l.flatMap V)[i * sz + j]?).getD undef) ⟨by rw [xlen, List.length_map], fun hp => ?_⟩ (fun hp ad had => ?_) (by rw [List.length_map]; exact hl) hm (fun k e he => ?_) (fun k e j he hj => ?_) (fun k e j c he hj => ?_)
    · rw [List.length_map] at hp
      obtain ⟨b0, hb0⟩ : ∃ b, l[0]? = some b := ⟨_, List.getElem?_eq_getElem hp⟩
      obtain ⟨u0, hu0, _⟩ := hVj b0 0 h0
      have hc0 := hcell 0 b0 0 hb0 h0
      rw [hu0, Nat.zero_mul, Nat.zero_add] at hc0
      have hs : a.spot = none := by simpa [Addr.add] using World.cell?_spot hc0
      obtain ⟨b, off, spt⟩ := a
      simp only at hs
      subst hs
      refine ⟨b, off, rfl, Nat.zero_le _, ?_, fun j u hj => ?_⟩
      · have hc1 := hc0
        rw [show (⟨b, off, none⟩ : Addr).add 0 = ⟨b, off, none⟩ from rfl] at hc1
        obtain ⟨e', m, hsh, _, _⟩ := World.shape?_of_cell? hc1
        by_cases hb : b < W.heap.size
        · exact hb
        · rw [World.shape?, Array.getElem?_eq_none (by simpa using hb)] at hsh
          cases hsh
      · have hj1 : j < l.length * sz := by have := (List.getElem?_eq_some_iff.1 hj).1; rw [xlen] at this; exact this
        have hq : j / sz < l.length := Nat.div_lt_of_lt_mul (by rw [Nat.mul_comm]; exact hj1)
        obtain ⟨b1, hb1⟩ : ∃ b, l[j / sz]? = some b := ⟨_, List.getElem?_eq_getElem hq⟩
        have hm1 : j % sz < sz := Nat.mod_lt _ h0
        have ej : j / sz * sz + j % sz = j := by rw [Nat.mul_comm]; exact Nat.div_add_mod j sz
        have h3 := hcell _ b1 _ hb1 hm1
        have h4 := xget l _ b1 _ hb1 hm1
        rw [ej] at h3 h4
        rw [← h4, hj] at h3
        rw [← Go.WideShapes.add_plain]
        exact h3
    · rw [List.length_map] at hp
      cases had
      obtain ⟨b0, hb0⟩ : ∃ b, l[0]? = some b := ⟨_, List.getElem?_eq_getElem hp⟩
      obtain ⟨u0, hu0, _⟩ := hVj b0 0 h0
      have hc0 := hcell 0 b0 0 hb0 h0
      rw [hu0, Nat.zero_mul, Nat.zero_add] at hc0
      obtain ⟨e', m, hsh, _, _⟩ := World.shape?_of_cell? hc0
      refine hlv _ ?_
      by_cases hb : a.block < W.heap.size
      · exact hb
      · rw [World.shape?, Array.getElem?_eq_none (by simpa [Addr.add] using hb)] at hsh
        cases hsh
    · rw [List.getElem?_map, Option.map_eq_some_iff] at he
      obtain ⟨b, _, rfl⟩ := he
      exact hKl b
    · rw [List.getElem?_map, Option.map_eq_some_iff] at he
      obtain ⟨b, hb, rfl⟩ := he
      rw [hKl] at hj
      obtain ⟨u, hu, ho, _⟩ := hVj b j hj
      rw [xget l k b j hb hj, hu]
      exact ⟨rfl, ho⟩
    · rw [List.getElem?_map, Option.map_eq_some_iff] at he
      obtain ⟨b, hb, rfl⟩ := he
      have hj2 : j < sz := by have := (List.getElem?_eq_some_iff.1 hj).1; rwa [hKl] at this
      obtain ⟨u, hu, ho, hk⟩ := hVj b j hj2
      rw [hk] at hj
      cases hj
      rw [xget l k b j hb hj2, hu]
      exact C.v
theorem open_nodes {lv : Nat → Prop} (hlv : ∀ b, b < W.heap.size → ¬ lv b) (h : DataW.trod enc Tryd.prog W 0 sp held fuel 36 cs = some x) :
    ∃ (l : List Nd) (v : Value), cs = [v] ∧ C lv 0 W (ndA l) v ∧ l.length ≤ maxLen ∧ ∀ n ∈ l, n.p.length ≤ maxLen :=
  open_sl (V := fun n : Nd => [.string ⟨n.p.toArray⟩, .int .i64 n.c.k, .int .i64 n.c.v]) Tryd.underlying36 (by kernel_rfl) (by omega) (fun _ _ _ h => open_node h) (fun a => ⟨rfl, rfl, rfl⟩) hlv h
theorem open_commands {lv : Nat → Prop} (hlv : ∀ b, b < W.heap.size → ¬ lv b) (h : DataW.trod enc Tryd.prog W 0 sp held fuel 37 cs = some x) :
    ∃ (l : List Cm) (v : Value), cs = [v] ∧ C lv 0 W (cmA l) v ∧ l.length ≤ maxLen ∧ ∀ n ∈ l, n.p.length ≤ maxLen :=
  open_sl (V := fun n : Cm => [.string ⟨n.p.toArray⟩, .int .i64 n.a.k, .int .i64 n.a.v, .int .i64 n.b.k, .int .i64 n.b.v]) Tryd.underlying37 (by kernel_rfl) (by omega) (fun _ _ _ h => open_command h) (fun a => ⟨rfl, rfl, rfl⟩) hlv h
theorem res_bool {fb : Nat → Prop} {b : Bool} {base : Nat} {w' : World} {rows : List Row} {rv : AV} {u : Value} (hd : vB b rv rows) (hr : Res fb base w' rows rv u) : u = .bool b := by
  obtain ⟨rfl, rfl⟩ := hd
  obtain ⟨loc, _, hG, _⟩ := hr
  cases hG with
  | cl hc => cases hc; rfl
theorem open_cmd {lv : Nat → Prop} {cs : Array Value} {d : DataW H × List MemPlace} (h : DataW.trod enc Tryd.prog W 0 sp held fuel 59 cs.toList = some d) :
    ∃ c : Cm, C lv 0 W (cmdA c) (.agg cs) ∧ c.p.length ≤ maxLen := by
  obtain ⟨c, hc, hl⟩ := open_command h
  obtain rfl : cs = #[.string ⟨c.p.toArray⟩, .int .i64 c.a.k, .int .i64 c.a.v, .int .i64 c.b.k, .int .i64 c.b.v] := by cases cs; simp_all
  refine ⟨c, C.agg _ rfl fun j a ha => ?_, hl⟩
  rcases j with _ | _ | _ | _ | _ | j
  · cases ha; exact C.v
  · cases ha; exact C.v
  · cases ha; exact C.v
  · cases ha; exact C.v
  · cases ha; exact C.v
  · simp [cmC] at ha
theorem open_site {lv : Nat → Prop} {cs : Array Value} (hlv : ∀ b, b < W.heap.size → ¬ lv b) (h : DataW.trod enc Tryd.prog W 0 sp held fuel 39 cs.toList = some x) :
    ∃ s : St, C lv 0 W (stA' s) (.agg cs) ∧ SiteOk s := by
  obtain ⟨cs⟩ := cs
  simp only at h
  obtain ⟨xs, n, rfl, rfl, hl, hlen, hf⟩ := DataW.trod_struct Tryd.underlying39 h
  rw [show Tryd.prog.cellsOf 39 = 3 by kernel_rfl] at hl
  obtain ⟨a, b, c, rfl⟩ := three_of hl
  obtain ⟨y0, y1, y2, rfl⟩ := three_of hlen
  have h0 := hf 0 _ rfl
  have h1 := hf 1 _ rfl
  have h2 := hf 2 _ rfl
  simp only [show Tryd.prog.cellsOf 3 = 1 by kernel_rfl, show Tryd.prog.cellsOf 36 = 1 by kernel_rfl, show Tryd.prog.cellsOf 37 = 1 by kernel_rfl, List.drop, List.take, List.getElem?_cons_zero, List.getElem?_cons_succ] at h0 h1 h2
  obtain ⟨ep, e1, _⟩ := DataW.trod_int Tryd.underlying3 h0
  obtain ⟨lb, vb, e2, hb, b1, b2⟩ := open_nodes hlv h1
  obtain ⟨ll, vl, e3, hl', l1, l2⟩ := open_commands hlv h2
  cases e1
  cases e2
  cases e3
  refine ⟨⟨ep, lb, ll⟩, C.agg _ rfl fun j a ha => ?_, ⟨b1, b2, l1, l2⟩⟩
  rcases j with _ | _ | _ | j
  · cases ha; exact C.v
  · cases ha; exact hb
  · cases ha; exact hl'
  · simp [stC] at ha
end
end Go.Proofs.YtcjialgknmplbaaDoor
/-
  Walks: the draws' reader: a number, a text out of a list.
-/
namespace Go.Proofs.YtcjialgknmplbaaDoor
open Go Go.RowKit Go.Proofs
def byC (n : Int) : List AV := [.v (.int .u8 n)]
abbrev byA (z : List Int) : AV := .sl 1 (z.map byC)
structure BytesOk (z : List Int) : Prop where
  len : z.length ≤ maxLen
  by_ : ∀ n ∈ z, 0 ≤ n ∧ n ≤ 255
def rdR (z : List Int) (p : Nat) : Row := ⟨99, 2, [[byA z, iA p]], true⟩
/-- What a draw leaves: the reader has gone on by at most c. -/
def RdD (z : List Int) (p c : Nat) (lr' : List Row) : Prop := ∃ p', lr' = [rdR z p'] ∧ p ≤ p' ∧ p' ≤ p + c
structure RdOk (z : List Int) (p : Nat) : Prop where
  by_ : BytesOk z
  l : z.length ≤ 2000
  p : p ≤ 1000000
def rowS (l : List Str) : Row := ⟨9, 1, l.map sC, true⟩
theorem RdOk.le {z : List Int} {p q : Nat} (h : RdOk z q) (hp : p ≤ q) : RdOk z p := ⟨h.by_, h.l, Nat.le_trans hp h.p⟩
theorem wrap_nn {x : Int} (h0 : 0 ≤ x) (h1 : x < 9223372036854775808) : IntKind.i64.wrap x = x := wr x (by omega)
theorem xor_nn {a b : Int} (ha : 0 ≤ a) (ha2 : a < 4611686018427387904) (hb : 0 ≤ b) (hb2 : b < 4611686018427387904) : 0 ≤ bits .xor .i64 a b := by
  obtain ⟨n, rfl⟩ : ∃ n : Nat, a = n := ⟨a.toNat, by omega⟩
  obtain ⟨m, rfl⟩ : ∃ m : Nat, b = m := ⟨b.toNat, by omega⟩
  have hx : n ^^^ m < 2 ^ 62 := Nat.xor_lt_two_pow (by omega) (by omega)
  have e0 : (BitVec.ofInt 64 (n : Int) ^^^ BitVec.ofInt 64 (m : Int)).toNat = n ^^^ m := by
    rw [BitVec.toNat_xor]
    congr 1
    · simp; omega
    · simp; omega
  have e : bits .xor .i64 (n : Int) (m : Int) = IntKind.i64.wrap ((n ^^^ m : Nat) : Int) := by
    rw [← e0]; rfl
  rw [e, wrap_nn (by omega) (by omega)]
  omega
def pdB (e f : Option Tmp × List Nat) : Bool := (match f.1, e.1 with | some a, some b => decide (a ≠ b) | _, _ => true) && (match f.1 with | some d => !e.2.contains d | none => true) && (match e.1 with | some d => !f.2.contains d | none => true)
def pjB (m : Nat) (e : Option Tmp × List Nat) : Nat → List (Option Tmp × List Nat) → Bool
  | _, [] => true
  | i, f :: l => (m.testBit i || pdB e f) && pjB m e (i + 1) l
def prP (all : List (Option Tmp × List Nat)) : List Nat → List (Option Tmp × List Nat) → Nat → Bool
  | m :: ms, e :: es, j => pjB m e 0 (all.take j) && prP all ms es (j + 1)
  | _, _, _ => true
def plB (e : E) : Bool := e.kill.isNone && e.add.isEmpty
theorem pjB_ok (m : Nat) (e : E) (he : plB e = true) : ∀ (l : List E) (i : Nat), (∀ f ∈ l, plB f = true) → pjB m (e.d, e.rd) i (l.map fun e => (e.d, e.rd)) = true → prJ m e i l = true
  | [], i, _, _ => rfl
  | f :: l, i, hl, h => by
    simp only [List.map_cons, pjB, Bool.and_eq_true, Bool.or_eq_true] at h
    simp only [prJ, Bool.and_eq_true, Bool.or_eq_true]
    refine ⟨h.1.imp id fun hp => ?_, pjB_ok m e he l (i + 1) (fun f hf => hl f (List.mem_cons_of_mem _ hf)) h.2⟩
    have hf := hl f List.mem_cons_self
    simp only [plB, Bool.and_eq_true, Option.isNone_iff_eq_none, List.isEmpty_iff] at he hf
    simp only [pdB, Bool.and_eq_true] at hp
    simp only [okE, siB, apB, E.names, he.1, he.2, hf.1, hf.2, List.map_nil, List.all_nil, Bool.and_true, Bool.and_eq_true, Bool.true_and]
    exact ⟨⟨hp.1.1, hp.1.2⟩, hp.2⟩
theorem prP_ok (all : List E) (ha : ∀ f ∈ all, plB f = true) : ∀ (ms : List Nat) (es : List E) (j : Nat), (∀ f ∈ es, plB f = true) → prP (all.map fun e => (e.d, e.rd)) ms (es.map fun e => (e.d, e.rd)) j = true → prB all ms es j = true
  | [], _, _, _, _ => rfl
  | _ :: _, [], _, _, _ => rfl
  | m :: ms, e :: es, j, he, h => by
    simp only [List.map_cons, prP, Bool.and_eq_true] at h
    simp only [prB, Bool.and_eq_true]
    rw [← List.map_take] at h
    exact ⟨pjB_ok m e (he e List.mem_cons_self) _ 0 (fun f hf => ha f (List.mem_of_mem_take hf)) h.1, prP_ok all ha ms es (j + 1) (fun f hf => he f (List.mem_cons_of_mem _ hf)) h.2⟩
/-- The end of a drawn region whose operations write nothing. -/
theorem at_done_p {P : Program} {w0 : World} {lent : Lent} {Q : Exit → Act → World → Prop} {ops : List Oper} {k : List It} {s s' : AS} {evs : List E} (h1 : evs.all plB = true)
    (h2 : prP (evs.map fun e => (e.d, e.rd)) (mks ops []) (evs.map fun e => (e.d, e.rd)) 0 = true) (h : AW P w0 lent Q k s') : RDp P (KD P w0 lent Q ops k s) (.done evs s') := by
  have h0 := List.all_eq_true.1 h1
  refine ⟨prP_ok evs h0 _ _ 0 h0 h2, ?_, h⟩
  simp only [kcB, Bool.or_eq_true]
  refine .inl (List.all_eq_true.2 fun e he => ?_)
  have := h0 e he
  simp only [plB, Bool.and_eq_true] at this
  exact this.1
attribute [local irreducible] RWp AW run kPe pe Kt effA gd gu br retR RDp runD kPeD brW gW effD
set_option maxRecDepth 100000
theorem l6Open_pc (z : List Int) (hz : BytesOk z) : PC Tryd.prog 36 [byA z] (rX (.p 0 0 0) [rdR (z.take 2000) 0]) := by
  refine pc_enter Tryd.func36 rfl rfl fun w0 fb => go_on ?_; (try simp only [Tryd.ntmps36, push_cast, Int.le_refl, Bool.not_not, Option.isSome_some, Option.isSome_none, Bool.true_or, Bool.or_true, Bool.and_self, Bool.false_or, Bool.or_false, Bool.false_and, Bool.and_false, Nat.reduceAdd, Nat.reduceSub, Nat.reduceEqDiff, Nat.reduceLeDiff, Nat.reduceMul, Nat.reduceLT, Int.reduceLE, Int.reduceLT, Int.reduceEq, Int.reduceMul, Int.reduceToNat, Int.reduceNeg, Int.reduceAdd, Int.reduceSub, Int.natCast_nonneg, Int.toNat_natCast, reduceIte, reduceCtorEq])
  refine at_b (fun hb => ?_) (fun hb => ?_)
  · have h1 := of_ltI_t hb
    have h2 : (2000 : Int) ≤ z.length := by omega
    (try simp only [hb, h2, push_cast, Int.le_refl, Bool.not_not, Option.isSome_some, Option.isSome_none, Bool.true_or, Bool.or_true, Bool.and_self, Bool.false_or, Bool.or_false, Bool.false_and, Bool.and_false, Nat.reduceAdd, Nat.reduceSub, Nat.reduceEqDiff, Nat.reduceLeDiff, Nat.reduceMul, Nat.reduceLT, Int.reduceLE, Int.reduceLT, Int.reduceEq, Int.reduceMul, Int.reduceToNat, Int.reduceNeg, Int.reduceAdd, Int.reduceSub, Int.natCast_nonneg, Int.toNat_natCast, reduceIte, reduceCtorEq])
    refine at_ret ?_; simp only [Tryd.results36, push_cast, Int.le_refl, Bool.not_not, Option.isSome_some, Option.isSome_none, Bool.true_or, Bool.or_true, Bool.and_self, Bool.false_or, Bool.or_false, Bool.false_and, Bool.and_false, Nat.reduceAdd, Nat.reduceSub, Nat.reduceEqDiff, Nat.reduceLeDiff, Nat.reduceMul, Nat.reduceLT, Int.reduceLE, Int.reduceLT, Int.reduceEq, Int.reduceMul, Int.reduceToNat, Int.reduceNeg, Int.reduceAdd, Int.reduceSub, Int.natCast_nonneg, Int.toNat_natCast, reduceIte, reduceCtorEq]
    simp [rX, ixOf, rdR]
  · have h1 := of_ltI_f hb
    (try simp only [hb, push_cast, Int.le_refl, Bool.not_not, Option.isSome_some, Option.isSome_none, Bool.true_or, Bool.or_true, Bool.and_self, Bool.false_or, Bool.or_false, Bool.false_and, Bool.and_false, Nat.reduceAdd, Nat.reduceSub, Nat.reduceEqDiff, Nat.reduceLeDiff, Nat.reduceMul, Nat.reduceLT, Int.reduceLE, Int.reduceLT, Int.reduceEq, Int.reduceMul, Int.reduceToNat, Int.reduceNeg, Int.reduceAdd, Int.reduceSub, Int.natCast_nonneg, Int.toNat_natCast, reduceIte, reduceCtorEq])
    refine at_ret ?_; simp only [Tryd.results36, push_cast, Int.le_refl, Bool.not_not, Option.isSome_some, Option.isSome_none, Bool.true_or, Bool.or_true, Bool.and_self, Bool.false_or, Bool.or_false, Bool.false_and, Bool.and_false, Nat.reduceAdd, Nat.reduceSub, Nat.reduceEqDiff, Nat.reduceLeDiff, Nat.reduceMul, Nat.reduceLT, Int.reduceLE, Int.reduceLT, Int.reduceEq, Int.reduceMul, Int.reduceToNat, Int.reduceNeg, Int.reduceAdd, Int.reduceSub, Int.natCast_nonneg, Int.toNat_natCast, reduceIte, reduceCtorEq]
    rw [List.take_of_length_le (by omega)]
    simp [rX, ixOf, rdR]
def pickD (z : List Int) (p n : Nat) (rv : AV) (lr' rows : List Row) : Prop := ∃ k : Nat, rv = iA k ∧ (0 < n → k < n) ∧ lr' = [rdR z (p + 1)] ∧ rows = []
theorem pick_pcl (z : List Int) (p n : Nat) (hr : RdOk z p) (hn : n ≤ 1000000) : PCL Tryd.prog 70 [rdR z p] (mvF none) [.p 0 0 0, iA n] (pickD z p n) := by
  have hp := hr.p
  have w1 : IntKind.i64.wrap ((p : Int) + 1) = (p : Int) + 1 := wrap_nn (by omega) (by omega)
  refine pcl_enter Tryd.func70 rfl rfl (by simp) fun w0 fb loc => go_on ?_
  unfold rdR
  (try simp only [Tryd.ntmps70, hpL, nmL, mvF, renL, decide_true, decide_false, w1, push_cast, Int.le_refl, Bool.not_not, Option.isSome_some, Option.isSome_none, Bool.true_or, Bool.or_true, Bool.and_self, Bool.false_or, Bool.or_false, Bool.false_and, Bool.and_false, Nat.reduceAdd, Nat.reduceSub, Nat.reduceEqDiff, Nat.reduceLeDiff, Nat.reduceMul, Nat.reduceLT, Int.reduceLE, Int.reduceLT, Int.reduceEq, Int.reduceMul, Int.reduceToNat, Int.reduceNeg, Int.reduceAdd, Int.reduceSub, Int.natCast_nonneg, Int.toNat_natCast, reduceIte, reduceCtorEq])
  have hfin : ∀ k : Nat, (0 < n → k < n) → pickD z p n (iA k) [rdR z (p + 1)] [] := fun k h => ⟨k, rfl, h, rfl, rfl⟩
  rcases Nat.eq_zero_or_pos n with hn0 | hn0
  · have i1 : ltI (n : Int) 1 = true := ltI_t (by omega)
    (try simp only [i1, push_cast, Int.le_refl, Bool.not_not, Option.isSome_some, Option.isSome_none, Bool.true_or, Bool.or_true, Bool.and_self, Bool.false_or, Bool.or_false, Bool.false_and, Bool.and_false, Nat.reduceAdd, Nat.reduceSub, Nat.reduceEqDiff, Nat.reduceLeDiff, Nat.reduceMul, Nat.reduceLT, Int.reduceLE, Int.reduceLT, Int.reduceEq, Int.reduceMul, Int.reduceToNat, Int.reduceNeg, Int.reduceAdd, Int.reduceSub, Int.natCast_nonneg, Int.toNat_natCast, reduceIte, reduceCtorEq])
    refine at_retL ?_
    simp only [Tryd.results70, retL, push_cast, Int.le_refl, Bool.not_not, Option.isSome_some, Option.isSome_none, Bool.true_or, Bool.or_true, Bool.and_self, Bool.false_or, Bool.or_false, Bool.false_and, Bool.and_false, Nat.reduceAdd, Nat.reduceSub, Nat.reduceEqDiff, Nat.reduceLeDiff, Nat.reduceMul, Nat.reduceLT, Int.reduceLE, Int.reduceLT, Int.reduceEq, Int.reduceMul, Int.reduceToNat, Int.reduceNeg, Int.reduceAdd, Int.reduceSub, Int.natCast_nonneg, Int.toNat_natCast, reduceIte, reduceCtorEq]
    simpa [show List.range 1 = [0] from rfl, nmL, mvF, ndB, ixOf, rowsOf, hget, rdR] using hfin 0 (by omega)
  · have i1 : ltI (n : Int) 1 = false := ltI_f (by omega)
    rcases Nat.eq_zero_or_pos z.length with hz | hz
    · have i2 : eqI (z.length : Int) 0 = true := eqI_t (by omega)
      (try simp only [i1, i2, push_cast, Int.le_refl, Bool.not_not, Option.isSome_some, Option.isSome_none, Bool.true_or, Bool.or_true, Bool.and_self, Bool.false_or, Bool.or_false, Bool.false_and, Bool.and_false, Nat.reduceAdd, Nat.reduceSub, Nat.reduceEqDiff, Nat.reduceLeDiff, Nat.reduceMul, Nat.reduceLT, Int.reduceLE, Int.reduceLT, Int.reduceEq, Int.reduceMul, Int.reduceToNat, Int.reduceNeg, Int.reduceAdd, Int.reduceSub, Int.natCast_nonneg, Int.toNat_natCast, reduceIte, reduceCtorEq])
      refine at_retL ?_
      simp only [Tryd.results70, retL, push_cast, Int.le_refl, Bool.not_not, Option.isSome_some, Option.isSome_none, Bool.true_or, Bool.or_true, Bool.and_self, Bool.false_or, Bool.or_false, Bool.false_and, Bool.and_false, Nat.reduceAdd, Nat.reduceSub, Nat.reduceEqDiff, Nat.reduceLeDiff, Nat.reduceMul, Nat.reduceLT, Int.reduceLE, Int.reduceLT, Int.reduceEq, Int.reduceMul, Int.reduceToNat, Int.reduceNeg, Int.reduceAdd, Int.reduceSub, Int.natCast_nonneg, Int.toNat_natCast, reduceIte, reduceCtorEq]
      simpa [show List.range 1 = [0] from rfl, nmL, mvF, ndB, ixOf, rowsOf, hget, rdR] using hfin 0 (fun _ => hn0)
    · have i2 : eqI (z.length : Int) 0 = false := eqI_f (by omega)
      have w2 : IntKind.i64.wrap ((p : Int) + 1 - 1) = (p : Int) := by rw [wrap_nn (by omega) (by omega)]; omega
      have n0 : ((n : Int) = 0) = False := eq_false (by omega)
      have z0 : ((z.length : Int) = 0) = False := eq_false (by omega)
      have tm : ∀ a b : Nat, Int.tmod (a : Int) (b : Int) = ((a % b : Nat) : Int) := fun a b => (Int.ofNat_tmod a b).symm
      have hbyte : ∀ i, i < z.length → ∃ b : Nat, z[i]? = some (b : Int) ∧ b ≤ 255 := fun i hi => by
        obtain ⟨x, hx⟩ := get_of_lt hi
        obtain ⟨h1, h2⟩ := hr.by_.by_ x (mem_of_get hx)
        exact ⟨x.toNat, by rw [hx]; congr 1; omega, by omega⟩
      (try simp only [i1, i2, w2, push_cast, Int.le_refl, Bool.not_not, Option.isSome_some, Option.isSome_none, Bool.true_or, Bool.or_true, Bool.and_self, Bool.false_or, Bool.or_false, Bool.false_and, Bool.and_false, Nat.reduceAdd, Nat.reduceSub, Nat.reduceEqDiff, Nat.reduceLeDiff, Nat.reduceMul, Nat.reduceLT, Int.reduceLE, Int.reduceLT, Int.reduceEq, Int.reduceMul, Int.reduceToNat, Int.reduceNeg, Int.reduceAdd, Int.reduceSub, Int.natCast_nonneg, Int.toNat_natCast, reduceIte, reduceCtorEq])
      by_cases hlt : p < z.length
      · have i3 : ltI (p : Int) z.length = true := ltI_t (by omega)
        obtain ⟨b, hb, hb2⟩ := hbyte p hlt
        have i4 := ix_n hb
        have i5 := map_get byC hb
        have w3 : IntKind.i64.wrap (b : Int) = b := wrap_nn (by omega) (by omega)
        obtain ⟨u, hu⟩ : ∃ u, u = b % n := ⟨_, rfl⟩
        have t1 : Int.tmod (b : Int) n = (u : Int) := by rw [hu]; exact tm b n
        simp only [byC] at i5
        (try simp only [i3, i4, i5, w3, n0, t1, push_cast, Int.le_refl, Bool.not_not, Option.isSome_some, Option.isSome_none, Bool.true_or, Bool.or_true, Bool.and_self, Bool.false_or, Bool.or_false, Bool.false_and, Bool.and_false, Nat.reduceAdd, Nat.reduceSub, Nat.reduceEqDiff, Nat.reduceLeDiff, Nat.reduceMul, Nat.reduceLT, Int.reduceLE, Int.reduceLT, Int.reduceEq, Int.reduceMul, Int.reduceToNat, Int.reduceNeg, Int.reduceAdd, Int.reduceSub, Int.natCast_nonneg, Int.toNat_natCast, reduceIte, reduceCtorEq])
        refine at_retL ?_
        simp only [Tryd.results70, retL, push_cast, Int.le_refl, Bool.not_not, Option.isSome_some, Option.isSome_none, Bool.true_or, Bool.or_true, Bool.and_self, Bool.false_or, Bool.or_false, Bool.false_and, Bool.and_false, Nat.reduceAdd, Nat.reduceSub, Nat.reduceEqDiff, Nat.reduceLeDiff, Nat.reduceMul, Nat.reduceLT, Int.reduceLE, Int.reduceLT, Int.reduceEq, Int.reduceMul, Int.reduceToNat, Int.reduceNeg, Int.reduceAdd, Int.reduceSub, Int.natCast_nonneg, Int.toNat_natCast, reduceIte, reduceCtorEq]
        simpa [show List.range 1 = [0] from rfl, nmL, mvF, ndB, ixOf, rowsOf, hget, rdR] using hfin u (fun h => by rw [hu]; exact Nat.mod_lt _ h)
      · have i3 : ltI (p : Int) z.length = false := ltI_f (by omega)
        have hl := hr.l
        obtain ⟨d, hd0⟩ : ∃ d, d = p / z.length := ⟨_, rfl⟩
        have hd : d ≤ p := by rw [hd0]; exact Nat.div_le_self _ _
        obtain ⟨u1, hu1⟩ : ∃ u, u = p % z.length := ⟨_, rfl⟩
        obtain ⟨u2, hu2⟩ : ∃ u, u = (p * 7 + 3) % z.length := ⟨_, rfl⟩
        obtain ⟨b, hb, hb2⟩ := hbyte u1 (by rw [hu1]; exact Nat.mod_lt _ hz)
        obtain ⟨c, hc, hc2⟩ := hbyte u2 (by rw [hu2]; exact Nat.mod_lt _ hz)
        have i4 := ix_n hb
        have i5 := map_get byC hb
        have i6 := ix_n hc
        have i7 := map_get byC hc
        simp only [byC] at i5 i7
        have t2 : Int.tmod (p : Int) z.length = (u1 : Int) := by rw [hu1]; exact tm p z.length
        have t3 : Int.tmod ((p : Int) * 7 + 3) z.length = (u2 : Int) := by rw [hu2, ← tm]; congr 1
        have t4 : Int.tdiv (p : Int) z.length = (d : Int) := by rw [hd0]; exact (Int.ofNat_tdiv p z.length).symm
        have v1 : IntKind.i64.wrap (b : Int) = b := wrap_nn (by omega) (by omega)
        have v2 : IntKind.i64.wrap (c : Int) = c := wrap_nn (by omega) (by omega)
        have v3 : IntKind.i64.wrap ((b : Int) * 131) = b * 131 := wrap_nn (by omega) (by omega)
        have v4 : IntKind.i64.wrap ((p : Int) * 7) = p * 7 := wrap_nn (by omega) (by omega)
        have v5 : IntKind.i64.wrap ((p : Int) * 7 + 3) = p * 7 + 3 := wrap_nn (by omega) (by omega)
        have v6 : IntKind.i64.wrap ((c : Int) * 1117) = c * 1117 := wrap_nn (by omega) (by omega)
        have v7 : IntKind.i64.wrap ((b : Int) * 131 + c * 1117) = b * 131 + c * 1117 := wrap_nn (by omega) (by omega)
        have v8 : IntKind.i64.wrap ((p : Int) * 29) = p * 29 := wrap_nn (by omega) (by omega)
        have v9 : IntKind.i64.wrap ((b : Int) * 131 + c * 1117 + p * 29) = b * 131 + c * 1117 + p * 29 := wrap_nn (by omega) (by omega)
        have v10 : IntKind.i64.wrap (d : Int) = (d : Int) := wrap_nn (by omega) (by omega)
        have v11 : IntKind.i64.wrap ((d : Int) * 53) = (d : Int) * 53 := wrap_nn (by omega) (by omega)
        obtain ⟨X, hX⟩ : ∃ X : Nat, X = b * 131 + c * 1117 + p * 29 + d * 53 := ⟨_, rfl⟩
        have v12 : IntKind.i64.wrap ((b : Int) * 131 + c * 1117 + p * 29 + (d : Int) * 53) = (X : Int) := by
          rw [wrap_nn (by omega) (by omega), hX]; omega
        have hXb : X < 4611686018427387904 := by omega
        obtain ⟨X2, hX2⟩ : ∃ X2, X2 = X / 64 := ⟨_, rfl⟩
        have v13 : IntKind.i64.wrap (Int.tdiv (X : Int) 64) = (X2 : Int) := by
          rw [show Int.tdiv (X : Int) 64 = ((X / 64 : Nat) : Int) from (Int.ofNat_tdiv X 64).symm, wrap_nn (by omega) (by omega), hX2]
        obtain ⟨Y, hY⟩ : ∃ Y : Nat, bits .xor .i64 (X : Int) (X2 : Int) = (Y : Int) := by
          have := xor_nn (a := (X : Int)) (b := (X2 : Int)) (by omega) (by omega) (by omega) (by omega)
          exact ⟨(bits .xor .i64 (X : Int) (X2 : Int)).toNat, by omega⟩
        obtain ⟨u3, hu3⟩ : ∃ u, u = Y % n := ⟨_, rfl⟩
        have t5 : Int.tmod (Y : Int) n = (u3 : Int) := by rw [hu3]; exact tm Y n
        (try simp only [i3, push_cast, Int.le_refl, Bool.not_not, Option.isSome_some, Option.isSome_none, Bool.true_or, Bool.or_true, Bool.and_self, Bool.false_or, Bool.or_false, Bool.false_and, Bool.and_false, Nat.reduceAdd, Nat.reduceSub, Nat.reduceEqDiff, Nat.reduceLeDiff, Nat.reduceMul, Nat.reduceLT, Int.reduceLE, Int.reduceLT, Int.reduceEq, Int.reduceMul, Int.reduceToNat, Int.reduceNeg, Int.reduceAdd, Int.reduceSub, Int.natCast_nonneg, Int.toNat_natCast, reduceIte, reduceCtorEq])
        refine at_draw rfl (by kernel_rfl) ?_
        (try simp only [push_cast, Int.le_refl, Bool.not_not, Option.isSome_some, Option.isSome_none, Bool.true_or, Bool.or_true, Bool.and_self, Bool.false_or, Bool.or_false, Bool.false_and, Bool.and_false, Nat.reduceAdd, Nat.reduceSub, Nat.reduceEqDiff, Nat.reduceLeDiff, Nat.reduceMul, Nat.reduceLT, Int.reduceLE, Int.reduceLT, Int.reduceEq, Int.reduceMul, Int.reduceToNat, Int.reduceNeg, Int.reduceAdd, Int.reduceSub, Int.natCast_nonneg, Int.toNat_natCast, reduceIte, reduceCtorEq])
        (try simp only [z0, t2, push_cast, Int.le_refl, Bool.not_not, Option.isSome_some, Option.isSome_none, Bool.true_or, Bool.or_true, Bool.and_self, Bool.false_or, Bool.or_false, Bool.false_and, Bool.and_false, Nat.reduceAdd, Nat.reduceSub, Nat.reduceEqDiff, Nat.reduceLeDiff, Nat.reduceMul, Nat.reduceLT, Int.reduceLE, Int.reduceLT, Int.reduceEq, Int.reduceMul, Int.reduceToNat, Int.reduceNeg, Int.reduceAdd, Int.reduceSub, Int.natCast_nonneg, Int.toNat_natCast, reduceIte, reduceCtorEq])
        (try simp only [i4, i5, v1, v3, push_cast, Int.le_refl, Bool.not_not, Option.isSome_some, Option.isSome_none, Bool.true_or, Bool.or_true, Bool.and_self, Bool.false_or, Bool.or_false, Bool.false_and, Bool.and_false, Nat.reduceAdd, Nat.reduceSub, Nat.reduceEqDiff, Nat.reduceLeDiff, Nat.reduceMul, Nat.reduceLT, Int.reduceLE, Int.reduceLT, Int.reduceEq, Int.reduceMul, Int.reduceToNat, Int.reduceNeg, Int.reduceAdd, Int.reduceSub, Int.natCast_nonneg, Int.toNat_natCast, reduceIte, reduceCtorEq])
        (try simp only [z0, v4, v5, t3, push_cast, Int.le_refl, Bool.not_not, Option.isSome_some, Option.isSome_none, Bool.true_or, Bool.or_true, Bool.and_self, Bool.false_or, Bool.or_false, Bool.false_and, Bool.and_false, Nat.reduceAdd, Nat.reduceSub, Nat.reduceEqDiff, Nat.reduceLeDiff, Nat.reduceMul, Nat.reduceLT, Int.reduceLE, Int.reduceLT, Int.reduceEq, Int.reduceMul, Int.reduceToNat, Int.reduceNeg, Int.reduceAdd, Int.reduceSub, Int.natCast_nonneg, Int.toNat_natCast, reduceIte, reduceCtorEq])
        (try simp only [i6, i7, v2, v6, v7, v8, v9, push_cast, Int.le_refl, Bool.not_not, Option.isSome_some, Option.isSome_none, Bool.true_or, Bool.or_true, Bool.and_self, Bool.false_or, Bool.or_false, Bool.false_and, Bool.and_false, Nat.reduceAdd, Nat.reduceSub, Nat.reduceEqDiff, Nat.reduceLeDiff, Nat.reduceMul, Nat.reduceLT, Int.reduceLE, Int.reduceLT, Int.reduceEq, Int.reduceMul, Int.reduceToNat, Int.reduceNeg, Int.reduceAdd, Int.reduceSub, Int.natCast_nonneg, Int.toNat_natCast, reduceIte, reduceCtorEq])
        (try simp only [z0, t4, v10, v11, v12, push_cast, Int.le_refl, Bool.not_not, Option.isSome_some, Option.isSome_none, Bool.true_or, Bool.or_true, Bool.and_self, Bool.false_or, Bool.or_false, Bool.false_and, Bool.and_false, Nat.reduceAdd, Nat.reduceSub, Nat.reduceEqDiff, Nat.reduceLeDiff, Nat.reduceMul, Nat.reduceLT, Int.reduceLE, Int.reduceLT, Int.reduceEq, Int.reduceMul, Int.reduceToNat, Int.reduceNeg, Int.reduceAdd, Int.reduceSub, Int.natCast_nonneg, Int.toNat_natCast, reduceIte, reduceCtorEq])
        refine at_done_p (by kernel_rfl) (by simp only [List.map_cons, List.map_nil]; kernel_rfl) (go_on_n 4 ?_)
        (try simp only [run_0, show ((64 : Int) = 0) = False from by simp, push_cast, Int.le_refl, Bool.not_not, Option.isSome_some, Option.isSome_none, Bool.true_or, Bool.or_true, Bool.and_self, Bool.false_or, Bool.or_false, Bool.false_and, Bool.and_false, Nat.reduceAdd, Nat.reduceSub, Nat.reduceEqDiff, Nat.reduceLeDiff, Nat.reduceMul, Nat.reduceLT, Int.reduceLE, Int.reduceLT, Int.reduceEq, Int.reduceMul, Int.reduceToNat, Int.reduceNeg, Int.reduceAdd, Int.reduceSub, Int.natCast_nonneg, Int.toNat_natCast, reduceIte, reduceCtorEq])
        refine at_more (go_on_n 2 ?_)
        (try simp only [run_0, v13, show ((64 : Int) = 0) = False from by simp, push_cast, Int.le_refl, Bool.not_not, Option.isSome_some, Option.isSome_none, Bool.true_or, Bool.or_true, Bool.and_self, Bool.false_or, Bool.or_false, Bool.false_and, Bool.and_false, Nat.reduceAdd, Nat.reduceSub, Nat.reduceEqDiff, Nat.reduceLeDiff, Nat.reduceMul, Nat.reduceLT, Int.reduceLE, Int.reduceLT, Int.reduceEq, Int.reduceMul, Int.reduceToNat, Int.reduceNeg, Int.reduceAdd, Int.reduceSub, Int.natCast_nonneg, Int.toNat_natCast, reduceIte, reduceCtorEq])
        refine at_more (go_on_n 3 ?_)
        (try simp only [run_0, v13, hY, push_cast, Int.le_refl, Bool.not_not, Option.isSome_some, Option.isSome_none, Bool.true_or, Bool.or_true, Bool.and_self, Bool.false_or, Bool.or_false, Bool.false_and, Bool.and_false, Nat.reduceAdd, Nat.reduceSub, Nat.reduceEqDiff, Nat.reduceLeDiff, Nat.reduceMul, Nat.reduceLT, Int.reduceLE, Int.reduceLT, Int.reduceEq, Int.reduceMul, Int.reduceToNat, Int.reduceNeg, Int.reduceAdd, Int.reduceSub, Int.natCast_nonneg, Int.toNat_natCast, reduceIte, reduceCtorEq])
        refine at_more (go_on_n 3 ?_)
        (try simp only [run_0, n0, t5, push_cast, Int.le_refl, Bool.not_not, Option.isSome_some, Option.isSome_none, Bool.true_or, Bool.or_true, Bool.and_self, Bool.false_or, Bool.or_false, Bool.false_and, Bool.and_false, Nat.reduceAdd, Nat.reduceSub, Nat.reduceEqDiff, Nat.reduceLeDiff, Nat.reduceMul, Nat.reduceLT, Int.reduceLE, Int.reduceLT, Int.reduceEq, Int.reduceMul, Int.reduceToNat, Int.reduceNeg, Int.reduceAdd, Int.reduceSub, Int.natCast_nonneg, Int.toNat_natCast, reduceIte, reduceCtorEq])
        refine at_more (go_on_n 3 ?_)
        (try simp only [run_0, n0, t5, push_cast, Int.le_refl, Bool.not_not, Option.isSome_some, Option.isSome_none, Bool.true_or, Bool.or_true, Bool.and_self, Bool.false_or, Bool.or_false, Bool.false_and, Bool.and_false, Nat.reduceAdd, Nat.reduceSub, Nat.reduceEqDiff, Nat.reduceLeDiff, Nat.reduceMul, Nat.reduceLT, Int.reduceLE, Int.reduceLT, Int.reduceEq, Int.reduceMul, Int.reduceToNat, Int.reduceNeg, Int.reduceAdd, Int.reduceSub, Int.natCast_nonneg, Int.toNat_natCast, reduceIte, reduceCtorEq])
        refine at_more (go_on ?_)
        (try simp only [push_cast, Int.le_refl, Bool.not_not, Option.isSome_some, Option.isSome_none, Bool.true_or, Bool.or_true, Bool.and_self, Bool.false_or, Bool.or_false, Bool.false_and, Bool.and_false, Nat.reduceAdd, Nat.reduceSub, Nat.reduceEqDiff, Nat.reduceLeDiff, Nat.reduceMul, Nat.reduceLT, Int.reduceLE, Int.reduceLT, Int.reduceEq, Int.reduceMul, Int.reduceToNat, Int.reduceNeg, Int.reduceAdd, Int.reduceSub, Int.natCast_nonneg, Int.toNat_natCast, reduceIte, reduceCtorEq])
        refine at_retL ?_
        simp only [Tryd.results70, retL, push_cast, Int.le_refl, Bool.not_not, Option.isSome_some, Option.isSome_none, Bool.true_or, Bool.or_true, Bool.and_self, Bool.false_or, Bool.or_false, Bool.false_and, Bool.and_false, Nat.reduceAdd, Nat.reduceSub, Nat.reduceEqDiff, Nat.reduceLeDiff, Nat.reduceMul, Nat.reduceLT, Int.reduceLE, Int.reduceLT, Int.reduceEq, Int.reduceMul, Int.reduceToNat, Int.reduceNeg, Int.reduceAdd, Int.reduceSub, Int.natCast_nonneg, Int.toNat_natCast, reduceIte, reduceCtorEq]
        simpa [show List.range 1 = [0] from rfl, nmL, mvF, ndB, ixOf, rowsOf, hget, rdR] using hfin u3 (fun h => by rw [hu3]; exact Nat.mod_lt _ h)
end Go.Proofs.YtcjialgknmplbaaDoor
/-
  Opening the bytes that a law is handed.
-/
namespace Go.Proofs.YtcjialgknmplbaaDoor
open Go Go.RowKit Go.Proofs
set_option maxRecDepth 100000
section
variable {H : Type} {enc : TypeId × Value → H} {W : World} {base : Nat} {sp : Nat → Bool} {held : Bool} {fuel : Nat} {cs : List Value} {x : DataW H × List MemPlace}
theorem open_byte (h : DataW.trod enc Tryd.prog W base sp held fuel 5 cs = some x) : ∃ n : Int, cs = [.int .u8 n] ∧ 0 ≤ n ∧ n ≤ 255 := by
  obtain ⟨n, rfl, _, hw⟩ := DataW.trod_int Tryd.underlying5 h
  refine ⟨n, rfl, ?_⟩
  simp [Lit.wf, IntKind.min, IntKind.max, IntKind.signed, IntKind.bits] at hw
  omega
theorem open_bytes {lv : Nat → Prop} {v : Value} (hlv : ∀ b, b < W.heap.size → ¬ lv b) (h : DataW.trod enc Tryd.prog W 0 sp held fuel 22 [v] = some x) :
    ∃ z : List Int, C lv 0 W (byA z) v ∧ BytesOk z := by
  obtain ⟨l, u, h1, h2, h3, h4⟩ := open_sl (V := fun n : Int => [.int .u8 n]) (K := byC) (Q := fun n => 0 ≤ n ∧ n ≤ 255) (sz := 1) Tryd.underlying22 (by kernel_rfl) (by omega) (fun _ _ _ h => open_byte h) (fun a => ⟨rfl, rfl, rfl⟩) hlv h
  cases h1
  exact ⟨l, h2, h3, h4⟩
end
end Go.Proofs.YtcjialgknmplbaaDoor
/-
  Walks: the draws: a text, a content.
-/
namespace Go.Proofs.YtcjialgknmplbaaDoor
open Go Go.RowKit Go.Proofs
def ofD (z : List Int) (p : Nat) (l : List Str) (rv : AV) (lr' rows : List Row) : Prop := ∃ s, s ∈ l ∧ rv = sA s ∧ lr' = [rdR z (p + 1), rowS l] ∧ rows = []
def strD (z : List Int) (p c B : Nat) (rv : AV) (lr' rows : List Row) : Prop := ∃ s : Str, s.length ≤ B ∧ rv = sA s ∧ RdD z p c lr' ∧ rows = []
def ctD (z : List Int) (p c : Nat) (rv : AV) (lr' rows : List Row) : Prop := ∃ x : Ct, rv = ctA x ∧ RdD z p c lr' ∧ rows = []
attribute [local irreducible] RWp AW run kPe pe Kt effA gd gu br retR RDp runD kPeD brW gW effD
set_option maxRecDepth 100000
theorem of_pcl (z : List Int) (p : Nat) (l : List Str) (hr : RdOk z p) (h0 : 0 < l.length) (h1 : l.length ≤ 1000) : PCL Tryd.prog 94 [rdR z p, rowS l] (mvF none) [.p 0 0 0, .o 1 l.length] (ofD z p l) := by
  refine pcl_enter Tryd.func94 rfl rfl (by simp) fun w0 fb loc => go_on ?_; simp only [Tryd.ntmps94, hpL, nmL, mvF, renL, decide_true, decide_false, push_cast, Int.le_refl, Bool.not_not, Option.isSome_some, Option.isSome_none, Bool.true_or, Bool.or_true, Bool.and_self, Bool.false_or, Bool.or_false, Bool.false_and, Bool.and_false, Nat.reduceAdd, Nat.reduceSub, Nat.reduceEqDiff, Nat.reduceLeDiff, Nat.reduceMul, Nat.reduceLT, Int.reduceLE, Int.reduceLT, Int.reduceEq, Int.reduceMul, Int.reduceToNat, Int.reduceNeg, Int.reduceAdd, Int.reduceSub, Int.natCast_nonneg, Int.toNat_natCast, reduceIte, reduceCtorEq]
  (try simp only [push_cast, Int.le_refl, Bool.not_not, Option.isSome_some, Option.isSome_none, Bool.true_or, Bool.or_true, Bool.and_self, Bool.false_or, Bool.or_false, Bool.false_and, Bool.and_false, Nat.reduceAdd, Nat.reduceSub, Nat.reduceEqDiff, Nat.reduceLeDiff, Nat.reduceMul, Nat.reduceLT, Int.reduceLE, Int.reduceLT, Int.reduceEq, Int.reduceMul, Int.reduceToNat, Int.reduceNeg, Int.reduceAdd, Int.reduceSub, Int.natCast_nonneg, Int.toNat_natCast, reduceIte, reduceCtorEq]); refine call_lend [500000] none (lr := [rdR z p]) (by simp [ndB]) (by first | rfl | simp [rowsOf, hget, rdR, rowS, rowN, rowC, sC, ndC, cmC]) (by simp [idsL, idsA]) (by simp [mvN]) (by simpa [rnA, ixOf] using pick_pcl z p l.length hr (by omega)) ?_
  rintro rv lr' rows ⟨k, rfl, hk, rfl, rfl⟩
  have hk := hk h0
  obtain ⟨s, hs⟩ := get_of_lt hk
  have i1 := ix_n hs
  have i2 := map_get sC hs
  simp only [sC] at i2
  have hfin : ofD z p l (sA s) [rdR z (p + 1), rowS l] [] := ⟨s, mem_of_get hs, rfl, rfl, rfl⟩
  (refine ⟨by simp [shB, mvF, rdR, rowS, rowN, rowC], by simp [frB, baseOf], go_on ?_⟩; simp only [i1, i2, rowS, killA, killH, killRow, push_cast, Int.le_refl, Bool.not_not, Option.isSome_some, Option.isSome_none, Bool.true_or, Bool.or_true, Bool.and_self, Bool.false_or, Bool.or_false, Bool.false_and, Bool.and_false, Nat.reduceAdd, Nat.reduceSub, Nat.reduceEqDiff, Nat.reduceLeDiff, Nat.reduceMul, Nat.reduceLT, Int.reduceLE, Int.reduceLT, Int.reduceEq, Int.reduceMul, Int.reduceToNat, Int.reduceNeg, Int.reduceAdd, Int.reduceSub, Int.natCast_nonneg, Int.toNat_natCast, reduceIte, reduceCtorEq])
  (refine at_retL ?_; simp only [Tryd.results94, retL, push_cast, Int.le_refl, Bool.not_not, Option.isSome_some, Option.isSome_none, Bool.true_or, Bool.or_true, Bool.and_self, Bool.false_or, Bool.or_false, Bool.false_and, Bool.and_false, Nat.reduceAdd, Nat.reduceSub, Nat.reduceEqDiff, Nat.reduceLeDiff, Nat.reduceMul, Nat.reduceLT, Int.reduceLE, Int.reduceLT, Int.reduceEq, Int.reduceMul, Int.reduceToNat, Int.reduceNeg, Int.reduceAdd, Int.reduceSub, Int.natCast_nonneg, Int.toNat_natCast, reduceIte, reduceCtorEq]; simpa [show List.range 1 = [0] from rfl, show List.range 2 = [0, 1] from rfl, show List.range 3 = [0, 1, 2] from rfl, nmL, mvF, ndB, ixOf, rowsOf, hget, rdR, rowS, rowN, rowC] using  hfin)
theorem l91Path_pcl (z : List Int) (p : Nat) (hr : RdOk z (p + 8)) : PCL Tryd.prog 93 [rdR z p] (mvF none) [.p 0 0 0] (strD z p 8 10) := by
  refine pcl_enter Tryd.func93 rfl rfl (by simp) fun w0 fb loc => go_on ?_; simp only [Tryd.ntmps93, hpL, nmL, mvF, renL, decide_true, decide_false, push_cast, Int.le_refl, Bool.not_not, Option.isSome_some, Option.isSome_none, Bool.true_or, Bool.or_true, Bool.and_self, Bool.false_or, Bool.or_false, Bool.false_and, Bool.and_false, Nat.reduceAdd, Nat.reduceSub, Nat.reduceEqDiff, Nat.reduceLeDiff, Nat.reduceMul, Nat.reduceLT, Int.reduceLE, Int.reduceLT, Int.reduceEq, Int.reduceMul, Int.reduceToNat, Int.reduceNeg, Int.reduceAdd, Int.reduceSub, Int.natCast_nonneg, Int.toNat_natCast, reduceIte, reduceCtorEq]
  (try simp only [push_cast, Int.le_refl, Bool.not_not, Option.isSome_some, Option.isSome_none, Bool.true_or, Bool.or_true, Bool.and_self, Bool.false_or, Bool.or_false, Bool.false_and, Bool.and_false, Nat.reduceAdd, Nat.reduceSub, Nat.reduceEqDiff, Nat.reduceLeDiff, Nat.reduceMul, Nat.reduceLT, Int.reduceLE, Int.reduceLT, Int.reduceEq, Int.reduceMul, Int.reduceToNat, Int.reduceNeg, Int.reduceAdd, Int.reduceSub, Int.natCast_nonneg, Int.toNat_natCast, reduceIte, reduceCtorEq]); refine call_lend [500000] none (lr := [rdR z p]) (by simp [ndB]) (by first | rfl | simp [rowsOf, hget, rdR, rowS, rowN, rowC, sC, ndC, cmC]) (by simp [idsL, idsA]) (by simp [mvN]) (by simpa [rnA, ixOf] using pick_pcl z p 24 (hr.le (by omega)) (by omega)) ?_
  rintro rv lr' rows ⟨k, rfl, hk, rfl, rfl⟩
  (refine ⟨by simp [shB, mvF, rdR, rowS, rowN, rowC], by simp [frB, baseOf], go_on ?_⟩; simp only [killA, killH, killRow, push_cast, Int.le_refl, Bool.not_not, Option.isSome_some, Option.isSome_none, Bool.true_or, Bool.or_true, Bool.and_self, Bool.false_or, Bool.or_false, Bool.false_and, Bool.and_false, Nat.reduceAdd, Nat.reduceSub, Nat.reduceEqDiff, Nat.reduceLeDiff, Nat.reduceMul, Nat.reduceLT, Int.reduceLE, Int.reduceLT, Int.reduceEq, Int.reduceMul, Int.reduceToNat, Int.reduceNeg, Int.reduceAdd, Int.reduceSub, Int.natCast_nonneg, Int.toNat_natCast, reduceIte, reduceCtorEq])
  refine at_b (fun hb => ?_) (fun hb => ?_)
  · (try simp only [hb, push_cast, Int.le_refl, Bool.not_not, Option.isSome_some, Option.isSome_none, Bool.true_or, Bool.or_true, Bool.and_self, Bool.false_or, Bool.or_false, Bool.false_and, Bool.and_false, Nat.reduceAdd, Nat.reduceSub, Nat.reduceEqDiff, Nat.reduceLeDiff, Nat.reduceMul, Nat.reduceLT, Int.reduceLE, Int.reduceLT, Int.reduceEq, Int.reduceMul, Int.reduceToNat, Int.reduceNeg, Int.reduceAdd, Int.reduceSub, Int.natCast_nonneg, Int.toNat_natCast, reduceIte, reduceCtorEq])
    (try simp only [push_cast, Int.le_refl, Bool.not_not, Option.isSome_some, Option.isSome_none, Bool.true_or, Bool.or_true, Bool.and_self, Bool.false_or, Bool.or_false, Bool.false_and, Bool.and_false, Nat.reduceAdd, Nat.reduceSub, Nat.reduceEqDiff, Nat.reduceLeDiff, Nat.reduceMul, Nat.reduceLT, Int.reduceLE, Int.reduceLT, Int.reduceEq, Int.reduceMul, Int.reduceToNat, Int.reduceNeg, Int.reduceAdd, Int.reduceSub, Int.natCast_nonneg, Int.toNat_natCast, reduceIte, reduceCtorEq]); refine call_lend [500000, 10] none (lr := [rdR z (p + 1), rowS [[], [47], [97], [47, 101], [47, 97, 47], [47, 47, 97], [47, 97, 47, 98, 47, 99, 47, 100, 47, 97], [47, 97, 98]]]) (by simp [ndB]) (by first | rfl | simp [rowsOf, hget, rdR, rowS, rowN, rowC, sC, ndC, cmC]) (by simp [idsL, idsA]) (by simp [mvN]) (by simpa [rnA, ixOf] using of_pcl z (p + 1) [[], [47], [97], [47, 101], [47, 97, 47], [47, 47, 97], [47, 97, 47, 98, 47, 99, 47, 100, 47, 97], [47, 97, 98]] (hr.le (by omega)) (by simp) (by simp)) ?_
    rintro rv lr' rows ⟨s, hs, rfl, rfl, rfl⟩
    have hl : s.length ≤ 10 := by
      simp only [List.mem_cons, List.not_mem_nil, or_false] at hs
      rcases hs with rfl | rfl | rfl | rfl | rfl | rfl | rfl | rfl <;> simp
    have hfin : strD z p 8 10 (sA s) [rdR z (p + 1 + 1)] [] := ⟨s, hl, rfl, ⟨_, rfl, by omega, by omega⟩, rfl⟩
    (refine ⟨by simp [shB, mvF, rdR, rowS, rowN, rowC], by simp [frB, baseOf], go_on ?_⟩; simp only [killA, killH, killRow, push_cast, Int.le_refl, Bool.not_not, Option.isSome_some, Option.isSome_none, Bool.true_or, Bool.or_true, Bool.and_self, Bool.false_or, Bool.or_false, Bool.false_and, Bool.and_false, Nat.reduceAdd, Nat.reduceSub, Nat.reduceEqDiff, Nat.reduceLeDiff, Nat.reduceMul, Nat.reduceLT, Int.reduceLE, Int.reduceLT, Int.reduceEq, Int.reduceMul, Int.reduceToNat, Int.reduceNeg, Int.reduceAdd, Int.reduceSub, Int.natCast_nonneg, Int.toNat_natCast, reduceIte, reduceCtorEq])
    (refine at_retL ?_; simp only [Tryd.results93, retL, push_cast, Int.le_refl, Bool.not_not, Option.isSome_some, Option.isSome_none, Bool.true_or, Bool.or_true, Bool.and_self, Bool.false_or, Bool.or_false, Bool.false_and, Bool.and_false, Nat.reduceAdd, Nat.reduceSub, Nat.reduceEqDiff, Nat.reduceLeDiff, Nat.reduceMul, Nat.reduceLT, Int.reduceLE, Int.reduceLT, Int.reduceEq, Int.reduceMul, Int.reduceToNat, Int.reduceNeg, Int.reduceAdd, Int.reduceSub, Int.natCast_nonneg, Int.toNat_natCast, reduceIte, reduceCtorEq]; simpa [show List.range 1 = [0] from rfl, show List.range 2 = [0, 1] from rfl, show List.range 3 = [0, 1, 2] from rfl, nmL, mvF, ndB, ixOf, rowsOf, hget, rdR, rowS, rowN, rowC] using  hfin)
  · (try simp only [hb, push_cast, Int.le_refl, Bool.not_not, Option.isSome_some, Option.isSome_none, Bool.true_or, Bool.or_true, Bool.and_self, Bool.false_or, Bool.or_false, Bool.false_and, Bool.and_false, Nat.reduceAdd, Nat.reduceSub, Nat.reduceEqDiff, Nat.reduceLeDiff, Nat.reduceMul, Nat.reduceLT, Int.reduceLE, Int.reduceLT, Int.reduceEq, Int.reduceMul, Int.reduceToNat, Int.reduceNeg, Int.reduceAdd, Int.reduceSub, Int.natCast_nonneg, Int.toNat_natCast, reduceIte, reduceCtorEq])
    (try simp only [push_cast, Int.le_refl, Bool.not_not, Option.isSome_some, Option.isSome_none, Bool.true_or, Bool.or_true, Bool.and_self, Bool.false_or, Bool.or_false, Bool.false_and, Bool.and_false, Nat.reduceAdd, Nat.reduceSub, Nat.reduceEqDiff, Nat.reduceLeDiff, Nat.reduceMul, Nat.reduceLT, Int.reduceLE, Int.reduceLT, Int.reduceEq, Int.reduceMul, Int.reduceToNat, Int.reduceNeg, Int.reduceAdd, Int.reduceSub, Int.natCast_nonneg, Int.toNat_natCast, reduceIte, reduceCtorEq]); refine call_lend [500000] none (lr := [rdR z (p + 1)]) (by simp [ndB]) (by first | rfl | simp [rowsOf, hget, rdR, rowS, rowN, rowC, sC, ndC, cmC]) (by simp [idsL, idsA]) (by simp [mvN]) (by simpa [rnA, ixOf] using pick_pcl z (p + 1) 4 (hr.le (by omega)) (by omega)) ?_
    rintro rv lr' rows ⟨a, rfl, ha, rfl, rfl⟩
    have ha := ha (by omega)
    (refine ⟨by simp [shB, mvF, rdR, rowS, rowN, rowC], by simp [frB, baseOf], go_on ?_⟩; simp only [killA, killH, killRow, push_cast, Int.le_refl, Bool.not_not, Option.isSome_some, Option.isSome_none, Bool.true_or, Bool.or_true, Bool.and_self, Bool.false_or, Bool.or_false, Bool.false_and, Bool.and_false, Nat.reduceAdd, Nat.reduceSub, Nat.reduceEqDiff, Nat.reduceLeDiff, Nat.reduceMul, Nat.reduceLT, Int.reduceLE, Int.reduceLT, Int.reduceEq, Int.reduceMul, Int.reduceToNat, Int.reduceNeg, Int.reduceAdd, Int.reduceSub, Int.natCast_nonneg, Int.toNat_natCast, reduceIte, reduceCtorEq])
    (try simp only [push_cast, Int.le_refl, Bool.not_not, Option.isSome_some, Option.isSome_none, Bool.true_or, Bool.or_true, Bool.and_self, Bool.false_or, Bool.or_false, Bool.false_and, Bool.and_false, Nat.reduceAdd, Nat.reduceSub, Nat.reduceEqDiff, Nat.reduceLeDiff, Nat.reduceMul, Nat.reduceLT, Int.reduceLE, Int.reduceLT, Int.reduceEq, Int.reduceMul, Int.reduceToNat, Int.reduceNeg, Int.reduceAdd, Int.reduceSub, Int.natCast_nonneg, Int.toNat_natCast, reduceIte, reduceCtorEq]); refine call_lend [500000] none (lr := [rdR z (p + 1 + 1)]) (by simp [ndB]) (by first | rfl | simp [rowsOf, hget, rdR, rowS, rowN, rowC, sC, ndC, cmC]) (by simp [idsL, idsA]) (by simp [mvN]) (by simpa [rnA, ixOf] using pick_pcl z (p + 1 + 1) 2 (hr.le (by omega)) (by omega)) ?_
    rintro rv lr' rows ⟨b, rfl, hb2, rfl, rfl⟩
    have hb2 := hb2 (by omega)
    obtain ⟨m, hm⟩ : ∃ m, m = a * b := ⟨_, rfl⟩
    have hm3 : m ≤ 3 := by
      have : b = 0 ∨ b = 1 := by omega
      rcases this with rfl | rfl <;> omega
    have v1 : IntKind.i64.wrap ((a : Int) * b) = (m : Int) := by
      have e : (a : Int) * b = (m : Int) := by rw [hm, Int.natCast_mul]
      rw [e, wrap_nn (by omega) (by omega)]
    have v2 : IntKind.i64.wrap (1 + (m : Int)) = ((1 + m : Nat) : Int) := by rw [wrap_nn (by omega) (by omega)]; omega
    obtain ⟨n, hn⟩ : ∃ n, n = 1 + m := ⟨_, rfl⟩
    rw [← hn] at v2
    (refine ⟨by simp [shB, mvF, rdR, rowS, rowN, rowC], by simp [frB, baseOf], go_on ?_⟩; simp only [v1, v2, killA, killH, killRow, push_cast, Int.le_refl, Bool.not_not, Option.isSome_some, Option.isSome_none, Bool.true_or, Bool.or_true, Bool.and_self, Bool.false_or, Bool.or_false, Bool.false_and, Bool.and_false, Nat.reduceAdd, Nat.reduceSub, Nat.reduceEqDiff, Nat.reduceLeDiff, Nat.reduceMul, Nat.reduceLT, Int.reduceLE, Int.reduceLT, Int.reduceEq, Int.reduceMul, Int.reduceToNat, Int.reduceNeg, Int.reduceAdd, Int.reduceSub, Int.natCast_nonneg, Int.toNat_natCast, reduceIte, reduceCtorEq])
    refine at_loop (X := Nat × Str × Nat) (fun x => [(4, sA x.2.1), (5, iA x.1)]) (fun x => [(500000, rdR z x.2.2)]) (fun x => x.1 ≤ n ∧ x.2.1.length = 2 * x.1 ∧ p ≤ x.2.2 ∧ x.2.2 ≤ p + 3 + x.1) (fun x => n - x.1) (0, [], p + 1 + 1 + 1) ⟨by omega, by simp, by dsimp only; omega, by dsimp only; omega⟩ ?_ ?_
    · (refine wk_ok ?_ ?_ ?_ ?_ <;> simp [rdR, leL, leH, idsL, idsA, idsR, inH, hget, sameRow, upA, hvA, dsts, dstO, setA_0, setA_1, setA_8, List.append, List.cons_append, List.nil_append])
    · rintro ⟨i, out, q⟩ ⟨q1, q2, q3, q4⟩
      simp only at q1 q2 q3 q4
      simp only [upA, hvA, dsts, dstO, setA_0, setA_1, setA_8, List.append, List.cons_append, List.nil_append]
      refine go_on ?_
      (try simp only [push_cast, Int.le_refl, Bool.not_not, Option.isSome_some, Option.isSome_none, Bool.true_or, Bool.or_true, Bool.and_self, Bool.false_or, Bool.or_false, Bool.false_and, Bool.and_false, Nat.reduceAdd, Nat.reduceSub, Nat.reduceEqDiff, Nat.reduceLeDiff, Nat.reduceMul, Nat.reduceLT, Int.reduceLE, Int.reduceLT, Int.reduceEq, Int.reduceMul, Int.reduceToNat, Int.reduceNeg, Int.reduceAdd, Int.reduceSub, Int.natCast_nonneg, Int.toNat_natCast, reduceIte, reduceCtorEq])
      refine at_b (fun hg => ?_) (fun hg => ?_)
      · have hlt := lt_tt hg
        have c1 : out.length ≤ 9223372036854775806 := by omega
        have c2 := app_l out [47]
        (try simp only [hg, c1, c2, push_cast, Int.le_refl, Bool.not_not, Option.isSome_some, Option.isSome_none, Bool.true_or, Bool.or_true, Bool.and_self, Bool.false_or, Bool.or_false, Bool.false_and, Bool.and_false, Nat.reduceAdd, Nat.reduceSub, Nat.reduceEqDiff, Nat.reduceLeDiff, Nat.reduceMul, Nat.reduceLT, Int.reduceLE, Int.reduceLT, Int.reduceEq, Int.reduceMul, Int.reduceToNat, Int.reduceNeg, Int.reduceAdd, Int.reduceSub, Int.natCast_nonneg, Int.toNat_natCast, reduceIte, reduceCtorEq])
        (try simp only [push_cast, Int.le_refl, Bool.not_not, Option.isSome_some, Option.isSome_none, Bool.true_or, Bool.or_true, Bool.and_self, Bool.false_or, Bool.or_false, Bool.false_and, Bool.and_false, Nat.reduceAdd, Nat.reduceSub, Nat.reduceEqDiff, Nat.reduceLeDiff, Nat.reduceMul, Nat.reduceLT, Int.reduceLE, Int.reduceLT, Int.reduceEq, Int.reduceMul, Int.reduceToNat, Int.reduceNeg, Int.reduceAdd, Int.reduceSub, Int.natCast_nonneg, Int.toNat_natCast, reduceIte, reduceCtorEq]); refine call_lend [500000, 26] none (lr := [rdR z q, rowS [[97], [98], [97], [98], [99], [100]]]) (by simp [ndB]) (by first | rfl | simp [rowsOf, hget, rdR, rowS, rowN, rowC, sC, ndC, cmC]) (by simp [idsL, idsA]) (by simp [mvN]) (by simpa [rnA, ixOf] using of_pcl z q [[97], [98], [97], [98], [99], [100]] (hr.le (by omega)) (by simp) (by simp)) ?_
        rintro rv lr' rows ⟨s, hs, rfl, rfl, rfl⟩
        have hl : s.length = 1 := by
          simp only [List.mem_cons, List.not_mem_nil, or_false] at hs
          rcases hs with rfl | rfl | rfl | rfl | rfl | rfl <;> rfl
        have c3 : (out ++ [47]).length + s.length ≤ 9223372036854775807 := by simp; omega
        have c4 := app_l (out ++ [47]) s
        have w1 := wr ((i : Int) + 1) (by omega)
        (refine ⟨by simp [shB, mvF, rdR, rowS, rowN, rowC], by simp [frB, baseOf], go_on ?_⟩; simp only [c3, c4, w1, killA, killH, killRow, push_cast, Int.le_refl, Bool.not_not, Option.isSome_some, Option.isSome_none, Bool.true_or, Bool.or_true, Bool.and_self, Bool.false_or, Bool.or_false, Bool.false_and, Bool.and_false, Nat.reduceAdd, Nat.reduceSub, Nat.reduceEqDiff, Nat.reduceLeDiff, Nat.reduceMul, Nat.reduceLT, Int.reduceLE, Int.reduceLT, Int.reduceEq, Int.reduceMul, Int.reduceToNat, Int.reduceNeg, Int.reduceAdd, Int.reduceSub, Int.natCast_nonneg, Int.toNat_natCast, reduceIte, reduceCtorEq])
        refine at_fin ⟨(i + 1, out ++ [47] ++ s, q + 1), ⟨by dsimp only; omega, by simp; omega, by dsimp only; omega, by dsimp only; omega⟩, by dsimp only; omega, ?_⟩
        (refine wk_ok ?_ ?_ ?_ ?_ <;> simp [rdR, leL, leH, idsL, idsA, idsR, inH, hget, sameRow, upA, hvA, dsts, dstO, setA_0, setA_1, setA_8, List.append, List.cons_append, List.nil_append])
      · have h3 := lt_ff hg
        have hfin : strD z p 8 10 (sA out) [rdR z q] [] := ⟨out, by omega, rfl, ⟨_, rfl, by omega, by omega⟩, rfl⟩
        (try simp only [hg, push_cast, Int.le_refl, Bool.not_not, Option.isSome_some, Option.isSome_none, Bool.true_or, Bool.or_true, Bool.and_self, Bool.false_or, Bool.or_false, Bool.false_and, Bool.and_false, Nat.reduceAdd, Nat.reduceSub, Nat.reduceEqDiff, Nat.reduceLeDiff, Nat.reduceMul, Nat.reduceLT, Int.reduceLE, Int.reduceLT, Int.reduceEq, Int.reduceMul, Int.reduceToNat, Int.reduceNeg, Int.reduceAdd, Int.reduceSub, Int.natCast_nonneg, Int.toNat_natCast, reduceIte, reduceCtorEq])
        (refine at_retL ?_; simp only [Tryd.results93, retL, push_cast, Int.le_refl, Bool.not_not, Option.isSome_some, Option.isSome_none, Bool.true_or, Bool.or_true, Bool.and_self, Bool.false_or, Bool.or_false, Bool.false_and, Bool.and_false, Nat.reduceAdd, Nat.reduceSub, Nat.reduceEqDiff, Nat.reduceLeDiff, Nat.reduceMul, Nat.reduceLT, Int.reduceLE, Int.reduceLT, Int.reduceEq, Int.reduceMul, Int.reduceToNat, Int.reduceNeg, Int.reduceAdd, Int.reduceSub, Int.natCast_nonneg, Int.toNat_natCast, reduceIte, reduceCtorEq]; simpa [show List.range 1 = [0] from rfl, show List.range 2 = [0, 1] from rfl, show List.range 3 = [0, 1, 2] from rfl, nmL, mvF, ndB, ixOf, rowsOf, hget, rdR, rowS, rowN, rowC] using  hfin)
theorem l91Content_pcl (z : List Int) (p : Nat) (hr : RdOk z (p + 4)) : PCL Tryd.prog 86 [rdR z p] (mvF none) [.p 0 0 0] (ctD z p 4) := by
  refine pcl_enter Tryd.func86 rfl rfl (by simp) fun w0 fb loc => go_on ?_; simp only [Tryd.ntmps86, hpL, nmL, mvF, renL, decide_true, decide_false, push_cast, Int.le_refl, Bool.not_not, Option.isSome_some, Option.isSome_none, Bool.true_or, Bool.or_true, Bool.and_self, Bool.false_or, Bool.or_false, Bool.false_and, Bool.and_false, Nat.reduceAdd, Nat.reduceSub, Nat.reduceEqDiff, Nat.reduceLeDiff, Nat.reduceMul, Nat.reduceLT, Int.reduceLE, Int.reduceLT, Int.reduceEq, Int.reduceMul, Int.reduceToNat, Int.reduceNeg, Int.reduceAdd, Int.reduceSub, Int.natCast_nonneg, Int.toNat_natCast, reduceIte, reduceCtorEq]
  (try simp only [push_cast, Int.le_refl, Bool.not_not, Option.isSome_some, Option.isSome_none, Bool.true_or, Bool.or_true, Bool.and_self, Bool.false_or, Bool.or_false, Bool.false_and, Bool.and_false, Nat.reduceAdd, Nat.reduceSub, Nat.reduceEqDiff, Nat.reduceLeDiff, Nat.reduceMul, Nat.reduceLT, Int.reduceLE, Int.reduceLT, Int.reduceEq, Int.reduceMul, Int.reduceToNat, Int.reduceNeg, Int.reduceAdd, Int.reduceSub, Int.natCast_nonneg, Int.toNat_natCast, reduceIte, reduceCtorEq]); refine call_lend [500000] none (lr := [rdR z p]) (by simp [ndB]) (by first | rfl | simp [rowsOf, hget, rdR, rowS, rowN, rowC, sC, ndC, cmC]) (by simp [idsL, idsA]) (by simp [mvN]) (by simpa [rnA, ixOf] using pick_pcl z p 6 (hr.le (by omega)) (by omega)) ?_
  rintro rv lr' rows ⟨k, rfl, hk, rfl, rfl⟩
  have hfin : ∀ (x : Ct) (q : Nat), p ≤ q → q ≤ p + 4 → ctD z p 4 (.agg [iA x.k, iA x.v]) [rdR z q] [] := fun x q h1 h2 => ⟨x, rfl, ⟨q, rfl, h1, h2⟩, rfl⟩
  (refine ⟨by simp [shB, mvF, rdR, rowS, rowN, rowC], by simp [frB, baseOf], go_on ?_⟩; simp only [killA, killH, killRow, push_cast, Int.le_refl, Bool.not_not, Option.isSome_some, Option.isSome_none, Bool.true_or, Bool.or_true, Bool.and_self, Bool.false_or, Bool.or_false, Bool.false_and, Bool.and_false, Nat.reduceAdd, Nat.reduceSub, Nat.reduceEqDiff, Nat.reduceLeDiff, Nat.reduceMul, Nat.reduceLT, Int.reduceLE, Int.reduceLT, Int.reduceEq, Int.reduceMul, Int.reduceToNat, Int.reduceNeg, Int.reduceAdd, Int.reduceSub, Int.natCast_nonneg, Int.toNat_natCast, reduceIte, reduceCtorEq])
  refine at_b (fun hb => ?_) (fun hb => ?_)
  · (try simp only [hb, push_cast, Int.le_refl, Bool.not_not, Option.isSome_some, Option.isSome_none, Bool.true_or, Bool.or_true, Bool.and_self, Bool.false_or, Bool.or_false, Bool.false_and, Bool.and_false, Nat.reduceAdd, Nat.reduceSub, Nat.reduceEqDiff, Nat.reduceLeDiff, Nat.reduceMul, Nat.reduceLT, Int.reduceLE, Int.reduceLT, Int.reduceEq, Int.reduceMul, Int.reduceToNat, Int.reduceNeg, Int.reduceAdd, Int.reduceSub, Int.natCast_nonneg, Int.toNat_natCast, reduceIte, reduceCtorEq])
    (refine at_retL ?_; simp only [Tryd.results86, retL, push_cast, Int.le_refl, Bool.not_not, Option.isSome_some, Option.isSome_none, Bool.true_or, Bool.or_true, Bool.and_self, Bool.false_or, Bool.or_false, Bool.false_and, Bool.and_false, Nat.reduceAdd, Nat.reduceSub, Nat.reduceEqDiff, Nat.reduceLeDiff, Nat.reduceMul, Nat.reduceLT, Int.reduceLE, Int.reduceLT, Int.reduceEq, Int.reduceMul, Int.reduceToNat, Int.reduceNeg, Int.reduceAdd, Int.reduceSub, Int.natCast_nonneg, Int.toNat_natCast, reduceIte, reduceCtorEq]; simpa [show List.range 1 = [0] from rfl, show List.range 2 = [0, 1] from rfl, show List.range 3 = [0, 1, 2] from rfl, nmL, mvF, ndB, ixOf, rowsOf, hget, rdR, rowS, rowN, rowC] using  hfin ⟨0, 0⟩ (p + 1) (by omega) (by omega))
  · (try simp only [hb, push_cast, Int.le_refl, Bool.not_not, Option.isSome_some, Option.isSome_none, Bool.true_or, Bool.or_true, Bool.and_self, Bool.false_or, Bool.or_false, Bool.false_and, Bool.and_false, Nat.reduceAdd, Nat.reduceSub, Nat.reduceEqDiff, Nat.reduceLeDiff, Nat.reduceMul, Nat.reduceLT, Int.reduceLE, Int.reduceLT, Int.reduceEq, Int.reduceMul, Int.reduceToNat, Int.reduceNeg, Int.reduceAdd, Int.reduceSub, Int.natCast_nonneg, Int.toNat_natCast, reduceIte, reduceCtorEq])
    refine at_b (fun h1 => ?_) (fun h1 => ?_)
    · (try simp only [h1, push_cast, Int.le_refl, Bool.not_not, Option.isSome_some, Option.isSome_none, Bool.true_or, Bool.or_true, Bool.and_self, Bool.false_or, Bool.or_false, Bool.false_and, Bool.and_false, Nat.reduceAdd, Nat.reduceSub, Nat.reduceEqDiff, Nat.reduceLeDiff, Nat.reduceMul, Nat.reduceLT, Int.reduceLE, Int.reduceLT, Int.reduceEq, Int.reduceMul, Int.reduceToNat, Int.reduceNeg, Int.reduceAdd, Int.reduceSub, Int.natCast_nonneg, Int.toNat_natCast, reduceIte, reduceCtorEq])
      (refine at_retL ?_; simp only [Tryd.results86, retL, push_cast, Int.le_refl, Bool.not_not, Option.isSome_some, Option.isSome_none, Bool.true_or, Bool.or_true, Bool.and_self, Bool.false_or, Bool.or_false, Bool.false_and, Bool.and_false, Nat.reduceAdd, Nat.reduceSub, Nat.reduceEqDiff, Nat.reduceLeDiff, Nat.reduceMul, Nat.reduceLT, Int.reduceLE, Int.reduceLT, Int.reduceEq, Int.reduceMul, Int.reduceToNat, Int.reduceNeg, Int.reduceAdd, Int.reduceSub, Int.natCast_nonneg, Int.toNat_natCast, reduceIte, reduceCtorEq]; simpa [show List.range 1 = [0] from rfl, show List.range 2 = [0, 1] from rfl, show List.range 3 = [0, 1, 2] from rfl, nmL, mvF, ndB, ixOf, rowsOf, hget, rdR, rowS, rowN, rowC] using  hfin ⟨1, 0⟩ (p + 1) (by omega) (by omega))
    · (try simp only [h1, push_cast, Int.le_refl, Bool.not_not, Option.isSome_some, Option.isSome_none, Bool.true_or, Bool.or_true, Bool.and_self, Bool.false_or, Bool.or_false, Bool.false_and, Bool.and_false, Nat.reduceAdd, Nat.reduceSub, Nat.reduceEqDiff, Nat.reduceLeDiff, Nat.reduceMul, Nat.reduceLT, Int.reduceLE, Int.reduceLT, Int.reduceEq, Int.reduceMul, Int.reduceToNat, Int.reduceNeg, Int.reduceAdd, Int.reduceSub, Int.natCast_nonneg, Int.toNat_natCast, reduceIte, reduceCtorEq])
      refine at_b (fun h2 => ?_) (fun h2 => ?_)
      · (try simp only [h2, push_cast, Int.le_refl, Bool.not_not, Option.isSome_some, Option.isSome_none, Bool.true_or, Bool.or_true, Bool.and_self, Bool.false_or, Bool.or_false, Bool.false_and, Bool.and_false, Nat.reduceAdd, Nat.reduceSub, Nat.reduceEqDiff, Nat.reduceLeDiff, Nat.reduceMul, Nat.reduceLT, Int.reduceLE, Int.reduceLT, Int.reduceEq, Int.reduceMul, Int.reduceToNat, Int.reduceNeg, Int.reduceAdd, Int.reduceSub, Int.natCast_nonneg, Int.toNat_natCast, reduceIte, reduceCtorEq])
        (refine at_retL ?_; simp only [Tryd.results86, retL, push_cast, Int.le_refl, Bool.not_not, Option.isSome_some, Option.isSome_none, Bool.true_or, Bool.or_true, Bool.and_self, Bool.false_or, Bool.or_false, Bool.false_and, Bool.and_false, Nat.reduceAdd, Nat.reduceSub, Nat.reduceEqDiff, Nat.reduceLeDiff, Nat.reduceMul, Nat.reduceLT, Int.reduceLE, Int.reduceLT, Int.reduceEq, Int.reduceMul, Int.reduceToNat, Int.reduceNeg, Int.reduceAdd, Int.reduceSub, Int.natCast_nonneg, Int.toNat_natCast, reduceIte, reduceCtorEq]; simpa [show List.range 1 = [0] from rfl, show List.range 2 = [0, 1] from rfl, show List.range 3 = [0, 1, 2] from rfl, nmL, mvF, ndB, ixOf, rowsOf, hget, rdR, rowS, rowN, rowC] using  hfin ⟨1, 0⟩ (p + 1) (by omega) (by omega))
      · (try simp only [h2, push_cast, Int.le_refl, Bool.not_not, Option.isSome_some, Option.isSome_none, Bool.true_or, Bool.or_true, Bool.and_self, Bool.false_or, Bool.or_false, Bool.false_and, Bool.and_false, Nat.reduceAdd, Nat.reduceSub, Nat.reduceEqDiff, Nat.reduceLeDiff, Nat.reduceMul, Nat.reduceLT, Int.reduceLE, Int.reduceLT, Int.reduceEq, Int.reduceMul, Int.reduceToNat, Int.reduceNeg, Int.reduceAdd, Int.reduceSub, Int.natCast_nonneg, Int.toNat_natCast, reduceIte, reduceCtorEq])
        (try simp only [push_cast, Int.le_refl, Bool.not_not, Option.isSome_some, Option.isSome_none, Bool.true_or, Bool.or_true, Bool.and_self, Bool.false_or, Bool.or_false, Bool.false_and, Bool.and_false, Nat.reduceAdd, Nat.reduceSub, Nat.reduceEqDiff, Nat.reduceLeDiff, Nat.reduceMul, Nat.reduceLT, Int.reduceLE, Int.reduceLT, Int.reduceEq, Int.reduceMul, Int.reduceToNat, Int.reduceNeg, Int.reduceAdd, Int.reduceSub, Int.natCast_nonneg, Int.toNat_natCast, reduceIte, reduceCtorEq]); refine call_lend [500000] none (lr := [rdR z (p + 1)]) (by simp [ndB]) (by first | rfl | simp [rowsOf, hget, rdR, rowS, rowN, rowC, sC, ndC, cmC]) (by simp [idsL, idsA]) (by simp [mvN]) (by simpa [rnA, ixOf] using pick_pcl z (p + 1) 5 (hr.le (by omega)) (by omega)) ?_
        rintro rv lr' rows ⟨v, rfl, _, rfl, rfl⟩
        (refine ⟨by simp [shB, mvF, rdR, rowS, rowN, rowC], by simp [frB, baseOf], go_on ?_⟩; simp only [killA, killH, killRow, push_cast, Int.le_refl, Bool.not_not, Option.isSome_some, Option.isSome_none, Bool.true_or, Bool.or_true, Bool.and_self, Bool.false_or, Bool.or_false, Bool.false_and, Bool.and_false, Nat.reduceAdd, Nat.reduceSub, Nat.reduceEqDiff, Nat.reduceLeDiff, Nat.reduceMul, Nat.reduceLT, Int.reduceLE, Int.reduceLT, Int.reduceEq, Int.reduceMul, Int.reduceToNat, Int.reduceNeg, Int.reduceAdd, Int.reduceSub, Int.natCast_nonneg, Int.toNat_natCast, reduceIte, reduceCtorEq])
        (try simp only [push_cast, Int.le_refl, Bool.not_not, Option.isSome_some, Option.isSome_none, Bool.true_or, Bool.or_true, Bool.and_self, Bool.false_or, Bool.or_false, Bool.false_and, Bool.and_false, Nat.reduceAdd, Nat.reduceSub, Nat.reduceEqDiff, Nat.reduceLeDiff, Nat.reduceMul, Nat.reduceLT, Int.reduceLE, Int.reduceLT, Int.reduceEq, Int.reduceMul, Int.reduceToNat, Int.reduceNeg, Int.reduceAdd, Int.reduceSub, Int.natCast_nonneg, Int.toNat_natCast, reduceIte, reduceCtorEq]); refine call_lend [500000] none (lr := [rdR z (p + 1 + 1)]) (by simp [ndB]) (by first | rfl | simp [rowsOf, hget, rdR, rowS, rowN, rowC, sC, ndC, cmC]) (by simp [idsL, idsA]) (by simp [mvN]) (by simpa [rnA, ixOf] using pick_pcl z (p + 1 + 1) 40 (hr.le (by omega)) (by omega)) ?_
        rintro rv lr' rows ⟨k2, rfl, _, rfl, rfl⟩
        (refine ⟨by simp [shB, mvF, rdR, rowS, rowN, rowC], by simp [frB, baseOf], go_on ?_⟩; simp only [killA, killH, killRow, push_cast, Int.le_refl, Bool.not_not, Option.isSome_some, Option.isSome_none, Bool.true_or, Bool.or_true, Bool.and_self, Bool.false_or, Bool.or_false, Bool.false_and, Bool.and_false, Nat.reduceAdd, Nat.reduceSub, Nat.reduceEqDiff, Nat.reduceLeDiff, Nat.reduceMul, Nat.reduceLT, Int.reduceLE, Int.reduceLT, Int.reduceEq, Int.reduceMul, Int.reduceToNat, Int.reduceNeg, Int.reduceAdd, Int.reduceSub, Int.natCast_nonneg, Int.toNat_natCast, reduceIte, reduceCtorEq])
        refine at_b (fun h3 => ?_) (fun h3 => ?_)
        · (try simp only [h3, push_cast, Int.le_refl, Bool.not_not, Option.isSome_some, Option.isSome_none, Bool.true_or, Bool.or_true, Bool.and_self, Bool.false_or, Bool.or_false, Bool.false_and, Bool.and_false, Nat.reduceAdd, Nat.reduceSub, Nat.reduceEqDiff, Nat.reduceLeDiff, Nat.reduceMul, Nat.reduceLT, Int.reduceLE, Int.reduceLT, Int.reduceEq, Int.reduceMul, Int.reduceToNat, Int.reduceNeg, Int.reduceAdd, Int.reduceSub, Int.natCast_nonneg, Int.toNat_natCast, reduceIte, reduceCtorEq])
          (try simp only [push_cast, Int.le_refl, Bool.not_not, Option.isSome_some, Option.isSome_none, Bool.true_or, Bool.or_true, Bool.and_self, Bool.false_or, Bool.or_false, Bool.false_and, Bool.and_false, Nat.reduceAdd, Nat.reduceSub, Nat.reduceEqDiff, Nat.reduceLeDiff, Nat.reduceMul, Nat.reduceLT, Int.reduceLE, Int.reduceLT, Int.reduceEq, Int.reduceMul, Int.reduceToNat, Int.reduceNeg, Int.reduceAdd, Int.reduceSub, Int.natCast_nonneg, Int.toNat_natCast, reduceIte, reduceCtorEq]); refine call_lend [500000] none (lr := [rdR z (p + 1 + 1 + 1)]) (by simp [ndB]) (by first | rfl | simp [rowsOf, hget, rdR, rowS, rowN, rowC, sC, ndC, cmC]) (by simp [idsL, idsA]) (by simp [mvN]) (by simpa [rnA, ixOf] using pick_pcl z (p + 1 + 1 + 1) 3 (hr.le (by omega)) (by omega)) ?_
          rintro rv lr' rows ⟨k3, rfl, hk3, rfl, rfl⟩
          obtain ⟨x, hx⟩ := get_of_lt (l := [(-1 : Int), 99, 100]) (k := k3) (hk3 (by omega))
          have i1 := ix_n hx
          have i2 := map_get inC hx
          simp only [inC, List.map_cons, List.map_nil, List.length_cons, List.length_nil, Nat.reduceAdd] at i1 i2
          (refine ⟨by simp [shB, mvF, rdR, rowS, rowN, rowC], by simp [frB, baseOf], go_on ?_⟩; simp only [i1, i2, killA, killH, killRow, push_cast, Int.le_refl, Bool.not_not, Option.isSome_some, Option.isSome_none, Bool.true_or, Bool.or_true, Bool.and_self, Bool.false_or, Bool.or_false, Bool.false_and, Bool.and_false, Nat.reduceAdd, Nat.reduceSub, Nat.reduceEqDiff, Nat.reduceLeDiff, Nat.reduceMul, Nat.reduceLT, Int.reduceLE, Int.reduceLT, Int.reduceEq, Int.reduceMul, Int.reduceToNat, Int.reduceNeg, Int.reduceAdd, Int.reduceSub, Int.natCast_nonneg, Int.toNat_natCast, reduceIte, reduceCtorEq])
          (refine at_retL ?_; simp only [Tryd.results86, retL, push_cast, Int.le_refl, Bool.not_not, Option.isSome_some, Option.isSome_none, Bool.true_or, Bool.or_true, Bool.and_self, Bool.false_or, Bool.or_false, Bool.false_and, Bool.and_false, Nat.reduceAdd, Nat.reduceSub, Nat.reduceEqDiff, Nat.reduceLeDiff, Nat.reduceMul, Nat.reduceLT, Int.reduceLE, Int.reduceLT, Int.reduceEq, Int.reduceMul, Int.reduceToNat, Int.reduceNeg, Int.reduceAdd, Int.reduceSub, Int.natCast_nonneg, Int.toNat_natCast, reduceIte, reduceCtorEq]; simpa [show List.range 1 = [0] from rfl, show List.range 2 = [0, 1] from rfl, show List.range 3 = [0, 1, 2] from rfl, nmL, mvF, ndB, ixOf, rowsOf, hget, rdR, rowS, rowN, rowC] using  hfin ⟨2, x⟩ (p + 1 + 1 + 1 + 1) (by omega) (by omega))
        · (try simp only [h3, push_cast, Int.le_refl, Bool.not_not, Option.isSome_some, Option.isSome_none, Bool.true_or, Bool.or_true, Bool.and_self, Bool.false_or, Bool.or_false, Bool.false_and, Bool.and_false, Nat.reduceAdd, Nat.reduceSub, Nat.reduceEqDiff, Nat.reduceLeDiff, Nat.reduceMul, Nat.reduceLT, Int.reduceLE, Int.reduceLT, Int.reduceEq, Int.reduceMul, Int.reduceToNat, Int.reduceNeg, Int.reduceAdd, Int.reduceSub, Int.natCast_nonneg, Int.toNat_natCast, reduceIte, reduceCtorEq])
          refine at_b (fun h4 => ?_) (fun h4 => ?_)
          · (try simp only [h4, push_cast, Int.le_refl, Bool.not_not, Option.isSome_some, Option.isSome_none, Bool.true_or, Bool.or_true, Bool.and_self, Bool.false_or, Bool.or_false, Bool.false_and, Bool.and_false, Nat.reduceAdd, Nat.reduceSub, Nat.reduceEqDiff, Nat.reduceLeDiff, Nat.reduceMul, Nat.reduceLT, Int.reduceLE, Int.reduceLT, Int.reduceEq, Int.reduceMul, Int.reduceToNat, Int.reduceNeg, Int.reduceAdd, Int.reduceSub, Int.natCast_nonneg, Int.toNat_natCast, reduceIte, reduceCtorEq])
            (try simp only [push_cast, Int.le_refl, Bool.not_not, Option.isSome_some, Option.isSome_none, Bool.true_or, Bool.or_true, Bool.and_self, Bool.false_or, Bool.or_false, Bool.false_and, Bool.and_false, Nat.reduceAdd, Nat.reduceSub, Nat.reduceEqDiff, Nat.reduceLeDiff, Nat.reduceMul, Nat.reduceLT, Int.reduceLE, Int.reduceLT, Int.reduceEq, Int.reduceMul, Int.reduceToNat, Int.reduceNeg, Int.reduceAdd, Int.reduceSub, Int.natCast_nonneg, Int.toNat_natCast, reduceIte, reduceCtorEq]); refine call_lend [500000] none (lr := [rdR z (p + 1 + 1 + 1)]) (by simp [ndB]) (by first | rfl | simp [rowsOf, hget, rdR, rowS, rowN, rowC, sC, ndC, cmC]) (by simp [idsL, idsA]) (by simp [mvN]) (by simpa [rnA, ixOf] using pick_pcl z (p + 1 + 1 + 1) 3 (hr.le (by omega)) (by omega)) ?_
            rintro rv lr' rows ⟨k3, rfl, hk3, rfl, rfl⟩
            obtain ⟨x, hx⟩ := get_of_lt (l := [(3 : Int), -1, 1]) (k := k3) (hk3 (by omega))
            have i1 := ix_n hx
            have i2 := map_get inC hx
            simp only [inC, List.map_cons, List.map_nil, List.length_cons, List.length_nil, Nat.reduceAdd] at i1 i2
            (refine ⟨by simp [shB, mvF, rdR, rowS, rowN, rowC], by simp [frB, baseOf], go_on ?_⟩; simp only [i1, i2, killA, killH, killRow, push_cast, Int.le_refl, Bool.not_not, Option.isSome_some, Option.isSome_none, Bool.true_or, Bool.or_true, Bool.and_self, Bool.false_or, Bool.or_false, Bool.false_and, Bool.and_false, Nat.reduceAdd, Nat.reduceSub, Nat.reduceEqDiff, Nat.reduceLeDiff, Nat.reduceMul, Nat.reduceLT, Int.reduceLE, Int.reduceLT, Int.reduceEq, Int.reduceMul, Int.reduceToNat, Int.reduceNeg, Int.reduceAdd, Int.reduceSub, Int.natCast_nonneg, Int.toNat_natCast, reduceIte, reduceCtorEq])
            (refine at_retL ?_; simp only [Tryd.results86, retL, push_cast, Int.le_refl, Bool.not_not, Option.isSome_some, Option.isSome_none, Bool.true_or, Bool.or_true, Bool.and_self, Bool.false_or, Bool.or_false, Bool.false_and, Bool.and_false, Nat.reduceAdd, Nat.reduceSub, Nat.reduceEqDiff, Nat.reduceLeDiff, Nat.reduceMul, Nat.reduceLT, Int.reduceLE, Int.reduceLT, Int.reduceEq, Int.reduceMul, Int.reduceToNat, Int.reduceNeg, Int.reduceAdd, Int.reduceSub, Int.natCast_nonneg, Int.toNat_natCast, reduceIte, reduceCtorEq]; simpa [show List.range 1 = [0] from rfl, show List.range 2 = [0, 1] from rfl, show List.range 3 = [0, 1, 2] from rfl, nmL, mvF, ndB, ixOf, rowsOf, hget, rdR, rowS, rowN, rowC] using  hfin ⟨x, v⟩ (p + 1 + 1 + 1 + 1) (by omega) (by omega))
          · (try simp only [h4, push_cast, Int.le_refl, Bool.not_not, Option.isSome_some, Option.isSome_none, Bool.true_or, Bool.or_true, Bool.and_self, Bool.false_or, Bool.or_false, Bool.false_and, Bool.and_false, Nat.reduceAdd, Nat.reduceSub, Nat.reduceEqDiff, Nat.reduceLeDiff, Nat.reduceMul, Nat.reduceLT, Int.reduceLE, Int.reduceLT, Int.reduceEq, Int.reduceMul, Int.reduceToNat, Int.reduceNeg, Int.reduceAdd, Int.reduceSub, Int.natCast_nonneg, Int.toNat_natCast, reduceIte, reduceCtorEq])
            (refine at_retL ?_; simp only [Tryd.results86, retL, push_cast, Int.le_refl, Bool.not_not, Option.isSome_some, Option.isSome_none, Bool.true_or, Bool.or_true, Bool.and_self, Bool.false_or, Bool.or_false, Bool.false_and, Bool.and_false, Nat.reduceAdd, Nat.reduceSub, Nat.reduceEqDiff, Nat.reduceLeDiff, Nat.reduceMul, Nat.reduceLT, Int.reduceLE, Int.reduceLT, Int.reduceEq, Int.reduceMul, Int.reduceToNat, Int.reduceNeg, Int.reduceAdd, Int.reduceSub, Int.natCast_nonneg, Int.toNat_natCast, reduceIte, reduceCtorEq]; simpa [show List.range 1 = [0] from rfl, show List.range 2 = [0, 1] from rfl, show List.range 3 = [0, 1, 2] from rfl, nmL, mvF, ndB, ixOf, rowsOf, hget, rdR, rowS, rowN, rowC] using  hfin ⟨2, v⟩ (p + 1 + 1 + 1) (by omega) (by omega))
end Go.Proofs.YtcjialgknmplbaaDoor
