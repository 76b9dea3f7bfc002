/- The law FnExactDiskCrash returns true whatever it is handed, and writes nothing that was there: no condition. -/
import Derived.Test.YtepcabenjikhgaaRows
import Derived.WalkKit
import Derived.ProofKit
import Derived.OpenShut
import Derived.ShutString
import Derived.ChangeOld
import Derived.Below
import Derived.Lay
import Derived.Stop.Joined
import Derived.Test.YtepcabenjikhgaaZu3
import Derived.Test.YtepcabenjikhgaaZu5
set_option linter.unusedSimpArgs false
set_option linter.unusedVariables false
namespace Go.Proofs.Ytepcabenjikhgaa.fnExactDiskCrash
open Go.ChangeShapes Go.WideShapes Go.ChangeAt Go.RowKit
set_option linter.unusedVariables false

theorem own : ownKnob Try.prog.godebug = none := by kernel_rfl
theorem laidOut : laidOutB Try.prog = true := by kernel_rfl

theorem walk (w : World) (v0 : Value) (v1 : Value) (t0 : List BD) (h0 : C (fun _ => False) 0 w (blsA t0) v0) (q0 : t0.length ≤ maxLen ∧ ∀ d ∈ t0, BlobOk d) (t1 : List Int) (h1 : C (fun _ => False) 0 w (intsA t1) v1) (q1 : t1.length ≤ maxLen) :
    Calls Try.prog 3 #[v0, v1] w fun e w' => e = .returned (.bool true) ∧ Below w.heap.size w w' := by
  refine ((FnExactDiskCrash_pc t0 (by have := q0.1; unfold maxLen at this; omega) (fun d hd => by have := q0.2 d hd; unfold BlobOk maxLen at this; exact ⟨by omega, by omega⟩) t1 (by have := q1; unfold maxLen at this; omega)).2 w (fun _ => False) #[v0, v1] (fun _ h => h.elim) rfl (fun j x hj => ?_)).mono ?_
  · rcases j with _ | _ | j
    · cases hj; exact h0
    · cases hj; exact h1
    · simp at hj
  · rintro e w' ⟨rv, rows, u, hd, rfl, hb, hr⟩
    exact ⟨by rw [res_bool hd hr], hb⟩

set_option maxRecDepth 100000 in
theorem lifted (os : Os) (started : os.Started) (H : Type) (enc : TypeId × Value → H) :
    ReturnsInHanded {} Try.checked os 3 .any (Rows.fnExactDiskCrashSpec.pre6 enc Try.prog Try.f3 Rows.fnExactDiskCrashRow.domain false) (Rows.fnExactDiskCrashSpec.post enc Try.prog Try.f3 false true false false) := by
  refine returnsInHanded_of_change (C := Try.checked) own started (by kernel_rfl) Try.func3
    (ChangeSpec.witness6 (enc := enc) (C := Try.checked) false ⟨#[], #[.slice none 0 0, .slice none 0 0], []⟩ 8 (by kernel_rfl) (by kernel_rfl) (by kernel_rfl) (by kernel_rfl)) ?_
  intro W base args ds gs before hval0 hW hcnd _
  have hval : ∀ (j : Nat) t v, Try.f3.params[j]? = some t → args[j]? = some v → Value.okWide Try.prog W .any base t v := hval0
  have hW' := hW
  obtain ⟨p, q, hA0, hV, rfl, hfz, hnd⟩ := hW
  have hA : DataW.TrodAll enc Try.prog W 0 (fun _ => true) true Try.f3.params.toList args.toList ds p := hA0
  rw [Try.params3] at hA hval
  obtain ⟨v0, vs0, d0, ds0, p0, q0, hargs, rfl, rfl, h0, r0⟩ := trodAll_cons hA
  obtain ⟨v1, vs1, d1, ds1, p1, q1, rfl, rfl, rfl, h1, r1⟩ := trodAll_cons r0
  obtain ⟨rfl, rfl, rfl⟩ := trodAll_nil r1
  obtain rfl : args = #[v0, v1] := by cases args; simp_all
  obtain ⟨rfl, rfl⟩ := trodVars_none hV
  obtain ⟨a0, len0, cap0, rfl⟩ := okWide_slice Try.underlying22 (hval 0 22 v0 rfl rfl)
  have k0 := h0
  have lt0 : ∀ x ∈ p0, x.block < W.heap.size := by obtain ⟨m, hm⟩ := k0; exact DataW.trod_lt m _ _ _ hm
  obtain ⟨t0, hC0, b0⟩ : ∃ t : List BD, C (fun _ => False) 0 W (blsA t) (.slice a0 len0 cap0) ∧ (t.length ≤ maxLen ∧ ∀ d ∈ t, BlobOk d) := by
    obtain ⟨fuel, hf⟩ := h0
    obtain ⟨t, v, e, hC, b1, b2⟩ := open_blobs (fun _ _ h => h) hf
    have e' : [Value.slice a0 len0 cap0] = [v] := e
    cases e'
    exact ⟨t, hC, ⟨b1, b2⟩⟩
  obtain ⟨a1, len1, cap1, rfl⟩ := okWide_slice Try.underlying23 (hval 1 23 v1 rfl rfl)
  have k1 := h1
  have lt1 : ∀ x ∈ p1, x.block < W.heap.size := by obtain ⟨m, hm⟩ := k1; exact DataW.trod_lt m _ _ _ hm
  obtain ⟨t1, hC1, b1⟩ : ∃ t : List Int, C (fun _ => False) 0 W (intsA t) (.slice a1 len1 cap1) ∧ (t.length ≤ maxLen) := by
    obtain ⟨fuel, hf⟩ := h1
    obtain ⟨t, v, e, hC, b1, b2⟩ := open_ints (fun _ _ h => h) hf
    have e' : [Value.slice a1 len1 cap1] = [v] := e
    cases e'
    exact ⟨t, hC, b1⟩
  clear hA0 hval0
  refine (walk W (.slice a0 len0 cap0) (.slice a1 len1 cap1) t0 hC0 b0 t1 hC1 b1).mono fun e W' ⟨he, bel⟩ => ?_
  subst he
  exact ⟨_, rfl, _, _, _, [], _, [], hW', trodAll_mk1 (shut_bool Try.underlying4 _), (trodAll_cons_mk (Below.trod laidOut (by kernel_rfl) (of_decide_eq_true (by kernel_rfl)) k0 bel lt0) (trodAll_cons_mk (Below.trod laidOut (by kernel_rfl) (of_decide_eq_true (by kernel_rfl)) k1 bel lt1) trodAll_mk0)), rfl, bel.frame _, fun h => by cases h⟩

set_option maxHeartbeats 4000000 in
theorem closedFacts : joinedFacts Try.prog 3 Try.f3 Rows.fnExactDiskCrashSpec Rows.fnExactDiskCrashRow = true := by
  unfold joinedFacts
  repeat' (with_reducible refine Bool.and_eq_true_iff.2 ⟨?_, ?_⟩)
  all_goals as_aux_lemma => kernel_rfl

theorem over : Rows.fnExactDiskCrashRow.holds Try.pinned (OpenSpec.ofChange Rows.fnExactDiskCrashSpec) :=
  OpenClaim.holds_of_wide 3 Try.f3 rfl rfl rfl rfl rfl rfl rfl ⟨rfl, rfl, rfl, rfl, rfl⟩ rfl rfl rfl rfl rfl (by kernel_rfl) Try.func3 closedFacts
    (of_decide_eq_true (by kernel_rfl)) (by unfold Func.isWrapper; first | (rw [if_pos (by decide +kernel)]; kernel_rfl) | (rw [if_neg (by decide +kernel)]; exact ⟨rfl, rfl⟩))
    (fun os started H enc _ => lifted os started H enc)

theorem proved : Rows.FnExactDiskCrashSaid := over
#print axioms proved
end Go.Proofs.Ytepcabenjikhgaa.fnExactDiskCrash
