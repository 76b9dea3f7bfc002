/- The law FnExactDiskWrite returns true whatever it is handed, and writes nothing that was there: no condition. -/
import Derived.Test.YtepcabenjikhgaaRows
import Derived.WalkKit
import Derived.ProofKit
import Derived.OpenShut
import Derived.ShutString
import Derived.ChangeOld
import Derived.Below
import Derived.Lay
import Derived.Stop.Joined
import Derived.Test.YtepcabenjikhgaaZv3
import Derived.Test.YtepcabenjikhgaaZv5
set_option linter.unusedSimpArgs false
set_option linter.unusedVariables false
namespace Go.Proofs.Ytepcabenjikhgaa.fnExactDiskWrite
open Go.ChangeShapes Go.WideShapes Go.ChangeAt Go.RowKit
set_option linter.unusedVariables false

theorem own : ownKnob Try.prog.godebug = none := by kernel_rfl
theorem laidOut : laidOutB Try.prog = true := by kernel_rfl

theorem walk (w : World) (v0 : Value) (v1 : Value) (v2 : Value) (t0 : List BD) (h0 : C (fun _ => False) 0 w (blsA t0) v0) (q0 : t0.length ≤ maxLen ∧ ∀ d ∈ t0, BlobOk d) (n1 : Int) (h1 : C (fun _ => False) 0 w (iA n1) v1) (t2 : List Int) (h2 : C (fun _ => False) 0 w (intsA t2) v2) (q2 : t2.length ≤ maxLen) :
    Calls Try.prog 10 #[v0, v1, v2] w fun e w' => e = .returned (.bool true) ∧ Below w.heap.size w w' := by
  refine ((FnExactDiskWrite_pc t0 (by have := q0.1; unfold maxLen at this; omega) (fun d hd => by have := q0.2 d hd; unfold BlobOk maxLen at this; exact ⟨by omega, by omega⟩) n1 t2 (by have := q2; unfold maxLen at this; omega)).2 w (fun _ => False) #[v0, v1, v2] (fun _ h => h.elim) rfl (fun j x hj => ?_)).mono ?_
  · rcases j with _ | _ | _ | j
    · cases hj; exact h0
    · cases hj; exact h1
    · cases hj; exact h2
    · simp at hj
  · rintro e w' ⟨rv, rows, u, hd, rfl, hb, hr⟩
    exact ⟨by rw [res_bool hd hr], hb⟩

set_option maxRecDepth 100000 in
theorem lifted (os : Os) (started : os.Started) (H : Type) (enc : TypeId × Value → H) :
    ReturnsInHanded {} Try.checked os 10 .any (Rows.fnExactDiskWriteSpec.pre6 enc Try.prog Try.f10 Rows.fnExactDiskWriteRow.domain false) (Rows.fnExactDiskWriteSpec.post enc Try.prog Try.f10 false true false false) := by
  refine returnsInHanded_of_change (C := Try.checked) own started (by kernel_rfl) Try.func10
    (ChangeSpec.witness6 (enc := enc) (C := Try.checked) false ⟨#[], #[.slice none 0 0, .int .i64 0, .slice none 0 0], []⟩ 8 (by kernel_rfl) (by kernel_rfl) (by kernel_rfl) (by kernel_rfl)) ?_
  intro W base args ds gs before hval0 hW hcnd _
  have hval : ∀ (j : Nat) t v, Try.f10.params[j]? = some t → args[j]? = some v → Value.okWide Try.prog W .any base t v := hval0
  have hW' := hW
  obtain ⟨p, q, hA0, hV, rfl, hfz, hnd⟩ := hW
  have hA : DataW.TrodAll enc Try.prog W 0 (fun _ => true) true Try.f10.params.toList args.toList ds p := hA0
  rw [Try.params10] at hA hval
  obtain ⟨v0, vs0, d0, ds0, p0, q0, hargs, rfl, rfl, h0, r0⟩ := trodAll_cons hA
  obtain ⟨v1, vs1, d1, ds1, p1, q1, rfl, rfl, rfl, h1, r1⟩ := trodAll_cons r0
  obtain ⟨v2, vs2, d2, ds2, p2, q2, rfl, rfl, rfl, h2, r2⟩ := trodAll_cons r1
  obtain ⟨rfl, rfl, rfl⟩ := trodAll_nil r2
  obtain rfl : args = #[v0, v1, v2] := by cases args; simp_all
  obtain ⟨rfl, rfl⟩ := trodVars_none hV
  obtain ⟨a0, len0, cap0, rfl⟩ := okWide_slice Try.underlying22 (hval 0 22 v0 rfl rfl)
  have k0 := h0
  have lt0 : ∀ x ∈ p0, x.block < W.heap.size := by obtain ⟨m, hm⟩ := k0; exact DataW.trod_lt m _ _ _ hm
  obtain ⟨t0, hC0, b0⟩ : ∃ t : List BD, C (fun _ => False) 0 W (blsA t) (.slice a0 len0 cap0) ∧ (t.length ≤ maxLen ∧ ∀ d ∈ t, BlobOk d) := by
    obtain ⟨fuel, hf⟩ := h0
    obtain ⟨t, v, e, hC, b1, b2⟩ := open_blobs (fun _ _ h => h) hf
    have e' : [Value.slice a0 len0 cap0] = [v] := e
    cases e'
    exact ⟨t, hC, ⟨b1, b2⟩⟩
  obtain ⟨n1, rfl⟩ := okWide_int Try.underlying3 (hval 1 3 v1 rfl rfl)
  have k1 := h1
  have lt1 : ∀ x ∈ p1, x.block < W.heap.size := by obtain ⟨m, hm⟩ := k1; exact DataW.trod_lt m _ _ _ hm
  obtain ⟨a2, len2, cap2, rfl⟩ := okWide_slice Try.underlying23 (hval 2 23 v2 rfl rfl)
  have k2 := h2
  have lt2 : ∀ x ∈ p2, x.block < W.heap.size := by obtain ⟨m, hm⟩ := k2; exact DataW.trod_lt m _ _ _ hm
  obtain ⟨t2, hC2, b2⟩ : ∃ t : List Int, C (fun _ => False) 0 W (intsA t) (.slice a2 len2 cap2) ∧ (t.length ≤ maxLen) := by
    obtain ⟨fuel, hf⟩ := h2
    obtain ⟨t, v, e, hC, b1, b2⟩ := open_ints (fun _ _ h => h) hf
    have e' : [Value.slice a2 len2 cap2] = [v] := e
    cases e'
    exact ⟨t, hC, b1⟩
  clear hA0 hval0
  refine (walk W (.slice a0 len0 cap0) (.int .i64 n1) (.slice a2 len2 cap2) t0 hC0 b0 n1 C.v t2 hC2 b2).mono fun e W' ⟨he, bel⟩ => ?_
  subst he
  exact ⟨_, rfl, _, _, _, [], _, [], hW', trodAll_mk1 (shut_bool Try.underlying4 _), (trodAll_cons_mk (Below.trod laidOut (by kernel_rfl) (of_decide_eq_true (by kernel_rfl)) k0 bel lt0) (trodAll_cons_mk (Below.trod laidOut (by kernel_rfl) (of_decide_eq_true (by kernel_rfl)) k1 bel lt1) (trodAll_cons_mk (Below.trod laidOut (by kernel_rfl) (of_decide_eq_true (by kernel_rfl)) k2 bel lt2) trodAll_mk0))), rfl, bel.frame _, fun h => by cases h⟩

set_option maxHeartbeats 4000000 in
theorem closedFacts : joinedFacts Try.prog 10 Try.f10 Rows.fnExactDiskWriteSpec Rows.fnExactDiskWriteRow = true := by
  unfold joinedFacts
  repeat' (with_reducible refine Bool.and_eq_true_iff.2 ⟨?_, ?_⟩)
  all_goals as_aux_lemma => kernel_rfl

theorem over : Rows.fnExactDiskWriteRow.holds Try.pinned (OpenSpec.ofChange Rows.fnExactDiskWriteSpec) :=
  OpenClaim.holds_of_wide 10 Try.f10 rfl rfl rfl rfl rfl rfl rfl ⟨rfl, rfl, rfl, rfl, rfl⟩ rfl rfl rfl rfl rfl (by kernel_rfl) Try.func10 closedFacts
    (of_decide_eq_true (by kernel_rfl)) (by unfold Func.isWrapper; first | (rw [if_pos (by decide +kernel)]; kernel_rfl) | (rw [if_neg (by decide +kernel)]; exact ⟨rfl, rfl⟩))
    (fun os started H enc _ => lifted os started H enc)

theorem proved : Rows.FnExactDiskWriteSaid := over
#print axioms proved
end Go.Proofs.Ytepcabenjikhgaa.fnExactDiskWrite
