/- The law FnExactBookSteps returns true whatever it is handed, and writes nothing that was there: no condition beyond the card's own (the tables of unicode/utf8 that it lists are tied to the program's text). -/
import Derived.Test.YtccifbbjbnjcfaaGreatDoorRows
import Derived.Test.YtccifbbjbnjcfaaGreatDoorCards
import Derived.Test.YtccifbbjbnjcfaaGreatDoorTie
import Derived.WalkKit
import Derived.ProofKit
import Derived.OpenShut
import Derived.ShutString
import Derived.ChangeOld
import Derived.Below
import Derived.LaidMore
import Derived.Lay
import Derived.SevenTiedAt
import Derived.Stop.Joined
import Derived.Test.YtccifbbjbnjcfaaGreatDoorZt6
import Derived.Test.YtccifbbjbnjcfaaGreatDoorZt7
set_option linter.unusedSimpArgs false
set_option linter.unusedVariables false
namespace Go.Proofs.YtccifbbjbnjcfaaGreatDoor.fnExactBookSteps
open Go.ChangeShapes Go.WideShapes Go.ChangeAt Go.RowKit
set_option linter.unusedVariables false

theorem own : ownKnob Tryz.prog.godebug = none := by kernel_rfl
theorem laidOut : laidOutB Tryz.prog = true := by kernel_rfl

theorem walk (w : World) (v0 : Value) (v1 : Value) (t0 : List BD) (h0 : C (fun _ => False) 0 w (blsA t0) v0) (q0 : t0.length ≤ maxLen ∧ ∀ d ∈ t0, BlobOk d) (k1' : Bk) (h1 : C (fun _ => False) 0 w (bkA k1') v1) (q1 : BookOk k1') :
    Calls Tryz.prog 4 #[v0, v1] w fun e w' => e = .returned (.bool true) ∧ Below w.heap.size w w' := by
  refine ((FnExactBookSteps_pc t0 (by have := q0.1; unfold maxLen at this; omega) (fun d hd => by have := q0.2 d hd; unfold BlobOk maxLen at this; exact ⟨by omega, by omega⟩) k1' (by have := q1.1; unfold maxLen at this; omega) (fun n hn => by have := q1.2 n hn; unfold maxLen at this; omega)).2 w (fun _ => False) #[v0, v1] (fun _ h => h.elim) rfl (fun j x hj => ?_)).mono ?_
  · rcases j with _ | _ | j
    · cases hj; exact h0
    · cases hj; exact h1
    · simp at hj
  · rintro e w' ⟨rv, rows, u, hd, rfl, hb, hr⟩
    exact ⟨by rw [res_bool hd hr], hb⟩

set_option maxRecDepth 100000 in
theorem lifted (os : Os) (started : os.Started) (H : Type) (enc : TypeId × Value → H) :
    ReturnsInHanded {} Tryz.checked os 4 .any (fun w args => (Rows.fnExactBookStepsSpec.pre enc Tryz.prog Tryz.f4 Rows.fnExactBookStepsRow.domain false w args ∧ laidMetH Tryz.prog Rows.fnExactBookStepsRow.laid w) ∧ sizedMet enc Tryz.prog Tryz.f4 (OpenSpec.ofChange Rows.fnExactBookStepsSpec) false w args)
      (Rows.fnExactBookStepsSpec.post enc Tryz.prog Tryz.f4 false true false false) := by
  refine returnsInHanded_of_change_and (C := Tryz.checked) (X := fun w _ => laidMetH Tryz.prog Rows.fnExactBookStepsRow.laid w) (fun _ _ _ hh h => h.of_heap hh) own started (by kernel_rfl) Tryz.func4
    (ChangeSpec.witness_shaped (enc := enc) (C := Tryz.checked) (os := os) (X := fun w _ => laidMetH Tryz.prog Rows.fnExactBookStepsRow.laid w) false (World.laidAll Tryz.prog os Rows.fnExactBookStepsRow.laid) #[.slice none 0 0, .agg #[.int .i64 0, .slice none 0 0]] 8 (World.laidAll_os _ _ _)
      (World.shaped_of_ZipB (by kernel_rfl) (by kernel_rfl)) (by kernel_rfl) (by kernel_rfl) (by kernel_rfl)
      (by rw [MakeChecks.laidMetH_plain _ _ _ (by kernel_rfl)]; exact laidMet_laidAll _ (by kernel_rfl) (by kernel_rfl))) ?_
  intro W base args ds gs before hval0 hW hcnd _ hL _
  have hval : ∀ (j : Nat) t v, Tryz.f4.params[j]? = some t → args[j]? = some v → Value.okWide Tryz.prog W .any base t v := hval0
  have hW' := hW
  obtain ⟨p, q, hA0, hV, rfl, hfz, hnd⟩ := hW
  have hA : DataW.TrodAll enc Tryz.prog W 0 (fun _ => true) true Tryz.f4.params.toList args.toList ds p := hA0
  rw [Tryz.params4] at hA hval
  obtain ⟨v0, vs0, d0, ds0, p0, q0, hargs, rfl, rfl, h0, r0⟩ := trodAll_cons hA
  obtain ⟨v1, vs1, d1, ds1, p1, q1, rfl, rfl, rfl, h1, r1⟩ := trodAll_cons r0
  obtain ⟨rfl, rfl, rfl⟩ := trodAll_nil r1
  obtain rfl : args = #[v0, v1] := by cases args; simp_all
  obtain ⟨rfl, rfl⟩ := trodVars_none hV
  obtain ⟨a0, len0, cap0, rfl⟩ := okWide_slice Tryz.underlying22 (hval 0 22 v0 rfl rfl)
  have k0 := h0
  have lt0 : ∀ x ∈ p0, x.block < W.heap.size := by obtain ⟨m, hm⟩ := k0; exact DataW.trod_lt m _ _ _ hm
  obtain ⟨t0, hC0, b0⟩ : ∃ t : List BD, C (fun _ => False) 0 W (blsA t) (.slice a0 len0 cap0) ∧ (t.length ≤ maxLen ∧ ∀ d ∈ t, BlobOk d) := by
    obtain ⟨fuel, hf⟩ := h0
    obtain ⟨t, v, e, hC, b1, b2⟩ := open_blobs (fun _ _ h => h) hf
    have e' : [Value.slice a0 len0 cap0] = [v] := e
    cases e'
    exact ⟨t, hC, ⟨b1, b2⟩⟩
  obtain ⟨cs1, rfl, _⟩ := okWide_struct Tryz.underlying42 (hval 1 42 v1 rfl rfl)
  have k1 := h1
  have lt1 : ∀ x ∈ p1, x.block < W.heap.size := by obtain ⟨m, hm⟩ := k1; exact DataW.trod_lt m _ _ _ hm
  obtain ⟨k1', hC1, b1⟩ : ∃ b : Bk, C (fun _ => False) 0 W (bkA b) (.agg cs1) ∧ BookOk b := by
    obtain ⟨fuel, hf⟩ := h1
    exact open_book (fun _ _ h => h) hf
  clear hA0 hval0
  refine (walk W (.slice a0 len0 cap0) (.agg cs1) t0 hC0 b0 k1' hC1 b1).mono fun e W' ⟨he, bel⟩ => ?_
  subst he
  exact ⟨_, rfl, _, _, _, [], _, [], hW', trodAll_mk1 (shut_bool Tryz.underlying4 _), (trodAll_cons_mk (Below.trod laidOut (by kernel_rfl) (of_decide_eq_true (by kernel_rfl)) k0 bel lt0) (trodAll_cons_mk (Below.trod laidOut (by kernel_rfl) (of_decide_eq_true (by kernel_rfl)) k1 bel lt1) trodAll_mk0)), rfl, bel.frame _, fun h => by cases h⟩

set_option maxHeartbeats 4000000 in
theorem closedFacts : joinedFacts Tryz.prog 4 Tryz.f4 Rows.fnExactBookStepsSpec Rows.fnExactBookStepsRow = true := by
  unfold joinedFacts
  repeat' (with_reducible refine Bool.and_eq_true_iff.2 ⟨?_, ?_⟩)
  all_goals as_aux_lemma => kernel_rfl

theorem over : Rows.fnExactBookStepsRow.holds Tryz.pinned (OpenSpec.ofChange Rows.fnExactBookStepsSpec) :=
  OpenClaim.holds_of_wide 4 Tryz.f4 rfl rfl rfl rfl rfl rfl rfl ⟨rfl, rfl, rfl, rfl, rfl⟩ rfl rfl rfl rfl rfl (by kernel_rfl) Tryz.func4 closedFacts
    (of_decide_eq_true (by kernel_rfl)) (by unfold Func.isWrapper; first | (rw [if_pos (by decide +kernel)]; kernel_rfl) | (rw [if_neg (by decide +kernel)]; exact ⟨rfl, rfl⟩))
    (fun os started H enc _ => lifted os started H enc)

theorem said : Rows.FnExactBookStepsSaid := over
set_option maxHeartbeats 4000000 in
theorem proved : Rows.FnExactBookStepsCardSaid :=
  Claim7.holds_tied_plain_at .later [] [.data, .pinned] true (true, "fd71152eef789a189859e6ecbc9208be410a6fc5e31158a10c38eebd36fd34e0") false said (fun _ h => by cases h) (by as_aux_lemma => kernel_rfl) (fun _ h => by cases h) fnExactBookSteps_row_tie rfl ⟨rfl, rfl⟩ (by as_aux_lemma => kernel_rfl) rfl
    (fun f fn hf hfn => by
      obtain rfl : f = 4 := Option.some.inj ((show Tryz.prog.funcNamed Rows.fnExactBookStepsRow.func = some 4 by as_aux_lemma => kernel_rfl).symm.trans hf) |>.symm
      obtain rfl : fn = Tryz.f4 := (Option.some.inj (Tryz.func4.symm.trans hfn)).symm
      exact ⟨by as_aux_lemma => kernel_rfl, fun j t ht => by
        rw [Tryz.params4] at ht
        have hm : t ∈ [22, 42] := by simpa using Array.mem_of_getElem? ht
        have hall : ([22, 42].all fun u => !Tryz.prog.wantsStandIn u) = true := by as_aux_lemma => kernel_rfl
        exact (show Tryz.prog.wantsStandIn t = false by simpa using List.all_eq_true.1 hall t hm)⟩)
    (by as_aux_lemma => kernel_rfl)
#print axioms proved
end Go.Proofs.YtccifbbjbnjcfaaGreatDoor.fnExactBookSteps
