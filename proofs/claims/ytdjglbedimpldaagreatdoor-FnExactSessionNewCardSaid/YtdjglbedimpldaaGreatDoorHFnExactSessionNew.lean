/- The law FnExactSessionNew returns true whatever it is handed, and writes nothing that was there: no condition beyond the card's own (the tables of unicode/utf8 that it lists are tied to the program's text). -/
import Derived.Test.YtdjglbedimpldaaGreatDoorRows
import Derived.Test.YtdjglbedimpldaaGreatDoorCards
import Derived.Test.YtdjglbedimpldaaGreatDoorTie
import Derived.WalkKit
import Derived.ProofKit
import Derived.OpenShut
import Derived.ShutString
import Derived.ChangeOld
import Derived.Below
import Derived.LaidMore
import Derived.Lay
import Derived.SevenTiedAt
import Derived.Stop.Joined
import Derived.Test.YtdjglbedimpldaaGreatDoorZx4
import Derived.Test.YtdjglbedimpldaaGreatDoorVFnExactSessionNewM
set_option linter.unusedSimpArgs false
set_option linter.unusedVariables false
namespace Go.Proofs.YtdjglbedimpldaaGreatDoor.fnExactSessionNew
open Go.ChangeShapes Go.WideShapes Go.ChangeAt Go.RowKit
set_option linter.unusedVariables false

theorem own : ownKnob Tryz.prog.godebug = none := by kernel_rfl
theorem laidOut : laidOutB Tryz.prog = true := by kernel_rfl

theorem walk (w : World) (v0 : Value) (v1 : Value) (s0 : St) (h0 : C (fun _ => False) 0 w (stA' s0) v0) (q0 : SiteOk s0) (s1 : St) (h1 : C (fun _ => False) 0 w (stA' s1) v1) (q1 : SiteOk s1) :
    Calls Tryz.prog 10 #[v0, v1] w fun e w' => e = .returned (.bool true) ∧ Below w.heap.size w w' := by
  refine ((FnExactSessionNew_pc s0 q0 s1 q1).2 w (fun _ => False) #[v0, v1] (fun _ h => h.elim) rfl (fun j x hj => ?_)).mono ?_
  · rcases j with _ | _ | j
    · cases hj; exact h0
    · cases hj; exact h1
    · simp at hj
  · rintro e w' ⟨rv, rows, u, hd, rfl, hb, hr⟩
    exact ⟨by rw [res_bool hd hr], hb⟩

set_option maxRecDepth 100000 in
theorem lifted (os : Os) (started : os.Started) (H : Type) (enc : TypeId × Value → H) :
    ReturnsInHanded {} Tryz.checked os 10 .any (fun w args => (Rows.fnExactSessionNewSpec.pre enc Tryz.prog Tryz.f10 Rows.fnExactSessionNewRow.domain false w args ∧ laidMetH Tryz.prog Rows.fnExactSessionNewRow.laid w) ∧ sizedMet enc Tryz.prog Tryz.f10 (OpenSpec.ofChange Rows.fnExactSessionNewSpec) false w args)
      (Rows.fnExactSessionNewSpec.post enc Tryz.prog Tryz.f10 false true false false) := by
  refine returnsInHanded_of_change_and (C := Tryz.checked) (X := fun w _ => laidMetH Tryz.prog Rows.fnExactSessionNewRow.laid w) (fun _ _ _ hh h => h.of_heap hh) own started (by kernel_rfl) Tryz.func10
    (ChangeSpec.witness_shaped (enc := enc) (C := Tryz.checked) (os := os) (X := fun w _ => laidMetH Tryz.prog Rows.fnExactSessionNewRow.laid w) false (World.laidAll Tryz.prog os Rows.fnExactSessionNewRow.laid) #[.agg #[.int .i64 0, .slice none 0 0, .slice none 0 0], .agg #[.int .i64 0, .slice none 0 0, .slice none 0 0]] 8 (World.laidAll_os _ _ _)
      (World.shaped_of_ZipB (by kernel_rfl) (by kernel_rfl)) (by kernel_rfl) (by kernel_rfl) (by kernel_rfl)
      (by rw [MakeChecks.laidMetH_plain _ _ _ (by kernel_rfl)]; exact laidMet_laidAll _ (by kernel_rfl) (by kernel_rfl))) ?_
  intro W base args ds gs before hval0 hW hcnd _ hL _
  have hval : ∀ (j : Nat) t v, Tryz.f10.params[j]? = some t → args[j]? = some v → Value.okWide Tryz.prog W .any base t v := hval0
  have hW' := hW
  obtain ⟨p, q, hA0, hV, rfl, hfz, hnd⟩ := hW
  have hA : DataW.TrodAll enc Tryz.prog W 0 (fun _ => true) true Tryz.f10.params.toList args.toList ds p := hA0
  rw [Tryz.params10] at hA hval
  obtain ⟨v0, vs0, d0, ds0, p0, q0, hargs, rfl, rfl, h0, r0⟩ := trodAll_cons hA
  obtain ⟨v1, vs1, d1, ds1, p1, q1, rfl, rfl, rfl, h1, r1⟩ := trodAll_cons r0
  obtain ⟨rfl, rfl, rfl⟩ := trodAll_nil r1
  obtain rfl : args = #[v0, v1] := by cases args; simp_all
  obtain ⟨rfl, rfl⟩ := trodVars_none hV
  obtain ⟨cs0, rfl, _⟩ := okWide_struct Tryz.underlying38 (hval 0 38 v0 rfl rfl)
  have k0 := h0
  have lt0 : ∀ x ∈ p0, x.block < W.heap.size := by obtain ⟨m, hm⟩ := k0; exact DataW.trod_lt m _ _ _ hm
  obtain ⟨s0, hC0, b0⟩ : ∃ s : St, C (fun _ => False) 0 W (stA' s) (.agg cs0) ∧ SiteOk s := by
    obtain ⟨fuel, hf⟩ := h0
    exact open_site (fun _ _ h => h) hf
  obtain ⟨cs1, rfl, _⟩ := okWide_struct Tryz.underlying38 (hval 1 38 v1 rfl rfl)
  have k1 := h1
  have lt1 : ∀ x ∈ p1, x.block < W.heap.size := by obtain ⟨m, hm⟩ := k1; exact DataW.trod_lt m _ _ _ hm
  obtain ⟨s1, hC1, b1⟩ : ∃ s : St, C (fun _ => False) 0 W (stA' s) (.agg cs1) ∧ SiteOk s := by
    obtain ⟨fuel, hf⟩ := h1
    exact open_site (fun _ _ h => h) hf
  clear hA0 hval0
  refine (walk W (.agg cs0) (.agg cs1) s0 hC0 b0 s1 hC1 b1).mono fun e W' ⟨he, bel⟩ => ?_
  subst he
  exact ⟨_, rfl, _, _, _, [], _, [], hW', trodAll_mk1 (shut_bool Tryz.underlying4 _), (trodAll_cons_mk (Below.trod laidOut (by kernel_rfl) (of_decide_eq_true (by kernel_rfl)) k0 bel lt0) (trodAll_cons_mk (Below.trod laidOut (by kernel_rfl) (of_decide_eq_true (by kernel_rfl)) k1 bel lt1) trodAll_mk0)), rfl, bel.frame _, fun h => by cases h⟩

set_option maxHeartbeats 4000000 in
theorem closedFacts : joinedFacts Tryz.prog 10 Tryz.f10 Rows.fnExactSessionNewSpec Rows.fnExactSessionNewRow = true := by
  unfold joinedFacts
  repeat' (with_reducible refine Bool.and_eq_true_iff.2 ⟨?_, ?_⟩)
  all_goals as_aux_lemma => kernel_rfl

theorem over : Rows.fnExactSessionNewRow.holds Tryz.pinned (OpenSpec.ofChange Rows.fnExactSessionNewSpec) :=
  OpenClaim.holds_of_wide 10 Tryz.f10 rfl rfl rfl rfl rfl rfl rfl ⟨rfl, rfl, rfl, rfl, rfl⟩ rfl rfl rfl rfl rfl (by kernel_rfl) Tryz.func10 closedFacts
    (of_decide_eq_true (by kernel_rfl)) (by unfold Func.isWrapper; first | (rw [if_pos (by decide +kernel)]; kernel_rfl) | (rw [if_neg (by decide +kernel)]; exact ⟨rfl, rfl⟩))
    (fun os started H enc _ => lifted os started H enc)

theorem said : Rows.FnExactSessionNewSaid := over
set_option maxHeartbeats 4000000 in
theorem proved : Rows.FnExactSessionNewCardSaid :=
  Claim7.holds_tied_plain_at .later [] [.data, .pinned] true (true, "d3524e3f020777a113cdcdf23adb35a3168228aafe4fb8f956b37181560eba74") false said (fun _ h => by cases h) (by as_aux_lemma => kernel_rfl) (fun _ h => by cases h) fnExactSessionNew_row_tie rfl ⟨rfl, rfl⟩ (by as_aux_lemma => kernel_rfl) rfl
    (fun f fn hf hfn => by
      obtain rfl : f = 10 := Option.some.inj ((show Tryz.prog.funcNamed Rows.fnExactSessionNewRow.func = some 10 by as_aux_lemma => kernel_rfl).symm.trans hf) |>.symm
      obtain rfl : fn = Tryz.f10 := (Option.some.inj (Tryz.func10.symm.trans hfn)).symm
      exact ⟨by as_aux_lemma => kernel_rfl, fun j t ht => by
        rw [Tryz.params10] at ht
        have hm : t ∈ [38, 38] := by simpa using Array.mem_of_getElem? ht
        have hall : ([38, 38].all fun u => !Tryz.prog.wantsStandIn u) = true := by as_aux_lemma => kernel_rfl
        exact (show Tryz.prog.wantsStandIn t = false by simpa using List.all_eq_true.1 hall t hm)⟩)
    (by as_aux_lemma => kernel_rfl)
#print axioms proved
end Go.Proofs.YtdjglbedimpldaaGreatDoor.fnExactSessionNew
