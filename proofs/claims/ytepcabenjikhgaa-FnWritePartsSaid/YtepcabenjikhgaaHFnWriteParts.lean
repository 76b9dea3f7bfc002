/- The law FnWriteParts returns true whatever it is handed, and writes nothing that was there: no condition. -/
import Derived.Test.YtepcabenjikhgaaRows
import Derived.WalkKit
import Derived.ProofKit
import Derived.OpenShut
import Derived.ShutString
import Derived.ChangeOld
import Derived.Below
import Derived.Lay
import Derived.Stop.Joined
import Derived.Test.YtepcabenjikhgaaZt5
import Derived.Test.YtepcabenjikhgaaVFnWritePartsM
set_option linter.unusedSimpArgs false
set_option linter.unusedVariables false
namespace Go.Proofs.Ytepcabenjikhgaa.fnWriteParts
open Go.ChangeShapes Go.WideShapes Go.ChangeAt Go.RowKit
set_option linter.unusedVariables false

theorem own : ownKnob Try.prog.godebug = none := by kernel_rfl
theorem laidOut : laidOutB Try.prog = true := by kernel_rfl

theorem walk (w : World) (v0 : Value) (v1 : Value) (z0 : List Int) (cap0 : Nat) (h0 : C (fun _ => False) 0 w (byA z0) v0) (q0 : BytesOk z0) (z1 : List Int) (cap1 : Nat) (h1 : C (fun _ => False) 0 w (byA z1) v1) (q1 : BytesOk z1) :
    Calls Try.prog 5 #[v0, v1] w fun e w' => e = .returned (.bool true) ∧ Below w.heap.size w w' := by
  refine ((FnWriteParts_pc z0 q0 z1 q1).2 w (fun _ => False) #[v0, v1] (fun _ h => h.elim) rfl (fun j x hj => ?_)).mono ?_
  · rcases j with _ | _ | j
    · cases hj; exact h0
    · cases hj; exact h1
    · simp at hj
  · rintro e w' ⟨rv, rows, u, hd, rfl, hb, hr⟩
    exact ⟨by rw [res_bool hd hr], hb⟩

set_option maxRecDepth 100000 in
theorem lifted (os : Os) (started : os.Started) (H : Type) (enc : TypeId × Value → H) :
    ReturnsInHanded {} Try.checked os 5 .any (Rows.fnWritePartsSpec.pre6 enc Try.prog Try.f5 Rows.fnWritePartsRow.domain false) (Rows.fnWritePartsSpec.post enc Try.prog Try.f5 false true false false) := by
  refine returnsInHanded_of_change (C := Try.checked) own started (by kernel_rfl) Try.func5
    (ChangeSpec.witness6 (enc := enc) (C := Try.checked) false ⟨#[], #[.slice none 0 0, .slice none 0 0], []⟩ 8 (by kernel_rfl) (by kernel_rfl) (by kernel_rfl) (by kernel_rfl)) ?_
  intro W base args ds gs before hval0 hW hcnd _
  have hval : ∀ (j : Nat) t v, Try.f5.params[j]? = some t → args[j]? = some v → Value.okWide Try.prog W .any base t v := hval0
  have hW' := hW
  obtain ⟨p, q, hA0, hV, rfl, hfz, hnd⟩ := hW
  have hA : DataW.TrodAll enc Try.prog W 0 (fun _ => true) true Try.f5.params.toList args.toList ds p := hA0
  rw [Try.params5] at hA hval
  obtain ⟨v0, vs0, d0, ds0, p0, q0, hargs, rfl, rfl, h0, r0⟩ := trodAll_cons hA
  obtain ⟨v1, vs1, d1, ds1, p1, q1, rfl, rfl, rfl, h1, r1⟩ := trodAll_cons r0
  obtain ⟨rfl, rfl, rfl⟩ := trodAll_nil r1
  obtain rfl : args = #[v0, v1] := by cases args; simp_all
  obtain ⟨rfl, rfl⟩ := trodVars_none hV
  obtain ⟨a0, len0, cap0, rfl⟩ := okWide_slice Try.underlying37 (hval 0 37 v0 rfl rfl)
  have k0 := h0
  have lt0 : ∀ x ∈ p0, x.block < W.heap.size := by obtain ⟨m, hm⟩ := k0; exact DataW.trod_lt m _ _ _ hm
  obtain ⟨z0, hC0, b0⟩ : ∃ z : List Int, C (fun _ => False) 0 W (byA z) (.slice a0 len0 cap0) ∧ BytesOk z := by
    obtain ⟨fuel, hf⟩ := h0
    exact open_bytes (fun _ _ h => h) hf
  obtain ⟨a1, len1, cap1, rfl⟩ := okWide_slice Try.underlying37 (hval 1 37 v1 rfl rfl)
  have k1 := h1
  have lt1 : ∀ x ∈ p1, x.block < W.heap.size := by obtain ⟨m, hm⟩ := k1; exact DataW.trod_lt m _ _ _ hm
  obtain ⟨z1, hC1, b1⟩ : ∃ z : List Int, C (fun _ => False) 0 W (byA z) (.slice a1 len1 cap1) ∧ BytesOk z := by
    obtain ⟨fuel, hf⟩ := h1
    exact open_bytes (fun _ _ h => h) hf
  clear hA0 hval0
  refine (walk W (.slice a0 len0 cap0) (.slice a1 len1 cap1) z0 cap0 hC0 b0 z1 cap1 hC1 b1).mono fun e W' ⟨he, bel⟩ => ?_
  subst he
  exact ⟨_, rfl, _, _, _, [], _, [], hW', trodAll_mk1 (shut_bool Try.underlying4 _), (trodAll_cons_mk (Below.trod laidOut (by kernel_rfl) (of_decide_eq_true (by kernel_rfl)) k0 bel lt0) (trodAll_cons_mk (Below.trod laidOut (by kernel_rfl) (of_decide_eq_true (by kernel_rfl)) k1 bel lt1) trodAll_mk0)), rfl, bel.frame _, fun h => by cases h⟩

theorem over : Rows.fnWritePartsRow.holds Try.pinned (OpenSpec.ofChange Rows.fnWritePartsSpec) :=
  OpenClaim.holds_of_wide 5 Try.f5 rfl rfl rfl rfl rfl rfl rfl ⟨rfl, rfl, rfl, rfl, rfl⟩ rfl rfl rfl rfl rfl (by kernel_rfl) Try.func5 (by kernel_rfl)
    (of_decide_eq_true (by kernel_rfl)) (by unfold Func.isWrapper; first | (rw [if_pos (by decide +kernel)]; kernel_rfl) | (rw [if_neg (by decide +kernel)]; exact ⟨rfl, rfl⟩))
    (fun os started H enc _ => lifted os started H enc)

theorem proved : Rows.FnWritePartsSaid := over
#print axioms proved
end Go.Proofs.Ytepcabenjikhgaa.fnWriteParts
