/- A part of the proof of FnSessionClashes: texts VFnSessionClashes. -/
import Derived.Test.YtpanjecgbnomhaaGreatDoorG5
import Derived.Test.YtpanjecgbnomhaaGreatDoorG7
set_option linter.unusedSimpArgs false
set_option linter.unusedVariables false
/-
  Walks: FnSessionClashes.
-/
namespace Go.Proofs.YtpanjecgbnomhaaGreatDoor
open Go Go.RowKit Go.Proofs
attribute [local irreducible] RWp AW run kPe pe Kt effA gd gu br retR RDp runD kPeD brW gW effD
set_option maxRecDepth 100000
theorem FnSessionClashes_pc (z : List Int) (hz : BytesOk z) : PC Tryz.prog 3 [byA z] (vB true) := by
  refine pc_enter Tryz.func3 rfl rfl fun w0 fb => go_on ?_; (try simp only [Tryz.ntmps3, push_cast, simprocAttr])
  refine at_b (fun hb => ?_) (fun hb => ?_)
  · (try simp only [hb, push_cast, simprocAttr])
    refine at_ret ?_; simp only [Tryz.results3, push_cast, simprocAttr]
    simp [vX]
  · (try simp only [hb, push_cast, simprocAttr])
    refine call_share (by simp [isC]) (DrawSessionClashes_pc z hz) ?_
    rintro rv rows ⟨a, b, ha, hb', rfl, rfl⟩
    have hma := ha.sm
    have hmb := hb'.sm
    have hD := SessionClashes_pc a b hma hmb
    have hE := specSessionClashes_pc a b hma hmb
    have hT := SessionClashes_pc b a hmb hma
    rw [← law_clashes a b] at hT
    have hA := SiteCanon_d a hma
    have hB := SiteCanon_d b hmb
    have hC := ClashesOf_d (siteC a) (siteC b) (siteC_sm a) (siteC_sm b)
    have hn : sCl a b = -1 ∨ sCl a b = ((clOf (siteC a) (siteC b)).length : Int) := by
      unfold sCl
      split
      · exact .inr rfl
      · exact .inl rfl
    obtain ⟨n, hnn⟩ : ∃ n, n = sCl a b := ⟨_, rfl⟩
    rw [← hnn] at hD hE hT hn
    unfold stA' stC at hD hE hT hA hB ⊢
    refine ⟨by simp [frB, baseOf], go_on ?_⟩
    (try simp only [push_cast, simprocAttr])
    (refine at_call ?_; (try simp only [push_cast, simprocAttr]); refine rwc_v (hD) (go_on ?_); (try simp only [push_cast, simprocAttr]))
    (refine at_call ?_; (try simp only [push_cast, simprocAttr]); refine rwc_v (hE) (go_on ?_); (try simp only [push_cast, simprocAttr]))
    have e0 : eqI n n = true := eqI_t rfl
    (try simp only [e0, Bool.not_true, push_cast, simprocAttr])
    rcases hn with hn | hn
    · have i1 : ltI n 0 = true := ltI_t (by omega)
      (try simp only [i1, e0, push_cast, simprocAttr])
      refine at_ret ?_; simp only [Tryz.results3, push_cast, simprocAttr]
      simp [vX]
    · have i1 : ltI n 0 = false := ltI_f (by omega)
      have e1 : eqI n ((clOf (siteC a) (siteC b)).length : Int) = true := eqI_t hn
      (try simp only [i1, push_cast, simprocAttr])
      refine at_draw rfl (by kernel_rfl) ?_; simp only [push_cast, simprocAttr]
      (refine at_shareD (by simp [isC2, isC]) (by first | rfl | simp [ren]) hA ?_; (try simp only [push_cast, simprocAttr]))
      (refine at_shareD (by simp [isC2, isC]) (by first | rfl | simp [ren]) hB ?_; (try simp only [push_cast, simprocAttr]))
      (refine at_shareD (by simp [isC2, isC]) (by first | rfl | simp [ren]) hC ?_; (try simp only [push_cast, simprocAttr]))
      (try simp only [e1, List.length_map, push_cast, simprocAttr])
      repeat' first | (refine at_bWn (fun hb => ?_) (fun hb => ?_) <;> simp only [e0, e1, hb, push_cast, simprocAttr]) | (refine at_bW (fun hb => ?_) (fun hb => ?_) <;> simp only [e0, e1, hb, push_cast, simprocAttr]) | (refine at_callD (by simp [clB, idsL, idsA, hget]) ?_; (try simp only [push_cast, simprocAttr]); first | (refine rcd_v (hT) ?_; simp only [e0, e1, push_cast, simprocAttr]) | (refine rcd_d (hT) (by simp [flatV, flatL, ctC, ndC, cmC]) (by simp [ren, ctC, ndC, cmC]) ?_; simp only [e0, e1, push_cast, simprocAttr])) | (refine at_done (by kernel_rfl) (by kernel_rfl) (go_on ?_); (try simp only [e0, e1, push_cast, simprocAttr]))
      refine at_ret ?_; simp only [Tryz.results3, push_cast, simprocAttr]
      simp [vX]
end Go.Proofs.YtpanjecgbnomhaaGreatDoor
