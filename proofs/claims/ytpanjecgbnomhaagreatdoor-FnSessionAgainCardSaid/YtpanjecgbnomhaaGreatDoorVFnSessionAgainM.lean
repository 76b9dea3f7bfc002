/- A part of the proof of FnSessionAgain: texts VFnSessionAgain. -/
import Derived.Test.YtpanjecgbnomhaaGreatDoorG5
import Derived.Test.YtpanjecgbnomhaaGreatDoorG7
set_option linter.unusedSimpArgs false
set_option linter.unusedVariables false
/-
  Walks: FnSessionAgain.
-/
namespace Go.Proofs.YtpanjecgbnomhaaGreatDoor
open Go Go.RowKit Go.Proofs
attribute [local irreducible] RWp AW run kPe pe Kt effA gd gu br retR RDp runD kPeD brW gW effD
set_option maxRecDepth 100000
theorem FnSessionAgain_pc (z : List Int) (hz : BytesOk z) : PC Tryz.prog 8 [byA z] (vB true) := by
  refine pc_enter Tryz.func8 rfl rfl fun w0 fb => go_on ?_; (try simp only [Tryz.ntmps8, push_cast, simprocAttr])
  refine at_b (fun hb => ?_) (fun hb => ?_)
  · (try simp only [hb, push_cast, simprocAttr])
    refine at_ret ?_; simp only [Tryz.results8, push_cast, simprocAttr]
    simp [vX]
  · (try simp only [hb, push_cast, simprocAttr])
    refine call_share (by simp [isC]) (DrawSessionRun_pc z hz) ?_
    rintro rv rows ⟨a, b, ha, hb', rfl, rfl⟩
    have hma := ha.sm
    have hmb := hb'.sm
    have hD := SessionRun_e a b hma hmb
    have hE := specSessionRun_e a b hma hmb
    have hsx := rA_sm a b
    have hsy := rB_sm a b
    have hS1 := sameSite_pc (rA a b) (rA a b) hsx.c1 hsx.c2
    have hS2 := sameSite_pc (rB a b) (rB a b) hsy.c1 hsy.c2
    rw [decide_eq_true rfl] at hS1 hS2
    obtain ⟨x, hx⟩ : ∃ x, x = rA a b := ⟨_, rfl⟩
    obtain ⟨y, hy⟩ : ∃ y, y = rB a b := ⟨_, rfl⟩
    obtain ⟨ok, hok⟩ : ∃ ok, ok = (sRun a b).isSome := ⟨_, rfl⟩
    rw [← hx, ← hy, ← hok] at hD hE
    rw [← hx] at hS1 hsx
    rw [← hy] at hS2 hsy
    unfold stA' stC at hD hE hS1 hS2 ⊢
    refine ⟨by simp [frB, baseOf], go_on ?_⟩
    (try simp only [push_cast, simprocAttr])
    ((try simp only [push_cast, simprocAttr]); refine at_share2 (by simp [isC2, isC]) (by first | rfl | simp [ren]) (hD) (go_on ?_); (try simp only [push_cast, simprocAttr]))
    ((try simp only [push_cast, simprocAttr]); refine at_share2 (by simp [isC2, isC]) (by first | rfl | simp [ren]) (hE) (go_on ?_); (try simp only [push_cast, simprocAttr]))
    have b1 : (!(ok == ok)) = false := by simp
    have b2 : (ok == ok) = true := by simp
    (try simp only [b1, push_cast, simprocAttr])
    (refine at_call ?_; (try simp only [push_cast, simprocAttr]); refine rwc_v (hS1) (go_on ?_); (try simp only [push_cast, simprocAttr]))
    (try simp only [Bool.not_true, push_cast, simprocAttr])
    (refine at_call ?_; (try simp only [push_cast, simprocAttr]); refine rwc_v (hS2) (go_on ?_); (try simp only [push_cast, simprocAttr]))
    (try simp only [Bool.not_true, push_cast, simprocAttr])
    cases ok with
    | false =>
      (try simp only [Bool.not_false, push_cast, simprocAttr])
      (try simp only [b2, push_cast, simprocAttr])
      (refine at_call ?_; (try simp only [push_cast, simprocAttr]); refine rwc_v (hS1) (go_on ?_); (try simp only [push_cast, simprocAttr]))
      (refine at_call ?_; (try simp only [push_cast, simprocAttr]); refine rwc_v (hS2) (go_on ?_); (try simp only [push_cast, simprocAttr]))
      refine at_ret ?_; simp only [Tryz.results8, push_cast, simprocAttr]
      simp [vX]
    | true =>
      obtain ⟨⟨x', y'⟩, hr⟩ := Option.isSome_iff_exists.1 hok.symm
      rw [rA_some hr] at hx
      rw [rB_some hr] at hy
      subst hx
      subst hy
      have hT := SessionRun_e x y hsx hsy
      have hpx := rA_sm x y
      have hqx := rB_sm x y
      have hTx := SiteTree_d x hsx
      have hTy := SiteTree_d y hsy
      cases h2 : sRun x y with
      | none =>
        rw [h2] at hT
        simp only [Option.isSome_none] at hT
        obtain ⟨p, hp⟩ : ∃ p, p = rA x y := ⟨_, rfl⟩
        obtain ⟨q, hq⟩ : ∃ q, q = rB x y := ⟨_, rfl⟩
        rw [← hp, ← hq] at hT
        unfold stA' stC at hT
        (try simp only [Bool.not_true, push_cast, simprocAttr])
        ((try simp only [push_cast, simprocAttr]); refine at_share2 (by simp [isC2, isC]) (by first | rfl | simp [ren]) (hT) (go_on ?_); (try simp only [push_cast, simprocAttr]))
        refine at_draw rfl (by kernel_rfl) ?_; simp only [push_cast, simprocAttr]
        (try simp only [Bool.not_false, push_cast, simprocAttr])
        refine at_done (by kernel_rfl) (by kernel_rfl) (go_on ?_)
        (try simp only [push_cast, simprocAttr])
        refine at_ret ?_; simp only [Tryz.results8, push_cast, simprocAttr]
        simp [vX]
      | some pq =>
        obtain ⟨p, q⟩ := pq
        obtain ⟨e1, e2, e3, e4, e5⟩ := law_sessionAgain hr h2
        rw [rA_some h2, rB_some h2, h2] at hT
        rw [rA_some h2] at hpx
        rw [rB_some h2] at hqx
        simp only [Option.isSome_some] at hT
        have hTp := SiteTree_d p hpx
        have hTq := SiteTree_d q hqx
        rw [e1] at hTp
        rw [e2] at hTq
        have hN1 := sameNodes_pc (siteT x) (siteT x) (siteT_sm hsx).n'
        have hN2 := sameNodes_pc (siteT y) (siteT y) (siteT_sm hsy).n'
        have hN3 := sameNodes_pc p.base x.base hpx.c1
        have hL1 := sameLog_pc p.log x.log hpx.c2
        have hL2 := sameLog_pc q.log y.log hqx.c2
        rw [decide_eq_true rfl] at hN1 hN2
        rw [decide_eq_true e5] at hN3
        rw [decide_eq_true e3] at hL1
        rw [decide_eq_true e4] at hL2
        unfold stA' stC at hT hTp hTq hTx hTy
        (try simp only [Bool.not_true, push_cast, simprocAttr])
        ((try simp only [push_cast, simprocAttr]); refine at_share2 (by simp [isC2, isC]) (by first | rfl | simp [ren]) (hT) (go_on ?_); (try simp only [push_cast, simprocAttr]))
        refine at_draw rfl (by kernel_rfl) ?_; simp only [push_cast, simprocAttr]
        (try simp only [Bool.not_true, push_cast, simprocAttr])
        (refine at_shareD (by simp [isC2, isC]) (by first | rfl | simp [ren]) hTp ?_; (try simp only [push_cast, simprocAttr]))
        (refine at_shareD (by simp [isC2, isC]) (by first | rfl | simp [ren]) hTx ?_; (try simp only [push_cast, simprocAttr]))
        repeat' first | (refine at_bWn (fun hb => ?_) (fun hb => ?_) <;> simp only [hb, push_cast, simprocAttr]) | (refine at_bW (fun hb => ?_) (fun hb => ?_) <;> simp only [hb, push_cast, simprocAttr]) | (refine at_callD (by simp [clB, idsL, idsA, hget]) ?_; (try simp only [push_cast, simprocAttr]); first | (refine rcd_v (hN1) ?_; simp only [push_cast, simprocAttr]) | (refine rcd_d (hN1) (by simp [flatV, flatL, ctC, ndC, cmC]) (by simp [ren, ctC, ndC, cmC]) ?_; simp only [push_cast, simprocAttr])) | (refine at_done (by kernel_rfl) (by kernel_rfl) (go_on ?_); (try simp only [push_cast, simprocAttr]))
        (refine at_shareD (by simp [isC2, isC]) (by first | rfl | simp [ren]) hTq ?_; (try simp only [push_cast, simprocAttr]))
        (refine at_shareD (by simp [isC2, isC]) (by first | rfl | simp [ren]) hTy ?_; (try simp only [push_cast, simprocAttr]))
        repeat' first | (refine at_bWn (fun hb => ?_) (fun hb => ?_) <;> simp only [hb, push_cast, simprocAttr]) | (refine at_bW (fun hb => ?_) (fun hb => ?_) <;> simp only [hb, push_cast, simprocAttr]) | (refine at_callD (by simp [clB, idsL, idsA, hget]) ?_; (try simp only [push_cast, simprocAttr]); first | (refine rcd_v (hN2) ?_; simp only [push_cast, simprocAttr]) | (refine rcd_d (hN2) (by simp [flatV, flatL, ctC, ndC, cmC]) (by simp [ren, ctC, ndC, cmC]) ?_; simp only [push_cast, simprocAttr]) | (refine rcd_v (hL1) ?_; simp only [push_cast, simprocAttr]) | (refine rcd_d (hL1) (by simp [flatV, flatL, ctC, ndC, cmC]) (by simp [ren, ctC, ndC, cmC]) ?_; simp only [push_cast, simprocAttr]) | (refine rcd_v (hL2) ?_; simp only [push_cast, simprocAttr]) | (refine rcd_d (hL2) (by simp [flatV, flatL, ctC, ndC, cmC]) (by simp [ren, ctC, ndC, cmC]) ?_; simp only [push_cast, simprocAttr]) | (refine rcd_v (hN3) ?_; simp only [push_cast, simprocAttr]) | (refine rcd_d (hN3) (by simp [flatV, flatL, ctC, ndC, cmC]) (by simp [ren, ctC, ndC, cmC]) ?_; simp only [push_cast, simprocAttr])) | (refine at_done (by kernel_rfl) (by kernel_rfl) (go_on ?_); (try simp only [push_cast, simprocAttr]))
        refine at_ret ?_; simp only [Tryz.results8, push_cast, simprocAttr]
        simp [vX]
end Go.Proofs.YtpanjecgbnomhaaGreatDoor
