/- A part of the proof of FnSessionSame: texts VFnSessionSame. -/
import Derived.Test.YtpanjecgbnomhaaGreatDoorG5
import Derived.Test.YtpanjecgbnomhaaGreatDoorG7
set_option linter.unusedSimpArgs false
set_option linter.unusedVariables false
/-
  Walks: FnSessionSame.
-/
namespace Go.Proofs.YtpanjecgbnomhaaGreatDoor
open Go Go.RowKit Go.Proofs
attribute [local irreducible] RWp AW run kPe pe Kt effA gd gu br retR RDp runD kPeD brW gW effD
set_option maxRecDepth 100000
theorem FnSessionSame_pc (z : List Int) (hz : BytesOk z) : PC Tryz.prog 12 [byA z] (vB true) := by
  refine pc_enter Tryz.func12 rfl rfl fun w0 fb => go_on ?_; (try simp only [Tryz.ntmps12, push_cast, simprocAttr])
  refine at_b (fun hb => ?_) (fun hb => ?_)
  · (try simp only [hb, push_cast, simprocAttr])
    refine at_ret ?_; simp only [Tryz.results12, push_cast, simprocAttr]
    simp [vX]
  · (try simp only [hb, push_cast, simprocAttr])
    refine call_share (by simp [isC]) (DrawSessionRun_pc z hz) ?_
    rintro rv rows ⟨a, b, ha, hb', rfl, rfl⟩
    have hma := ha.sm
    have hmb := hb'.sm
    have hD := SessionRun_e a b hma hmb
    have hE := specSessionRun_e a b hma hmb
    have hsx := rA_sm a b
    have hsy := rB_sm a b
    have hS1 := sameSite_pc (rA a b) (rA a b) hsx.c1 hsx.c2
    have hS2 := sameSite_pc (rB a b) (rB a b) hsy.c1 hsy.c2
    rw [decide_eq_true rfl] at hS1 hS2
    obtain ⟨x, hx⟩ : ∃ x, x = rA a b := ⟨_, rfl⟩
    obtain ⟨y, hy⟩ : ∃ y, y = rB a b := ⟨_, rfl⟩
    obtain ⟨ok, hok⟩ : ∃ ok, ok = (sRun a b).isSome := ⟨_, rfl⟩
    rw [← hx, ← hy, ← hok] at hD hE
    rw [← hx] at hS1 hsx
    rw [← hy] at hS2 hsy
    unfold stA' stC at hD hE hS1 hS2 ⊢
    refine ⟨by simp [frB, baseOf], go_on ?_⟩
    (try simp only [push_cast, simprocAttr])
    ((try simp only [push_cast, simprocAttr]); refine at_share2 (by simp [isC2, isC]) (by first | rfl | simp [ren]) (hD) (go_on ?_); (try simp only [push_cast, simprocAttr]))
    ((try simp only [push_cast, simprocAttr]); refine at_share2 (by simp [isC2, isC]) (by first | rfl | simp [ren]) (hE) (go_on ?_); (try simp only [push_cast, simprocAttr]))
    have b1 : (!(ok == ok)) = false := by simp
    have b2 : (ok == ok) = true := by simp
    (try simp only [b1, push_cast, simprocAttr])
    (refine at_call ?_; (try simp only [push_cast, simprocAttr]); refine rwc_v (hS1) (go_on ?_); (try simp only [push_cast, simprocAttr]))
    (try simp only [Bool.not_true, push_cast, simprocAttr])
    (refine at_call ?_; (try simp only [push_cast, simprocAttr]); refine rwc_v (hS2) (go_on ?_); (try simp only [push_cast, simprocAttr]))
    (try simp only [Bool.not_true, push_cast, simprocAttr])
    cases ok with
    | false =>
      (try simp only [Bool.not_false, push_cast, simprocAttr])
      (try simp only [b2, push_cast, simprocAttr])
      (refine at_call ?_; (try simp only [push_cast, simprocAttr]); refine rwc_v (hS1) (go_on ?_); (try simp only [push_cast, simprocAttr]))
      (refine at_call ?_; (try simp only [push_cast, simprocAttr]); refine rwc_v (hS2) (go_on ?_); (try simp only [push_cast, simprocAttr]))
      refine at_ret ?_; simp only [Tryz.results12, push_cast, simprocAttr]
      simp [vX]
    | true =>
      obtain ⟨⟨x', y'⟩, hr⟩ := Option.isSome_iff_exists.1 hok.symm
      rw [rA_some hr] at hx
      rw [rB_some hr] at hy
      subst hx
      subst hy
      obtain ⟨e1, e2, e3⟩ := law_sessionSame hr
      have hC := SessionClashes_pc a b hma hmb
      have hT1 := SiteTree_d x hsx
      have hT2 := SiteTree_d y hsy
      have hN := sameNodes_pc (siteT x) (siteT y) (siteT_sm hsx).n'
      unfold stA' stC at hC hT1 hT2
      (try simp only [Bool.not_true, push_cast, simprocAttr])
      (refine at_call ?_; (try simp only [push_cast, simprocAttr]); refine rwc_v (hC) (go_on ?_); (try simp only [push_cast, simprocAttr]))
      obtain ⟨n, hn⟩ : ∃ n, n = sCl a b := ⟨_, rfl⟩
      rw [← hn] at e1 e2 e3 ⊢
      refine at_draw rfl (by kernel_rfl) ?_; simp only [push_cast, simprocAttr]
      (refine at_shareD (by simp [isC2, isC]) (by first | rfl | simp [ren]) hT1 ?_; (try simp only [push_cast, simprocAttr]))
      (refine at_shareD (by simp [isC2, isC]) (by first | rfl | simp [ren]) hT2 ?_; (try simp only [push_cast, simprocAttr]))
      by_cases h0 : n = 0
      · have e4 := e1.2 h0
        rw [decide_eq_true e4] at hN
        obtain ⟨e5, e6⟩ := e3 h0
        repeat' first | (refine at_bWn (fun hb => ?_) (fun hb => ?_) <;> simp only [hb, push_cast, simprocAttr]) | (refine at_bW (fun hb => ?_) (fun hb => ?_) <;> simp only [hb, push_cast, simprocAttr]) | (refine at_callD (by simp [clB, idsL, idsA, hget]) ?_; (try simp only [push_cast, simprocAttr]); first | (refine rcd_v (hN) ?_; simp only [push_cast, simprocAttr]) | (refine rcd_d (hN) (by simp [flatV, flatL, ctC, ndC, cmC]) (by simp [ren, ctC, ndC, cmC]) ?_; simp only [push_cast, simprocAttr])) | (refine at_done (by kernel_rfl) (by kernel_rfl) (go_on ?_); (try simp only [push_cast, simprocAttr]))
        subst h0
        have i1 : ltI (0 : Int) 0 = false := by rfl
        have j1 : eqI (0 : Int) 0 = true := by rfl
        have k1 : x.log.length = 0 := by rw [e5]; rfl
        have k2 : y.log.length = 0 := by rw [e6]; rfl
        (try simp only [i1, j1, k1, k2, show ((0 : Nat) : Int) = 0 from rfl, show (true == true) = true from rfl, push_cast, simprocAttr])
        refine at_ret ?_; simp only [Tryz.results12, push_cast, simprocAttr]
        simp [vX]
      · have e4 : ¬ siteT x = siteT y := fun e => h0 (e1.1 e)
        rw [decide_eq_false e4] at hN
        repeat' first | (refine at_bWn (fun hb => ?_) (fun hb => ?_) <;> simp only [hb, push_cast, simprocAttr]) | (refine at_bW (fun hb => ?_) (fun hb => ?_) <;> simp only [hb, push_cast, simprocAttr]) | (refine at_callD (by simp [clB, idsL, idsA, hget]) ?_; (try simp only [push_cast, simprocAttr]); first | (refine rcd_v (hN) ?_; simp only [push_cast, simprocAttr]) | (refine rcd_d (hN) (by simp [flatV, flatL, ctC, ndC, cmC]) (by simp [ren, ctC, ndC, cmC]) ?_; simp only [push_cast, simprocAttr])) | (refine at_done (by kernel_rfl) (by kernel_rfl) (go_on ?_); (try simp only [push_cast, simprocAttr]))
        have i1 : ltI (0 : Int) n = true := ltI_t (by omega)
        have j1 : eqI n 0 = false := eqI_f h0
        (try simp only [i1, j1, show (false == false) = true from rfl, Bool.not_false, push_cast, simprocAttr])
        refine at_ret ?_; simp only [Tryz.results12, push_cast, simprocAttr]
        simp [vX]
end Go.Proofs.YtpanjecgbnomhaaGreatDoor
