/- A part of the proof of FnSession: texts VFnSession. -/
import Derived.Test.YtpanjecgbnomhaaGreatDoorG5
import Derived.Test.YtpanjecgbnomhaaGreatDoorG7
set_option linter.unusedSimpArgs false
set_option linter.unusedVariables false
/-
  Walks: FnSession.
-/
namespace Go.Proofs.YtpanjecgbnomhaaGreatDoor
open Go Go.RowKit Go.Proofs
attribute [local irreducible] RWp AW run kPe pe Kt effA gd gu br retR RDp runD kPeD brW gW effD
set_option maxRecDepth 100000
theorem FnSession_pc (z : List Int) (hz : BytesOk z) : PC Tryz.prog 5 [byA z] (vB true) := by
  refine pc_enter Tryz.func5 rfl rfl fun w0 fb => go_on ?_; (try simp only [Tryz.ntmps5, push_cast, simprocAttr])
  refine at_b (fun hb => ?_) (fun hb => ?_)
  · (try simp only [hb, push_cast, simprocAttr])
    refine at_ret ?_; simp only [Tryz.results5, push_cast, simprocAttr]
    simp [vX]
  · (try simp only [hb, push_cast, simprocAttr])
    refine call_share (by simp [isC]) (DrawSessionRun_pc z hz) ?_
    rintro rv rows ⟨a, b, ha, hb', rfl, rfl⟩
    have hma := ha.sm
    have hmb := hb'.sm
    have hD := SessionRun_e a b hma hmb
    have hE := specSessionRun_e a b hma hmb
    have hsx := rA_sm a b
    have hsy := rB_sm a b
    have hS1 := sameSite_pc (rA a b) (rA a b) hsx.c1 hsx.c2
    have hS2 := sameSite_pc (rB a b) (rB a b) hsy.c1 hsy.c2
    rw [decide_eq_true rfl] at hS1 hS2
    obtain ⟨x, hx⟩ : ∃ x, x = rA a b := ⟨_, rfl⟩
    obtain ⟨y, hy⟩ : ∃ y, y = rB a b := ⟨_, rfl⟩
    obtain ⟨ok, hok⟩ : ∃ ok, ok = (sRun a b).isSome := ⟨_, rfl⟩
    rw [← hx, ← hy, ← hok] at hD hE
    rw [← hx] at hS1 hsx
    rw [← hy] at hS2 hsy
    unfold stA' stC at hD hE hS1 hS2 ⊢
    refine ⟨by simp [frB, baseOf], go_on ?_⟩
    (try simp only [push_cast, simprocAttr])
    ((try simp only [push_cast, simprocAttr]); refine at_share2 (by simp [isC2, isC]) (by first | rfl | simp [ren]) (hD) (go_on ?_); (try simp only [push_cast, simprocAttr]))
    ((try simp only [push_cast, simprocAttr]); refine at_share2 (by simp [isC2, isC]) (by first | rfl | simp [ren]) (hE) (go_on ?_); (try simp only [push_cast, simprocAttr]))
    have b1 : (!(ok == ok)) = false := by simp
    have b2 : (ok == ok) = true := by simp
    (try simp only [b1, push_cast, simprocAttr])
    (refine at_call ?_; (try simp only [push_cast, simprocAttr]); refine rwc_v (hS1) (go_on ?_); (try simp only [push_cast, simprocAttr]))
    (try simp only [Bool.not_true, push_cast, simprocAttr])
    (refine at_call ?_; (try simp only [push_cast, simprocAttr]); refine rwc_v (hS2) (go_on ?_); (try simp only [push_cast, simprocAttr]))
    (try simp only [Bool.not_true, push_cast, simprocAttr])
    cases ok with
    | false =>
      (try simp only [Bool.not_false, push_cast, simprocAttr])
      (try simp only [b2, push_cast, simprocAttr])
      (refine at_call ?_; (try simp only [push_cast, simprocAttr]); refine rwc_v (hS1) (go_on ?_); (try simp only [push_cast, simprocAttr]))
      (refine at_call ?_; (try simp only [push_cast, simprocAttr]); refine rwc_v (hS2) (go_on ?_); (try simp only [push_cast, simprocAttr]))
      refine at_ret ?_; simp only [Tryz.results5, push_cast, simprocAttr]
      simp [vX]
    | true =>
      obtain ⟨⟨x', y'⟩, hr⟩ := Option.isSome_iff_exists.1 hok.symm
      rw [rA_some hr] at hx
      rw [rB_some hr] at hy
      subst hx
      subst hy
      obtain ⟨e1, e2, e3, e4, e5⟩ := law_session hr
      have hV1 := SiteValid_pc x hsx
      have hV2 := SiteValid_pc y hsy
      rw [e1] at hV1
      rw [e2] at hV2
      have hN := sameNodes_pc x.base y.base hsx.c1
      rw [decide_eq_true e3] at hN
      unfold stA' stC at hV1 hV2
      (try simp only [Bool.not_true, push_cast, simprocAttr])
      (refine at_call ?_; (try simp only [push_cast, simprocAttr]); refine rwc_v (hV1) (go_on ?_); (try simp only [push_cast, simprocAttr]))
      (refine at_call ?_; (try simp only [push_cast, simprocAttr]); refine rwc_v (hV2) (go_on ?_); (try simp only [push_cast, simprocAttr]))
      (refine at_call ?_; (try simp only [push_cast, simprocAttr]); refine rwc_v (hN) (go_on ?_); (try simp only [push_cast, simprocAttr]))
      have w1 : IntKind.i64.wrap (a.ep + 1) = a.ep + 1 := wr _ (by obtain ⟨t, L, h3⟩ := (siteV_iff a).1 (law_sessionShort hr).2.1; have := h3.ep; omega)
      have i1 : eqI x.ep (a.ep + 1) = true := eqI_t e4
      have i2 : eqI y.ep x.ep = true := eqI_t e5
      (try simp only [w1, i1, i2, push_cast, simprocAttr])
      refine at_ret ?_; simp only [Tryz.results5, push_cast, simprocAttr]
      simp [vX]
end Go.Proofs.YtpanjecgbnomhaaGreatDoor
