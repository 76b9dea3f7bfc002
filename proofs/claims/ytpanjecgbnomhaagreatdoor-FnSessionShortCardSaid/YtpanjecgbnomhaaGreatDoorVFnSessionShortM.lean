/- A part of the proof of FnSessionShort: texts VFnSessionShort. -/
import Derived.Test.YtpanjecgbnomhaaGreatDoorG5
import Derived.Test.YtpanjecgbnomhaaGreatDoorG7
set_option linter.unusedSimpArgs false
set_option linter.unusedVariables false
/-
  Walks: FnSessionShort.
-/
namespace Go.Proofs.YtpanjecgbnomhaaGreatDoor
open Go Go.RowKit Go.Proofs
attribute [local irreducible] RWp AW run kPe pe Kt effA gd gu br retR RDp runD kPeD brW gW effD
set_option maxRecDepth 100000
theorem FnSessionShort_pc (z : List Int) (hz : BytesOk z) : PC Tryz.prog 10 [byA z] (vB true) := by
  refine pc_enter Tryz.func10 rfl rfl fun w0 fb => go_on ?_; (try simp only [Tryz.ntmps10, push_cast, simprocAttr])
  refine at_b (fun hb => ?_) (fun hb => ?_)
  · (try simp only [hb, push_cast, simprocAttr])
    refine at_ret ?_; simp only [Tryz.results10, push_cast, simprocAttr]
    simp [vX]
  · (try simp only [hb, push_cast, simprocAttr])
    refine call_share (by simp [isC]) (DrawSessionRun_pc z hz) ?_
    rintro rv rows ⟨a, b, ha, hb', rfl, rfl⟩
    have hma := ha.sm
    have hmb := hb'.sm
    have hD := SessionRun_e a b hma hmb
    have hE := specSessionRun_e a b hma hmb
    have hsx := rA_sm a b
    have hsy := rB_sm a b
    have hS1 := sameSite_pc (rA a b) (rA a b) hsx.c1 hsx.c2
    have hS2 := sameSite_pc (rB a b) (rB a b) hsy.c1 hsy.c2
    rw [decide_eq_true rfl] at hS1 hS2
    obtain ⟨x, hx⟩ : ∃ x, x = rA a b := ⟨_, rfl⟩
    obtain ⟨y, hy⟩ : ∃ y, y = rB a b := ⟨_, rfl⟩
    obtain ⟨ok, hok⟩ : ∃ ok, ok = (sRun a b).isSome := ⟨_, rfl⟩
    rw [← hx, ← hy, ← hok] at hD hE
    rw [← hx] at hS1 hsx
    rw [← hy] at hS2 hsy
    unfold stA' stC at hD hE hS1 hS2 ⊢
    refine ⟨by simp [frB, baseOf], go_on ?_⟩
    (try simp only [push_cast, simprocAttr])
    ((try simp only [push_cast, simprocAttr]); refine at_share2 (by simp [isC2, isC]) (by first | rfl | simp [ren]) (hD) (go_on ?_); (try simp only [push_cast, simprocAttr]))
    ((try simp only [push_cast, simprocAttr]); refine at_share2 (by simp [isC2, isC]) (by first | rfl | simp [ren]) (hE) (go_on ?_); (try simp only [push_cast, simprocAttr]))
    have b1 : (!(ok == ok)) = false := by simp
    have b2 : (ok == ok) = true := by simp
    (try simp only [b1, push_cast, simprocAttr])
    (refine at_call ?_; (try simp only [push_cast, simprocAttr]); refine rwc_v (hS1) (go_on ?_); (try simp only [push_cast, simprocAttr]))
    (try simp only [Bool.not_true, push_cast, simprocAttr])
    (refine at_call ?_; (try simp only [push_cast, simprocAttr]); refine rwc_v (hS2) (go_on ?_); (try simp only [push_cast, simprocAttr]))
    (try simp only [Bool.not_true, push_cast, simprocAttr])
    cases ok with
    | false =>
      (try simp only [Bool.not_false, push_cast, simprocAttr])
      (try simp only [b2, push_cast, simprocAttr])
      (refine at_call ?_; (try simp only [push_cast, simprocAttr]); refine rwc_v (hS1) (go_on ?_); (try simp only [push_cast, simprocAttr]))
      (refine at_call ?_; (try simp only [push_cast, simprocAttr]); refine rwc_v (hS2) (go_on ?_); (try simp only [push_cast, simprocAttr]))
      refine at_ret ?_; simp only [Tryz.results10, push_cast, simprocAttr]
      simp [vX]
    | true =>
      obtain ⟨⟨x', y'⟩, hr⟩ := Option.isSome_iff_exists.1 hok.symm
      rw [rA_some hr] at hx
      rw [rB_some hr] at hy
      subst hx
      subst hy
      obtain ⟨e1, e2, e3⟩ := law_sessionShort hr
      have hA := SiteShort_d a hma
      have hB := SiteShort_d b hmb
      have ho1 := siteSh_sm hma
      have ho2 := siteSh_sm hmb
      rw [siteSh_ok e2] at hA ho1
      rw [siteSh_ok e3] at hB ho2
      obtain ⟨p, hp⟩ : ∃ p, p = (⟨a.ep, a.base, siteC a⟩ : St) := ⟨_, rfl⟩
      obtain ⟨q, hq⟩ : ∃ q, q = (⟨b.ep, b.base, siteC b⟩ : St) := ⟨_, rfl⟩
      rw [← hp] at hA ho1
      rw [← hq] at hB ho2
      rw [← hp, ← hq] at e1
      simp only at hA hB ho1 ho2
      have hT := SessionRun_e p q ho1 ho2
      rw [rA_some e1, rB_some e1, e1] at hT
      simp only [Option.isSome_some] at hT
      unfold stA' stC at hA hB hT
      (try simp only [Bool.not_true, push_cast, simprocAttr])
      ((try simp only [push_cast, simprocAttr]); refine at_share2 (by simp [isC2, isC]) (by first | rfl | simp [ren]) (hA) (go_on ?_); (try simp only [push_cast, simprocAttr]))
      ((try simp only [push_cast, simprocAttr]); refine at_share2 (by simp [isC2, isC]) (by first | rfl | simp [ren]) (hB) (go_on ?_); (try simp only [push_cast, simprocAttr]))
      ((try simp only [push_cast, simprocAttr]); refine at_share2 (by simp [isC2, isC]) (by first | rfl | simp [ren]) (hT) (go_on ?_); (try simp only [push_cast, simprocAttr]))
      (refine at_call ?_; (try simp only [push_cast, simprocAttr]); refine rwc_v (hS1) (go_on ?_); (try simp only [push_cast, simprocAttr]))
      (refine at_call ?_; (try simp only [push_cast, simprocAttr]); refine rwc_v (hS2) (go_on ?_); (try simp only [push_cast, simprocAttr]))
      refine at_ret ?_; simp only [Tryz.results10, push_cast, simprocAttr]
      simp [vX]
end Go.Proofs.YtpanjecgbnomhaaGreatDoor
