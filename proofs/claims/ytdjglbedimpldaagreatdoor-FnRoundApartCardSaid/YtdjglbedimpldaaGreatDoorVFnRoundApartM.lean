/- A part of the proof of FnRoundApart: texts VFnRoundApart. -/
import Derived.Test.YtdjglbedimpldaaGreatDoorZx7
set_option linter.unusedSimpArgs false
set_option linter.unusedVariables false
/-
  Walks: FnRoundApart.
-/
namespace Go.Proofs.YtdjglbedimpldaaGreatDoor
open Go Go.RowKit Go.Proofs
theorem rApart_len2 (t : List Nd) (l : List Ev) : (rApart t l).length < 8589934570 := by
  cases h : rdV t l with
  | false => rw [rApart_f h]; simp
  | true =>
    rw [rApart_t h]
    have hsm := rPlay_sm t l
    rw [rPlay_t h] at hsm
    have h1 := (siteT_sm hsm.1).n
    have h2 := (siteT_sm hsm.2).n
    dsimp only at h1 h2
    have h3 := mrgL_len (siteT (pl t l).1) (siteT (pl t l).2.1)
    unfold chg
    split
    · have := List.length_filter_le (fun p => decide (getC (siteT (pl t l).1) p ≠ getC (siteT (pl t l).2.1) p)) (mrg (siteT (pl t l).1) (siteT (pl t l).2.1))
      omega
    · simp
attribute [local irreducible] RWp AW run kPe pe Kt effA gd gu br retR RDp runD kPeD brW gW effD
set_option maxRecDepth 100000
theorem FnRoundApart_pc (z : List Int) (hz : BytesOk z) : PC Tryz.prog 11 [byA z] (vB true) := by
  refine pc_enter Tryz.func11 rfl rfl fun w0 fb => go_on ?_; (try simp only [Tryz.ntmps11, push_cast, simprocAttr])
  refine at_b (fun hb => ?_) (fun hb => ?_)
  · (try simp only [hb, push_cast, simprocAttr])
    refine at_ret ?_; simp only [Tryz.results11, push_cast, simprocAttr]
    simp [vX]
  · (try simp only [hb, push_cast, simprocAttr])
    refine call_share (by simp [isC]) (DrawRoundApart_pc z hz) ?_
    rintro rv rows ⟨t, l, ht, hl25, hlp, rfl, rfl⟩
    have hts := sm_tv ((tV_iff t).1 ht)
    have hl : SmE l := ⟨by omega, fun e he => by have := hlp e he; omega⟩
    have hI := RoundApart_d t hts l hl
    have hE := specRoundApart_d t hts l hl
    have hD := RoundPlay_d t hts l hl
    obtain ⟨ap, hap⟩ : ∃ ap, ap = rApart t l := ⟨_, rfl⟩
    have hapl := rApart_len2 t l
    rw [← hap] at hI hE hapl
    have hS := sameTexts_pc ap ap (by omega)
    rw [decide_eq_true rfl] at hS
    refine ⟨by simp [frB, baseOf], go_on ?_⟩
    (try simp only [push_cast, simprocAttr])
    ((try simp only [push_cast, simprocAttr]); refine at_share2 (by simp [isC2, isC]) (by first | rfl | simp [ren]) (hI) (go_on ?_); (try simp only [push_cast, simprocAttr]))
    ((try simp only [push_cast, simprocAttr]); refine at_share2 (by simp [isC2, isC]) (by first | rfl | simp [ren]) (hE) (go_on ?_); (try simp only [push_cast, simprocAttr]))
    (refine at_call ?_; (try simp only [push_cast, simprocAttr]); refine rwc_v (hS) (go_on ?_); (try simp only [push_cast, simprocAttr]))
    (try simp only [Bool.not_true, push_cast, simprocAttr])
    cases hv : rdV t l with
    | false =>
      rw [rPlay_f hv] at hD
      rw [rApart_f hv] at hap
      subst hap
      unfold stA' stC at hD
      ((try simp only [push_cast, simprocAttr]); refine at_share2 (by simp [isC2, isC]) (by first | rfl | simp [ren]) (hD) (go_on ?_); (try simp only [push_cast, simprocAttr]))
      (try simp only [show ltI (-1) 0 = true from rfl, List.length_nil, List.map_nil, show eqI ((0 : Nat) : Int) 0 = true from rfl, show eqI 0 0 = true from rfl, push_cast, simprocAttr])
      refine at_ret ?_; simp only [Tryz.results11, push_cast, simprocAttr]
      simp [vX]
    | true =>
      have hln := pl_len t l
      have hsm := rPlay_sm t l
      rw [rPlay_t hv] at hD hsm
      dsimp only at hD hsm
      have i1 : ltI ((l.length : Int) - ((pl t l).2.2.length : Int)) 0 = false := ltI_f (by omega)
      have hA := SiteTree_d (pl t l).1 hsm.1
      have hB := SiteTree_d (pl t l).2.1 hsm.2
      have hC := TreeChanged_d (siteT (pl t l).1) (siteT (pl t l).2.1) (siteT_sm hsm.1).s (siteT_sm hsm.2).s
      rw [← rApart_t hv, ← hap] at hC
      unfold stA' stC at hD hA hB
      ((try simp only [push_cast, simprocAttr]); refine at_share2 (by simp [isC2, isC]) (by first | rfl | simp [ren]) (hD) (go_on ?_); (try simp only [push_cast, simprocAttr]))
      (try simp only [i1, push_cast, simprocAttr])
      refine at_draw rfl (by kernel_rfl) ?_; simp only [push_cast, simprocAttr]
      (refine at_shareD (by simp [isC2, isC]) (by first | rfl | simp [ren]) hA ?_; (try simp only [push_cast, simprocAttr]))
      (refine at_shareD (by simp [isC2, isC]) (by first | rfl | simp [ren]) hB ?_; (try simp only [push_cast, simprocAttr]))
      (refine at_shareD (by simp [isC2, isC]) (by first | rfl | simp [ren]) hC ?_; (try simp only [push_cast, simprocAttr]))
      repeat' first | (refine at_bWn (fun hb => ?_) (fun hb => ?_) <;> simp only [hb, push_cast, simprocAttr]) | (refine at_bW (fun hb => ?_) (fun hb => ?_) <;> simp only [hb, push_cast, simprocAttr]) | (refine at_callD (by simp [clB, idsL, idsA, hget]) ?_; (try simp only [push_cast, simprocAttr]); first | (refine rcd_v (hS) ?_; simp only [push_cast, simprocAttr]) | (refine rcd_d (hS) (by simp [flatV, flatL, ctC, ndC, cmC]) (by simp [ren, ctC, ndC, cmC]) ?_; simp only [push_cast, simprocAttr])) | (refine at_done (by kernel_rfl) (by kernel_rfl) (go_on ?_); (try simp only [push_cast, simprocAttr]))
      refine at_ret ?_; simp only [Tryz.results11, push_cast, simprocAttr]
      simp [vX]
end Go.Proofs.YtdjglbedimpldaaGreatDoor
