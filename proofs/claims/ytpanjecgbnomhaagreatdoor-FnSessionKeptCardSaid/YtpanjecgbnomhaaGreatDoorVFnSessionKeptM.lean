/- A part of the proof of FnSessionKept: texts VFnSessionKept. -/
import Derived.Test.YtpanjecgbnomhaaGreatDoorG5
import Derived.Test.YtpanjecgbnomhaaGreatDoorG7
set_option linter.unusedSimpArgs false
set_option linter.unusedVariables false
/-
  Walks: FnSessionKept.
-/
namespace Go.Proofs.YtpanjecgbnomhaaGreatDoor
open Go Go.RowKit Go.Proofs
attribute [local irreducible] RWp AW run kPe pe Kt effA gd gu br retR RDp runD kPeD brW gW effD
set_option maxRecDepth 100000
theorem FnSessionKept_pc (z : List Int) (hz : BytesOk z) : PC Tryz.prog 11 [byA z] (vB true) := by
  refine pc_enter Tryz.func11 rfl rfl fun w0 fb => go_on ?_; (try simp only [Tryz.ntmps11, push_cast, simprocAttr])
  refine at_b (fun hb => ?_) (fun hb => ?_)
  · (try simp only [hb, push_cast, simprocAttr])
    refine at_ret ?_; simp only [Tryz.results11, push_cast, simprocAttr]
    simp [vX]
  · (try simp only [hb, push_cast, simprocAttr])
    refine call_share (by simp [isC]) (DrawSessionRun_pc z hz) ?_
    rintro rv rows ⟨a, b, ha, hb', rfl, rfl⟩
    have hma := ha.sm
    have hmb := hb'.sm
    have hD := SessionRun_e a b hma hmb
    have hE := specSessionRun_e a b hma hmb
    have hsx := rA_sm a b
    have hsy := rB_sm a b
    have hS1 := sameSite_pc (rA a b) (rA a b) hsx.c1 hsx.c2
    have hS2 := sameSite_pc (rB a b) (rB a b) hsy.c1 hsy.c2
    rw [decide_eq_true rfl] at hS1 hS2
    obtain ⟨x, hx⟩ : ∃ x, x = rA a b := ⟨_, rfl⟩
    obtain ⟨y, hy⟩ : ∃ y, y = rB a b := ⟨_, rfl⟩
    obtain ⟨ok, hok⟩ : ∃ ok, ok = (sRun a b).isSome := ⟨_, rfl⟩
    rw [← hx, ← hy, ← hok] at hD hE
    rw [← hx] at hS1 hsx
    rw [← hy] at hS2 hsy
    unfold stA' stC at hD hE hS1 hS2 ⊢
    refine ⟨by simp [frB, baseOf], go_on ?_⟩
    (try simp only [push_cast, simprocAttr])
    ((try simp only [push_cast, simprocAttr]); refine at_share2 (by simp [isC2, isC]) (by first | rfl | simp [ren]) (hD) (go_on ?_); (try simp only [push_cast, simprocAttr]))
    ((try simp only [push_cast, simprocAttr]); refine at_share2 (by simp [isC2, isC]) (by first | rfl | simp [ren]) (hE) (go_on ?_); (try simp only [push_cast, simprocAttr]))
    have b1 : (!(ok == ok)) = false := by simp
    have b2 : (ok == ok) = true := by simp
    (try simp only [b1, push_cast, simprocAttr])
    (refine at_call ?_; (try simp only [push_cast, simprocAttr]); refine rwc_v (hS1) (go_on ?_); (try simp only [push_cast, simprocAttr]))
    (try simp only [Bool.not_true, push_cast, simprocAttr])
    (refine at_call ?_; (try simp only [push_cast, simprocAttr]); refine rwc_v (hS2) (go_on ?_); (try simp only [push_cast, simprocAttr]))
    (try simp only [Bool.not_true, push_cast, simprocAttr])
    cases ok with
    | false =>
      (try simp only [Bool.not_false, push_cast, simprocAttr])
      (try simp only [b2, push_cast, simprocAttr])
      (refine at_call ?_; (try simp only [push_cast, simprocAttr]); refine rwc_v (hS1) (go_on ?_); (try simp only [push_cast, simprocAttr]))
      (refine at_call ?_; (try simp only [push_cast, simprocAttr]); refine rwc_v (hS2) (go_on ?_); (try simp only [push_cast, simprocAttr]))
      refine at_ret ?_; simp only [Tryz.results11, push_cast, simprocAttr]
      simp [vX]
    | true =>
      obtain ⟨⟨x', y'⟩, hr⟩ := Option.isSome_iff_exists.1 hok.symm
      rw [rA_some hr] at hx
      rw [rB_some hr] at hy
      subst hx
      subst hy
      have e1 := law_sessionKept hr
      have hva := (law_sessionShort hr).2.1
      have hcv := (canonV_iff (siteC a)).1 (SiteCanon_n hva)
      have hA := SiteCanon_d a hma
      have hT := SiteTree_d x hsx
      have htv := (law_siteTree (law_session hr).1).2.2
      have hts := (siteT_sm hsx).s
      have hlen := (siteC_sm a).n
      unfold stA' stC at hA hT
      (try simp only [Bool.not_true, push_cast, simprocAttr])
      ((try simp only [push_cast, simprocAttr]); refine at_share2 (by simp [isC2, isC]) (by first | rfl | simp [ren]) (hA) (go_on ?_); (try simp only [push_cast, simprocAttr]))
      ((try simp only [push_cast, simprocAttr]); refine at_share2 (by simp [isC2, isC]) (by first | rfl | simp [ren]) (hT) (go_on ?_); (try simp only [push_cast, simprocAttr]))
      refine at_loop (X := Nat) (fun k => [(13, iA k)]) (fun _ => [(3, ⟨26, 3, [[iA a.ep, ndA a.base, cmA a.log]], true⟩), (4, ⟨26, 3, [[iA b.ep, ndA b.base, cmA b.log]], true⟩), (5, ⟨26, 3, [[iA x.ep, ndA x.base, cmA x.log]], true⟩), (6, ⟨26, 3, [[iA y.ep, ndA y.base, cmA y.log]], true⟩), (8, ⟨26, 3, [[iA x.ep, ndA x.base, cmA x.log]], true⟩), (9, ⟨26, 3, [[iA y.ep, ndA y.base, cmA y.log]], true⟩)]) (fun k => k ≤ (siteC a).length) (fun k => (siteC a).length - k) 0 (Nat.zero_le _) ?_ ?_
      · (refine wk_ok ?_ ?_ ?_ ?_ <;> simp [leL, leH, idsL, idsA, idsR, inH, hget, sameRow, upA, hvA, dsts, dstO, setA_0, setA_1, setA_8, List.append, List.cons_append, List.nil_append])
      · intro k hk
        simp only [upA, hvA, dsts, dstO, setA_0, setA_1, setA_8, List.append, List.cons_append, List.nil_append]
        refine go_on ?_
        (try simp only [push_cast, simprocAttr])
        refine at_b (fun hg => ?_) (fun hg => ?_)
        · have hlt := lt_tt hg
          obtain ⟨c, hc⟩ := get_of_lt hlt
          have i1 := ix_n hc
          have i2 := map_get cmC hc
          simp only [cmC] at i2
          have hcm := List.mem_of_getElem? hc
          have hcc := hcv.1.cv c hcm
          have hpl := (pV_len hcc.p hcc.r).2
          have hG := TreeGet_pc (siteT x) hts c.p (by omega) htv hcc.p
          rw [e1 c hcm] at hG
          unfold ctA at hG
          simp only [ctC] at hG
          (try simp only [hg, push_cast, simprocAttr])
          refine at_draw rfl (by kernel_rfl) ?_; simp only [push_cast, simprocAttr]
          (try simp only [i1, i2, push_cast, simprocAttr])
          (refine at_shareD (by simp [isC2, isC]) (by first | rfl | simp [ren]) hG ?_; (try simp only [push_cast, simprocAttr]))
          have e3 := ct_eq c.b c.b
          rw [decide_eq_true rfl] at e3
          have w1 := wr ((k : Int) + 1) (by omega)
          (try simp only [i1, i2, ctg, cth, e3, push_cast, simprocAttr])
          refine at_done (by kernel_rfl) (by kernel_rfl) (go_on ?_)
          (try simp only [e3, Bool.not_true, w1, push_cast, simprocAttr])
          refine at_fin ⟨k + 1, by omega, by omega, ?_⟩
          (refine wk_ok ?_ ?_ ?_ ?_ <;> simp [leL, leH, idsL, idsA, idsR, inH, hget, sameRow, upA, hvA, dsts, dstO, setA_0, setA_1, setA_8, List.append, List.cons_append, List.nil_append])
        · (try simp only [hg, push_cast, simprocAttr])
          refine at_ret ?_; simp only [Tryz.results11, push_cast, simprocAttr]
          simp [vX]
end Go.Proofs.YtpanjecgbnomhaaGreatDoor
