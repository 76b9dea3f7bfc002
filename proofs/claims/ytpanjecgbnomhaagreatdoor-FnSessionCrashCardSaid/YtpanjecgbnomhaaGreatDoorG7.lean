/- A part of the proof of the session laws: texts W43 W44 W45 W46 W47 W48 W49 W50 W51 W52 W53. -/
import Derived.Test.YtpanjecgbnomhaaGreatDoorG6
set_option linter.unusedSimpArgs false
set_option linter.unusedVariables false
/-
  Walks: spec: PairTree, PairBase.
-/
namespace Go.Proofs.YtpanjecgbnomhaaGreatDoor
open Go Go.RowKit Go.Proofs
theorem specSafeOf_d (a b : List Cm) (ha : SmL a) (hb : SmL b) : PC Tryz.prog 106 [cmA a, cmA b] (vX (cmA (safeOf a b))) := by
  have := (specSafeOf_pc a b ha hb).frzX
  simpa [viewN, hpOf, hget, isC, tk] using this
theorem specLeftOf_d (a b : List Cm) (ha : SmL a) (hb : SmL b) : PC Tryz.prog 60 [cmA a, cmA b] (vX (cmA (leftOf a b))) := by
  have := (specLeftOf_pc a b ha hb).frzX
  simpa [viewN, hpOf, hget, isC, tk] using this
def tbV (x : Option (List Nd)) : AV → List Row → Prop := vX (.tup [ndA (x.getD []), bA x.isSome])
attribute [local irreducible] RWp AW run kPe pe Kt effA gd gu br retR RDp runD kPeD brW gW effD
set_option maxRecDepth 100000
theorem specPairTree_pc (t : List Nd) (ht : SmT2 t) (a b : List Cm) (ha : SmL a) (hb : SmL b) : PC Tryz.prog 59 [ndA t, cmA a, cmA b] (tbV (pairTree t a b)) := by
  have hF := specPairFits_pc t ht a b ha hb
  have hS := specSafeOf_d a b ha hb
  have hA := specLogApply_pc t ht a ha
  refine pc_enter Tryz.func59 rfl rfl fun w0 fb => go_on ?_; (try simp only [Tryz.ntmps59, push_cast, simprocAttr])
  refine at_call ?_
  (try simp only [push_cast, simprocAttr])
  refine rwc_v hF ?_
  (try simp only [push_cast, simprocAttr])
  (refine at_dropS [6] (by refine wk_ok ?_ ?_ ?_ ?_ <;> simp [dropS, dropT, hasN, delL, hdel, leL, leH, idsL, idsA, idsR, inH, hget, sameRow]) ?_; simp only [dropS, dropT, hasN, delL, hdel, idsA, idsL, hget, List.map_cons, List.map_nil, List.all_cons, List.all_nil, List.append_nil, Bool.not_false, Bool.not_true, Bool.and_true, if_true, if_false, simprocAttr])
  refine go_on ?_
  (try simp only [push_cast, simprocAttr])
  cases hf : pairFits t a b with
  | false =>
    have e : pairTree t a b = none := by simp [pairTree, hf]
    (try simp only [hf, Bool.not_false, push_cast, simprocAttr])
    refine at_retf ?_; simp only [Tryz.results59, push_cast, simprocAttr]
    simp [tbV, vX, e, ixOf]
  | true =>
    obtain ⟨ta, tb, h⟩ := (pairFits_iff t a b).1 hf
    obtain ⟨hc1, hc2⟩ := pf_cv hf
    have e1 : lap t a = (ta, (a.length : Int)) := by
      unfold lap
      have : lV a = true := by unfold canonV at hc1; simp only [Bool.and_eq_true] at hc1; exact hc1.1.1
      rw [if_pos (by rw [(tV_iff t).2 h.tv, this]; rfl), h.fa]
    rw [e1] at hA
    have hta : SmT2 ta := sm_tv h.tva
    have hsv : lV (safeOf a b) = true := lV_mk h.safe_co.cv (by have := safeOf_len a b; have := canonV_le hc2; omega)
    have hB := specLogApply_pc ta hta (safeOf a b) (sm_safe hb)
    have e2 : lap ta (safeOf a b) = ((apAll ta (safeOf a b)).1, ((apAll ta (safeOf a b)).2 : Int)) := by
      unfold lap
      rw [if_pos (by rw [(tV_iff ta).2 h.tva, hsv]; rfl)]
    rw [e2] at hB
    (try simp only [hf, Bool.not_true, push_cast, simprocAttr])
    ((try simp only [push_cast, simprocAttr]); refine at_share2 (by simp [isC2, isC]) (by first | rfl | simp [ren]) (hA) (go_on ?_); (try simp only [push_cast, simprocAttr]))
    ((try simp only [push_cast, simprocAttr]); refine at_share2 (by simp [isC2, isC]) (by first | rfl | simp [ren]) (hS) (go_on ?_); (try simp only [push_cast, simprocAttr]))
    ((try simp only [push_cast, simprocAttr]); refine at_share2 (by simp [isC2, isC]) (by first | rfl | simp [ren]) (hB) (go_on ?_); (try simp only [push_cast, simprocAttr]))
    by_cases hn : (apAll ta (safeOf a b)).2 = (safeOf a b).length
    · have i0 : eqI ((apAll ta (safeOf a b)).2 : Int) (safeOf a b).length = true := eqI_t (by omega)
      have e : pairTree t a b = some (apAll ta (safeOf a b)).1 := h.tree.2 (by rw [← hn])
      (try simp only [i0, Bool.not_true, push_cast, simprocAttr])
      refine at_ret ?_; simp only [Tryz.results59, push_cast, simprocAttr]
      simp [tbV, vX, e]
    · have i0 : eqI ((apAll ta (safeOf a b)).2 : Int) (safeOf a b).length = false := eqI_f (by omega)
      have e : pairTree t a b = none := by
        cases hx : pairTree t a b with
        | none => rfl
        | some T => exact absurd (by rw [h.tree.1 hx]) hn
      (try simp only [i0, Bool.not_false, push_cast, simprocAttr])
      refine at_retf ?_; simp only [Tryz.results59, push_cast, simprocAttr]
      simp [tbV, vX, e, ixOf]
theorem specPairBase_pc (t : List Nd) (ht : SmT2 t) (a b : List Cm) (ha : SmL a) (hb : SmL b) : PC Tryz.prog 58 [ndA t, cmA a, cmA b] (tbV (pairBase t a b)) := by
  have hF := specPairFits_pc t ht a b ha hb
  refine pc_enter Tryz.func58 rfl rfl fun w0 fb => go_on ?_; (try simp only [Tryz.ntmps58, push_cast, simprocAttr])
  refine at_call ?_
  (try simp only [push_cast, simprocAttr])
  refine rwc_v hF ?_
  (try simp only [push_cast, simprocAttr])
  (refine at_dropS [6] (by refine wk_ok ?_ ?_ ?_ ?_ <;> simp [dropS, dropT, hasN, delL, hdel, leL, leH, idsL, idsA, idsR, inH, hget, sameRow]) ?_; simp only [dropS, dropT, hasN, delL, hdel, idsA, idsL, hget, List.map_cons, List.map_nil, List.all_cons, List.all_nil, List.append_nil, Bool.not_false, Bool.not_true, Bool.and_true, if_true, if_false, simprocAttr])
  refine go_on ?_
  (try simp only [push_cast, simprocAttr])
  cases hf : pairFits t a b with
  | false =>
    have e : pairBase t a b = none := by simp [pairBase, hf]
    (try simp only [hf, Bool.not_false, push_cast, simprocAttr])
    refine at_retf ?_; simp only [Tryz.results58, push_cast, simprocAttr]
    simp [tbV, vX, e, ixOf]
  | true =>
    obtain ⟨ta, tb, h⟩ := (pairFits_iff t a b).1 hf
    obtain ⟨hc1, hc2⟩ := pf_cv hf
    have hl1 := canonV_le hc1
    have hl2 := canonV_le hc2
    have hK := l21Kept_pc a b ha hb hc1 hc2
    have hkl := kept_len_le a b
    obtain ⟨q, hq⟩ : ∃ q, q = cSort (kept a b) := ⟨_, rfl⟩
    have hql : q.length = (kept a b).length := by rw [hq, cSort_len]
    have hqc : ∀ c ∈ q, CV c := fun c hc => kept_cv h c ((cSort_perm _).mem_iff.1 (by rw [← hq]; exact hc))
    rw [← hq] at hK
    have hqs : SmL q := ⟨by omega, fun c hc => by have h2 := hqc c hc; have := (pV_len h2.p h2.r).2; omega⟩
    have hL := specLogFits_pc t ht q hqs
    have hA := specLogApply_pc t ht q hqs
    (try simp only [hf, Bool.not_true, push_cast, simprocAttr])
    ((try simp only [push_cast, simprocAttr]); refine at_share2 (by simp [isC2, isC]) (by first | rfl | simp [ren]) (hK) (go_on ?_); (try simp only [push_cast, simprocAttr]))
    (refine at_call ?_; (try simp only [push_cast, simprocAttr]); refine rwc_v (hL) (go_on ?_); (try simp only [push_cast, simprocAttr]))
    cases hfq : fits t q with
    | false =>
      have e : pairBase t a b = none := by
        cases hx : pairBase t a b with
        | none => rfl
        | some B =>
          obtain ⟨g1, g2⟩ := h.base_iff.1 hx
          rw [← hq] at g2
          have : fits t q = true := by
            unfold fits
            rw [(tV_iff t).2 h.tv, lV_mk hqc (by omega), g2]
            simp [hql]
          rw [hfq] at this; cases this
      (try simp only [hfq, Bool.not_false, push_cast, simprocAttr])
      refine at_retf ?_; simp only [Tryz.results58, push_cast, simprocAttr]
      simp [tbV, vX, e, ixOf]
    | true =>
      have hfq2 := hfq
      unfold fits at hfq2
      simp only [Bool.and_eq_true, decide_eq_true_eq] at hfq2
      obtain ⟨⟨f1, f2⟩, f3⟩ := hfq2
      have e1 : lap t q = ((apAll t q).1, ((apAll t q).2 : Int)) := by
        unfold lap
        rw [if_pos (by rw [f1, f2]; rfl)]
      rw [e1] at hA
      have e : pairBase t a b = some (apAll t q).1 := h.base_iff.2 ⟨by have := lV_len f2; omega, by rw [← hq, ← hql, ← f3]⟩
      (try simp only [hfq, Bool.not_true, push_cast, simprocAttr])
      ((try simp only [push_cast, simprocAttr]); refine at_share2 (by simp [isC2, isC]) (by first | rfl | simp [ren]) (hA) (go_on ?_); (try simp only [push_cast, simprocAttr]))
      refine at_ret ?_; simp only [Tryz.results58, push_cast, simprocAttr]
      simp [tbV, vX, e]
end Go.Proofs.YtpanjecgbnomhaaGreatDoor
/-
  Walks: impl.SessionRun, read as data.
-/
namespace Go.Proofs.YtpanjecgbnomhaaGreatDoor
open Go Go.RowKit Go.Proofs
theorem cloneTree_d (l : List Nd) (hl : l.length < 4294967281) : PC Tryz.prog 57 [ndA l] (vX (ndA l)) := by
  have := (cloneTree_pc l hl).frzX
  simpa [viewN, hpOf, hget, isC, tk] using this
theorem SiteCanon_n {s : St} (h : siteV s = true) : canonV (siteC s) = true := by
  obtain ⟨t, L, hs⟩ := (siteV_iff s).1 h
  rw [hs.C]
  exact (canonV_iff L).2 ⟨hs.co, hs.l20⟩
def srV (x : Option (St × St)) : AV → List Row → Prop := vX (.tup (match x with
  | some (x, y) => [stA' x, stA' y, bA true]
  | none => [st00, st00, bA false]))
attribute [local irreducible] RWp AW run kPe pe Kt effA gd gu br retR RDp runD kPeD brW gW effD
set_option maxRecDepth 100000
theorem SessionRun_d (a b : St) (ha : SmS a) (hb : SmS b) : PC Tryz.prog 24 [stA' a, stA' b] (srV (sRun a b)) := by
  have hM := meet_pc a b ha hb
  have hA := SiteCanon_d a ha
  have hB := SiteCanon_d b hb
  have s1 := siteC_sm a
  have s2 := siteC_sm b
  have hP := PairBase_d a.base ha.t (siteC a) (siteC b) s1 s2
  have hT := PairTree_d a.base ha.t (siteC a) (siteC b) s1 s2
  have hU := PairTree_d a.base ha.t (siteC b) (siteC a) s2 s1
  have hL := LeftOf_d (siteC a) (siteC b) s1 s2
  have hR := LeftOf_d (siteC b) (siteC a) s2 s1
  unfold stA' stC at *
  refine pc_enter Tryz.func24 rfl rfl fun w0 fb => go_on ?_; (try simp only [Tryz.ntmps24, push_cast, simprocAttr])
  (refine at_call ?_; (try simp only [push_cast, simprocAttr]); refine rwc_v (hM) (go_on ?_); (try simp only [push_cast, simprocAttr]))
  cases h : meet a b with
  | false =>
    have e : sRun a b = none := by simp [sRun, h]
    (try simp only [h, Bool.not_false, push_cast, simprocAttr])
    refine at_ret ?_; simp only [Tryz.results24, push_cast, simprocAttr]
    simp [srV, vX, e, st00]
  | true =>
    (try simp only [h, Bool.not_true, push_cast, simprocAttr])
    refine at_draw rfl (by kernel_rfl) ?_; simp only [push_cast, simprocAttr]
    (refine at_shareD (by simp [isC2, isC]) (by first | rfl | simp [ren]) hA ?_; (try simp only [push_cast, simprocAttr]))
    (refine at_shareD (by simp [isC2, isC]) (by first | rfl | simp [ren]) hB ?_; (try simp only [push_cast, simprocAttr]))
    refine at_done (by kernel_rfl) (by kernel_rfl) (go_on ?_)
    (try simp only [push_cast, simprocAttr])
    ((try simp only [push_cast, simprocAttr]); refine at_share2 (by simp [isC2, isC]) (by first | rfl | simp [ren]) (hP) (go_on ?_); (try simp only [push_cast, simprocAttr]))
    ((try simp only [push_cast, simprocAttr]); refine at_share2 (by simp [isC2, isC]) (by first | rfl | simp [ren]) (hT) (go_on ?_); (try simp only [push_cast, simprocAttr]))
    ((try simp only [push_cast, simprocAttr]); refine at_share2 (by simp [isC2, isC]) (by first | rfl | simp [ren]) (hU) (go_on ?_); (try simp only [push_cast, simprocAttr]))
    cases e1 : pairBase a.base (siteC a) (siteC b) with
    | none =>
      have e : sRun a b = none := by simp [sRun, h, e1]
      (try simp only [e1, Option.isSome_none, Bool.not_false, push_cast, simprocAttr])
      refine at_ret ?_; simp only [Tryz.results24, push_cast, simprocAttr]
      simp [srV, vX, e, st00]
    | some t =>
    cases e2 : pairTree a.base (siteC a) (siteC b) with
    | none =>
      have e : sRun a b = none := by simp [sRun, h, e1, e2]
      (try simp only [e1, e2, Option.isSome_none, Option.isSome_some, Bool.not_false, Bool.not_true, push_cast, simprocAttr])
      refine at_ret ?_; simp only [Tryz.results24, push_cast, simprocAttr]
      simp [srV, vX, e, st00]
    | some u =>
    cases e3 : pairTree a.base (siteC b) (siteC a) with
    | none =>
      have e : sRun a b = none := by simp [sRun, h, e1, e2, e3]
      (try simp only [e1, e2, e3, Option.isSome_none, Option.isSome_some, Bool.not_false, Bool.not_true, push_cast, simprocAttr])
      refine at_ret ?_; simp only [Tryz.results24, push_cast, simprocAttr]
      simp [srV, vX, e, st00]
    | some v =>
    have e : sRun a b = some (⟨a.ep + 1, t, leftOf (siteC a) (siteC b)⟩, ⟨a.ep + 1, t, leftOf (siteC b) (siteC a)⟩) := by simp [sRun, h, e1, e2, e3]
    have hm := (meet_iff a b).1 h
    obtain ⟨ta, tb, La, Lb, hsa, hsb, hbb, hee, hlt⟩ := hm
    have hep := hsa.ep
    have w1 : IntKind.i64.wrap (a.ep + 1) = a.ep + 1 := wr _ (by first | omega | (simp [inR] at hep; omega))
    have htl : t.length ≤ 10 := by
      obtain ⟨x, y, hpf⟩ := (pairFits_iff a.base (siteC a) (siteC b)).1 (by
        unfold pairBase at e1
        split at e1
        · rename_i hh; simp only [Bool.and_eq_true] at hh; exact hh.1
        · cases e1)
      exact (hpf.base_ov e1).2.le
    have hC := cloneTree_d t (by omega)
    (try simp only [e1, e2, e3, Option.isSome_some, Bool.not_true, Option.getD_some, push_cast, simprocAttr])
    refine at_draw rfl (by kernel_rfl) ?_; simp only [push_cast, simprocAttr]
    (try simp only [w1, push_cast, simprocAttr])
    (refine at_shareD (by simp [isC2, isC]) (by first | rfl | simp [ren]) hL ?_; (try simp only [push_cast, simprocAttr]))
    (try simp only [w1, push_cast, simprocAttr])
    (refine at_shareD (by simp [isC2, isC]) (by first | rfl | simp [ren]) hC ?_; (try simp only [push_cast, simprocAttr]))
    (refine at_shareD (by simp [isC2, isC]) (by first | rfl | simp [ren]) hR ?_; (try simp only [push_cast, simprocAttr]))
    (try simp only [w1, push_cast, simprocAttr])
    refine at_done (by kernel_rfl) (by kernel_rfl) (go_on ?_)
    (try simp only [push_cast, simprocAttr])
    refine at_ret ?_; simp only [Tryz.results24, push_cast, simprocAttr]
    simp [srV, vX, e, stC]
end Go.Proofs.YtpanjecgbnomhaaGreatDoor
/-
  Walks: spec.SessionRun.
-/
namespace Go.Proofs.YtpanjecgbnomhaaGreatDoor
open Go Go.RowKit Go.Proofs
attribute [local irreducible] RWp AW run kPe pe Kt effA gd gu br retR RDp runD kPeD brW gW effD
set_option maxRecDepth 100000
theorem specSessionRun_d (a b : St) (ha : SmS a) (hb : SmS b) : PC Tryz.prog 25 [stA' a, stA' b] (srV (sRun a b)) := by
  have hM := l42Ok_pc a b ha hb
  have hA := specSiteCanon_pc a ha
  have hB := specSiteCanon_pc b hb
  have s1 := siteC_sm a
  have s2 := siteC_sm b
  have hP := specPairBase_pc a.base ha.t (siteC a) (siteC b) s1 s2
  have hT := specPairTree_pc a.base ha.t (siteC a) (siteC b) s1 s2
  have hU := specPairTree_pc a.base ha.t (siteC b) (siteC a) s2 s1
  have hL := specLeftOf_d (siteC a) (siteC b) s1 s2
  have hR := specLeftOf_d (siteC b) (siteC a) s2 s1
  unfold tbV at hP hT hU
  unfold stA' stC at *
  unfold srV
  refine PC.toF ?_
  refine pc_enter Tryz.func25 rfl rfl fun w0 fb => go_on ?_; (try simp only [Tryz.ntmps25, push_cast, simprocAttr])
  (refine at_call ?_; (try simp only [push_cast, simprocAttr]); refine rwc_v (hM) (go_on ?_); (try simp only [push_cast, simprocAttr]))
  cases h : meet a b with
  | false =>
    have e : sRun a b = none := by simp [sRun, h]
    (try simp only [h, Bool.not_false, push_cast, simprocAttr])
    refine at_ret ?_; simp only [Tryz.results25, push_cast, simprocAttr]
    simp [vF, viewN, isC, hpOf, hget, tk, ixOf, e, st00]
  | true =>
    (try simp only [h, Bool.not_true, push_cast, simprocAttr])
    ((try simp only [push_cast, simprocAttr]); refine at_share2 (by simp [isC2, isC]) (by first | rfl | simp [ren]) (hA) (go_on ?_); (try simp only [push_cast, simprocAttr]))
    ((try simp only [push_cast, simprocAttr]); refine at_share2 (by simp [isC2, isC]) (by first | rfl | simp [ren]) (hB) (go_on ?_); (try simp only [push_cast, simprocAttr]))
    ((try simp only [push_cast, simprocAttr]); refine at_share2 (by simp [isC2, isC]) (by first | rfl | simp [ren]) (hP) (go_on ?_); (try simp only [push_cast, simprocAttr]))
    ((try simp only [push_cast, simprocAttr]); refine at_share2 (by simp [isC2, isC]) (by first | rfl | simp [ren]) (hT) (go_on ?_); (try simp only [push_cast, simprocAttr]))
    ((try simp only [push_cast, simprocAttr]); refine at_share2 (by simp [isC2, isC]) (by first | rfl | simp [ren]) (hU) (go_on ?_); (try simp only [push_cast, simprocAttr]))
    cases e1 : pairBase a.base (siteC a) (siteC b) with
    | none =>
      have e : sRun a b = none := by simp [sRun, h, e1]
      (try simp only [e1, Option.isSome_none, Bool.not_false, push_cast, simprocAttr])
      refine at_ret ?_; simp only [Tryz.results25, push_cast, simprocAttr]
      simp [vF, viewN, isC, hpOf, hget, tk, ixOf, e, st00]
    | some t =>
    cases e2 : pairTree a.base (siteC a) (siteC b) with
    | none =>
      have e : sRun a b = none := by simp [sRun, h, e1, e2]
      (try simp only [e1, e2, Option.isSome_none, Option.isSome_some, Bool.not_false, Bool.not_true, push_cast, simprocAttr])
      refine at_ret ?_; simp only [Tryz.results25, push_cast, simprocAttr]
      simp [vF, viewN, isC, hpOf, hget, tk, ixOf, e, st00]
    | some u =>
    cases e3 : pairTree a.base (siteC b) (siteC a) with
    | none =>
      have e : sRun a b = none := by simp [sRun, h, e1, e2, e3]
      (try simp only [e1, e2, e3, Option.isSome_none, Option.isSome_some, Bool.not_false, Bool.not_true, push_cast, simprocAttr])
      refine at_ret ?_; simp only [Tryz.results25, push_cast, simprocAttr]
      simp [vF, viewN, isC, hpOf, hget, tk, ixOf, e, st00]
    | some v =>
    have e : sRun a b = some (⟨a.ep + 1, t, leftOf (siteC a) (siteC b)⟩, ⟨a.ep + 1, t, leftOf (siteC b) (siteC a)⟩) := by simp [sRun, h, e1, e2, e3]
    have hm := (meet_iff a b).1 h
    obtain ⟨ta, tb, La, Lb, hsa, hsb, hbb, hee, hlt⟩ := hm
    have hep := hsa.ep
    have htl : t.length ≤ 10 := by
      obtain ⟨x, y, hpf⟩ := (pairFits_iff a.base (siteC a) (siteC b)).1 (by
        unfold pairBase at e1
        split at e1
        · rename_i hh; simp only [Bool.and_eq_true] at hh; exact hh.1
        · cases e1)
      exact (hpf.base_ov e1).2.le
    have w1 : IntKind.i64.wrap (a.ep + 1) = a.ep + 1 := wr _ (by omega)
    (try simp only [e1, e2, e3, Option.isSome_some, Bool.not_true, Option.getD_some, push_cast, simprocAttr])
    refine at_draw rfl (by kernel_rfl) ?_; simp only [push_cast, simprocAttr]
    (try simp only [w1, push_cast, simprocAttr])
    (refine at_shareD (by simp [isC2, isC]) (by first | rfl | simp [ren]) hL ?_; (try simp only [push_cast, simprocAttr]))
    (try simp only [w1, push_cast, simprocAttr])
    refine at_done (by kernel_rfl) (by kernel_rfl) (go_on ?_)
    (try simp only [push_cast, simprocAttr])
    refine at_draw rfl (by kernel_rfl) ?_; simp only [push_cast, simprocAttr]
    (try simp only [w1, push_cast, simprocAttr])
    (try simp only [effD_app2, w1, push_cast, simprocAttr])
    refine at_chkD (by omega) ?_
    (try simp only [push_cast, simprocAttr])
    (refine at_shareD (by simp [isC2, isC]) (by first | rfl | simp [ren]) hR ?_; (try simp only [push_cast, simprocAttr]))
    refine at_done (by kernel_rfl) (by kernel_rfl) (go_on ?_)
    (try simp only [push_cast, simprocAttr])
    refine at_draw rfl (by kernel_rfl) ?_; simp only [push_cast, simprocAttr]
    refine at_done (by kernel_rfl) (by kernel_rfl) (go_on ?_)
    (try simp only [push_cast, simprocAttr])
    refine at_ret ?_; simp only [Tryz.results25, push_cast, simprocAttr]
    simp [vF, viewN, isC, hpOf, hget, tk, ixOf, e, stC]
end Go.Proofs.YtpanjecgbnomhaaGreatDoor
/-
  Walks: sessions in steps: SessionNew, SessionRecover (read as data).
-/
namespace Go.Proofs.YtpanjecgbnomhaaGreatDoor
open Go Go.RowKit Go.Proofs
theorem clone_d (s : St) (h1 : s.base.length < 4294967281) (h2 : s.log.length < 4294967281) : PC Tryz.prog 74 [stA' s] (vX (stA' s)) := by
  have := (clone_pc s h1 h2).frzX
  simpa [viewN, hpOf, hget, stO, stA', stC, isC, tk] using this
def ssC (s : Ss) : List AV := [iA s.A.ep, ndA s.A.base, cmA s.A.log, iA s.B.ep, ndA s.B.base, cmA s.B.log, bA s.plan, iA s.nA.ep, ndA s.nA.base, cmA s.nA.log, iA s.nB.ep, ndA s.nB.base, cmA s.nB.log]
abbrev ssA (s : Ss) : AV := .agg (ssC s)
structure SmSs (s : Ss) : Prop where
  A : SmS s.A
  B : SmS s.B
  nA : SmS s.nA
  nB : SmS s.nB
theorem SmS.c1 {s : St} (h : SmS s) : s.base.length < 4294967281 := by have := h.t.n; omega
theorem SmS.c2 {s : St} (h : SmS s) : s.log.length < 4294967281 := by have := h.l.n; omega
attribute [local irreducible] RWp AW run kPe pe Kt effA gd gu br retR RDp runD kPeD brW gW effD
set_option maxRecDepth 100000
theorem SessionRecover_d (s : Ss) (hs : SmSs s) : PC Tryz.prog 41 [ssA s] (vX (.tup [stA' (sRec s).1, stA' (sRec s).2])) := by
  have h1 := clone_d s.A hs.A.c1 hs.A.c2
  have h2 := clone_d s.B hs.B.c1 hs.B.c2
  have h3 := clone_d s.nA hs.nA.c1 hs.nA.c2
  have h4 := clone_d s.nB hs.nB.c1 hs.nB.c2
  unfold stA' stC at *
  unfold ssA ssC
  refine pc_enter Tryz.func41 rfl rfl fun w0 fb => go_on ?_; (try simp only [Tryz.ntmps41, push_cast, simprocAttr])
  cases hp : s.plan with
  | true =>
    (try simp only [hp, push_cast, simprocAttr])
    refine at_draw rfl (by kernel_rfl) ?_; simp only [push_cast, simprocAttr]
    (refine at_shareD (by simp [isC2, isC]) (by first | rfl | simp [ren]) h3 ?_; (try simp only [push_cast, simprocAttr]))
    (refine at_shareD (by simp [isC2, isC]) (by first | rfl | simp [ren]) h4 ?_; (try simp only [push_cast, simprocAttr]))
    refine at_done (by kernel_rfl) (by kernel_rfl) (go_on ?_)
    (try simp only [push_cast, simprocAttr])
    refine at_ret ?_; simp only [Tryz.results41, push_cast, simprocAttr]
    simp [vX, sRec, hp]
  | false =>
    (try simp only [hp, push_cast, simprocAttr])
    refine at_draw rfl (by kernel_rfl) ?_; simp only [push_cast, simprocAttr]
    (refine at_shareD (by simp [isC2, isC]) (by first | rfl | simp [ren]) h1 ?_; (try simp only [push_cast, simprocAttr]))
    (refine at_shareD (by simp [isC2, isC]) (by first | rfl | simp [ren]) h2 ?_; (try simp only [push_cast, simprocAttr]))
    refine at_done (by kernel_rfl) (by kernel_rfl) (go_on ?_)
    (try simp only [push_cast, simprocAttr])
    refine at_ret ?_; simp only [Tryz.results41, push_cast, simprocAttr]
    simp [vX, sRec, hp]
end Go.Proofs.YtpanjecgbnomhaaGreatDoor
/-
  Walks: sessions in steps: SessionNew (read as data).
-/
namespace Go.Proofs.YtpanjecgbnomhaaGreatDoor
open Go Go.RowKit Go.Proofs
def z3 : List AV := [iA 0, .v (.slice none 0 0), .v (.slice none 0 0)]
def ss00 : AV := .agg (z3 ++ z3 ++ [bA false] ++ z3 ++ z3)
def ssV (x : Option Ss) (st : AV) : AV → List Row → Prop := vX (.tup [st, bA x.isSome])
attribute [local irreducible] RWp AW run kPe pe Kt effA gd gu br retR RDp runD kPeD brW gW effD
set_option maxRecDepth 100000
theorem SessionNew_d0 (a b : St) (ha : SmS a) (hb : SmS b) (h : sRun a b = none) : PC Tryz.prog 37 [stA' a, stA' b] (vX (.tup [ss00, bA false])) := by
  have hR := SessionRun_d a b ha hb
  rw [h] at hR
  unfold srV at hR
  unfold stA' stC at *
  unfold st00 at hR
  refine pc_enter Tryz.func37 rfl rfl fun w0 fb => go_on ?_; (try simp only [Tryz.ntmps37, push_cast, simprocAttr])
  ((try simp only [push_cast, simprocAttr]); refine at_share2 (by simp [isC2, isC]) (by first | rfl | simp [ren]) (hR) (go_on ?_); (try simp only [push_cast, simprocAttr]))
  (try simp only [Bool.not_false, push_cast, simprocAttr])
  refine at_ret ?_; simp only [Tryz.results37, push_cast, simprocAttr]
  simp [vX, ss00, z3]
theorem SessionNew_d1 (a b : St) (ha : SmS a) (hb : SmS b) (x y : St) (h : sRun a b = some (x, y)) : PC Tryz.prog 37 [stA' a, stA' b] (vX (.tup [.agg (stC a ++ stC b ++ [bA false] ++ z3 ++ z3), bA true])) := by
  have hR := SessionRun_d a b ha hb
  have h1 := clone_d a ha.c1 ha.c2
  have h2 := clone_d b hb.c1 hb.c2
  rw [h] at hR
  unfold srV at hR
  unfold stA' stC at *
  refine pc_enter Tryz.func37 rfl rfl fun w0 fb => go_on ?_; (try simp only [Tryz.ntmps37, push_cast, simprocAttr])
  ((try simp only [push_cast, simprocAttr]); refine at_share2 (by simp [isC2, isC]) (by first | rfl | simp [ren]) (hR) (go_on ?_); (try simp only [push_cast, simprocAttr]))
  (try simp only [Bool.not_true, push_cast, simprocAttr])
  refine at_draw rfl (by kernel_rfl) ?_; simp only [push_cast, simprocAttr]
  (refine at_shareD (by simp [isC2, isC]) (by first | rfl | simp [ren]) h1 ?_; (try simp only [push_cast, simprocAttr]))
  (refine at_shareD (by simp [isC2, isC]) (by first | rfl | simp [ren]) h2 ?_; (try simp only [push_cast, simprocAttr]))
  refine at_done (by kernel_rfl) (by kernel_rfl) (go_on ?_)
  (try simp only [push_cast, simprocAttr])
  refine at_ret ?_; simp only [Tryz.results37, push_cast, simprocAttr]
  simp [vX, z3]
end Go.Proofs.YtpanjecgbnomhaaGreatDoor
/-
  Walks: sessions in steps: SessionStep (read as data).
-/
namespace Go.Proofs.YtpanjecgbnomhaaGreatDoor
open Go Go.RowKit Go.Proofs
attribute [local irreducible] RWp AW run kPe pe Kt effA gd gu br retR RDp runD kPeD brW gW effD
set_option maxRecDepth 100000
theorem SessionStep_d0 (s : Ss) (hs : SmSs s) (hp : s.plan = false) (h : sRun s.A s.B = none) : PC Tryz.prog 40 [ssA s] (vX (.tup [ss00, bA false])) := by
  have h1 := clone_d s.A hs.A.c1 hs.A.c2
  have h2 := clone_d s.B hs.B.c1 hs.B.c2
  have h3 := clone_d s.nA hs.nA.c1 hs.nA.c2
  have h4 := clone_d s.nB hs.nB.c1 hs.nB.c2
  have hR := SessionRun_d s.A s.B hs.A hs.B
  rw [h] at hR
  unfold srV at hR
  unfold stA' stC at *
  unfold st00 at hR
  unfold ssA ssC
  rw [hp]
  refine pc_enter Tryz.func40 rfl rfl fun w0 fb => go_on ?_; (try simp only [Tryz.ntmps40, push_cast, simprocAttr])
  refine at_draw rfl (by kernel_rfl) ?_; simp only [push_cast, simprocAttr]
  (refine at_shareD (by simp [isC2, isC]) (by first | rfl | simp [ren]) h1 ?_; (try simp only [push_cast, simprocAttr]))
  (refine at_shareD (by simp [isC2, isC]) (by first | rfl | simp [ren]) h2 ?_; (try simp only [push_cast, simprocAttr]))
  (refine at_shareD (by simp [isC2, isC]) (by first | rfl | simp [ren]) h3 ?_; (try simp only [push_cast, simprocAttr]))
  (refine at_shareD (by simp [isC2, isC]) (by first | rfl | simp [ren]) h4 ?_; (try simp only [push_cast, simprocAttr]))
  refine at_done (by kernel_rfl) (by kernel_rfl) (go_on ?_)
  (try simp only [Bool.not_false, push_cast, simprocAttr])
  ((try simp only [push_cast, simprocAttr]); refine at_share2 (by simp [isC2, isC]) (by first | rfl | simp [ren]) (hR) (go_on ?_); (try simp only [push_cast, simprocAttr]))
  (try simp only [Bool.not_false, push_cast, simprocAttr])
  refine at_ret ?_; simp only [Tryz.results40, push_cast, simprocAttr]
  simp [vX, ss00, z3]
theorem SessionStep_d1 (s : Ss) (hs : SmSs s) (hp : s.plan = false) (x y : St) (h : sRun s.A s.B = some (x, y)) : PC Tryz.prog 40 [ssA s] (vX (.tup [.agg (stC s.A ++ stC s.B ++ [bA true] ++ stC x ++ stC y), bA true])) := by
  have h1 := clone_d s.A hs.A.c1 hs.A.c2
  have h2 := clone_d s.B hs.B.c1 hs.B.c2
  have h3 := clone_d s.nA hs.nA.c1 hs.nA.c2
  have h4 := clone_d s.nB hs.nB.c1 hs.nB.c2
  have hR := SessionRun_d s.A s.B hs.A hs.B
  rw [h] at hR
  unfold srV at hR
  unfold stA' stC at *
  unfold ssA ssC
  rw [hp]
  refine pc_enter Tryz.func40 rfl rfl fun w0 fb => go_on ?_; (try simp only [Tryz.ntmps40, push_cast, simprocAttr])
  refine at_draw rfl (by kernel_rfl) ?_; simp only [push_cast, simprocAttr]
  (refine at_shareD (by simp [isC2, isC]) (by first | rfl | simp [ren]) h1 ?_; (try simp only [push_cast, simprocAttr]))
  (refine at_shareD (by simp [isC2, isC]) (by first | rfl | simp [ren]) h2 ?_; (try simp only [push_cast, simprocAttr]))
  (refine at_shareD (by simp [isC2, isC]) (by first | rfl | simp [ren]) h3 ?_; (try simp only [push_cast, simprocAttr]))
  (refine at_shareD (by simp [isC2, isC]) (by first | rfl | simp [ren]) h4 ?_; (try simp only [push_cast, simprocAttr]))
  refine at_done (by kernel_rfl) (by kernel_rfl) (go_on ?_)
  (try simp only [Bool.not_false, push_cast, simprocAttr])
  ((try simp only [push_cast, simprocAttr]); refine at_share2 (by simp [isC2, isC]) (by first | rfl | simp [ren]) (hR) (go_on ?_); (try simp only [push_cast, simprocAttr]))
  (try simp only [Bool.not_true, push_cast, simprocAttr])
  refine at_draw rfl (by kernel_rfl) ?_; simp only [push_cast, simprocAttr]
  refine at_done (by kernel_rfl) (by kernel_rfl) (go_on ?_)
  (try simp only [push_cast, simprocAttr])
  refine at_ret ?_; simp only [Tryz.results40, push_cast, simprocAttr]
  simp [vX]
end Go.Proofs.YtpanjecgbnomhaaGreatDoor
/-
  Walks: sessions in steps: SessionStep behind its plan (read as data).
-/
namespace Go.Proofs.YtpanjecgbnomhaaGreatDoor
open Go Go.RowKit Go.Proofs
attribute [local irreducible] RWp AW run kPe pe Kt effA gd gu br retR RDp runD kPeD brW gW effD
set_option maxRecDepth 100000
theorem SessionStep_d2 (s : Ss) (hs : SmSs s) (hp : s.plan = true) : PC Tryz.prog 40 [ssA s] (vX (.tup [.agg (if s.A ≠ s.nA then stC s.nA ++ stC s.B ++ [bA true] ++ stC s.nA ++ stC s.nB else if s.B ≠ s.nB then stC s.A ++ stC s.nB ++ [bA true] ++ stC s.nA ++ stC s.nB else stC s.A ++ stC s.B ++ [bA false] ++ z3 ++ z3), bA true])) := by
  have h1 := clone_d s.A hs.A.c1 hs.A.c2
  have h2 := clone_d s.B hs.B.c1 hs.B.c2
  have h3 := clone_d s.nA hs.nA.c1 hs.nA.c2
  have h4 := clone_d s.nB hs.nB.c1 hs.nB.c2
  have hS := same_pc s.A s.nA hs.A hs.nA
  have hT := same_pc s.B s.nB hs.B hs.nB
  unfold stA' stC at *
  unfold ssA ssC
  rw [hp]
  refine pc_enter Tryz.func40 rfl rfl fun w0 fb => go_on ?_; (try simp only [Tryz.ntmps40, push_cast, simprocAttr])
  refine at_draw rfl (by kernel_rfl) ?_; simp only [push_cast, simprocAttr]
  (refine at_shareD (by simp [isC2, isC]) (by first | rfl | simp [ren]) h1 ?_; (try simp only [push_cast, simprocAttr]))
  (refine at_shareD (by simp [isC2, isC]) (by first | rfl | simp [ren]) h2 ?_; (try simp only [push_cast, simprocAttr]))
  (refine at_shareD (by simp [isC2, isC]) (by first | rfl | simp [ren]) h3 ?_; (try simp only [push_cast, simprocAttr]))
  (refine at_shareD (by simp [isC2, isC]) (by first | rfl | simp [ren]) h4 ?_; (try simp only [push_cast, simprocAttr]))
  refine at_done (by kernel_rfl) (by kernel_rfl) (go_on ?_)
  (try simp only [Bool.not_true, push_cast, simprocAttr])
  (refine at_call ?_; (try simp only [push_cast, simprocAttr]); refine rwc_v (hS) (go_on ?_); (try simp only [push_cast, simprocAttr]))
  by_cases e1 : s.A = s.nA
  · have d1 : decide (s.A = s.nA) = true := by simpa using e1
    (try simp only [d1, Bool.not_true, push_cast, simprocAttr])
    (refine at_call ?_; (try simp only [push_cast, simprocAttr]); refine rwc_v (hT) (go_on ?_); (try simp only [push_cast, simprocAttr]))
    by_cases e2 : s.B = s.nB
    · have d2 : decide (s.B = s.nB) = true := by simpa using e2
      (try simp only [d2, Bool.not_true, push_cast, simprocAttr])
      refine at_ret ?_; simp only [Tryz.results40, push_cast, simprocAttr]
      simp [vX, z3, e1, e2]
    · have d2 : decide (s.B = s.nB) = false := by simpa using e2
      (try simp only [d2, Bool.not_false, push_cast, simprocAttr])
      ((try simp only [push_cast, simprocAttr]); refine at_share2 (by simp [isC2, isC]) (by first | rfl | simp [ren]) (h4) (go_on ?_); (try simp only [push_cast, simprocAttr]))
      refine at_ret ?_; simp only [Tryz.results40, push_cast, simprocAttr]
      simp [vX, e1, e2]
  · have d1 : decide (s.A = s.nA) = false := by simpa using e1
    (try simp only [d1, Bool.not_false, push_cast, simprocAttr])
    ((try simp only [push_cast, simprocAttr]); refine at_share2 (by simp [isC2, isC]) (by first | rfl | simp [ren]) (h3) (go_on ?_); (try simp only [push_cast, simprocAttr]))
    refine at_ret ?_; simp only [Tryz.results40, push_cast, simprocAttr]
    simp [vX, e1]
end Go.Proofs.YtpanjecgbnomhaaGreatDoor
/-
  Walks: spec.SessionNew (read as data).
-/
namespace Go.Proofs.YtpanjecgbnomhaaGreatDoor
open Go Go.RowKit Go.Proofs
theorem l41Copy_d (s : St) (h1 : s.base.length < 4294967281) (h2 : s.log.length < 4294967281) : PC Tryz.prog 77 [stA' s] (vX (stA' s)) := by
  have := (l41Copy_pc s h1 h2).frzX
  simpa [viewN, hpOf, hget, stO, stA', stC, isC, tk] using this
attribute [local irreducible] RWp AW run kPe pe Kt effA gd gu br retR RDp runD kPeD brW gW effD
set_option maxRecDepth 100000
theorem specSessionNew_d0 (a b : St) (ha : SmS a) (hb : SmS b) (h : sRun a b = none) : PC Tryz.prog 38 [stA' a, stA' b] (vX (.tup [ss00, bA false])) := by
  have hR := specSessionRun_d a b ha hb
  rw [h] at hR
  unfold srV at hR
  unfold stA' stC at *
  unfold st00 at hR
  refine pc_enter Tryz.func38 rfl rfl fun w0 fb => go_on ?_; (try simp only [Tryz.ntmps38, push_cast, simprocAttr])
  ((try simp only [push_cast, simprocAttr]); refine at_share2 (by simp [isC2, isC]) (by first | rfl | simp [ren]) (hR) (go_on ?_); (try simp only [push_cast, simprocAttr]))
  (try simp only [Bool.not_false, push_cast, simprocAttr])
  refine at_ret ?_; simp only [Tryz.results38, push_cast, simprocAttr]
  simp [vX, ss00, z3]
theorem specSessionNew_d1 (a b : St) (ha : SmS a) (hb : SmS b) (x y : St) (h : sRun a b = some (x, y)) : PC Tryz.prog 38 [stA' a, stA' b] (vX (.tup [.agg (stC a ++ stC b ++ [bA false] ++ z3 ++ z3), bA true])) := by
  have hR := specSessionRun_d a b ha hb
  have h1 := l41Copy_d a ha.c1 ha.c2
  have h2 := l41Copy_d b hb.c1 hb.c2
  rw [h] at hR
  unfold srV at hR
  unfold stA' stC at *
  refine pc_enter Tryz.func38 rfl rfl fun w0 fb => go_on ?_; (try simp only [Tryz.ntmps38, push_cast, simprocAttr])
  ((try simp only [push_cast, simprocAttr]); refine at_share2 (by simp [isC2, isC]) (by first | rfl | simp [ren]) (hR) (go_on ?_); (try simp only [push_cast, simprocAttr]))
  (try simp only [Bool.not_true, push_cast, simprocAttr])
  refine at_draw rfl (by kernel_rfl) ?_; simp only [push_cast, simprocAttr]
  (refine at_shareD (by simp [isC2, isC]) (by first | rfl | simp [ren]) h1 ?_; (try simp only [push_cast, simprocAttr]))
  (refine at_shareD (by simp [isC2, isC]) (by first | rfl | simp [ren]) h2 ?_; (try simp only [push_cast, simprocAttr]))
  refine at_done (by kernel_rfl) (by kernel_rfl) (go_on ?_)
  (try simp only [push_cast, simprocAttr])
  refine at_ret ?_; simp only [Tryz.results38, push_cast, simprocAttr]
  simp [vX, z3]
end Go.Proofs.YtpanjecgbnomhaaGreatDoor
/-
  Walks: laws.sameSession.
-/
namespace Go.Proofs.YtpanjecgbnomhaaGreatDoor
open Go Go.RowKit Go.Proofs
theorem ss_eq (a b : Ss) : decide (a = b) = ((a.plan == b.plan) && decide (a.A = b.A) && decide (a.B = b.B) && decide (a.nA = b.nA) && decide (a.nB = b.nB)) := by
  rw [Bool.eq_iff_iff]
  cases a; cases b
  simp [and_assoc]
  constructor
  · rintro ⟨h1, h2, h3, h4, h5⟩; exact ⟨h3, h1, h2, h4, h5⟩
  · rintro ⟨h3, h1, h2, h4, h5⟩; exact ⟨h1, h2, h3, h4, h5⟩
attribute [local irreducible] RWp AW run kPe pe Kt effA gd gu br retR RDp runD kPeD brW gW effD
set_option maxRecDepth 100000
theorem sameSession_pc (a b : Ss) (ha : SmSs a) : PC Tryz.prog 39 [ssA a, ssA b] (vB (decide (a = b))) := by
  have h1 := sameSite_pc a.A b.A ha.A.c1 ha.A.c2
  have h2 := sameSite_pc a.B b.B ha.B.c1 ha.B.c2
  have h3 := sameSite_pc a.nA b.nA ha.nA.c1 ha.nA.c2
  have h4 := sameSite_pc a.nB b.nB ha.nB.c1 ha.nB.c2
  rw [ss_eq]
  unfold stA' stC at *
  unfold ssA ssC
  refine pc_enter Tryz.func39 rfl rfl fun w0 fb => go_on ?_; (try simp only [Tryz.ntmps39, push_cast, simprocAttr])
  repeat' first | (refine at_b (fun hb => ?_) (fun hb => ?_) <;> simp only [hb, push_cast, simprocAttr]) | (refine at_ret ?_; simp only [Tryz.results39, push_cast, simprocAttr]) | (refine at_call ?_; (try simp only [push_cast, simprocAttr]); refine rwc_v (by first | exact h1 | exact h2 | exact h3 | exact h4) (go_on ?_); simp only [push_cast, simprocAttr]) | (show RWp _ _ _ _ _; simp only [push_cast, simprocAttr])
  all_goals simp [vX, *]
end Go.Proofs.YtpanjecgbnomhaaGreatDoor
/-
  Walks: impl.TreeGet.
-/
namespace Go.Proofs.YtpanjecgbnomhaaGreatDoor
open Go Go.RowKit Go.Proofs
attribute [local irreducible] RWp AW run kPe pe Kt effA gd gu br retR RDp runD kPeD brW gW effD
set_option maxRecDepth 100000
theorem TreeGet_pc (l : List Nd) (hl : SmT l) (p : Str) (hp : p.length < 4294967281) (hv : tV l = true) (hq : pV p = true) : PC Tryz.prog 35 [ndA l, sA p] (vX (ctA (getC l p))) := by
  have h1 := TreeValid_pc l hl
  have h2 := PathValid_pc p hp
  have h3 := get_pc l hl.n p
  rw [hv] at h1
  rw [hq] at h2
  refine pc_enter Tryz.func35 rfl rfl fun w0 fb => go_on ?_; (try simp only [Tryz.ntmps35, push_cast, simprocAttr])
  (refine at_call ?_; (try simp only [push_cast, simprocAttr]); refine rwc_v (h1) (go_on ?_); (try simp only [Bool.not_true, push_cast, simprocAttr]))
  (refine at_call ?_; (try simp only [push_cast, simprocAttr]); refine rwc_v (h2) (go_on ?_); (try simp only [Bool.not_true, push_cast, simprocAttr]))
  (refine at_call ?_; (try simp only [push_cast, simprocAttr]); refine rwc_d (h3) (by simp [flatV, flatL, ctC, ndC, cmC]) (by simp [ren, ctC, ndC, cmC]) (go_on ?_); (try simp only [push_cast, simprocAttr]))
  refine at_ret ?_; simp only [Tryz.results35, push_cast, simprocAttr]
  simp [vX, ctC]
end Go.Proofs.YtpanjecgbnomhaaGreatDoor
/-
  Walks: sessions, read as data, with the empty side and the empty session where there is none.
-/
namespace Go.Proofs.YtpanjecgbnomhaaGreatDoor
open Go Go.RowKit Go.Proofs
def rA (a b : St) : St := ((sRun a b).map (·.1)).getD st0
def rB (a b : St) : St := ((sRun a b).map (·.2)).getD st0
theorem rA_some {a b x y : St} (h : sRun a b = some (x, y)) : rA a b = x := by simp [rA, h]
theorem rB_some {a b x y : St} (h : sRun a b = some (x, y)) : rB a b = y := by simp [rB, h]
theorem rA_none {a b : St} (h : sRun a b = none) : rA a b = st0 := by simp [rA, h]
theorem rB_none {a b : St} (h : sRun a b = none) : rB a b = st0 := by simp [rB, h]
theorem siteV_sm {s : St} (h : siteV s = true) : SmS s := by
  obtain ⟨t, L, h3⟩ := (siteV_iff s).1 h
  have := lV_len h3.lv
  refine ⟨sm_tv h3.tv, ⟨by omega, fun c hc => ?_⟩⟩
  have hc := lV_cv h3.lv c hc
  have := (pV_len hc.p hc.r).2
  omega
theorem st0_sm : SmS st0 := ⟨⟨⟨by simp [st0], fun n hn => by simp [st0] at hn⟩, by simp [st0]⟩, ⟨by simp [st0], fun c hc => by simp [st0] at hc⟩⟩
theorem rA_sm (a b : St) : SmS (rA a b) := by
  cases hr : sRun a b with
  | none => rw [rA_none hr]; exact st0_sm
  | some p =>
    obtain ⟨x, y⟩ := p
    rw [rA_some hr]
    exact siteV_sm (law_session hr).1
theorem rB_sm (a b : St) : SmS (rB a b) := by
  cases hr : sRun a b with
  | none => rw [rB_none hr]; exact st0_sm
  | some p =>
    obtain ⟨x, y⟩ := p
    rw [rB_some hr]
    exact siteV_sm (law_session hr).2.1
theorem srV_e {P : Program} {f : FuncId} {args : List AV} {a b : St} (h : PC P f args (srV (sRun a b))) : PC P f args (vX (.tup [stA' (rA a b), stA' (rB a b), bA (sRun a b).isSome])) := by
  cases hr : sRun a b with
  | none =>
    rw [hr] at h
    rw [rA_none hr, rB_none hr]
    refine PC.less h fun h loc w v hg => hg.tup2 rfl fun j x y u h1 h2 h3 => ?_
    rcases j with _ | _ | _ | j
    · cases h1; cases h2; exact nil_st0 h3
    · cases h1; cases h2; exact nil_st0 h3
    · cases h1; cases h2; exact h3
    · cases h1
  | some p =>
    obtain ⟨x, y⟩ := p
    rw [hr] at h
    rw [rA_some hr, rB_some hr]
    exact h
theorem SessionRun_e (a b : St) (ha : SmS a) (hb : SmS b) : PC Tryz.prog 24 [stA' a, stA' b] (vX (.tup [stA' (rA a b), stA' (rB a b), bA (sRun a b).isSome])) := srV_e (SessionRun_d a b ha hb)
theorem specSessionRun_e (a b : St) (ha : SmS a) (hb : SmS b) : PC Tryz.prog 25 [stA' a, stA' b] (vX (.tup [stA' (rA a b), stA' (rB a b), bA (sRun a b).isSome])) := srV_e (specSessionRun_d a b ha hb)
theorem nil_ss {h : Hp} {loc : Loc} {w : World} {v : Value} (a b : St) (p : Bool) (hg : G h loc w (.agg (stC a ++ stC b ++ [bA p] ++ z3 ++ z3)) v) : G h loc w (ssA ⟨a, b, p, st0, st0⟩) v := by
  refine hg.agg2 rfl fun j x y u h1 h2 h3 => ?_
  rcases j with _ | _ | _ | _ | _ | _ | _ | _ | _ | _ | _ | _ | _ | j
  all_goals first
    | (cases h1; cases h2; exact h3)
    | (cases h1; cases h2; exact h3.nil2)
    | cases h1
theorem nil_ss0 {h : Hp} {loc : Loc} {w : World} {v : Value} (hg : G h loc w ss00 v) : G h loc w (ssA ss0) v := by
  refine hg.agg2 rfl fun j x y u h1 h2 h3 => ?_
  rcases j with _ | _ | _ | _ | _ | _ | _ | _ | _ | _ | _ | _ | _ | j
  all_goals first
    | (cases h1; cases h2; exact h3)
    | (cases h1; cases h2; exact h3.nil2)
    | cases h1
theorem ss_e0 {P : Program} {f : FuncId} {args : List AV} (h : PC P f args (vX (.tup [ss00, bA false]))) : PC P f args (vX (.tup [ssA ss0, bA false])) := by
  refine PC.less h fun h loc w v hg => hg.tup2 rfl fun j x y u h1 h2 h3 => ?_
  rcases j with _ | _ | j
  · cases h1; cases h2; exact nil_ss0 h3
  · cases h1; cases h2; exact h3
  · cases h1
theorem ss_e1 {P : Program} {f : FuncId} {args : List AV} {a b : St} {p : Bool} (h : PC P f args (vX (.tup [.agg (stC a ++ stC b ++ [bA p] ++ z3 ++ z3), bA true]))) : PC P f args (vX (.tup [ssA ⟨a, b, p, st0, st0⟩, bA true])) := by
  refine PC.less h fun h loc w v hg => hg.tup2 rfl fun j x y u h1 h2 h3 => ?_
  rcases j with _ | _ | j
  · cases h1; cases h2; exact nil_ss _ _ _ h3
  · cases h1; cases h2; exact h3
  · cases h1
def ssO (x : Option Ss) : AV → List Row → Prop := vX (.tup [ssA (x.getD ss0), bA x.isSome])
theorem SessionNew_e (a b : St) (ha : SmS a) (hb : SmS b) : PC Tryz.prog 37 [stA' a, stA' b] (ssO (sNew a b)) := by
  cases hr : sRun a b with
  | none => simpa [ssO, sNew, hr] using ss_e0 (SessionNew_d0 a b ha hb hr)
  | some p => obtain ⟨x, y⟩ := p; simpa [ssO, sNew, hr] using ss_e1 (SessionNew_d1 a b ha hb x y hr)
theorem specSessionNew_e (a b : St) (ha : SmS a) (hb : SmS b) : PC Tryz.prog 38 [stA' a, stA' b] (ssO (sNew a b)) := by
  cases hr : sRun a b with
  | none => simpa [ssO, sNew, hr] using ss_e0 (specSessionNew_d0 a b ha hb hr)
  | some p => obtain ⟨x, y⟩ := p; simpa [ssO, sNew, hr] using ss_e1 (specSessionNew_d1 a b ha hb x y hr)
theorem SessionStep_e (s : Ss) (hs : SmSs s) : PC Tryz.prog 40 [ssA s] (ssO (sStep s)) := by
  cases hp : s.plan with
  | false =>
    cases hr : sRun s.A s.B with
    | none => simpa [ssO, sStep, hp, hr] using ss_e0 (SessionStep_d0 s hs hp hr)
    | some p =>
      obtain ⟨x, y⟩ := p
      have := SessionStep_d1 s hs hp x y hr
      simpa [ssO, sStep, hp, hr, ssA, ssC, stC] using this
  | true =>
    have := SessionStep_d2 s hs hp
    by_cases h1 : s.A = s.nA
    · by_cases h2 : s.B = s.nB
      · simp only [h1, h2, ne_eq, not_true_eq_false, if_false] at this
        have h3 := ss_e1 this
        simpa [ssO, sStep, hp, h1, h2] using h3
      · simp only [h1, h2, ne_eq, not_true_eq_false, not_false_eq_true, if_false, if_true] at this
        simpa [ssO, sStep, hp, h1, h2, ssA, ssC, stC] using this
    · simp only [h1, ne_eq, not_false_eq_true, if_true] at this
      simpa [ssO, sStep, hp, h1, ssA, ssC, stC] using this
end Go.Proofs.YtpanjecgbnomhaaGreatDoor
