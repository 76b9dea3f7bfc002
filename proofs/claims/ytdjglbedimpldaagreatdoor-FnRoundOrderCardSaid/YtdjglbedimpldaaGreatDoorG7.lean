/- A part of the proof of the session laws: texts W44 W45 W46 W47 W48 W49 W50 W51 W52 W53 W54 W55 W56 M36 W57 W58 W59 W60 D12 D13 W61. -/
import Derived.Test.YtdjglbedimpldaaGreatDoorG6
import Derived.Test.YtdjglbedimpldaaGreatDoorG5
import Derived.Test.YtdjglbedimpldaaGreatDoorGp
set_option linter.unusedSimpArgs false
set_option linter.unusedVariables false
/-
  Walks: impl.SessionRun, read as data.
-/
namespace Go.Proofs.YtdjglbedimpldaaGreatDoor
open Go Go.RowKit Go.Proofs
theorem cloneTree_d (l : List Nd) (hl : l.length < 4294967281) : PC Tryz.prog 66 [ndA l] (vX (ndA l)) := by
  have := (cloneTree_pc l hl).frzX
  simpa [viewN, hpOf, hget, isC, tk] using this
theorem SiteCanon_n {s : St} (h : siteV s = true) : canonV (siteC s) = true := by
  obtain ⟨t, L, hs⟩ := (siteV_iff s).1 h
  rw [hs.C]
  exact (canonV_iff L).2 ⟨hs.co, hs.l20⟩
def srV (x : Option (St × St)) : AV → List Row → Prop := vX (.tup (match x with
  | some (x, y) => [stA' x, stA' y, bA true]
  | none => [st00, st00, bA false]))
attribute [local irreducible] RWp AW run kPe pe Kt effA gd gu br retR RDp runD kPeD brW gW effD
set_option maxRecDepth 100000
theorem SessionRun_d (a b : St) (ha : SmS a) (hb : SmS b) : PC Tryz.prog 21 [stA' a, stA' b] (srV (sRun a b)) := by
  have hM := meet_pc a b ha hb
  have hA := SiteCanon_d a ha
  have hB := SiteCanon_d b hb
  have s1 := siteC_sm a
  have s2 := siteC_sm b
  have hP := PairBase_d a.base ha.t (siteC a) (siteC b) s1 s2
  have hT := PairTree_d a.base ha.t (siteC a) (siteC b) s1 s2
  have hU := PairTree_d a.base ha.t (siteC b) (siteC a) s2 s1
  have hL := LeftOf_d (siteC a) (siteC b) s1 s2
  have hR := LeftOf_d (siteC b) (siteC a) s2 s1
  unfold stA' stC at *
  refine pc_enter Tryz.func21 rfl rfl fun w0 fb => go_on ?_; (try simp only [Tryz.ntmps21, push_cast, simprocAttr])
  (refine at_call ?_; (try simp only [push_cast, simprocAttr]); refine rwc_v (hM) (go_on ?_); (try simp only [push_cast, simprocAttr]))
  cases h : meet a b with
  | false =>
    have e : sRun a b = none := by simp [sRun, h]
    (try simp only [h, Bool.not_false, push_cast, simprocAttr])
    refine at_ret ?_; simp only [Tryz.results21, push_cast, simprocAttr]
    simp [srV, vX, e, st00]
  | true =>
    (try simp only [h, Bool.not_true, push_cast, simprocAttr])
    refine at_draw rfl (by kernel_rfl) ?_; simp only [push_cast, simprocAttr]
    (refine at_shareD (by simp [isC2, isC]) (by first | rfl | simp [ren]) hA ?_; (try simp only [push_cast, simprocAttr]))
    (refine at_shareD (by simp [isC2, isC]) (by first | rfl | simp [ren]) hB ?_; (try simp only [push_cast, simprocAttr]))
    refine at_done (by kernel_rfl) (by kernel_rfl) (go_on ?_)
    (try simp only [push_cast, simprocAttr])
    ((try simp only [push_cast, simprocAttr]); refine at_share2 (by simp [isC2, isC]) (by first | rfl | simp [ren]) (hP) (go_on ?_); (try simp only [push_cast, simprocAttr]))
    ((try simp only [push_cast, simprocAttr]); refine at_share2 (by simp [isC2, isC]) (by first | rfl | simp [ren]) (hT) (go_on ?_); (try simp only [push_cast, simprocAttr]))
    ((try simp only [push_cast, simprocAttr]); refine at_share2 (by simp [isC2, isC]) (by first | rfl | simp [ren]) (hU) (go_on ?_); (try simp only [push_cast, simprocAttr]))
    cases e1 : pairBase a.base (siteC a) (siteC b) with
    | none =>
      have e : sRun a b = none := by simp [sRun, h, e1]
      (try simp only [e1, Option.isSome_none, Bool.not_false, push_cast, simprocAttr])
      refine at_ret ?_; simp only [Tryz.results21, push_cast, simprocAttr]
      simp [srV, vX, e, st00]
    | some t =>
    cases e2 : pairTree a.base (siteC a) (siteC b) with
    | none =>
      have e : sRun a b = none := by simp [sRun, h, e1, e2]
      (try simp only [e1, e2, Option.isSome_none, Option.isSome_some, Bool.not_false, Bool.not_true, push_cast, simprocAttr])
      refine at_ret ?_; simp only [Tryz.results21, push_cast, simprocAttr]
      simp [srV, vX, e, st00]
    | some u =>
    cases e3 : pairTree a.base (siteC b) (siteC a) with
    | none =>
      have e : sRun a b = none := by simp [sRun, h, e1, e2, e3]
      (try simp only [e1, e2, e3, Option.isSome_none, Option.isSome_some, Bool.not_false, Bool.not_true, push_cast, simprocAttr])
      refine at_ret ?_; simp only [Tryz.results21, push_cast, simprocAttr]
      simp [srV, vX, e, st00]
    | some v =>
    have e : sRun a b = some (⟨a.ep + 1, t, leftOf (siteC a) (siteC b)⟩, ⟨a.ep + 1, t, leftOf (siteC b) (siteC a)⟩) := by simp [sRun, h, e1, e2, e3]
    have hm := (meet_iff a b).1 h
    obtain ⟨ta, tb, La, Lb, hsa, hsb, hbb, hee, hlt⟩ := hm
    have hep := hsa.ep
    have w1 : IntKind.i64.wrap (a.ep + 1) = a.ep + 1 := wr _ (by first | omega | (simp [inR] at hep; omega))
    have htl : t.length ≤ 10 := by
      obtain ⟨x, y, hpf⟩ := (pairFits_iff a.base (siteC a) (siteC b)).1 (by
        unfold pairBase at e1
        split at e1
        · rename_i hh; simp only [Bool.and_eq_true] at hh; exact hh.1
        · cases e1)
      exact (hpf.base_ov e1).2.le
    have hC := cloneTree_d t (by omega)
    (try simp only [e1, e2, e3, Option.isSome_some, Bool.not_true, Option.getD_some, push_cast, simprocAttr])
    refine at_draw rfl (by kernel_rfl) ?_; simp only [push_cast, simprocAttr]
    (try simp only [w1, push_cast, simprocAttr])
    (refine at_shareD (by simp [isC2, isC]) (by first | rfl | simp [ren]) hL ?_; (try simp only [push_cast, simprocAttr]))
    (try simp only [w1, push_cast, simprocAttr])
    (refine at_shareD (by simp [isC2, isC]) (by first | rfl | simp [ren]) hC ?_; (try simp only [push_cast, simprocAttr]))
    (refine at_shareD (by simp [isC2, isC]) (by first | rfl | simp [ren]) hR ?_; (try simp only [push_cast, simprocAttr]))
    (try simp only [w1, push_cast, simprocAttr])
    refine at_done (by kernel_rfl) (by kernel_rfl) (go_on ?_)
    (try simp only [push_cast, simprocAttr])
    refine at_ret ?_; simp only [Tryz.results21, push_cast, simprocAttr]
    simp [srV, vX, e, stC]
end Go.Proofs.YtdjglbedimpldaaGreatDoor
/-
  Walks: spec.SessionRun.
-/
namespace Go.Proofs.YtdjglbedimpldaaGreatDoor
open Go Go.RowKit Go.Proofs
attribute [local irreducible] RWp AW run kPe pe Kt effA gd gu br retR RDp runD kPeD brW gW effD
set_option maxRecDepth 100000
theorem specSessionRun_d (a b : St) (ha : SmS a) (hb : SmS b) : PC Tryz.prog 19 [stA' a, stA' b] (srV (sRun a b)) := by
  have hM := l42Ok_pc a b ha hb
  have hA := specSiteCanon_pc a ha
  have hB := specSiteCanon_pc b hb
  have s1 := siteC_sm a
  have s2 := siteC_sm b
  have hP := specPairBase_pc a.base ha.t (siteC a) (siteC b) s1 s2
  have hT := specPairTree_pc a.base ha.t (siteC a) (siteC b) s1 s2
  have hU := specPairTree_pc a.base ha.t (siteC b) (siteC a) s2 s1
  have hL := specLeftOf_d (siteC a) (siteC b) s1 s2
  have hR := specLeftOf_d (siteC b) (siteC a) s2 s1
  unfold tbV at hP hT hU
  unfold stA' stC at *
  unfold srV
  refine PC.toF ?_
  refine pc_enter Tryz.func19 rfl rfl fun w0 fb => go_on ?_; (try simp only [Tryz.ntmps19, push_cast, simprocAttr])
  (refine at_call ?_; (try simp only [push_cast, simprocAttr]); refine rwc_v (hM) (go_on ?_); (try simp only [push_cast, simprocAttr]))
  cases h : meet a b with
  | false =>
    have e : sRun a b = none := by simp [sRun, h]
    (try simp only [h, Bool.not_false, push_cast, simprocAttr])
    refine at_ret ?_; simp only [Tryz.results19, push_cast, simprocAttr]
    simp [vF, viewN, isC, hpOf, hget, tk, ixOf, e, st00]
  | true =>
    (try simp only [h, Bool.not_true, push_cast, simprocAttr])
    ((try simp only [push_cast, simprocAttr]); refine at_share2 (by simp [isC2, isC]) (by first | rfl | simp [ren]) (hA) (go_on ?_); (try simp only [push_cast, simprocAttr]))
    ((try simp only [push_cast, simprocAttr]); refine at_share2 (by simp [isC2, isC]) (by first | rfl | simp [ren]) (hB) (go_on ?_); (try simp only [push_cast, simprocAttr]))
    ((try simp only [push_cast, simprocAttr]); refine at_share2 (by simp [isC2, isC]) (by first | rfl | simp [ren]) (hP) (go_on ?_); (try simp only [push_cast, simprocAttr]))
    ((try simp only [push_cast, simprocAttr]); refine at_share2 (by simp [isC2, isC]) (by first | rfl | simp [ren]) (hT) (go_on ?_); (try simp only [push_cast, simprocAttr]))
    ((try simp only [push_cast, simprocAttr]); refine at_share2 (by simp [isC2, isC]) (by first | rfl | simp [ren]) (hU) (go_on ?_); (try simp only [push_cast, simprocAttr]))
    cases e1 : pairBase a.base (siteC a) (siteC b) with
    | none =>
      have e : sRun a b = none := by simp [sRun, h, e1]
      (try simp only [e1, Option.isSome_none, Bool.not_false, push_cast, simprocAttr])
      refine at_ret ?_; simp only [Tryz.results19, push_cast, simprocAttr]
      simp [vF, viewN, isC, hpOf, hget, tk, ixOf, e, st00]
    | some t =>
    cases e2 : pairTree a.base (siteC a) (siteC b) with
    | none =>
      have e : sRun a b = none := by simp [sRun, h, e1, e2]
      (try simp only [e1, e2, Option.isSome_none, Option.isSome_some, Bool.not_false, Bool.not_true, push_cast, simprocAttr])
      refine at_ret ?_; simp only [Tryz.results19, push_cast, simprocAttr]
      simp [vF, viewN, isC, hpOf, hget, tk, ixOf, e, st00]
    | some u =>
    cases e3 : pairTree a.base (siteC b) (siteC a) with
    | none =>
      have e : sRun a b = none := by simp [sRun, h, e1, e2, e3]
      (try simp only [e1, e2, e3, Option.isSome_none, Option.isSome_some, Bool.not_false, Bool.not_true, push_cast, simprocAttr])
      refine at_ret ?_; simp only [Tryz.results19, push_cast, simprocAttr]
      simp [vF, viewN, isC, hpOf, hget, tk, ixOf, e, st00]
    | some v =>
    have e : sRun a b = some (⟨a.ep + 1, t, leftOf (siteC a) (siteC b)⟩, ⟨a.ep + 1, t, leftOf (siteC b) (siteC a)⟩) := by simp [sRun, h, e1, e2, e3]
    have hm := (meet_iff a b).1 h
    obtain ⟨ta, tb, La, Lb, hsa, hsb, hbb, hee, hlt⟩ := hm
    have hep := hsa.ep
    have htl : t.length ≤ 10 := by
      obtain ⟨x, y, hpf⟩ := (pairFits_iff a.base (siteC a) (siteC b)).1 (by
        unfold pairBase at e1
        split at e1
        · rename_i hh; simp only [Bool.and_eq_true] at hh; exact hh.1
        · cases e1)
      exact (hpf.base_ov e1).2.le
    have w1 : IntKind.i64.wrap (a.ep + 1) = a.ep + 1 := wr _ (by omega)
    (try simp only [e1, e2, e3, Option.isSome_some, Bool.not_true, Option.getD_some, push_cast, simprocAttr])
    refine at_draw rfl (by kernel_rfl) ?_; simp only [push_cast, simprocAttr]
    (try simp only [w1, push_cast, simprocAttr])
    (refine at_shareD (by simp [isC2, isC]) (by first | rfl | simp [ren]) hL ?_; (try simp only [push_cast, simprocAttr]))
    (try simp only [w1, push_cast, simprocAttr])
    refine at_done (by kernel_rfl) (by kernel_rfl) (go_on ?_)
    (try simp only [push_cast, simprocAttr])
    refine at_draw rfl (by kernel_rfl) ?_; simp only [push_cast, simprocAttr]
    (try simp only [w1, push_cast, simprocAttr])
    (try simp only [effD_app2, w1, push_cast, simprocAttr])
    refine at_chkD (by omega) ?_
    (try simp only [push_cast, simprocAttr])
    (refine at_shareD (by simp [isC2, isC]) (by first | rfl | simp [ren]) hR ?_; (try simp only [push_cast, simprocAttr]))
    refine at_done (by kernel_rfl) (by kernel_rfl) (go_on ?_)
    (try simp only [push_cast, simprocAttr])
    refine at_draw rfl (by kernel_rfl) ?_; simp only [push_cast, simprocAttr]
    refine at_done (by kernel_rfl) (by kernel_rfl) (go_on ?_)
    (try simp only [push_cast, simprocAttr])
    refine at_ret ?_; simp only [Tryz.results19, push_cast, simprocAttr]
    simp [vF, viewN, isC, hpOf, hget, tk, ixOf, e, stC]
end Go.Proofs.YtdjglbedimpldaaGreatDoor
/-
  Walks: sessions in steps: SessionNew, SessionRecover (read as data).
-/
namespace Go.Proofs.YtdjglbedimpldaaGreatDoor
open Go Go.RowKit Go.Proofs
theorem clone_d (s : St) (h1 : s.base.length < 4294967281) (h2 : s.log.length < 4294967281) : PC Tryz.prog 46 [stA' s] (vX (stA' s)) := by
  have := (clone_pc s h1 h2).frzX
  simpa [viewN, hpOf, hget, stO, stA', stC, isC, tk] using this
def ssC (s : Ss) : List AV := [iA s.A.ep, ndA s.A.base, cmA s.A.log, iA s.B.ep, ndA s.B.base, cmA s.B.log, bA s.plan, iA s.nA.ep, ndA s.nA.base, cmA s.nA.log, iA s.nB.ep, ndA s.nB.base, cmA s.nB.log]
abbrev ssA (s : Ss) : AV := .agg (ssC s)
structure SmSs (s : Ss) : Prop where
  A : SmS s.A
  B : SmS s.B
  nA : SmS s.nA
  nB : SmS s.nB
theorem SmS.c1 {s : St} (h : SmS s) : s.base.length < 4294967281 := by have := h.t.n; omega
theorem SmS.c2 {s : St} (h : SmS s) : s.log.length < 4294967281 := by have := h.l.n; omega
attribute [local irreducible] RWp AW run kPe pe Kt effA gd gu br retR RDp runD kPeD brW gW effD
set_option maxRecDepth 100000
end Go.Proofs.YtdjglbedimpldaaGreatDoor
/-
  Walks: sessions in steps: SessionNew (read as data).
-/
namespace Go.Proofs.YtdjglbedimpldaaGreatDoor
open Go Go.RowKit Go.Proofs
def z3 : List AV := [iA 0, .v (.slice none 0 0), .v (.slice none 0 0)]
def ss00 : AV := .agg (z3 ++ z3 ++ [bA false] ++ z3 ++ z3)
def ssV (x : Option Ss) (st : AV) : AV → List Row → Prop := vX (.tup [st, bA x.isSome])
attribute [local irreducible] RWp AW run kPe pe Kt effA gd gu br retR RDp runD kPeD brW gW effD
set_option maxRecDepth 100000
theorem SessionNew_d0 (a b : St) (ha : SmS a) (hb : SmS b) (h : sRun a b = none) : PC Tryz.prog 33 [stA' a, stA' b] (vX (.tup [ss00, bA false])) := by
  have hR := SessionRun_d a b ha hb
  rw [h] at hR
  unfold srV at hR
  unfold stA' stC at *
  unfold st00 at hR
  refine pc_enter Tryz.func33 rfl rfl fun w0 fb => go_on ?_; (try simp only [Tryz.ntmps33, push_cast, simprocAttr])
  ((try simp only [push_cast, simprocAttr]); refine at_share2 (by simp [isC2, isC]) (by first | rfl | simp [ren]) (hR) (go_on ?_); (try simp only [push_cast, simprocAttr]))
  (try simp only [Bool.not_false, push_cast, simprocAttr])
  refine at_ret ?_; simp only [Tryz.results33, push_cast, simprocAttr]
  simp [vX, ss00, z3]
theorem SessionNew_d1 (a b : St) (ha : SmS a) (hb : SmS b) (x y : St) (h : sRun a b = some (x, y)) : PC Tryz.prog 33 [stA' a, stA' b] (vX (.tup [.agg (stC a ++ stC b ++ [bA false] ++ z3 ++ z3), bA true])) := by
  have hR := SessionRun_d a b ha hb
  have h1 := clone_d a ha.c1 ha.c2
  have h2 := clone_d b hb.c1 hb.c2
  rw [h] at hR
  unfold srV at hR
  unfold stA' stC at *
  refine pc_enter Tryz.func33 rfl rfl fun w0 fb => go_on ?_; (try simp only [Tryz.ntmps33, push_cast, simprocAttr])
  ((try simp only [push_cast, simprocAttr]); refine at_share2 (by simp [isC2, isC]) (by first | rfl | simp [ren]) (hR) (go_on ?_); (try simp only [push_cast, simprocAttr]))
  (try simp only [Bool.not_true, push_cast, simprocAttr])
  refine at_draw rfl (by kernel_rfl) ?_; simp only [push_cast, simprocAttr]
  (refine at_shareD (by simp [isC2, isC]) (by first | rfl | simp [ren]) h1 ?_; (try simp only [push_cast, simprocAttr]))
  (refine at_shareD (by simp [isC2, isC]) (by first | rfl | simp [ren]) h2 ?_; (try simp only [push_cast, simprocAttr]))
  refine at_done (by kernel_rfl) (by kernel_rfl) (go_on ?_)
  (try simp only [push_cast, simprocAttr])
  refine at_ret ?_; simp only [Tryz.results33, push_cast, simprocAttr]
  simp [vX, z3]
end Go.Proofs.YtdjglbedimpldaaGreatDoor
/-
  Walks: sessions in steps: SessionStep (read as data).
-/
namespace Go.Proofs.YtdjglbedimpldaaGreatDoor
open Go Go.RowKit Go.Proofs
attribute [local irreducible] RWp AW run kPe pe Kt effA gd gu br retR RDp runD kPeD brW gW effD
set_option maxRecDepth 100000
theorem SessionStep_d0 (s : Ss) (hs : SmSs s) (hp : s.plan = false) (h : sRun s.A s.B = none) : PC Tryz.prog 14 [ssA s] (vX (.tup [ss00, bA false])) := by
  have h1 := clone_d s.A hs.A.c1 hs.A.c2
  have h2 := clone_d s.B hs.B.c1 hs.B.c2
  have h3 := clone_d s.nA hs.nA.c1 hs.nA.c2
  have h4 := clone_d s.nB hs.nB.c1 hs.nB.c2
  have hR := SessionRun_d s.A s.B hs.A hs.B
  rw [h] at hR
  unfold srV at hR
  unfold stA' stC at *
  unfold st00 at hR
  unfold ssA ssC
  rw [hp]
  refine pc_enter Tryz.func14 rfl rfl fun w0 fb => go_on ?_; (try simp only [Tryz.ntmps14, push_cast, simprocAttr])
  refine at_draw rfl (by kernel_rfl) ?_; simp only [push_cast, simprocAttr]
  (refine at_shareD (by simp [isC2, isC]) (by first | rfl | simp [ren]) h1 ?_; (try simp only [push_cast, simprocAttr]))
  (refine at_shareD (by simp [isC2, isC]) (by first | rfl | simp [ren]) h2 ?_; (try simp only [push_cast, simprocAttr]))
  (refine at_shareD (by simp [isC2, isC]) (by first | rfl | simp [ren]) h3 ?_; (try simp only [push_cast, simprocAttr]))
  (refine at_shareD (by simp [isC2, isC]) (by first | rfl | simp [ren]) h4 ?_; (try simp only [push_cast, simprocAttr]))
  refine at_done (by kernel_rfl) (by kernel_rfl) (go_on ?_)
  (try simp only [Bool.not_false, push_cast, simprocAttr])
  ((try simp only [push_cast, simprocAttr]); refine at_share2 (by simp [isC2, isC]) (by first | rfl | simp [ren]) (hR) (go_on ?_); (try simp only [push_cast, simprocAttr]))
  (try simp only [Bool.not_false, push_cast, simprocAttr])
  refine at_ret ?_; simp only [Tryz.results14, push_cast, simprocAttr]
  simp [vX, ss00, z3]
theorem SessionStep_d1 (s : Ss) (hs : SmSs s) (hp : s.plan = false) (x y : St) (h : sRun s.A s.B = some (x, y)) : PC Tryz.prog 14 [ssA s] (vX (.tup [.agg (stC s.A ++ stC s.B ++ [bA true] ++ stC x ++ stC y), bA true])) := by
  have h1 := clone_d s.A hs.A.c1 hs.A.c2
  have h2 := clone_d s.B hs.B.c1 hs.B.c2
  have h3 := clone_d s.nA hs.nA.c1 hs.nA.c2
  have h4 := clone_d s.nB hs.nB.c1 hs.nB.c2
  have hR := SessionRun_d s.A s.B hs.A hs.B
  rw [h] at hR
  unfold srV at hR
  unfold stA' stC at *
  unfold ssA ssC
  rw [hp]
  refine pc_enter Tryz.func14 rfl rfl fun w0 fb => go_on ?_; (try simp only [Tryz.ntmps14, push_cast, simprocAttr])
  refine at_draw rfl (by kernel_rfl) ?_; simp only [push_cast, simprocAttr]
  (refine at_shareD (by simp [isC2, isC]) (by first | rfl | simp [ren]) h1 ?_; (try simp only [push_cast, simprocAttr]))
  (refine at_shareD (by simp [isC2, isC]) (by first | rfl | simp [ren]) h2 ?_; (try simp only [push_cast, simprocAttr]))
  (refine at_shareD (by simp [isC2, isC]) (by first | rfl | simp [ren]) h3 ?_; (try simp only [push_cast, simprocAttr]))
  (refine at_shareD (by simp [isC2, isC]) (by first | rfl | simp [ren]) h4 ?_; (try simp only [push_cast, simprocAttr]))
  refine at_done (by kernel_rfl) (by kernel_rfl) (go_on ?_)
  (try simp only [Bool.not_false, push_cast, simprocAttr])
  ((try simp only [push_cast, simprocAttr]); refine at_share2 (by simp [isC2, isC]) (by first | rfl | simp [ren]) (hR) (go_on ?_); (try simp only [push_cast, simprocAttr]))
  (try simp only [Bool.not_true, push_cast, simprocAttr])
  refine at_draw rfl (by kernel_rfl) ?_; simp only [push_cast, simprocAttr]
  refine at_done (by kernel_rfl) (by kernel_rfl) (go_on ?_)
  (try simp only [push_cast, simprocAttr])
  refine at_ret ?_; simp only [Tryz.results14, push_cast, simprocAttr]
  simp [vX]
end Go.Proofs.YtdjglbedimpldaaGreatDoor
/-
  Walks: sessions in steps: SessionStep behind its plan (read as data).
-/
namespace Go.Proofs.YtdjglbedimpldaaGreatDoor
open Go Go.RowKit Go.Proofs
attribute [local irreducible] RWp AW run kPe pe Kt effA gd gu br retR RDp runD kPeD brW gW effD
set_option maxRecDepth 100000
theorem SessionStep_d2 (s : Ss) (hs : SmSs s) (hp : s.plan = true) : PC Tryz.prog 14 [ssA s] (vX (.tup [.agg (if s.A ≠ s.nA then stC s.nA ++ stC s.B ++ [bA true] ++ stC s.nA ++ stC s.nB else if s.B ≠ s.nB then stC s.A ++ stC s.nB ++ [bA true] ++ stC s.nA ++ stC s.nB else stC s.A ++ stC s.B ++ [bA false] ++ z3 ++ z3), bA true])) := by
  have h1 := clone_d s.A hs.A.c1 hs.A.c2
  have h2 := clone_d s.B hs.B.c1 hs.B.c2
  have h3 := clone_d s.nA hs.nA.c1 hs.nA.c2
  have h4 := clone_d s.nB hs.nB.c1 hs.nB.c2
  have hS := same_pc s.A s.nA hs.A hs.nA
  have hT := same_pc s.B s.nB hs.B hs.nB
  unfold stA' stC at *
  unfold ssA ssC
  rw [hp]
  refine pc_enter Tryz.func14 rfl rfl fun w0 fb => go_on ?_; (try simp only [Tryz.ntmps14, push_cast, simprocAttr])
  refine at_draw rfl (by kernel_rfl) ?_; simp only [push_cast, simprocAttr]
  (refine at_shareD (by simp [isC2, isC]) (by first | rfl | simp [ren]) h1 ?_; (try simp only [push_cast, simprocAttr]))
  (refine at_shareD (by simp [isC2, isC]) (by first | rfl | simp [ren]) h2 ?_; (try simp only [push_cast, simprocAttr]))
  (refine at_shareD (by simp [isC2, isC]) (by first | rfl | simp [ren]) h3 ?_; (try simp only [push_cast, simprocAttr]))
  (refine at_shareD (by simp [isC2, isC]) (by first | rfl | simp [ren]) h4 ?_; (try simp only [push_cast, simprocAttr]))
  refine at_done (by kernel_rfl) (by kernel_rfl) (go_on ?_)
  (try simp only [Bool.not_true, push_cast, simprocAttr])
  (refine at_call ?_; (try simp only [push_cast, simprocAttr]); refine rwc_v (hS) (go_on ?_); (try simp only [push_cast, simprocAttr]))
  by_cases e1 : s.A = s.nA
  · have d1 : decide (s.A = s.nA) = true := by simpa using e1
    (try simp only [d1, Bool.not_true, push_cast, simprocAttr])
    (refine at_call ?_; (try simp only [push_cast, simprocAttr]); refine rwc_v (hT) (go_on ?_); (try simp only [push_cast, simprocAttr]))
    by_cases e2 : s.B = s.nB
    · have d2 : decide (s.B = s.nB) = true := by simpa using e2
      (try simp only [d2, Bool.not_true, push_cast, simprocAttr])
      refine at_ret ?_; simp only [Tryz.results14, push_cast, simprocAttr]
      simp [vX, z3, e1, e2]
    · have d2 : decide (s.B = s.nB) = false := by simpa using e2
      (try simp only [d2, Bool.not_false, push_cast, simprocAttr])
      ((try simp only [push_cast, simprocAttr]); refine at_share2 (by simp [isC2, isC]) (by first | rfl | simp [ren]) (h4) (go_on ?_); (try simp only [push_cast, simprocAttr]))
      refine at_ret ?_; simp only [Tryz.results14, push_cast, simprocAttr]
      simp [vX, e1, e2]
  · have d1 : decide (s.A = s.nA) = false := by simpa using e1
    (try simp only [d1, Bool.not_false, push_cast, simprocAttr])
    ((try simp only [push_cast, simprocAttr]); refine at_share2 (by simp [isC2, isC]) (by first | rfl | simp [ren]) (h3) (go_on ?_); (try simp only [push_cast, simprocAttr]))
    refine at_ret ?_; simp only [Tryz.results14, push_cast, simprocAttr]
    simp [vX, e1]
end Go.Proofs.YtdjglbedimpldaaGreatDoor
/-
  Walks: spec.SessionNew (read as data).
-/
namespace Go.Proofs.YtdjglbedimpldaaGreatDoor
open Go Go.RowKit Go.Proofs
theorem l41Copy_d (s : St) (h1 : s.base.length < 4294967281) (h2 : s.log.length < 4294967281) : PC Tryz.prog 48 [stA' s] (vX (stA' s)) := by
  have := (l41Copy_pc s h1 h2).frzX
  simpa [viewN, hpOf, hget, stO, stA', stC, isC, tk] using this
attribute [local irreducible] RWp AW run kPe pe Kt effA gd gu br retR RDp runD kPeD brW gW effD
set_option maxRecDepth 100000
theorem specSessionNew_d0 (a b : St) (ha : SmS a) (hb : SmS b) (h : sRun a b = none) : PC Tryz.prog 32 [stA' a, stA' b] (vX (.tup [ss00, bA false])) := by
  have hR := specSessionRun_d a b ha hb
  rw [h] at hR
  unfold srV at hR
  unfold stA' stC at *
  unfold st00 at hR
  refine pc_enter Tryz.func32 rfl rfl fun w0 fb => go_on ?_; (try simp only [Tryz.ntmps32, push_cast, simprocAttr])
  ((try simp only [push_cast, simprocAttr]); refine at_share2 (by simp [isC2, isC]) (by first | rfl | simp [ren]) (hR) (go_on ?_); (try simp only [push_cast, simprocAttr]))
  (try simp only [Bool.not_false, push_cast, simprocAttr])
  refine at_ret ?_; simp only [Tryz.results32, push_cast, simprocAttr]
  simp [vX, ss00, z3]
theorem specSessionNew_d1 (a b : St) (ha : SmS a) (hb : SmS b) (x y : St) (h : sRun a b = some (x, y)) : PC Tryz.prog 32 [stA' a, stA' b] (vX (.tup [.agg (stC a ++ stC b ++ [bA false] ++ z3 ++ z3), bA true])) := by
  have hR := specSessionRun_d a b ha hb
  have h1 := l41Copy_d a ha.c1 ha.c2
  have h2 := l41Copy_d b hb.c1 hb.c2
  rw [h] at hR
  unfold srV at hR
  unfold stA' stC at *
  refine pc_enter Tryz.func32 rfl rfl fun w0 fb => go_on ?_; (try simp only [Tryz.ntmps32, push_cast, simprocAttr])
  ((try simp only [push_cast, simprocAttr]); refine at_share2 (by simp [isC2, isC]) (by first | rfl | simp [ren]) (hR) (go_on ?_); (try simp only [push_cast, simprocAttr]))
  (try simp only [Bool.not_true, push_cast, simprocAttr])
  refine at_draw rfl (by kernel_rfl) ?_; simp only [push_cast, simprocAttr]
  (refine at_shareD (by simp [isC2, isC]) (by first | rfl | simp [ren]) h1 ?_; (try simp only [push_cast, simprocAttr]))
  (refine at_shareD (by simp [isC2, isC]) (by first | rfl | simp [ren]) h2 ?_; (try simp only [push_cast, simprocAttr]))
  refine at_done (by kernel_rfl) (by kernel_rfl) (go_on ?_)
  (try simp only [push_cast, simprocAttr])
  refine at_ret ?_; simp only [Tryz.results32, push_cast, simprocAttr]
  simp [vX, z3]
end Go.Proofs.YtdjglbedimpldaaGreatDoor
/-
  Walks: laws.sameSession.
-/
namespace Go.Proofs.YtdjglbedimpldaaGreatDoor
open Go Go.RowKit Go.Proofs
theorem ss_eq (a b : Ss) : decide (a = b) = ((a.plan == b.plan) && decide (a.A = b.A) && decide (a.B = b.B) && decide (a.nA = b.nA) && decide (a.nB = b.nB)) := by
  rw [Bool.eq_iff_iff]
  cases a; cases b
  simp [and_assoc]
  constructor
  · rintro ⟨h1, h2, h3, h4, h5⟩; exact ⟨h3, h1, h2, h4, h5⟩
  · rintro ⟨h3, h1, h2, h4, h5⟩; exact ⟨h1, h2, h3, h4, h5⟩
attribute [local irreducible] RWp AW run kPe pe Kt effA gd gu br retR RDp runD kPeD brW gW effD
set_option maxRecDepth 100000
theorem sameSession_pc (a b : Ss) (ha : SmSs a) : PC Tryz.prog 16 [ssA a, ssA b] (vB (decide (a = b))) := by
  have h1 := sameSite_pc a.A b.A ha.A.c1 ha.A.c2
  have h2 := sameSite_pc a.B b.B ha.B.c1 ha.B.c2
  have h3 := sameSite_pc a.nA b.nA ha.nA.c1 ha.nA.c2
  have h4 := sameSite_pc a.nB b.nB ha.nB.c1 ha.nB.c2
  rw [ss_eq]
  unfold stA' stC at *
  unfold ssA ssC
  refine pc_enter Tryz.func16 rfl rfl fun w0 fb => go_on ?_; (try simp only [Tryz.ntmps16, push_cast, simprocAttr])
  repeat' first | (refine at_b (fun hb => ?_) (fun hb => ?_) <;> simp only [hb, push_cast, simprocAttr]) | (refine at_ret ?_; simp only [Tryz.results16, push_cast, simprocAttr]) | (refine at_call ?_; (try simp only [push_cast, simprocAttr]); refine rwc_v (by first | exact h1 | exact h2 | exact h3 | exact h4) (go_on ?_); simp only [push_cast, simprocAttr]) | (show RWp _ _ _ _ _; simp only [push_cast, simprocAttr])
  all_goals simp [vX, *]
end Go.Proofs.YtdjglbedimpldaaGreatDoor
/-
  Walks: impl.TreeGet.
-/
namespace Go.Proofs.YtdjglbedimpldaaGreatDoor
open Go Go.RowKit Go.Proofs
attribute [local irreducible] RWp AW run kPe pe Kt effA gd gu br retR RDp runD kPeD brW gW effD
set_option maxRecDepth 100000
end Go.Proofs.YtdjglbedimpldaaGreatDoor
/-
  Walks: sessions, read as data, with the empty side and the empty session where there is none.
-/
namespace Go.Proofs.YtdjglbedimpldaaGreatDoor
open Go Go.RowKit Go.Proofs
def rA (a b : St) : St := ((sRun a b).map (·.1)).getD st0
def rB (a b : St) : St := ((sRun a b).map (·.2)).getD st0
theorem rA_some {a b x y : St} (h : sRun a b = some (x, y)) : rA a b = x := by simp [rA, h]
theorem rB_some {a b x y : St} (h : sRun a b = some (x, y)) : rB a b = y := by simp [rB, h]
theorem rA_none {a b : St} (h : sRun a b = none) : rA a b = st0 := by simp [rA, h]
theorem rB_none {a b : St} (h : sRun a b = none) : rB a b = st0 := by simp [rB, h]
theorem siteV_sm {s : St} (h : siteV s = true) : SmS s := by
  obtain ⟨t, L, h3⟩ := (siteV_iff s).1 h
  have := lV_len h3.lv
  refine ⟨sm_tv h3.tv, ⟨by omega, fun c hc => ?_⟩⟩
  have hc := lV_cv h3.lv c hc
  have := (pV_len hc.p hc.r).2
  omega
theorem st0_sm : SmS st0 := ⟨⟨⟨by simp [st0], fun n hn => by simp [st0] at hn⟩, by simp [st0]⟩, ⟨by simp [st0], fun c hc => by simp [st0] at hc⟩⟩
theorem rA_sm (a b : St) : SmS (rA a b) := by
  cases hr : sRun a b with
  | none => rw [rA_none hr]; exact st0_sm
  | some p =>
    obtain ⟨x, y⟩ := p
    rw [rA_some hr]
    exact siteV_sm (law_session hr).1
theorem rB_sm (a b : St) : SmS (rB a b) := by
  cases hr : sRun a b with
  | none => rw [rB_none hr]; exact st0_sm
  | some p =>
    obtain ⟨x, y⟩ := p
    rw [rB_some hr]
    exact siteV_sm (law_session hr).2.1
theorem srV_e {P : Program} {f : FuncId} {args : List AV} {a b : St} (h : PC P f args (srV (sRun a b))) : PC P f args (vX (.tup [stA' (rA a b), stA' (rB a b), bA (sRun a b).isSome])) := by
  cases hr : sRun a b with
  | none =>
    rw [hr] at h
    rw [rA_none hr, rB_none hr]
    refine PC.less h fun h loc w v hg => hg.tup2 rfl fun j x y u h1 h2 h3 => ?_
    rcases j with _ | _ | _ | j
    · cases h1; cases h2; exact nil_st0 h3
    · cases h1; cases h2; exact nil_st0 h3
    · cases h1; cases h2; exact h3
    · cases h1
  | some p =>
    obtain ⟨x, y⟩ := p
    rw [hr] at h
    rw [rA_some hr, rB_some hr]
    exact h
theorem SessionRun_e (a b : St) (ha : SmS a) (hb : SmS b) : PC Tryz.prog 21 [stA' a, stA' b] (vX (.tup [stA' (rA a b), stA' (rB a b), bA (sRun a b).isSome])) := srV_e (SessionRun_d a b ha hb)
theorem specSessionRun_e (a b : St) (ha : SmS a) (hb : SmS b) : PC Tryz.prog 19 [stA' a, stA' b] (vX (.tup [stA' (rA a b), stA' (rB a b), bA (sRun a b).isSome])) := srV_e (specSessionRun_d a b ha hb)
theorem nil_ss {h : Hp} {loc : Loc} {w : World} {v : Value} (a b : St) (p : Bool) (hg : G h loc w (.agg (stC a ++ stC b ++ [bA p] ++ z3 ++ z3)) v) : G h loc w (ssA ⟨a, b, p, st0, st0⟩) v := by
  refine hg.agg2 rfl fun j x y u h1 h2 h3 => ?_
  rcases j with _ | _ | _ | _ | _ | _ | _ | _ | _ | _ | _ | _ | _ | j
  all_goals first
    | (cases h1; cases h2; exact h3)
    | (cases h1; cases h2; exact h3.nil2)
    | cases h1
theorem nil_ss0 {h : Hp} {loc : Loc} {w : World} {v : Value} (hg : G h loc w ss00 v) : G h loc w (ssA ss0) v := by
  refine hg.agg2 rfl fun j x y u h1 h2 h3 => ?_
  rcases j with _ | _ | _ | _ | _ | _ | _ | _ | _ | _ | _ | _ | _ | j
  all_goals first
    | (cases h1; cases h2; exact h3)
    | (cases h1; cases h2; exact h3.nil2)
    | cases h1
theorem ss_e0 {P : Program} {f : FuncId} {args : List AV} (h : PC P f args (vX (.tup [ss00, bA false]))) : PC P f args (vX (.tup [ssA ss0, bA false])) := by
  refine PC.less h fun h loc w v hg => hg.tup2 rfl fun j x y u h1 h2 h3 => ?_
  rcases j with _ | _ | j
  · cases h1; cases h2; exact nil_ss0 h3
  · cases h1; cases h2; exact h3
  · cases h1
theorem ss_e1 {P : Program} {f : FuncId} {args : List AV} {a b : St} {p : Bool} (h : PC P f args (vX (.tup [.agg (stC a ++ stC b ++ [bA p] ++ z3 ++ z3), bA true]))) : PC P f args (vX (.tup [ssA ⟨a, b, p, st0, st0⟩, bA true])) := by
  refine PC.less h fun h loc w v hg => hg.tup2 rfl fun j x y u h1 h2 h3 => ?_
  rcases j with _ | _ | j
  · cases h1; cases h2; exact nil_ss _ _ _ h3
  · cases h1; cases h2; exact h3
  · cases h1
def ssO (x : Option Ss) : AV → List Row → Prop := vX (.tup [ssA (x.getD ss0), bA x.isSome])
theorem SessionNew_e (a b : St) (ha : SmS a) (hb : SmS b) : PC Tryz.prog 33 [stA' a, stA' b] (ssO (sNew a b)) := by
  cases hr : sRun a b with
  | none => simpa [ssO, sNew, hr] using ss_e0 (SessionNew_d0 a b ha hb hr)
  | some p => obtain ⟨x, y⟩ := p; simpa [ssO, sNew, hr] using ss_e1 (SessionNew_d1 a b ha hb x y hr)
theorem specSessionNew_e (a b : St) (ha : SmS a) (hb : SmS b) : PC Tryz.prog 32 [stA' a, stA' b] (ssO (sNew a b)) := by
  cases hr : sRun a b with
  | none => simpa [ssO, sNew, hr] using ss_e0 (specSessionNew_d0 a b ha hb hr)
  | some p => obtain ⟨x, y⟩ := p; simpa [ssO, sNew, hr] using ss_e1 (specSessionNew_d1 a b ha hb x y hr)
theorem SessionStep_e (s : Ss) (hs : SmSs s) : PC Tryz.prog 14 [ssA s] (ssO (sStep s)) := by
  cases hp : s.plan with
  | false =>
    cases hr : sRun s.A s.B with
    | none => simpa [ssO, sStep, hp, hr] using ss_e0 (SessionStep_d0 s hs hp hr)
    | some p =>
      obtain ⟨x, y⟩ := p
      have := SessionStep_d1 s hs hp x y hr
      simpa [ssO, sStep, hp, hr, ssA, ssC, stC] using this
  | true =>
    have := SessionStep_d2 s hs hp
    by_cases h1 : s.A = s.nA
    · by_cases h2 : s.B = s.nB
      · simp only [h1, h2, ne_eq, not_true_eq_false, if_false] at this
        have h3 := ss_e1 this
        simpa [ssO, sStep, hp, h1, h2] using h3
      · simp only [h1, h2, ne_eq, not_true_eq_false, not_false_eq_true, if_false, if_true] at this
        simpa [ssO, sStep, hp, h1, h2, ssA, ssC, stC] using this
    · simp only [h1, ne_eq, not_false_eq_true, if_true] at this
      simpa [ssO, sStep, hp, h1, ssA, ssC, stC] using this
end Go.Proofs.YtdjglbedimpldaaGreatDoor
/-
  Plain: the sessions that four steps pass through.
-/
namespace Go.Proofs.YtdjglbedimpldaaGreatDoor
open Go Go.RowKit Go.Proofs
def sq (a b x y : St) : Nat → Ss
  | 0 => ⟨a, b, false, st0, st0⟩
  | 1 => ⟨a, b, true, x, y⟩
  | 2 => ⟨x, b, true, x, y⟩
  | 3 => ⟨x, y, true, x, y⟩
  | _ => ⟨x, y, false, st0, st0⟩
theorem sq_sm {a b x y : St} (ha : SmS a) (hb : SmS b) (hx : SmS x) (hy : SmS y) (k : Nat) : SmSs (sq a b x y k) := by
  rcases k with _ | _ | _ | _ | k
  · exact ⟨ha, hb, st0_sm, st0_sm⟩
  · exact ⟨ha, hb, hx, hy⟩
  · exact ⟨hx, hb, hx, hy⟩
  · exact ⟨hx, hy, hx, hy⟩
  · exact ⟨hx, hy, st0_sm, st0_sm⟩
theorem sq_step {a b x y : St} (h : sRun a b = some (x, y)) (k : Nat) (hk : k < 4) : sStep (sq a b x y k) = some (sq a b x y (k + 1)) := by
  obtain ⟨h1, h2, h3, h4⟩ := law_steps h
  rcases k with _ | _ | _ | _ | k
  · exact h1
  · exact h2
  · exact h3
  · exact h4
  · omega
theorem sq_rec {a b x y : St} (k : Nat) : sRec (sq a b x y k) = if k = 0 then (a, b) else (x, y) := by
  rcases k with _ | _ | _ | _ | k <;> simp [sRec, sq]
end Go.Proofs.YtdjglbedimpldaaGreatDoor
/-
  Walks: spec.SessionStep.
-/
namespace Go.Proofs.YtdjglbedimpldaaGreatDoor
open Go Go.RowKit Go.Proofs
attribute [local irreducible] RWp AW run kPe pe Kt effA gd gu br retR RDp runD kPeD brW gW effD
set_option maxRecDepth 100000
theorem l42Empty_pc : PC Tryz.prog 50 [] (rX (stO st0) [rowN [], rowC []]) := by
  unfold stO st0
  refine pc_enter Tryz.func50 rfl rfl fun w0 fb => go_on ?_; (try simp only [Tryz.ntmps50, push_cast, simprocAttr])
  refine at_ret ?_; simp only [Tryz.results50, push_cast, simprocAttr]
  simp [rX, ixOf, rowN, rowC]
theorem l42Logs_pc (a b : List Cm) (hl : a.length < 4294967281) : PC Tryz.prog 138 [cmA a, cmA b] (vB (decide (a = b))) := by
  refine pc_enter Tryz.func138 rfl rfl fun w0 fb => go_on ?_; (try simp only [Tryz.ntmps138, push_cast, simprocAttr])
  refine at_b (fun hb => ?_) (fun hb => ?_)
  · have h1 := of_eqI_f (not_t hb)
    have h2 : a ≠ b := by rintro rfl; exact h1 rfl
    (try simp only [hb, push_cast, simprocAttr])
    refine at_ret ?_; simp only [Tryz.results138, push_cast, simprocAttr]
    simp [vX, h2]
  · have h1 : a.length = b.length := by have := of_eqI_t (not_f hb); omega
    (try simp only [hb, push_cast, simprocAttr])
    refine at_loop (X := Nat) (fun k => [(5, iA k)]) (fun _ => []) (fun k => k ≤ a.length ∧ decide (a = b) = decide (a.drop k = b.drop k)) (fun k => a.length - k) 0 ⟨Nat.zero_le _, rfl⟩ ?_ ?_
    · (refine wk_ok ?_ ?_ ?_ ?_ <;> simp [leL, leH, idsL, idsA, idsR, inH, hget, sameRow, upA, hvA, dsts, dstO, setA_0, setA_1, setA_8, List.append, List.cons_append, List.nil_append])
    · rintro k ⟨q1, q2⟩
      simp only [upA, hvA, dsts, dstO, setA_0, setA_1, setA_8, List.append, List.cons_append, List.nil_append]
      refine go_on ?_
      (try simp only [push_cast, simprocAttr])
      refine at_b (fun hg => ?_) (fun hg => ?_)
      · have hlt := lt_tt hg
        obtain ⟨x, hx⟩ := get_of_lt hlt
        obtain ⟨y, hy⟩ := get_of_lt (l := b) (k := k) (by omega)
        have i1 := ix_n hx
        have i3 := ix_n hy
        have i2 := map_get cmC hx
        have i4 := map_get cmC hy
        simp only [cmC] at i2 i4
        rw [drop_of_get hx, drop_of_get hy] at q2
        have w2 := wr ((k : Int) + 1) (by omega)
        (try simp only [hg, push_cast, simprocAttr])
        refine at_draw rfl (by kernel_rfl) ?_
        (try simp only [i1, i2, i3, i4, ctg, cth, cmg, cmh, push_cast, simprocAttr])
        refine at_done (by kernel_rfl) (by kernel_rfl) (go_on ?_)
        have e := cm_eq x y
        (try simp only [e, push_cast, simprocAttr])
        refine at_b (fun hn => ?_) (fun hn => ?_)
        · have hxy : x ≠ y := by simpa using hn
          (try simp only [hn, push_cast, simprocAttr])
          refine at_ret ?_; simp only [Tryz.results138, push_cast, simprocAttr]
          simp [vX, q2, hxy]
        · have hxy : x = y := by simpa using hn
          (try simp only [hn, w2, push_cast, simprocAttr])
          refine at_fin ⟨k + 1, ⟨by omega, ?_⟩, by omega, ?_⟩
          · rw [q2]; simp [hxy]
          · (refine wk_ok ?_ ?_ ?_ ?_ <;> simp [leL, leH, idsL, idsA, idsR, inH, hget, sameRow, upA, hvA, dsts, dstO, setA_0, setA_1, setA_8, List.append, List.cons_append, List.nil_append])
      · have h3 := lt_ff hg
        (try simp only [hg, push_cast, simprocAttr])
        refine at_ret ?_; simp only [Tryz.results138, push_cast, simprocAttr]
        rw [List.drop_of_length_le h3, List.drop_of_length_le (by omega)] at q2
        simp [vX, q2]
theorem l42Sites_pc (a b : St) (ha : SmS a) (hb : SmS b) : PC Tryz.prog 90 [stA' a, stA' b] (vB (decide (a = b))) := by
  have h1 := l42Trees_pc a.base b.base ha.c1
  have h2 := l42Logs_pc a.log b.log ha.c2
  unfold stA' stC at *
  refine pc_enter Tryz.func90 rfl rfl fun w0 fb => go_on ?_; (try simp only [Tryz.ntmps90, push_cast, simprocAttr])
  repeat' first | (refine at_b (fun hb => ?_) (fun hb => ?_) <;> simp only [hb, push_cast, simprocAttr]) | (refine at_ret ?_; simp only [Tryz.results90, push_cast, simprocAttr]) | (refine at_call ?_; (try simp only [push_cast, simprocAttr]); refine rwc_v (by first | exact h1 | exact h2) (go_on ?_); simp only [push_cast, simprocAttr]) | (show RWp _ _ _ _ _; simp only [push_cast, simprocAttr])
  all_goals simp only [Bool.not_eq_true', Bool.not_eq_false', eqI_d, decide_eq_true_eq, decide_eq_false_iff_not] at *
  all_goals simp [vX, st_ext a b, *]
theorem l42Moved_pc (a b : St) (ha : SmS a) (hb : SmS b) : PC Tryz.prog 49 [stA' a, stA' b] (vB (decide (a = b))) := by
  have h1 := l42Sites_pc a b ha hb
  unfold stA' stC at *
  refine pc_enter Tryz.func49 rfl rfl fun w0 fb => go_on ?_; (try simp only [Tryz.ntmps49, push_cast, simprocAttr])
  (refine at_call ?_; (try simp only [push_cast, simprocAttr]); refine rwc_v (h1) (go_on ?_); (try simp only [push_cast, simprocAttr]))
  refine at_ret ?_; simp only [Tryz.results49, push_cast, simprocAttr]
  simp [vX]
end Go.Proofs.YtdjglbedimpldaaGreatDoor
/-
  Walks: spec.SessionStep (read as data).
-/
namespace Go.Proofs.YtdjglbedimpldaaGreatDoor
open Go Go.RowKit Go.Proofs
theorem l42Empty_d : PC Tryz.prog 50 [] (vX (stA' st0)) := by
  have := l42Empty_pc.frzX
  simp [viewN, hpOf, hget, stO, isC, tk, st0, rowN, rowC] at this
  exact this
attribute [local irreducible] RWp AW run kPe pe Kt effA gd gu br retR RDp runD kPeD brW gW effD
set_option maxRecDepth 100000
theorem specSessionStep_d0 (s : Ss) (hs : SmSs s) (hp : s.plan = false) (h : sRun s.A s.B = none) : PC Tryz.prog 15 [ssA s] (vX (.tup [ss00, bA false])) := by
  have h1 := l41Copy_d s.A hs.A.c1 hs.A.c2
  have h2 := l41Copy_d s.B hs.B.c1 hs.B.c2
  have h3 := l41Copy_d s.nA hs.nA.c1 hs.nA.c2
  have h4 := l41Copy_d s.nB hs.nB.c1 hs.nB.c2
  have hR := specSessionRun_d s.A s.B hs.A hs.B
  rw [h] at hR
  unfold srV at hR
  unfold stA' stC at *
  unfold st00 at hR
  unfold ssA ssC
  rw [hp]
  refine pc_enter Tryz.func15 rfl rfl fun w0 fb => go_on ?_; (try simp only [Tryz.ntmps15, push_cast, simprocAttr])
  refine at_draw rfl (by kernel_rfl) ?_; simp only [push_cast, simprocAttr]
  (refine at_shareD (by simp [isC2, isC]) (by first | rfl | simp [ren]) h1 ?_; (try simp only [push_cast, simprocAttr]))
  (refine at_shareD (by simp [isC2, isC]) (by first | rfl | simp [ren]) h2 ?_; (try simp only [push_cast, simprocAttr]))
  (refine at_shareD (by simp [isC2, isC]) (by first | rfl | simp [ren]) h3 ?_; (try simp only [push_cast, simprocAttr]))
  (refine at_shareD (by simp [isC2, isC]) (by first | rfl | simp [ren]) h4 ?_; (try simp only [push_cast, simprocAttr]))
  refine at_done (by kernel_rfl) (by kernel_rfl) (go_on ?_)
  (try simp only [Bool.not_false, push_cast, simprocAttr])
  ((try simp only [push_cast, simprocAttr]); refine at_share2 (by simp [isC2, isC]) (by first | rfl | simp [ren]) (hR) (go_on ?_); (try simp only [push_cast, simprocAttr]))
  (try simp only [Bool.not_false, push_cast, simprocAttr])
  refine at_ret ?_; simp only [Tryz.results15, push_cast, simprocAttr]
  simp [vX, ss00, z3]
theorem specSessionStep_d1 (s : Ss) (hs : SmSs s) (hp : s.plan = false) (x y : St) (h : sRun s.A s.B = some (x, y)) : PC Tryz.prog 15 [ssA s] (vX (.tup [.agg (stC s.A ++ stC s.B ++ [bA true] ++ stC x ++ stC y), bA true])) := by
  have h1 := l41Copy_d s.A hs.A.c1 hs.A.c2
  have h2 := l41Copy_d s.B hs.B.c1 hs.B.c2
  have h3 := l41Copy_d s.nA hs.nA.c1 hs.nA.c2
  have h4 := l41Copy_d s.nB hs.nB.c1 hs.nB.c2
  have hR := specSessionRun_d s.A s.B hs.A hs.B
  rw [h] at hR
  unfold srV at hR
  unfold stA' stC at *
  unfold ssA ssC
  rw [hp]
  refine pc_enter Tryz.func15 rfl rfl fun w0 fb => go_on ?_; (try simp only [Tryz.ntmps15, push_cast, simprocAttr])
  refine at_draw rfl (by kernel_rfl) ?_; simp only [push_cast, simprocAttr]
  (refine at_shareD (by simp [isC2, isC]) (by first | rfl | simp [ren]) h1 ?_; (try simp only [push_cast, simprocAttr]))
  (refine at_shareD (by simp [isC2, isC]) (by first | rfl | simp [ren]) h2 ?_; (try simp only [push_cast, simprocAttr]))
  (refine at_shareD (by simp [isC2, isC]) (by first | rfl | simp [ren]) h3 ?_; (try simp only [push_cast, simprocAttr]))
  (refine at_shareD (by simp [isC2, isC]) (by first | rfl | simp [ren]) h4 ?_; (try simp only [push_cast, simprocAttr]))
  refine at_done (by kernel_rfl) (by kernel_rfl) (go_on ?_)
  (try simp only [Bool.not_false, push_cast, simprocAttr])
  ((try simp only [push_cast, simprocAttr]); refine at_share2 (by simp [isC2, isC]) (by first | rfl | simp [ren]) (hR) (go_on ?_); (try simp only [push_cast, simprocAttr]))
  (try simp only [Bool.not_true, push_cast, simprocAttr])
  refine at_ret ?_; simp only [Tryz.results15, push_cast, simprocAttr]
  simp [vX]
theorem specSessionStep_d2 (s : Ss) (hs : SmSs s) (hp : s.plan = true) : PC Tryz.prog 15 [ssA s] (vX (.tup [.agg (if s.A ≠ s.nA then stC s.nA ++ stC s.B ++ [bA true] ++ stC s.nA ++ stC s.nB else if s.B ≠ s.nB then stC s.A ++ stC s.nB ++ [bA true] ++ stC s.nA ++ stC s.nB else stC s.A ++ stC s.B ++ [bA false] ++ stC st0 ++ stC st0), bA true])) := by
  have h1 := l41Copy_d s.A hs.A.c1 hs.A.c2
  have h2 := l41Copy_d s.B hs.B.c1 hs.B.c2
  have h3 := l41Copy_d s.nA hs.nA.c1 hs.nA.c2
  have h4 := l41Copy_d s.nB hs.nB.c1 hs.nB.c2
  have hS := l42Moved_pc s.A s.nA hs.A hs.nA
  have hT := l42Moved_pc s.B s.nB hs.B hs.nB
  have hE := l42Empty_d
  unfold stA' stC at *
  unfold ssA ssC
  rw [hp]
  refine pc_enter Tryz.func15 rfl rfl fun w0 fb => go_on ?_; (try simp only [Tryz.ntmps15, push_cast, simprocAttr])
  refine at_draw rfl (by kernel_rfl) ?_; simp only [push_cast, simprocAttr]
  (refine at_shareD (by simp [isC2, isC]) (by first | rfl | simp [ren]) h1 ?_; (try simp only [push_cast, simprocAttr]))
  (refine at_shareD (by simp [isC2, isC]) (by first | rfl | simp [ren]) h2 ?_; (try simp only [push_cast, simprocAttr]))
  (refine at_shareD (by simp [isC2, isC]) (by first | rfl | simp [ren]) h3 ?_; (try simp only [push_cast, simprocAttr]))
  (refine at_shareD (by simp [isC2, isC]) (by first | rfl | simp [ren]) h4 ?_; (try simp only [push_cast, simprocAttr]))
  refine at_done (by kernel_rfl) (by kernel_rfl) (go_on ?_)
  (try simp only [Bool.not_true, push_cast, simprocAttr])
  (refine at_call ?_; (try simp only [push_cast, simprocAttr]); refine rwc_v (hS) (go_on ?_); (try simp only [push_cast, simprocAttr]))
  by_cases e1 : s.A = s.nA
  · have d1 : decide (s.A = s.nA) = true := by simpa using e1
    (try simp only [d1, Bool.not_true, push_cast, simprocAttr])
    (refine at_call ?_; (try simp only [push_cast, simprocAttr]); refine rwc_v (hT) (go_on ?_); (try simp only [push_cast, simprocAttr]))
    by_cases e2 : s.B = s.nB
    · have d2 : decide (s.B = s.nB) = true := by simpa using e2
      (try simp only [d2, Bool.not_true, push_cast, simprocAttr])
      ((try simp only [push_cast, simprocAttr]); refine at_share2 (by simp [isC2, isC]) (by first | rfl | simp [ren]) (hE) (go_on ?_); (try simp only [push_cast, simprocAttr]))
      ((try simp only [push_cast, simprocAttr]); refine at_share2 (by simp [isC2, isC]) (by first | rfl | simp [ren]) (hE) (go_on ?_); (try simp only [push_cast, simprocAttr]))
      refine at_ret ?_; simp only [Tryz.results15, push_cast, simprocAttr]
      simp [vX, e1, e2]
    · have d2 : decide (s.B = s.nB) = false := by simpa using e2
      (try simp only [d2, Bool.not_false, push_cast, simprocAttr])
      ((try simp only [push_cast, simprocAttr]); refine at_share2 (by simp [isC2, isC]) (by first | rfl | simp [ren]) (h4) (go_on ?_); (try simp only [push_cast, simprocAttr]))
      refine at_ret ?_; simp only [Tryz.results15, push_cast, simprocAttr]
      simp [vX, e1, e2]
  · have d1 : decide (s.A = s.nA) = false := by simpa using e1
    (try simp only [d1, Bool.not_false, push_cast, simprocAttr])
    ((try simp only [push_cast, simprocAttr]); refine at_share2 (by simp [isC2, isC]) (by first | rfl | simp [ren]) (h3) (go_on ?_); (try simp only [push_cast, simprocAttr]))
    refine at_ret ?_; simp only [Tryz.results15, push_cast, simprocAttr]
    simp [vX, e1]
theorem specSessionStep_e (s : Ss) (hs : SmSs s) : PC Tryz.prog 15 [ssA s] (ssO (sStep s)) := by
  cases hp : s.plan with
  | false =>
    cases hr : sRun s.A s.B with
    | none => simpa [ssO, sStep, hp, hr] using ss_e0 (specSessionStep_d0 s hs hp hr)
    | some p =>
      obtain ⟨x, y⟩ := p
      have := specSessionStep_d1 s hs hp x y hr
      simpa [ssO, sStep, hp, hr, ssA, ssC, stC] using this
  | true =>
    have := specSessionStep_d2 s hs hp
    by_cases h1 : s.A = s.nA
    · by_cases h2 : s.B = s.nB
      · simp only [h1, h2, ne_eq, not_true_eq_false, if_false] at this
        simpa [ssO, sStep, hp, h1, h2, ssA, ssC, stC] using this
      · simp only [h1, h2, ne_eq, not_true_eq_false, not_false_eq_true, if_false, if_true] at this
        simpa [ssO, sStep, hp, h1, h2, ssA, ssC, stC] using this
    · simp only [h1, ne_eq, not_false_eq_true, if_true] at this
      simpa [ssO, sStep, hp, h1, ssA, ssC, stC] using this
theorem sStep_sm {s o : Ss} (hs : SmSs s) (h : sStep s = some o) : SmSs o := by
  unfold sStep at h
  split at h
  · split at h
    · rename_i x y hr
      cases h
      exact ⟨hs.A, hs.B, siteV_sm (law_session hr).1, siteV_sm (law_session hr).2.1⟩
    · cases h
  · split at h
    · cases h; exact ⟨hs.nA, hs.B, hs.nA, hs.nB⟩
    · split at h
      · cases h; exact ⟨hs.A, hs.nB, hs.nA, hs.nB⟩
      · cases h; exact ⟨hs.A, hs.B, st0_sm, st0_sm⟩
theorem ss0_sm : SmSs ss0 := ⟨st0_sm, st0_sm, st0_sm, st0_sm⟩
theorem sStepO_sm {s : Ss} (hs : SmSs s) : SmSs ((sStep s).getD ss0) := by
  cases h : sStep s with
  | none => exact ss0_sm
  | some o => exact sStep_sm hs h
end Go.Proofs.YtdjglbedimpldaaGreatDoor
/-
  The abstract machine: a slice that is nil, read as an empty one, within rows.
-/
namespace Go.Proofs.YtdjglbedimpldaaGreatDoor
open Go Go.RowKit

def nlv (x y : AV) : Prop := x = y ∨ (x = .v (.slice none 0 0) ∧ ∃ n, y = .sl n [])
def nlC : List AV → List AV → Prop
  | [], [] => True
  | x :: l, y :: l' => nlv x y ∧ nlC l l'
  | _, _ => False
def nlE : List (List AV) → List (List AV) → Prop
  | [], [] => True
  | x :: l, y :: l' => nlC x y ∧ nlE l l'
  | _, _ => False
theorem nlC_refl : ∀ l, nlC l l
  | [] => trivial
  | _ :: l => ⟨.inl rfl, nlC_refl l⟩
theorem nlE_refl : ∀ l, nlE l l
  | [] => trivial
  | x :: l => ⟨nlC_refl x, nlE_refl l⟩
theorem nlC_get : ∀ {l l' : List AV}, nlC l l' → l.length = l'.length ∧ ∀ (j : Nat) y, l'[j]? = some y → ∃ x, l[j]? = some x ∧ nlv x y
  | [], [], _ => ⟨rfl, fun j y h => by simp at h⟩
  | x :: l, y :: l', ⟨h1, h2⟩ => by
    obtain ⟨g1, g2⟩ := nlC_get h2
    refine ⟨by simp [g1], fun j z hz => ?_⟩
    cases j with
    | zero => simp at hz; subst hz; exact ⟨x, rfl, h1⟩
    | succ j => exact g2 j z (by simpa using hz)
  | [], _ :: _, h => h.elim
  | _ :: _, [], h => h.elim
theorem nlE_get : ∀ {l l' : List (List AV)}, nlE l l' → l.length = l'.length ∧ ∀ (j : Nat) y, l'[j]? = some y → ∃ x, l[j]? = some x ∧ nlC x y
  | [], [], _ => ⟨rfl, fun j y h => by simp at h⟩
  | x :: l, y :: l', ⟨h1, h2⟩ => by
    obtain ⟨g1, g2⟩ := nlE_get h2
    refine ⟨by simp [g1], fun j z hz => ?_⟩
    cases j with
    | zero => simp at hz; subst hz; exact ⟨x, rfl, h1⟩
    | succ j => exact g2 j z (by simpa using hz)
  | [], _ :: _, h => h.elim
  | _ :: _, [], h => h.elim
def rowN2 (row row' : Row) : Prop := row'.E = row.E ∧ row'.sz = row.sz ∧ nlE row.es row'.es ∧ (row'.cl = true → (row.cl || row.es.all (·.all isC)) = true)
def leN (h : Hp) : Hp → Prop
  | [] => True
  | (r, row') :: l => (match hget h r with | some row => rowN2 row row' | none => False) ∧ leN h l
theorem leN_get {h : Hp} : ∀ {h' : Hp}, leN h h' → ∀ r row', hget h' r = some row' → ∃ row, hget h r = some row ∧ rowN2 row row'
  | [], _, r, row', hr => by simp [hget] at hr
  | (q, row0) :: h', hl, r, row', hr => by
    obtain ⟨h1, h2⟩ := hl
    simp only [hget] at hr
    split at hr
    · rename_i hq
      cases hr
      subst hq
      cases hg : hget h q with
      | none => rw [hg] at h1; exact h1.elim
      | some row => rw [hg] at h1; exact ⟨row, rfl, h1⟩
    · exact leN_get h2 r row' hr
theorem G.sub2 {h h' : Hp} {loc : Loc} {w : World} {x : AV} {u : Value} (hg : G h loc w x u) (hs : ∀ r ∈ idsA x, inH h' r = true) (hh : leN h h') (hC : ∀ x u, C (Live h loc) 0 w x u → C (Live h' loc) 0 w x u) : G h' loc w x u := by
  have hrow : ∀ r row, inH h' r = true → hget h r = some row → ∃ row', hget h' r = some row' ∧ rowN2 row row' := fun r row hi hr => by
    unfold inH at hi
    split at hi
    · rename_i row' hr'
      obtain ⟨row2, h1, h2⟩ := leN_get hh r row' hr'
      rw [hr] at h1
      cases h1
      exact ⟨row', hr', h2⟩
    · cases hi
  induction hg with
  | cl hc => exact .cl (hC _ _ hc)
  | @o r n row b c hr hl hn =>
    obtain ⟨row', h1, h2, h3, h4, _⟩ := hrow r row (hs r (by simp [idsA])) hr
    exact .o h1 hl (by rw [← (nlE_get h4).1]; exact hn)
  | @onil r row hr hl =>
    obtain ⟨row', h1, _⟩ := hrow r row (hs r (by simp [idsA])) hr
    exact .onil h1 hl
  | @p r k off row b c hr hl =>
    obtain ⟨row', h1, h2, h3, h4, _⟩ := hrow r row (hs r (by simp [idsA])) hr
    rw [← h3]
    exact .p h1 hl
  | @q r lo z n row b c A c' hr hl hn =>
    obtain ⟨row', h1, h2, h3, h4, _⟩ := hrow r row (hs r (by simp [idsA])) hr
    exact .q h1 hl hn
  | fn vs hvs hg ih => exact .fn vs hvs fun j a ha => ih j a ha fun r hr => hs r (by simp only [idsA]; exact idsL_mem ha r hr)
  | agg vs hvs hg ih => exact .agg vs hvs fun j a ha => ih j a ha fun r hr => hs r (by simp only [idsA]; exact idsL_mem ha r hr)
  | tup vs hvs hg ih => exact .tup vs hvs fun j a ha => ih j a ha fun r hr => hs r (by simp only [idsA]; exact idsL_mem ha r hr)
theorem wk_nil {s s' : AS} (ht : leL s.t s'.t) (hh : leN s.h s'.h) (hi : (idsL s'.t).all (inH s'.h) = true) (hr : idsR s'.h s'.h = true) : Wk s s' := by
  intro w0 lent loc a w hR
  obtain ⟨g1, g2⟩ := leL_get ht
  have hlive : ∀ b, Live s'.h loc b → Live s.h loc b := by
    rintro b (⟨r, row', c, h1, h2⟩ | hf)
    · obtain ⟨row, h3, _⟩ := leN_get hh r row' h1
      exact .inl ⟨r, row, c, h3, h2⟩
    · exact .inr hf
  have hC : ∀ x u, C (Live s.h loc) 0 w x u → C (Live s'.h loc) 0 w x u := fun x u hx => hx.mono (Nat.le_refl _) (Nat.le_refl _) fun b _ _ hnl => ⟨fun h => hnl (hlive b h), rfl⟩
  refine ⟨loc, hR.tsz.trans g1, fun i y hy => ?_, hR.df, fun r row' h1 => ?_, fun r r' row row' b c c' h1 h2 h3 h4 => ?_, fun r row' b c h1 h2 => ?_, hR.os, hR.tape, hR.output, hR.size, hR.keep, hR.fbe, hR.fbl, hR.pn, hR.pl⟩
  · rcases g2 i y hy with rfl | h
    · exact .cl .any
    · exact (hR.tm i y h).sub2 (fun r hr => List.all_eq_true.1 hi r (idsL_mem hy r hr)) hh hC
  · obtain ⟨row, h2, e1, e2, e3, e4⟩ := leN_get hh r row' h1
    obtain ⟨q1, xs, q2, q3⟩ := hR.rw r row h2
    obtain ⟨f1, f2⟩ := nlE_get e3
    refine ⟨fun k e he => ?_, xs, ?_, fun k e j y he hy => ?_⟩
    · obtain ⟨e0, f3, f4⟩ := f2 k e he
      rw [e2, ← (nlC_get f4).1]; exact q1 k e0 f3
    · rw [e1, e2, ← f1]; exact q2
    · obtain ⟨e0, f3, f4⟩ := f2 k e he
      obtain ⟨x, f5, f6⟩ := (nlC_get f4).2 j y hy
      obtain ⟨u, p1, p2, p3, p4⟩ := q3 k e0 j x f3 f5
      refine ⟨u, by rw [e2]; exact p1, p2, ?_, fun hc => ?_⟩
      · rcases f6 with rfl | ⟨rfl, n, rfl⟩
        · rcases idsR_get hr r row' h1 with hc | hc
          · have := e4 hc
            rw [Bool.or_eq_true] at this
            rcases this with h | h
            · exact .cl (hC _ _ (p4 h))
            · exact .cl (hC _ _ (isC_ok p3 (List.all_eq_true.1 (List.all_eq_true.1 h e0 (List.mem_of_getElem? f3)) x (List.mem_of_getElem? f5))))
          · refine p3.sub2 (fun r' hr' => ?_) hh hC
            have := hc e (List.mem_of_getElem? he)
            exact List.all_eq_true.1 this r' (idsL_mem hy r' hr')
        · have := G.nil2 (n := n) p3
          rw [p3.v_inv]
          exact .cl (.nilsl _)
      · rcases f6 with rfl | ⟨rfl, n, rfl⟩
        · have := e4 hc
          rw [Bool.or_eq_true] at this
          rcases this with h | h
          · exact hC _ _ (p4 h)
          · exact hC _ _ (isC_ok p3 (List.all_eq_true.1 (List.all_eq_true.1 h e0 (List.mem_of_getElem? f3)) x (List.mem_of_getElem? f5)))
        · rw [p3.v_inv]
          exact .nilsl _
  · obtain ⟨row1, g3, _⟩ := leN_get hh r row h1
    obtain ⟨row2, g4, _⟩ := leN_get hh r' row' h2
    exact hR.inj r r' row1 row2 b c c' g3 g4 h3 h4
  · obtain ⟨row1, g3, _⟩ := leN_get hh r row' h1
    exact hR.own r row1 b c g3 h2

end Go.Proofs.YtdjglbedimpldaaGreatDoor
/-
  Walks: events: impl.roundValid.
-/
namespace Go.Proofs.YtdjglbedimpldaaGreatDoor
open Go Go.RowKit Go.Proofs
def evC (e : Ev) : List AV := [iA e.k, sA e.c.p, iA e.c.a.k, iA e.c.a.v, iA e.c.b.k, iA e.c.b.v]
abbrev evsA (l : List Ev) : AV := .sl 6 (l.map evC)
structure SmE (l : List Ev) : Prop where
  n : l.length < 4294967280
  p : ∀ e ∈ l, e.c.p.length < 4294967281
theorem evV_1 {e : Ev} (h : e.k = 1) : evV e = cmV e.c := by simp [evV, h]
theorem evV_2 {e : Ev} (h : e.k = 2) : evV e = cmV e.c := by simp [evV, h]
theorem evV_3 {e : Ev} (h : e.k = 3) : evV e = decide (e.c = cm0) := by simp [evV, h]
theorem evV_n {e : Ev} (h1 : e.k ≠ 1) (h2 : e.k ≠ 2) (h3 : e.k ≠ 3) : evV e = false := by simp [evV, h1, h2, h3]
attribute [local irreducible] RWp AW run kPe pe Kt effA gd gu br retR RDp runD kPeD brW gW effD
set_option maxRecDepth 100000
theorem roundValid_pc (t : List Nd) (ht : SmT t) (l : List Ev) (hl : SmE l) : PC Tryz.prog 74 [ndA t, evsA l] (vB (rdV t l)) := by
  have hT := TreeValid_pc t ht
  have hn := hl.n
  refine pc_enter Tryz.func74 rfl rfl fun w0 fb => go_on ?_; (try simp only [Tryz.ntmps74, push_cast, simprocAttr])
  refine at_loop (X := Nat) (fun k => [(9, iA k)]) (fun _ => []) (fun k => k ≤ l.length ∧ l.all evV = (l.drop k).all evV) (fun k => l.length - k) 0 ⟨Nat.zero_le _, rfl⟩ ?_ ?_
  · (refine wk_ok ?_ ?_ ?_ ?_ <;> simp [leL, leH, idsL, idsA, idsR, inH, hget, sameRow, upA, hvA, dsts, dstO, setA_0, setA_1, setA_8, List.append, List.cons_append, List.nil_append])
  · rintro k ⟨q1, q2⟩
    simp only [upA, hvA, dsts, dstO, setA_0, setA_1, setA_8, List.append, List.cons_append, List.nil_append]
    refine go_on ?_
    (try simp only [push_cast, simprocAttr])
    refine at_b (fun hg => ?_) (fun hg => ?_)
    · have hlt := lt_tt hg
      obtain ⟨e, he⟩ := get_of_lt hlt
      have i1 := ix_n he
      have i2 := map_get evC he
      simp only [evC] at i2
      have hp := hl.p e (List.mem_of_getElem? he)
      have hC := CommandValid_pc e.c hp
      unfold cmdA cmC at hC
      rw [drop_of_get he] at q2
      simp only [List.all_cons] at q2
      have w1 := wr ((k : Int) + 1) (by omega)
      (try simp only [hg, i1, i2, push_cast, simprocAttr])
      by_cases h1 : e.k = 1
      · have j1 : eqI e.k 1 = true := eqI_t h1
        rw [evV_1 h1] at q2
        (try simp only [j1, push_cast, simprocAttr])
        (refine at_call ?_; (try simp only [push_cast, simprocAttr]); refine rwc_v (hC) (go_on ?_); (try simp only [push_cast, simprocAttr]))
        cases hv : cmV e.c with
        | false =>
          (try simp only [hv, Bool.not_false, push_cast, simprocAttr])
          refine at_ret ?_; simp only [Tryz.results74, push_cast, simprocAttr]
          simp [vX, rdV, q2, hv]
        | true =>
          (try simp only [hv, Bool.not_true, w1, push_cast, simprocAttr])
          refine at_fin ⟨k + 1, ⟨by omega, by rw [q2, hv]; rfl⟩, by omega, ?_⟩
          (refine wk_ok ?_ ?_ ?_ ?_ <;> simp [leL, leH, idsL, idsA, idsR, inH, hget, sameRow, upA, hvA, dsts, dstO, setA_0, setA_1, setA_8, List.append, List.cons_append, List.nil_append])
      · have j1 : eqI e.k 1 = false := eqI_f h1
        by_cases h2 : e.k = 2
        · have j2 : eqI e.k 2 = true := eqI_t h2
          rw [evV_2 h2] at q2
          (try simp only [j1, j2, push_cast, simprocAttr])
          (refine at_call ?_; (try simp only [push_cast, simprocAttr]); refine rwc_v (hC) (go_on ?_); (try simp only [push_cast, simprocAttr]))
          cases hv : cmV e.c with
          | false =>
            (try simp only [hv, Bool.not_false, push_cast, simprocAttr])
            refine at_ret ?_; simp only [Tryz.results74, push_cast, simprocAttr]
            simp [vX, rdV, q2, hv]
          | true =>
            (try simp only [hv, Bool.not_true, w1, push_cast, simprocAttr])
            refine at_fin ⟨k + 1, ⟨by omega, by rw [q2, hv]; rfl⟩, by omega, ?_⟩
            (refine wk_ok ?_ ?_ ?_ ?_ <;> simp [leL, leH, idsL, idsA, idsR, inH, hget, sameRow, upA, hvA, dsts, dstO, setA_0, setA_1, setA_8, List.append, List.cons_append, List.nil_append])
        · have j2 : eqI e.k 2 = false := eqI_f h2
          by_cases h3 : e.k = 3
          · have j3 : eqI e.k 3 = true := eqI_t h3
            rw [evV_3 h3] at q2
            (try simp only [j1, j2, j3, ctg, cth, cmg, cmh, push_cast, simprocAttr])
            have e0 : (decide (e.c.p = []) && ((eqI e.c.a.k 0 && eqI e.c.a.v 0) && (eqI e.c.b.k 0 && eqI e.c.b.v 0))) = decide (e.c = cm0) := cm_eq e.c cm0
            cases hv : decide (e.c = cm0) with
            | false =>
              (try simp only [e0, hv, Bool.not_false, push_cast, simprocAttr])
              refine at_ret ?_; simp only [Tryz.results74, push_cast, simprocAttr]
              simp only [hv, Bool.false_and] at q2
              simp [vX, rdV, q2]
            | true =>
              (try simp only [e0, hv, Bool.not_true, w1, push_cast, simprocAttr])
              refine at_fin ⟨k + 1, ⟨by omega, by rw [q2, hv]; rfl⟩, by omega, ?_⟩
              (refine wk_ok ?_ ?_ ?_ ?_ <;> simp [leL, leH, idsL, idsA, idsR, inH, hget, sameRow, upA, hvA, dsts, dstO, setA_0, setA_1, setA_8, List.append, List.cons_append, List.nil_append])
          · have j3 : eqI e.k 3 = false := eqI_f h3
            rw [evV_n h1 h2 h3] at q2
            (try simp only [j1, j2, j3, push_cast, simprocAttr])
            refine at_ret ?_; simp only [Tryz.results74, push_cast, simprocAttr]
            simp [vX, rdV, q2]
    · have h3 := lt_ff hg
      rw [List.drop_of_length_le h3] at q2
      have e1 : rdV t l = (tV t && leI (l.length : Int) 24) := by
        unfold rdV leI
        rw [q2]
        cases tV t <;> simp <;> omega
      (try simp only [hg, push_cast, simprocAttr])
      (refine at_call ?_; (try simp only [push_cast, simprocAttr]); refine rwc_v (hT) (go_on ?_); (try simp only [push_cast, simprocAttr]))
      cases hv : tV t with
      | false =>
        (try simp only [hv, push_cast, simprocAttr])
        refine at_ret ?_; simp only [Tryz.results74, push_cast, simprocAttr]
        simp [vX, e1, hv]
      | true =>
        (try simp only [hv, push_cast, simprocAttr])
        refine at_ret ?_; simp only [Tryz.results74, push_cast, simprocAttr]
        simp [vX, e1, hv]
end Go.Proofs.YtdjglbedimpldaaGreatDoor
/-
  Walks: impl.play.
-/
namespace Go.Proofs.YtdjglbedimpldaaGreatDoor
open Go Go.RowKit Go.Proofs
def pl (t : List Nd) (l : List Ev) : St × St × List Int := play 0 ⟨0, t, []⟩ ⟨0, t, []⟩ l
structure PJ (t : List Nd) (l : List Ev) (k : Nat) (a b : St) (ds : List Int) : Prop where
  hk : k ≤ l.length
  sa : SmS a
  sb : SmS b
  n : ds.length ≤ k
  e : pl t l = ((play k a b (l.drop k)).1, (play k a b (l.drop k)).2.1, ds ++ (play k a b (l.drop k)).2.2)
theorem PJ.init {t : List Nd} (ht : SmT2 t) (l : List Ev) : PJ t l 0 ⟨0, t, []⟩ ⟨0, t, []⟩ [] :=
  ⟨Nat.zero_le _, ⟨ht, st0_sm.l⟩, ⟨ht, st0_sm.l⟩, Nat.le_refl _, by simp [pl]⟩
theorem PJ.step {t : List Nd} {l : List Ev} {k : Nat} {a b : St} {ds : List Int} (h : PJ t l k a b ds) {e : Ev} (he : l[k]? = some e) {a' b' : St} {ok : Bool} (hr : evDo a b e = (a', b', ok)) (ha : SmS a') (hb : SmS b') :
    PJ t l (k + 1) a' b' (if ok then ds ++ [(k : Int)] else ds) := by
  have hk := lt_of_some he
  refine ⟨hk, ha, hb, ?_, ?_⟩
  · have := h.n
    split
    · simp; omega
    · omega
  · rw [h.e, drop_of_get he]
    simp only [play, hr]
    have hc : ((k + 1 : Nat) : Int) = (k : Int) + 1 := by simp
    rw [hc]
    cases ok <;> simp
theorem PJ.done {t : List Nd} {l : List Ev} {k : Nat} {a b : St} {ds : List Int} (h : PJ t l k a b ds) (hk : l.length ≤ k) : pl t l = (a, b, ds) := by
  rw [h.e, List.drop_of_length_le hk]
  simp [play]
theorem evDo_1 {a b : St} {e : Ev} (h : e.k = 1) : evDo a b e = ((siteDo a e.c).1, b, (siteDo a e.c).2) := by simp [evDo, h]
theorem evDo_2 {a b : St} {e : Ev} (h : e.k = 2) : evDo a b e = (a, (siteDo b e.c).1, (siteDo b e.c).2) := by simp [evDo, h]
theorem evDo_n {a b : St} {e : Ev} (h1 : e.k ≠ 1) (h2 : e.k ≠ 2) (hr : sRun a b = none) : evDo a b e = (a, b, false) := by simp [evDo, h1, h2, hr]
theorem evDo_s {a b x y : St} {e : Ev} (h1 : e.k ≠ 1) (h2 : e.k ≠ 2) (hr : sRun a b = some (x, y)) : evDo a b e = (x, y, true) := by simp [evDo, h1, h2, hr]
attribute [local irreducible] RWp AW run kPe pe Kt effA gd gu br retR RDp runD kPeD brW gW effD
set_option maxRecDepth 100000
theorem play_d (t : List Nd) (ht : SmT2 t) (l : List Ev) (hl : SmE l) : PC Tryz.prog 75 [ndA t, evsA l] (vX (.tup [stA' (pl t l).1, stA' (pl t l).2.1, .sl 1 ((pl t l).2.2.map inC)])) := by
  have hT := cloneTree_d t (by have := ht.n; omega)
  have hn := hl.n
  unfold stA' stC
  refine PC.toF ?_
  refine pc_enter Tryz.func75 rfl rfl fun w0 fb => go_on ?_; (try simp only [Tryz.ntmps75, push_cast, simprocAttr])
  ((try simp only [push_cast, simprocAttr]); refine at_share2 (by simp [isC2, isC]) (by first | rfl | simp [ren]) (hT) (go_on ?_); (try simp only [push_cast, simprocAttr]))
  ((try simp only [push_cast, simprocAttr]); refine at_share2 (by simp [isC2, isC]) (by first | rfl | simp [ren]) (hT) (go_on ?_); (try simp only [push_cast, simprocAttr]))
  refine at_loop (X := Nat × St × St × List Int) (fun x => [(9, .o 9 x.2.2.2.length), (23, iA x.1)]) (fun x => [(4, ⟨26, 3, [[iA 0, .v (.slice none 0 0), .v (.slice none 0 0)]], true⟩), (5, ⟨26, 3, [[iA 0, .v (.slice none 0 0), .v (.slice none 0 0)]], true⟩), (6, ⟨3, 1, [], true⟩), (7, ⟨26, 3, [[iA x.2.1.ep, ndA x.2.1.base, cmA x.2.1.log]], true⟩), (8, ⟨26, 3, [[iA x.2.2.1.ep, ndA x.2.2.1.base, cmA x.2.2.1.log]], true⟩), (9, ⟨3, 1, x.2.2.2.map inC, true⟩)]) (fun x => PJ t l x.1 x.2.1 x.2.2.1 x.2.2.2) (fun x => l.length - x.1) (0, ⟨0, t, []⟩, ⟨0, t, []⟩, []) (PJ.init ht l) ?_ ?_
  · refine wk_nil ?_ ?_ ?_ ?_ <;> simp [leL, leN, rowN2, nlE, nlC, nlv, idsL, idsA, idsR, inH, hget, upA, hvA, dsts, dstO, setA_0, setA_1, setA_8, List.append, List.cons_append, List.nil_append]
  · rintro ⟨k, a, b, ds⟩ hJ
    simp only [upA, hvA, dsts, dstO, setA_0, setA_1, setA_8, List.append, List.cons_append, List.nil_append]
    refine go_on ?_
    (try simp only [push_cast, simprocAttr])
    refine at_b (fun hg => ?_) (fun hg => ?_)
    · have hlt := lt_tt hg
      obtain ⟨e, he⟩ := get_of_lt hlt
      have i1 := ix_n he
      have i2 := map_get evC he
      simp only [evC] at i2
      have hp := hl.p e (List.mem_of_getElem? he)
      have w1 := wr ((k : Int) + 1) (by omega)
      have hdn : ds.length ≤ k := hJ.n
      have hmap : ds.map inC ++ [[iA (k : Int)]] = (ds ++ [(k : Int)]).map inC := by rw [List.map_append]; rfl
      (try simp only [hg, i1, i2, push_cast, simprocAttr])
      by_cases h1 : e.k = 1
      · have j1 : eqI e.k 1 = true := eqI_t h1
        have hS := SiteDo_d a hJ.sa e.c hp
        have hsm := siteDo_sm hJ.sa hp (s := a)
        obtain ⟨o, ok, hoo⟩ : ∃ o ok, siteDo a e.c = (o, ok) := ⟨_, _, rfl⟩
        have hJ2 := hJ.step he (evDo_1 h1) (by rw [hoo]; rw [hoo] at hsm; exact hsm) hJ.sb
        rw [hoo] at hS hJ2
        simp only at hS hJ2
        unfold stA' stC cmdA cmC at hS
        (try simp only [j1, push_cast, simprocAttr])
        ((try simp only [push_cast, simprocAttr]); refine at_share2 (by simp [isC2, isC]) (by first | rfl | simp [ren]) (hS) (go_on ?_); (try simp only [push_cast, simprocAttr]))
        cases ok with
        | false =>
          (try simp only [w1, push_cast, simprocAttr])
          refine at_fin ⟨(k + 1, o, b, ds), hJ2, by dsimp only; omega, ?_⟩
          (refine wk_ok ?_ ?_ ?_ ?_ <;> simp [leL, leH, idsL, idsA, idsR, inH, hget, sameRow, upA, hvA, dsts, dstO, setA_0, setA_1, setA_8, List.append, List.cons_append, List.nil_append])
        | true =>
          (try simp only [w1, push_cast, simprocAttr])
          refine at_chk (by omega) ?_
          (try simp only [w1, hmap, push_cast, simprocAttr])
          refine at_fin ⟨(k + 1, o, b, ds ++ [(k : Int)]), hJ2, by dsimp only; omega, ?_⟩
          simp only [List.length_append, List.length_cons, List.length_nil]
          (refine wk_ok ?_ ?_ ?_ ?_ <;> simp [leL, leH, idsL, idsA, idsR, inH, hget, sameRow, upA, hvA, dsts, dstO, setA_0, setA_1, setA_8, List.append, List.cons_append, List.nil_append])
      · have j1 : eqI e.k 1 = false := eqI_f h1
        by_cases h2 : e.k = 2
        · have j2 : eqI e.k 2 = true := eqI_t h2
          have hS := SiteDo_d b hJ.sb e.c hp
          have hsm := siteDo_sm hJ.sb hp (s := b)
          obtain ⟨o, ok, hoo⟩ : ∃ o ok, siteDo b e.c = (o, ok) := ⟨_, _, rfl⟩
          have hJ2 := hJ.step he (evDo_2 h2) hJ.sa (by rw [hoo]; rw [hoo] at hsm; exact hsm)
          rw [hoo] at hS hJ2
          simp only at hS hJ2
          unfold stA' stC cmdA cmC at hS
          (try simp only [j1, j2, push_cast, simprocAttr])
          ((try simp only [push_cast, simprocAttr]); refine at_share2 (by simp [isC2, isC]) (by first | rfl | simp [ren]) (hS) (go_on ?_); (try simp only [push_cast, simprocAttr]))
          cases ok with
          | false =>
            (try simp only [w1, push_cast, simprocAttr])
            refine at_fin ⟨(k + 1, a, o, ds), hJ2, by dsimp only; omega, ?_⟩
            (refine wk_ok ?_ ?_ ?_ ?_ <;> simp [leL, leH, idsL, idsA, idsR, inH, hget, sameRow, upA, hvA, dsts, dstO, setA_0, setA_1, setA_8, List.append, List.cons_append, List.nil_append])
          | true =>
            (try simp only [w1, push_cast, simprocAttr])
            refine at_chk (by omega) ?_
            (try simp only [w1, hmap, push_cast, simprocAttr])
            refine at_fin ⟨(k + 1, a, o, ds ++ [(k : Int)]), hJ2, by dsimp only; omega, ?_⟩
            simp only [List.length_append, List.length_cons, List.length_nil]
            (refine wk_ok ?_ ?_ ?_ ?_ <;> simp [leL, leH, idsL, idsA, idsR, inH, hget, sameRow, upA, hvA, dsts, dstO, setA_0, setA_1, setA_8, List.append, List.cons_append, List.nil_append])
        · have j2 : eqI e.k 2 = false := eqI_f h2
          have hR := SessionRun_e a b hJ.sa hJ.sb
          unfold stA' stC at hR
          (try simp only [j1, j2, push_cast, simprocAttr])
          ((try simp only [push_cast, simprocAttr]); refine at_share2 (by simp [isC2, isC]) (by first | rfl | simp [ren]) (hR) (go_on ?_); (try simp only [push_cast, simprocAttr]))
          cases hr : sRun a b with
          | none =>
            have hJ2 := hJ.step he (evDo_n h1 h2 hr) hJ.sa hJ.sb
            (try simp only [hr, Option.isSome_none, w1, push_cast, simprocAttr])
            refine at_fin ⟨(k + 1, a, b, ds), hJ2, by dsimp only; omega, ?_⟩
            (refine wk_ok ?_ ?_ ?_ ?_ <;> simp [leL, leH, idsL, idsA, idsR, inH, hget, sameRow, upA, hvA, dsts, dstO, setA_0, setA_1, setA_8, List.append, List.cons_append, List.nil_append])
          | some xy =>
            obtain ⟨x, y⟩ := xy
            have hJ2 := hJ.step he (evDo_s h1 h2 hr) (siteV_sm (law_session hr).1) (siteV_sm (law_session hr).2.1)
            (try simp only [hr, Option.isSome_some, rA_some hr, rB_some hr, w1, push_cast, simprocAttr])
            refine at_draw rfl (by kernel_rfl) ?_; simp only [push_cast, simprocAttr]
            refine at_done (by kernel_rfl) (by kernel_rfl) (go_on ?_)
            (try simp only [w1, push_cast, simprocAttr])
            refine at_chk (by omega) ?_
            (try simp only [w1, hmap, push_cast, simprocAttr])
            refine at_fin ⟨(k + 1, x, y, ds ++ [(k : Int)]), hJ2, by dsimp only; omega, ?_⟩
            simp only [List.length_append, List.length_cons, List.length_nil]
            (refine wk_ok ?_ ?_ ?_ ?_ <;> simp [leL, leH, idsL, idsA, idsR, inH, hget, sameRow, upA, hvA, dsts, dstO, setA_0, setA_1, setA_8, List.append, List.cons_append, List.nil_append])
    · have h3 := lt_ff hg
      have hd := hJ.done h3
      (try simp only [hg, push_cast, simprocAttr])
      refine at_draw rfl (by kernel_rfl) ?_; simp only [push_cast, simprocAttr]
      refine at_done (by kernel_rfl) (by kernel_rfl) (go_on ?_)
      (try simp only [push_cast, simprocAttr])
      refine at_ret ?_; simp only [Tryz.results75, push_cast, simprocAttr]
      rw [hd]
      simp [vF, viewN, isC, hpOf, hget, tk, ixOf]
end Go.Proofs.YtdjglbedimpldaaGreatDoor
/-
  Walks: spec.l43Ok, l43Do, l43Play.
-/
namespace Go.Proofs.YtdjglbedimpldaaGreatDoor
open Go Go.RowKit Go.Proofs
abbrev evtA (e : Ev) : AV := .agg (evC e)
theorem evDo_sm {a b : St} {e : Ev} (ha : SmS a) (hb : SmS b) (hp : e.c.p.length < 4294967281) : SmS (evDo a b e).1 ∧ SmS (evDo a b e).2.1 := by
  by_cases h1 : e.k = 1
  · rw [evDo_1 h1]; exact ⟨siteDo_sm ha hp, hb⟩
  · by_cases h2 : e.k = 2
    · rw [evDo_2 h2]; exact ⟨ha, siteDo_sm hb hp⟩
    · cases hr : sRun a b with
      | none => rw [evDo_n h1 h2 hr]; exact ⟨ha, hb⟩
      | some xy =>
        obtain ⟨x, y⟩ := xy
        rw [evDo_s h1 h2 hr]
        exact ⟨siteV_sm (law_session hr).1, siteV_sm (law_session hr).2.1⟩
attribute [local irreducible] RWp AW run kPe pe Kt effA gd gu br retR RDp runD kPeD brW gW effD
set_option maxRecDepth 100000
theorem l43Do_d (a b : St) (e : Ev) (ha : SmS a) (hb : SmS b) (hp : e.c.p.length < 4294967281) : PC Tryz.prog 120 [stA' a, stA' b, evtA e] (vX (.tup [stA' (evDo a b e).1, stA' (evDo a b e).2.1, bA (evDo a b e).2.2])) := by
  have hS1 := specSiteDo_d a ha e.c hp
  have hS2 := specSiteDo_d b hb e.c hp
  have hR := specSessionRun_e a b ha hb
  unfold evtA evC
  unfold stA' stC at *
  unfold cmdA cmC at hS1 hS2
  refine pc_enter Tryz.func120 rfl rfl fun w0 fb => go_on ?_; (try simp only [Tryz.ntmps120, push_cast, simprocAttr])
  by_cases h1 : e.k = 1
  · have j1 : eqI e.k 1 = true := eqI_t h1
    rw [evDo_1 h1]
    (try simp only [j1, push_cast, simprocAttr])
    ((try simp only [push_cast, simprocAttr]); refine at_share2 (by simp [isC2, isC]) (by first | rfl | simp [ren]) (hS1) (go_on ?_); (try simp only [push_cast, simprocAttr]))
    refine at_draw rfl (by kernel_rfl) ?_; simp only [push_cast, simprocAttr]
    refine at_done (by kernel_rfl) (by kernel_rfl) (go_on ?_)
    (try simp only [push_cast, simprocAttr])
    refine at_ret ?_; simp only [Tryz.results120, push_cast, simprocAttr]
    simp [vX]
  · have j1 : eqI e.k 1 = false := eqI_f h1
    by_cases h2 : e.k = 2
    · have j2 : eqI e.k 2 = true := eqI_t h2
      rw [evDo_2 h2]
      (try simp only [j1, j2, push_cast, simprocAttr])
      ((try simp only [push_cast, simprocAttr]); refine at_share2 (by simp [isC2, isC]) (by first | rfl | simp [ren]) (hS2) (go_on ?_); (try simp only [push_cast, simprocAttr]))
      refine at_draw rfl (by kernel_rfl) ?_; simp only [push_cast, simprocAttr]
      refine at_done (by kernel_rfl) (by kernel_rfl) (go_on ?_)
      (try simp only [push_cast, simprocAttr])
      refine at_ret ?_; simp only [Tryz.results120, push_cast, simprocAttr]
      simp [vX]
    · have j2 : eqI e.k 2 = false := eqI_f h2
      (try simp only [j1, j2, push_cast, simprocAttr])
      ((try simp only [push_cast, simprocAttr]); refine at_share2 (by simp [isC2, isC]) (by first | rfl | simp [ren]) (hR) (go_on ?_); (try simp only [push_cast, simprocAttr]))
      cases hr : sRun a b with
      | none =>
        rw [evDo_n h1 h2 hr]
        (try simp only [hr, Option.isSome_none, Bool.not_false, push_cast, simprocAttr])
        refine at_draw rfl (by kernel_rfl) ?_; simp only [push_cast, simprocAttr]
        refine at_done (by kernel_rfl) (by kernel_rfl) (go_on ?_)
        (try simp only [push_cast, simprocAttr])
        refine at_ret ?_; simp only [Tryz.results120, push_cast, simprocAttr]
        simp [vX]
      | some xy =>
        obtain ⟨x, y⟩ := xy
        rw [evDo_s h1 h2 hr]
        (try simp only [hr, Option.isSome_some, rA_some hr, rB_some hr, Bool.not_true, push_cast, simprocAttr])
        refine at_draw rfl (by kernel_rfl) ?_; simp only [push_cast, simprocAttr]
        refine at_done (by kernel_rfl) (by kernel_rfl) (go_on ?_)
        (try simp only [push_cast, simprocAttr])
        refine at_ret ?_; simp only [Tryz.results120, push_cast, simprocAttr]
        simp [vX]
theorem l43Ok_pc (t : List Nd) (ht : SmT t) (l : List Ev) (hl : SmE l) : PC Tryz.prog 76 [ndA t, evsA l] (vB (rdV t l)) := by
  have hT := specTreeValid_pc t ht
  have hn := hl.n
  refine pc_enter Tryz.func76 rfl rfl fun w0 fb => go_on ?_; (try simp only [Tryz.ntmps76, push_cast, simprocAttr])
  refine at_loop (X := Nat) (fun k => [(5, iA k)]) (fun _ => []) (fun k => k ≤ l.length ∧ l.all evV = (l.drop k).all evV) (fun k => l.length - k) 0 ⟨Nat.zero_le _, rfl⟩ ?_ ?_
  · (refine wk_ok ?_ ?_ ?_ ?_ <;> simp [leL, leH, idsL, idsA, idsR, inH, hget, sameRow, upA, hvA, dsts, dstO, setA_0, setA_1, setA_8, List.append, List.cons_append, List.nil_append])
  · rintro k ⟨q1, q2⟩
    simp only [upA, hvA, dsts, dstO, setA_0, setA_1, setA_8, List.append, List.cons_append, List.nil_append]
    refine go_on ?_
    (try simp only [push_cast, simprocAttr])
    refine at_b (fun hg => ?_) (fun hg => ?_)
    · have hlt := lt_tt hg
      obtain ⟨e, he⟩ := get_of_lt hlt
      have i1 := ix_n he
      have i2 := map_get evC he
      simp only [evC] at i2
      have hp := hl.p e (List.mem_of_getElem? he)
      have hC := specCommandValid_pc e.c hp
      unfold cmdA cmC at hC
      have hI := l6In_pc e.k 1 3
      rw [drop_of_get he] at q2
      simp only [List.all_cons] at q2
      have w1 := wr ((k : Int) + 1) (by omega)
      (try simp only [hg, i1, i2, push_cast, simprocAttr])
      (refine at_call ?_; (try simp only [push_cast, simprocAttr]); refine rwc_v (hI) (go_on ?_); (try simp only [push_cast, simprocAttr]))
      by_cases h3 : e.k = 3
      · have d1 : inR e.k 1 3 = true := by simp [inR, h3]
        have j3 : eqI e.k 3 = true := eqI_t h3
        rw [evV_3 h3] at q2
        (try simp only [d1, j3, Bool.not_true, ctg, cth, cmg, cmh, push_cast, simprocAttr])
        have e0 : (decide (e.c.p = []) && ((eqI e.c.a.k 0 && eqI e.c.a.v 0) && (eqI e.c.b.k 0 && eqI e.c.b.v 0))) = decide (e.c = cm0) := cm_eq e.c cm0
        cases hv : decide (e.c = cm0) with
        | false =>
          (try simp only [e0, hv, Bool.not_false, push_cast, simprocAttr])
          refine at_ret ?_; simp only [Tryz.results76, push_cast, simprocAttr]
          simp only [hv, Bool.false_and] at q2
          simp [vX, rdV, q2]
        | true =>
          (try simp only [e0, hv, j3, Bool.not_true, w1, push_cast, simprocAttr])
          refine at_fin ⟨k + 1, ⟨by omega, by rw [q2, hv]; rfl⟩, by omega, ?_⟩
          (refine wk_ok ?_ ?_ ?_ ?_ <;> simp [leL, leH, idsL, idsA, idsR, inH, hget, sameRow, upA, hvA, dsts, dstO, setA_0, setA_1, setA_8, List.append, List.cons_append, List.nil_append])
      · have j3 : eqI e.k 3 = false := eqI_f h3
        by_cases h12 : e.k = 1 ∨ e.k = 2
        · have d1 : inR e.k 1 3 = true := by rcases h12 with h | h <;> simp [inR, h]
          have ev : evV e = cmV e.c := h12.elim evV_1 evV_2
          rw [ev] at q2
          (try simp only [d1, j3, Bool.not_true, Bool.not_false, push_cast, simprocAttr])
          (refine at_call ?_; (try simp only [push_cast, simprocAttr]); refine rwc_v (hC) (go_on ?_); (try simp only [push_cast, simprocAttr]))
          cases hv : cmV e.c with
          | false =>
            (try simp only [hv, Bool.not_false, push_cast, simprocAttr])
            refine at_ret ?_; simp only [Tryz.results76, push_cast, simprocAttr]
            simp [vX, rdV, q2, hv]
          | true =>
            (try simp only [hv, j3, Bool.not_true, w1, push_cast, simprocAttr])
            refine at_fin ⟨k + 1, ⟨by omega, by rw [q2, hv]; rfl⟩, by omega, ?_⟩
            (refine wk_ok ?_ ?_ ?_ ?_ <;> simp [leL, leH, idsL, idsA, idsR, inH, hget, sameRow, upA, hvA, dsts, dstO, setA_0, setA_1, setA_8, List.append, List.cons_append, List.nil_append])
        · have d1 : inR e.k 1 3 = false := by simp only [inR, Bool.and_eq_false_iff, decide_eq_false_iff_not]; omega
          rw [evV_n (fun h => h12 (.inl h)) (fun h => h12 (.inr h)) h3] at q2
          (try simp only [d1, Bool.not_false, push_cast, simprocAttr])
          refine at_ret ?_; simp only [Tryz.results76, push_cast, simprocAttr]
          simp [vX, rdV, q2]
    · have h3 := lt_ff hg
      rw [List.drop_of_length_le h3] at q2
      have e1 : rdV t l = (tV t && leI (l.length : Int) 24) := by
        unfold rdV leI
        rw [q2]
        cases tV t <;> simp <;> omega
      (try simp only [hg, push_cast, simprocAttr])
      (refine at_call ?_; (try simp only [push_cast, simprocAttr]); refine rwc_v (hT) (go_on ?_); (try simp only [push_cast, simprocAttr]))
      cases hv : tV t with
      | false =>
        (try simp only [hv, push_cast, simprocAttr])
        refine at_ret ?_; simp only [Tryz.results76, push_cast, simprocAttr]
        simp [vX, e1, hv]
      | true =>
        (try simp only [hv, push_cast, simprocAttr])
        refine at_ret ?_; simp only [Tryz.results76, push_cast, simprocAttr]
        simp [vX, e1, hv]
theorem l43Play_d (t : List Nd) (ht : SmT2 t) (l : List Ev) (hl : SmE l) : PC Tryz.prog 77 [ndA t, evsA l] (vX (.tup [stA' (pl t l).1, stA' (pl t l).2.1, .sl 1 ((pl t l).2.2.map inC)])) := by
  have htn := ht.n
  have hn := hl.n
  have hL := l41Copy_pc ⟨0, t, []⟩ (by simp only; omega) (by simp)
  unfold stA' stC stO at hL
  simp only [List.length_nil] at hL
  unfold stA' stC
  refine PC.toF ?_
  refine pc_enter Tryz.func77 rfl rfl fun w0 fb => go_on ?_; (try simp only [Tryz.ntmps77, push_cast, simprocAttr])
  refine at_chk (by omega) ?_
  (try simp only [push_cast, simprocAttr])
  refine at_call ?_
  (try simp only [Nat.zero_add, push_cast, simprocAttr])
  refine rwc_r hL (by simp [flatV, flatL]) (flat_nc _ _) (by simp [frB, baseOf]) ?_
  (try simp only [push_cast, simprocAttr])
  (refine at_frzS2 [15, 18, 22000, 22001] (by refine wk_frz ?_ ?_ ?_ ?_ <;> simp [rowN, rowC, frzS2, frzH, frzRow, frzT, hasN, delL, hdel, leF, leHF, rowF, frzB, idsL, idsA, idsR, inH, hget, sameRow, viewN, tk]) ?_; simp only [rowN, rowC, frzS2, frzH, frzRow, frzT, hasN, delL, hdel, idsA, idsL, viewN, hget, tk, isC, List.map_cons, List.map_nil, List.all_cons, List.all_nil, List.append_nil, List.drop, List.getElem?_cons_zero, List.getElem?_cons_succ, Bool.not_false, Bool.not_true, Bool.and_true, if_true, if_false, Nat.zero_add, List.length_map, simprocAttr])
  refine go_on ?_
  (try simp only [push_cast, simprocAttr])
  refine at_loop (X := Nat × St × St × List Int) (fun x => [(7, .o 14 x.2.2.2.length), (10, iA x.1), (14, .any)]) (fun x => [(4, ⟨26, 3, [[iA 0, .v (.slice none 0 0), .v (.slice none 0 0)]], true⟩), (5, ⟨26, 3, [[iA 0, .v (.slice none 0 0), .v (.slice none 0 0)]], true⟩), (6, ⟨3, 1, [], true⟩), (14, ⟨3, 1, x.2.2.2.map inC, true⟩), (8, ⟨26, 3, [[iA x.2.1.ep, ndA x.2.1.base, cmA x.2.1.log]], true⟩), (9, ⟨26, 3, [[iA x.2.2.1.ep, ndA x.2.2.1.base, cmA x.2.2.1.log]], true⟩)]) (fun x => PJ t l x.1 x.2.1 x.2.2.1 x.2.2.2) (fun x => l.length - x.1) (0, ⟨0, t, []⟩, ⟨0, t, []⟩, []) (PJ.init ht l) ?_ ?_
  · (refine wk_ok ?_ ?_ ?_ ?_ <;> simp [leL, leH, idsL, idsA, idsR, inH, hget, sameRow, upA, hvA, dsts, dstO, setA_0, setA_1, setA_8, List.append, List.cons_append, List.nil_append])
  · rintro ⟨k, a, b, ds⟩ hJ
    simp only [upA, hvA, dsts, dstO, setA_0, setA_1, setA_8, List.append, List.cons_append, List.nil_append]
    refine go_on ?_
    (try simp only [push_cast, simprocAttr])
    refine at_b (fun hg => ?_) (fun hg => ?_)
    · have hlt := lt_tt hg
      obtain ⟨e, he⟩ := get_of_lt hlt
      have i1 := ix_n he
      have i2 := map_get evC he
      simp only [evC] at i2
      have hp := hl.p e (List.mem_of_getElem? he)
      have w1 := wr ((k : Int) + 1) (by omega)
      have hdn : ds.length ≤ k := hJ.n
      have hmap : ds.map inC ++ [[iA (k : Int)]] = (ds ++ [(k : Int)]).map inC := by rw [List.map_append]; rfl
      have hD := l43Do_d a b e hJ.sa hJ.sb hp
      obtain ⟨a', b', ok, hr⟩ : ∃ a' b' ok, evDo a b e = (a', b', ok) := ⟨_, _, _, rfl⟩
      have hsm := evDo_sm hJ.sa hJ.sb hp (e := e)
      rw [hr] at hD hsm
      have hJ2 := hJ.step he hr hsm.1 hsm.2
      simp only at hD
      unfold stA' stC at hD
      unfold evtA evC at hD
      (try simp only [hg, push_cast, simprocAttr])
      refine at_draw rfl (by kernel_rfl) ?_; simp only [push_cast, simprocAttr]
      (try simp only [i1, i2, push_cast, simprocAttr])
      (refine at_shareD (by simp [isC2, isC]) (by first | rfl | simp [ren]) hD ?_; (try simp only [push_cast, simprocAttr]))
      refine at_done (by kernel_rfl) (by kernel_rfl) (go_on ?_)
      cases ok with
      | false =>
        (try simp only [w1, push_cast, simprocAttr])
        refine at_fin ⟨(k + 1, a', b', ds), hJ2, by dsimp only; omega, ?_⟩
        (refine wk_ok ?_ ?_ ?_ ?_ <;> simp [leL, leH, idsL, idsA, idsR, inH, hget, sameRow, upA, hvA, dsts, dstO, setA_0, setA_1, setA_8, List.append, List.cons_append, List.nil_append])
      | true =>
        (try simp only [w1, push_cast, simprocAttr])
        refine at_chk (by omega) ?_
        (try simp only [w1, hmap, push_cast, simprocAttr])
        refine at_fin ⟨(k + 1, a', b', ds ++ [(k : Int)]), hJ2, by dsimp only; omega, ?_⟩
        simp only [List.length_append, List.length_cons, List.length_nil]
        (refine wk_ok ?_ ?_ ?_ ?_ <;> simp [leL, leH, idsL, idsA, idsR, inH, hget, sameRow, upA, hvA, dsts, dstO, setA_0, setA_1, setA_8, List.append, List.cons_append, List.nil_append])
    · have h3 := lt_ff hg
      have hd := hJ.done h3
      (try simp only [hg, push_cast, simprocAttr])
      refine at_draw rfl (by kernel_rfl) ?_; simp only [push_cast, simprocAttr]
      refine at_done (by kernel_rfl) (by kernel_rfl) (go_on ?_)
      (try simp only [push_cast, simprocAttr])
      refine at_ret ?_; simp only [Tryz.results77, push_cast, simprocAttr]
      rw [hd]
      simp [vF, viewN, isC, hpOf, hget, tk, ixOf]
end Go.Proofs.YtdjglbedimpldaaGreatDoor
/-
  Walks: RoundPlay (impl, spec), impl.RoundDone, read as data.
-/
namespace Go.Proofs.YtdjglbedimpldaaGreatDoor
open Go Go.RowKit Go.Proofs
theorem rPlay_t {t : List Nd} {l : List Ev} (h : rdV t l = true) : rPlay t l = ((pl t l).1, (pl t l).2.1, (l.length : Int) - ((pl t l).2.2.length : Int)) := by simp [rPlay, h, pl]
theorem rPlay_f {t : List Nd} {l : List Ev} (h : rdV t l = false) : rPlay t l = (st0, st0, -1) := by simp [rPlay, h]
theorem rDone_t {t : List Nd} {l : List Ev} (h : rdV t l = true) : rDone t l = (pl t l).2.2 := by simp [rDone, h, pl]
theorem rDone_f {t : List Nd} {l : List Ev} (h : rdV t l = false) : rDone t l = [] := by simp [rDone, h]
theorem pl_len (t : List Nd) (l : List Ev) : (pl t l).2.2.length ≤ l.length := play_len l 0 _ _
theorem st2_e {P : Program} {f : FuncId} {args : List AV} {x : AV} (h : PC P f args (vX (.tup [st00, st00, x]))) : PC P f args (vX (.tup [stA' st0, stA' st0, x])) := by
  refine PC.less h fun h loc w v hg => hg.tup2 rfl fun j x y u h1 h2 h3 => ?_
  rcases j with _ | _ | _ | j
  · cases h1; cases h2; exact nil_st0 h3
  · cases h1; cases h2; exact nil_st0 h3
  · cases h1; cases h2; exact h3
  · cases h1
attribute [local irreducible] RWp AW run kPe pe Kt effA gd gu br retR RDp runD kPeD brW gW effD
set_option maxRecDepth 100000
theorem RoundPlay_0 (t : List Nd) (ht : SmT2 t) (l : List Ev) (hl : SmE l) (h : rdV t l = false) : PC Tryz.prog 26 [ndA t, evsA l] (vX (.tup [st00, st00, iA (-1)])) := by
  have hV := roundValid_pc t ht.s l hl
  rw [h] at hV
  refine pc_enter Tryz.func26 rfl rfl fun w0 fb => go_on ?_; (try simp only [Tryz.ntmps26, push_cast, simprocAttr])
  (refine at_call ?_; (try simp only [push_cast, simprocAttr]); refine rwc_v (hV) (go_on ?_); (try simp only [push_cast, simprocAttr]))
  (try simp only [Bool.not_false, push_cast, simprocAttr])
  refine at_ret ?_; simp only [Tryz.results26, push_cast, simprocAttr]
  simp [vX, st00]
theorem RoundPlay_1 (t : List Nd) (ht : SmT2 t) (l : List Ev) (hl : SmE l) (h : rdV t l = true) : PC Tryz.prog 26 [ndA t, evsA l] (vX (.tup [stA' (pl t l).1, stA' (pl t l).2.1, iA ((l.length : Int) - ((pl t l).2.2.length : Int))])) := by
  have hV := roundValid_pc t ht.s l hl
  have hP := play_d t ht l hl
  have hn := hl.n
  have hln := pl_len t l
  have w1 := wr ((l.length : Int) - ((pl t l).2.2.length : Int)) (by omega)
  rw [h] at hV
  unfold stA' stC at *
  refine pc_enter Tryz.func26 rfl rfl fun w0 fb => go_on ?_; (try simp only [Tryz.ntmps26, push_cast, simprocAttr])
  (refine at_call ?_; (try simp only [push_cast, simprocAttr]); refine rwc_v (hV) (go_on ?_); (try simp only [push_cast, simprocAttr]))
  (try simp only [Bool.not_true, push_cast, simprocAttr])
  ((try simp only [push_cast, simprocAttr]); refine at_share2 (by simp [isC2, isC]) (by first | rfl | simp [ren]) (hP) (go_on ?_); (try simp only [push_cast, simprocAttr]))
  refine at_draw rfl (by kernel_rfl) ?_; simp only [push_cast, simprocAttr]
  (try simp only [w1, List.length_map, push_cast, simprocAttr])
  refine at_done (by kernel_rfl) (by kernel_rfl) (go_on ?_)
  (try simp only [push_cast, simprocAttr])
  refine at_ret ?_; simp only [Tryz.results26, push_cast, simprocAttr]
  simp [vX]
theorem RoundPlay_d (t : List Nd) (ht : SmT2 t) (l : List Ev) (hl : SmE l) : PC Tryz.prog 26 [ndA t, evsA l] (vX (.tup [stA' (rPlay t l).1, stA' (rPlay t l).2.1, iA (rPlay t l).2.2])) := by
  cases h : rdV t l with
  | false => rw [rPlay_f h]; exact st2_e (RoundPlay_0 t ht l hl h)
  | true => rw [rPlay_t h]; exact RoundPlay_1 t ht l hl h
theorem specRoundPlay_0 (t : List Nd) (ht : SmT2 t) (l : List Ev) (hl : SmE l) (h : rdV t l = false) : PC Tryz.prog 27 [ndA t, evsA l] (vX (.tup [st00, st00, iA (-1)])) := by
  have hV := l43Ok_pc t ht.s l hl
  rw [h] at hV
  refine pc_enter Tryz.func27 rfl rfl fun w0 fb => go_on ?_; (try simp only [Tryz.ntmps27, push_cast, simprocAttr])
  (refine at_call ?_; (try simp only [push_cast, simprocAttr]); refine rwc_v (hV) (go_on ?_); (try simp only [push_cast, simprocAttr]))
  (try simp only [Bool.not_false, push_cast, simprocAttr])
  refine at_ret ?_; simp only [Tryz.results27, push_cast, simprocAttr]
  simp [vX, st00]
theorem specRoundPlay_1 (t : List Nd) (ht : SmT2 t) (l : List Ev) (hl : SmE l) (h : rdV t l = true) : PC Tryz.prog 27 [ndA t, evsA l] (vX (.tup [stA' (pl t l).1, stA' (pl t l).2.1, iA ((l.length : Int) - ((pl t l).2.2.length : Int))])) := by
  have hV := l43Ok_pc t ht.s l hl
  have hP := l43Play_d t ht l hl
  have hn := hl.n
  have hln := pl_len t l
  have w1 := wr ((l.length : Int) - ((pl t l).2.2.length : Int)) (by omega)
  rw [h] at hV
  unfold stA' stC at *
  refine pc_enter Tryz.func27 rfl rfl fun w0 fb => go_on ?_; (try simp only [Tryz.ntmps27, push_cast, simprocAttr])
  (refine at_call ?_; (try simp only [push_cast, simprocAttr]); refine rwc_v (hV) (go_on ?_); (try simp only [push_cast, simprocAttr]))
  (try simp only [Bool.not_true, push_cast, simprocAttr])
  ((try simp only [push_cast, simprocAttr]); refine at_share2 (by simp [isC2, isC]) (by first | rfl | simp [ren]) (hP) (go_on ?_); (try simp only [push_cast, simprocAttr]))
  refine at_draw rfl (by kernel_rfl) ?_; simp only [push_cast, simprocAttr]
  (try simp only [w1, List.length_map, push_cast, simprocAttr])
  refine at_done (by kernel_rfl) (by kernel_rfl) (go_on ?_)
  (try simp only [push_cast, simprocAttr])
  refine at_ret ?_; simp only [Tryz.results27, push_cast, simprocAttr]
  simp [vX]
theorem specRoundPlay_d (t : List Nd) (ht : SmT2 t) (l : List Ev) (hl : SmE l) : PC Tryz.prog 27 [ndA t, evsA l] (vX (.tup [stA' (rPlay t l).1, stA' (rPlay t l).2.1, iA (rPlay t l).2.2])) := by
  cases h : rdV t l with
  | false => rw [rPlay_f h]; exact st2_e (specRoundPlay_0 t ht l hl h)
  | true => rw [rPlay_t h]; exact specRoundPlay_1 t ht l hl h
theorem RoundDone_0 (t : List Nd) (ht : SmT2 t) (l : List Ev) (hl : SmE l) (h : rdV t l = false) : PC Tryz.prog 28 [ndA t, evsA l] (vX (.sl 1 [])) := by
  have hV := roundValid_pc t ht.s l hl
  rw [h] at hV
  · refine PC.toF ?_
    refine pc_enter Tryz.func28 rfl rfl fun w0 fb => go_on ?_; (try simp only [Tryz.ntmps28, push_cast, simprocAttr])
    refine at_call ?_
    (try simp only [push_cast, simprocAttr])
    refine rwc_v hV ?_
    (try simp only [push_cast, simprocAttr])
    (refine at_dropS [4] (by refine wk_ok ?_ ?_ ?_ ?_ <;> simp [dropS, dropT, hasN, delL, hdel, leL, leH, idsL, idsA, idsR, inH, hget, sameRow]) ?_; simp only [dropS, dropT, hasN, delL, hdel, idsA, idsL, hget, List.map_cons, List.map_nil, List.all_cons, List.all_nil, List.append_nil, Bool.not_false, Bool.not_true, Bool.and_true, if_true, if_false, simprocAttr])
    refine go_on ?_
    (try simp only [Bool.not_false, push_cast, simprocAttr])
    refine at_ret ?_; simp only [Tryz.results28, push_cast, simprocAttr]
    simp [vF, viewN, isC, hpOf, hget, tk, ixOf]
theorem RoundDone_1 (t : List Nd) (ht : SmT2 t) (l : List Ev) (hl : SmE l) (h : rdV t l = true) : PC Tryz.prog 28 [ndA t, evsA l] (vX (.sl 1 ((pl t l).2.2.map inC))) := by
  have hV := roundValid_pc t ht.s l hl
  have hP := play_d t ht l hl
  rw [h] at hV
  unfold stA' stC at *
  refine pc_enter Tryz.func28 rfl rfl fun w0 fb => go_on ?_; (try simp only [Tryz.ntmps28, push_cast, simprocAttr])
  (refine at_call ?_; (try simp only [push_cast, simprocAttr]); refine rwc_v (hV) (go_on ?_); (try simp only [push_cast, simprocAttr]))
  (try simp only [Bool.not_true, push_cast, simprocAttr])
  ((try simp only [push_cast, simprocAttr]); refine at_share2 (by simp [isC2, isC]) (by first | rfl | simp [ren]) (hP) (go_on ?_); (try simp only [push_cast, simprocAttr]))
  refine at_ret ?_; simp only [Tryz.results28, push_cast, simprocAttr]
  simp [vX]
theorem RoundDone_d (t : List Nd) (ht : SmT2 t) (l : List Ev) (hl : SmE l) : PC Tryz.prog 28 [ndA t, evsA l] (vX (.sl 1 ((rDone t l).map inC))) := by
  cases h : rdV t l with
  | false => rw [rDone_f h]; exact RoundDone_0 t ht l hl h
  | true => rw [rDone_t h]; exact RoundDone_1 t ht l hl h
end Go.Proofs.YtdjglbedimpldaaGreatDoor
/-
  Walks: the draws of rounds (DrawRoundPlay).
-/
namespace Go.Proofs.YtdjglbedimpldaaGreatDoor
open Go Go.RowKit Go.Proofs
def rowE (l : List Ev) : Row := ⟨55, 6, l.map evC, true⟩
def evD (z : List Int) (p c : Nat) (rv : AV) (lr' rows : List Row) : Prop := ∃ (t : List Nd) (l : List Ev), tV t = true ∧ l.length ≤ 25 ∧ (∀ e ∈ l, e.c.p.length ≤ 10) ∧ rv = .tup [ndA t, .o 1 l.length] ∧ RdD z p c lr' ∧ rows = [rowE l]
attribute [local irreducible] RWp AW run kPe pe Kt effA gd gu br retR RDp runD kPeD brW gW effD
set_option maxRecDepth 100000
set_option maxHeartbeats 1000000
theorem l92Events_pcl (z : List Int) (p : Nat) (hr : RdOk z (p + 800)) : PCL Tryz.prog 73 [rdR z p] (mvF none) [.p 0 0 0] (evD z p 800) := by
  have hrc : ∀ q, (rdR z q).cl = true := fun _ => rfl
  have hrE : ∀ q, ((rdR z q).es.all fun e => e.all fun x => (idsA x).all fun r => !hasN [28, 31, 35000, 35001] r) = true := fun _ => rfl
  refine pcl_enter Tryz.func73 rfl rfl (by simp) fun w0 fb loc => go_on ?_; simp only [Tryz.ntmps73, hpL, nmL, mvF, renL, decide_true, decide_false, push_cast, simprocAttr]
  (try simp only [push_cast, simprocAttr]); refine call_lend [500000] none (lr := [rdR z p]) (by simp [ndB]) (by first | rfl | simp [rowsOf, hget, rdR, rowS, rowN, rowC, sC, ndC, cmC]) (by simp [idsL, idsA]) (by simp [mvN]) (by simpa [rnA, ixOf] using pick_pcl z p 8 (hr.le (by omega)) (by omega)) ?_
  rintro rv lr' rows ⟨m8, rfl, hm8, rfl, rfl⟩
  have hm8 := hm8 (by omega)
  have w1 := wr (2 + (m8 : Int)) (by omega)
  (refine ⟨by simp [shB, mvF, rdR, rowS, rowN, rowC], by simp [frB, baseOf], go_on ?_⟩; simp only [w1, killA, killH, killRow, push_cast, simprocAttr])
  (try simp only [push_cast, simprocAttr]); refine call_lend [500000] none (lr := [rdR z (p + 1)]) (by simp [ndB]) (by first | rfl | simp [rowsOf, hget, rdR, rowS, rowN, rowC, sC, ndC, cmC]) (by simp [idsL, idsA]) (by simp [mvN]) (by simpa [rnA, ixOf] using l91Tree_pcl z (p + 1) (2 + m8) (by omega) (hr.le (by omega))) ?_
  rintro rv lr' rows ⟨t, ht, rfl, ⟨u, rfl, g1, g2⟩, rfl⟩
  have hu : u ≤ p + 109 := by omega
  have hts := sm_tv ((tV_iff t).1 ht)
  have htl := ((tV_iff t).1 ht).le
  have h0s : SmS ⟨0, t, []⟩ := ⟨hts, st0_sm.l⟩
  have hL := l41Copy_pc ⟨0, t, []⟩ (by simp only; omega) (by simp)
  unfold stA' stC stO at hL
  simp only [List.length_nil] at hL
  (refine ⟨by simp [shB, mvF, rdR, rowS, rowN, rowC], by simp [frB, baseOf], go_on ?_⟩; simp only [killA, killH, killRow, push_cast, simprocAttr])
  (try simp only [push_cast, simprocAttr]); refine call_lend [500000] none (lr := [rdR z u]) (by simp [ndB]) (by first | rfl | simp [rowsOf, hget, rdR, rowS, rowN, rowC, sC, ndC, cmC]) (by simp [idsL, idsA]) (by simp [mvN]) (by simpa [rnA, ixOf] using pick_pcl z u 14 (hr.le (by omega)) (by omega)) ?_
  rintro rv lr' rows ⟨n, rfl, hn, rfl, rfl⟩
  have hn := hn (by omega)
  (refine ⟨by simp [shB, mvF, rdR, rowS, rowN, rowC], by simp [frB, baseOf], go_on ?_⟩; simp only [killA, killH, killRow, push_cast, simprocAttr])
  (try simp only [push_cast, simprocAttr]); refine call_lend [500000] none (lr := [rdR z (u + 1)]) (by simp [ndB]) (by first | rfl | simp [rowsOf, hget, rdR, rowS, rowN, rowC, sC, ndC, cmC]) (by simp [idsL, idsA]) (by simp [mvN]) (by simpa [rnA, ixOf] using pick_pcl z (u + 1) 20 (hr.le (by omega)) (by omega)) ?_
  rintro rv lr' rows ⟨m20, rfl, hm20, rfl, rfl⟩
  (refine ⟨by simp [shB, mvF, rdR, rowS, rowN, rowC], by simp [frB, baseOf], go_on ?_⟩; simp only [killA, killH, killRow, push_cast, simprocAttr])
  refine at_b (fun hb0 => ?_) (fun hb0 => ?_)
  · (try simp only [hb0, push_cast, simprocAttr])
    (try simp only [push_cast, simprocAttr]); refine call_lend [500000] none (lr := [rdR z (u + 1 + 1)]) (by simp [ndB]) (by first | rfl | simp [rowsOf, hget, rdR, rowS, rowN, rowC, sC, ndC, cmC]) (by simp [idsL, idsA]) (by simp [mvN]) (by simpa [rnA, ixOf] using pick_pcl z (u + 1 + 1) 2 (hr.le (by omega)) (by omega)) ?_
    rintro rv lr' rows ⟨m2, rfl, hm2, rfl, rfl⟩
    have hm2 := hm2 (by omega)
    clear hn
    obtain ⟨n, hn⟩ : ∃ n, n = 24 + m2 := ⟨_, rfl⟩
    have w2 : IntKind.i64.wrap (24 + (m2 : Int)) = (n : Int) := by rw [wr (24 + (m2 : Int)) (by omega)]; omega
    have hn25 : n ≤ 25 := by omega
    (refine ⟨by simp [shB, mvF, rdR, rowS, rowN, rowC], by simp [frB, baseOf], go_on ?_⟩; simp only [w2, killA, killH, killRow, push_cast, simprocAttr])
    obtain ⟨q, hq⟩ : ∃ q, q = u + 1 + 1 + 1 := ⟨_, rfl⟩
    rw [← hq]
    have hq2 : p ≤ q ∧ q ≤ p + 120 := by omega
    clear hn w2
    refine at_chk (by omega) ?_
    (try simp only [hrc, push_cast, simprocAttr])
    refine at_call ?_
    (try simp only [Nat.zero_add, hrc, push_cast, simprocAttr])
    refine rwc_r hL (by simp [flatV, flatL]) (flat_nc _ _) (by simp [frB, baseOf]) ?_
    (try simp only [hrc, push_cast, simprocAttr])
    (refine at_frzS2 [28, 31, 35000, 35001] (by refine wk_frz ?_ ?_ ?_ ?_ <;> simp [rowN, rowC, rdR, frzS2, frzH, frzRow, frzT, hasN, delL, hdel, leF, leHF, rowF, frzB, idsL, idsA, idsR, inH, hget, sameRow, viewN, tk]) ?_; simp only [rowN, rowC, frzS2, frzH, frzRow, frzT, hasN, delL, hdel, idsA, idsL, viewN, hget, tk, isC, hrE, List.map_cons, List.map_nil, List.all_cons, List.all_nil, List.append_nil, List.drop, List.getElem?_cons_zero, List.getElem?_cons_succ, Bool.not_false, Bool.not_true, Bool.and_true, if_true, if_false, Nat.zero_add, List.length_map, simprocAttr])
    refine go_on ?_
    (try simp only [push_cast, simprocAttr])
    refine at_loop (X := Nat × St × St × List Ev × Nat) (fun x => [(5, .o 19 x.2.2.2.1.length), (9, iA x.1), (19, .any)]) (fun x => [(2, ⟨98, 3, [], true⟩), (3, ⟨55, 6, [], true⟩), (19, ⟨55, 6, x.2.2.2.1.map evC, true⟩), (7, ⟨26, 3, [[iA x.2.1.ep, ndA x.2.1.base, cmA x.2.1.log]], true⟩), (8, ⟨26, 3, [[iA x.2.2.1.ep, ndA x.2.2.1.base, cmA x.2.2.1.log]], true⟩), (500000, rdR z x.2.2.2.2)])
      (fun x => x.1 ≤ n ∧ SmS x.2.1 ∧ SmS x.2.2.1 ∧ x.2.2.2.1.length ≤ x.1 ∧ (∀ e ∈ x.2.2.2.1, e.c.p.length ≤ 10) ∧ p ≤ x.2.2.2.2 ∧ x.2.2.2.2 ≤ p + 120 + 21 * x.1) (fun x => n - x.1) (0, ⟨0, t, []⟩, ⟨0, t, []⟩, [], q) ⟨by omega, h0s, h0s, by simp, by simp, by dsimp only; omega, by dsimp only; omega⟩ ?_ ?_
    · (refine wk_frz ?_ ?_ ?_ ?_ <;> simp [rdR, leF, leHF, frzB, idsL, idsA, idsR, inH, hget, sameRow, viewN, tk, upA, hvA, dsts, dstO, setA_0, setA_1, setA_8, List.append, List.cons_append, List.nil_append])
    · rintro ⟨i, a, b, l, r⟩ ⟨q1, q2, q3, q4, q5, q6, q7⟩
      simp only at q1 q2 q3 q4 q5 q6 q7
      simp only [upA, hvA, dsts, dstO, setA_0, setA_1, setA_8, List.append, List.cons_append, List.nil_append]
      refine go_on ?_
      (try simp only [push_cast, simprocAttr])
      by_cases hlt : i < n
      · have i0 : ltI (i : Int) n = true := ltI_t (by omega)
        have w3 := wr ((i : Int) + 1) (by omega)
        (try simp only [i0, push_cast, simprocAttr])
        (try simp only [push_cast, simprocAttr]); refine call_lend [500000] none (lr := [rdR z r]) (by simp [ndB]) (by first | rfl | simp [rowsOf, hget, rdR, rowS, rowN, rowC, sC, ndC, cmC]) (by simp [idsL, idsA]) (by simp [mvN]) (by simpa [rnA, ixOf] using pick_pcl z r 5 (hr.le (by omega)) (by omega)) ?_
        rintro rv lr' rows ⟨m5, rfl, hm5, rfl, rfl⟩
        have hm5 := hm5 (by omega)
        obtain ⟨m, hm⟩ : ∃ m, m = m5 % 3 := ⟨_, rfl⟩
        have ht3 : Int.tmod (m5 : Int) 3 = (m : Int) := by rw [hm]; exact (Int.ofNat_tmod m5 3).symm
        have w4 := wr (1 + (m : Int)) (by omega)
        have hm3 : m < 3 := by omega
        (refine ⟨by simp [shB, mvF, rdR, rowS, rowN, rowC], by simp [frB, baseOf], go_on ?_⟩; simp only [ht3, w4, killA, killH, killRow, push_cast, simprocAttr])
        have hbody : ∀ (c : Cm) (k : Int) (a' b' : St) (ok : Bool), evDo a b ⟨k, c⟩ = (a', b', ok) → c.p.length ≤ 10 → SmS a' ∧ SmS b' ∧ (∀ e ∈ l ++ [(⟨k, c⟩ : Ev)], e.c.p.length ≤ 10) := fun c k a' b' ok he hc => by
          have := evDo_sm q2 q3 (e := ⟨k, c⟩) (by simp only; omega)
          rw [he] at this
          exact ⟨this.1, this.2, fun e h => by
            rcases List.mem_append.1 h with h | h
            · exact q5 e h
            · simp only [List.mem_singleton] at h
              subst h
              exact hc⟩
        have hL1 : (l ++ [(⟨0, cm0⟩ : Ev)]).length = l.length + 1 := by simp
        obtain rfl | rfl | rfl : m = 0 ∨ m = 1 ∨ m = 2 := by omega
        · have hT := specSiteTree_pc a q2
          unfold stA' stC at hT
          have k1 : (1 : Int) + ((0 : Nat) : Int) = 1 := rfl
          (try simp only [k1, show eqI 1 1 = true from rfl, push_cast, simprocAttr])
          ((try simp only [push_cast, simprocAttr]); refine at_share2 (by simp [isC2, isC]) (by first | rfl | simp [ren]) (hT) (go_on ?_); (try simp only [push_cast, simprocAttr]))
          (try simp only [push_cast, simprocAttr]); refine call_lend [500000] none (lr := [rdR z (r + 1)]) (by simp [ndB]) (by first | rfl | simp [rowsOf, hget, rdR, rowS, rowN, rowC, sC, ndC, cmC]) (by simp [idsL, idsA]) (by simp [mvN]) (by simpa [rnA, ixOf] using l91Command_pcl z (r + 1) (siteT a) (tV_siteT a) (hr.le (by omega))) ?_
          rintro rv lr' rows ⟨c, hc, rfl, ⟨u, rfl, g3, g4⟩, rfl⟩
          have hC := specCommandValid_pc c (by omega)
          obtain ⟨a', b', ok, he⟩ : ∃ a' b' ok, evDo a b ⟨1, c⟩ = (a', b', ok) := ⟨_, _, _, rfl⟩
          obtain ⟨h5, h6, h7⟩ := hbody c 1 a' b' ok he hc
          have hD := l43Do_d a b ⟨1, c⟩ q2 q3 (by simp only; omega)
          rw [he] at hD
          simp only at hD
          have hmap : l.map evC ++ [[iA 1, sA c.p, iA c.a.k, iA c.a.v, iA c.b.k, iA c.b.v]] = (l ++ [(⟨1, c⟩ : Ev)]).map evC := by rw [List.map_append]; rfl
          unfold cmdA cmC at hC ⊢
          unfold stA' stC at hD
          unfold evtA evC at hD
          simp only at hD
          (refine ⟨by simp [shB, mvF, rdR, rowS, rowN, rowC], by simp [frB, baseOf], go_on ?_⟩; simp only [show eqI 1 3 = false from rfl, w3, killA, killH, killRow, push_cast, simprocAttr])
          (refine at_call ?_; (try simp only [push_cast, simprocAttr]); refine rwc_v (hC) (go_on ?_); (try simp only [push_cast, simprocAttr]))
          cases hv : cmV c with
          | false =>
            (try simp only [hv, w3, push_cast, simprocAttr])
            refine at_fin ⟨(i + 1, a, b, l, u), ⟨by dsimp only; omega, q2, q3, by dsimp only; omega, q5, by dsimp only; omega, by dsimp only; omega⟩, by dsimp only; omega, ?_⟩
            (refine wk_frz ?_ ?_ ?_ ?_ <;> simp [rdR, leF, leHF, frzB, idsL, idsA, idsR, inH, hget, sameRow, viewN, tk, upA, hvA, dsts, dstO, setA_0, setA_1, setA_8, List.append, List.cons_append, List.nil_append])
          | true =>
            (try simp only [hv, w3, push_cast, simprocAttr])
            refine at_chk (by omega) ?_
            (try simp only [hmap, hrc, push_cast, simprocAttr])
            ((try simp only [push_cast, simprocAttr]); refine at_share2 (by simp [isC2, isC]) (by first | rfl | simp [ren]) (hD) (go_on ?_); (try simp only [push_cast, simprocAttr]))
            (try simp only [w3, push_cast, simprocAttr])
            refine at_fin ⟨(i + 1, a', b', l ++ [⟨1, c⟩], u), ⟨by dsimp only; omega, h5, h6, by simp; omega, h7, by dsimp only; omega, by dsimp only; omega⟩, by dsimp only; omega, ?_⟩
            simp only [List.length_append, List.length_cons, List.length_nil]
            (refine wk_frz ?_ ?_ ?_ ?_ <;> simp [rdR, evC, leF, leHF, frzB, idsL, idsA, idsR, inH, hget, sameRow, viewN, tk, upA, hvA, dsts, dstO, setA_0, setA_1, setA_8, List.append, List.cons_append, List.nil_append])
        · have hT := specSiteTree_pc b q3
          unfold stA' stC at hT
          have k1 : (1 : Int) + ((1 : Nat) : Int) = 2 := rfl
          (try simp only [k1, show eqI 2 1 = false from rfl, show eqI 2 2 = true from rfl, push_cast, simprocAttr])
          ((try simp only [push_cast, simprocAttr]); refine at_share2 (by simp [isC2, isC]) (by first | rfl | simp [ren]) (hT) (go_on ?_); (try simp only [push_cast, simprocAttr]))
          (try simp only [push_cast, simprocAttr]); refine call_lend [500000] none (lr := [rdR z (r + 1)]) (by simp [ndB]) (by first | rfl | simp [rowsOf, hget, rdR, rowS, rowN, rowC, sC, ndC, cmC]) (by simp [idsL, idsA]) (by simp [mvN]) (by simpa [rnA, ixOf] using l91Command_pcl z (r + 1) (siteT b) (tV_siteT b) (hr.le (by omega))) ?_
          rintro rv lr' rows ⟨c, hc, rfl, ⟨u, rfl, g3, g4⟩, rfl⟩
          have hC := specCommandValid_pc c (by omega)
          obtain ⟨a', b', ok, he⟩ : ∃ a' b' ok, evDo a b ⟨2, c⟩ = (a', b', ok) := ⟨_, _, _, rfl⟩
          obtain ⟨h5, h6, h7⟩ := hbody c 2 a' b' ok he hc
          have hD := l43Do_d a b ⟨2, c⟩ q2 q3 (by simp only; omega)
          rw [he] at hD
          simp only at hD
          have hmap : l.map evC ++ [[iA 2, sA c.p, iA c.a.k, iA c.a.v, iA c.b.k, iA c.b.v]] = (l ++ [(⟨2, c⟩ : Ev)]).map evC := by rw [List.map_append]; rfl
          unfold cmdA cmC at hC ⊢
          unfold stA' stC at hD
          unfold evtA evC at hD
          simp only at hD
          (refine ⟨by simp [shB, mvF, rdR, rowS, rowN, rowC], by simp [frB, baseOf], go_on ?_⟩; simp only [show eqI 2 3 = false from rfl, w3, killA, killH, killRow, push_cast, simprocAttr])
          (refine at_call ?_; (try simp only [push_cast, simprocAttr]); refine rwc_v (hC) (go_on ?_); (try simp only [push_cast, simprocAttr]))
          cases hv : cmV c with
          | false =>
            (try simp only [hv, w3, push_cast, simprocAttr])
            refine at_fin ⟨(i + 1, a, b, l, u), ⟨by dsimp only; omega, q2, q3, by dsimp only; omega, q5, by dsimp only; omega, by dsimp only; omega⟩, by dsimp only; omega, ?_⟩
            (refine wk_frz ?_ ?_ ?_ ?_ <;> simp [rdR, leF, leHF, frzB, idsL, idsA, idsR, inH, hget, sameRow, viewN, tk, upA, hvA, dsts, dstO, setA_0, setA_1, setA_8, List.append, List.cons_append, List.nil_append])
          | true =>
            (try simp only [hv, w3, push_cast, simprocAttr])
            refine at_chk (by omega) ?_
            (try simp only [hmap, hrc, push_cast, simprocAttr])
            ((try simp only [push_cast, simprocAttr]); refine at_share2 (by simp [isC2, isC]) (by first | rfl | simp [ren]) (hD) (go_on ?_); (try simp only [push_cast, simprocAttr]))
            (try simp only [w3, push_cast, simprocAttr])
            refine at_fin ⟨(i + 1, a', b', l ++ [⟨2, c⟩], u), ⟨by dsimp only; omega, h5, h6, by simp; omega, h7, by dsimp only; omega, by dsimp only; omega⟩, by dsimp only; omega, ?_⟩
            simp only [List.length_append, List.length_cons, List.length_nil]
            (refine wk_frz ?_ ?_ ?_ ?_ <;> simp [rdR, evC, leF, leHF, frzB, idsL, idsA, idsR, inH, hget, sameRow, viewN, tk, upA, hvA, dsts, dstO, setA_0, setA_1, setA_8, List.append, List.cons_append, List.nil_append])
        · have k1 : (1 : Int) + ((2 : Nat) : Int) = 3 := rfl
          obtain ⟨a', b', ok, he⟩ : ∃ a' b' ok, evDo a b ⟨3, cm0⟩ = (a', b', ok) := ⟨_, _, _, rfl⟩
          obtain ⟨h5, h6, h7⟩ := hbody cm0 3 a' b' ok he (by simp [cm0])
          have hD := l43Do_d a b ⟨3, cm0⟩ q2 q3 (by simp [cm0])
          rw [he] at hD
          simp only at hD
          have hmap : l.map evC ++ [[iA 3, .v (.string ⟨#[]⟩), iA 0, iA 0, iA 0, iA 0]] = (l ++ [(⟨3, cm0⟩ : Ev)]).map evC := by rw [List.map_append]; rfl
          unfold stA' stC at hD
          unfold evtA at hD
          have hE3 : evC ⟨3, cm0⟩ = [iA 3, .v (.string ⟨#[]⟩), iA 0, iA 0, iA 0, iA 0] := rfl
          rw [hE3] at hD
          (try simp only [k1, show eqI 3 1 = false from rfl, show eqI 3 2 = false from rfl, show eqI 3 3 = true from rfl, push_cast, simprocAttr])
          refine at_chk (by omega) ?_
          (try simp only [hmap, hrc, push_cast, simprocAttr])
          ((try simp only [push_cast, simprocAttr]); refine at_share2 (by simp [isC2, isC]) (by first | rfl | simp [ren]) (hD) (go_on ?_); (try simp only [push_cast, simprocAttr]))
          (try simp only [w3, push_cast, simprocAttr])
          refine at_fin ⟨(i + 1, a', b', l ++ [⟨3, cm0⟩], r + 1), ⟨by dsimp only; omega, h5, h6, by simp; omega, h7, by dsimp only; omega, by dsimp only; omega⟩, by dsimp only; omega, ?_⟩
          simp only [List.length_append, List.length_cons, List.length_nil]
          (refine wk_frz ?_ ?_ ?_ ?_ <;> simp [rdR, evC, leF, leHF, frzB, idsL, idsA, idsR, inH, hget, sameRow, viewN, tk, upA, hvA, dsts, dstO, setA_0, setA_1, setA_8, List.append, List.cons_append, List.nil_append])
      · have i0 : ltI (i : Int) n = false := ltI_f (by omega)
        (try simp only [i0, push_cast, simprocAttr])
        by_cases hl0 : l = []
        · subst hl0
          have hfin : evD z p 800 (.tup [ndA t, .o 1 0]) [rdR z r] [rowE []] := ⟨t, [], ht, by simp, by simp, rfl, ⟨_, rfl, by omega, by omega⟩, rfl⟩
          (try simp only [List.length_nil, show ltI 0 ((0 : Nat) : Int) = false from rfl, push_cast, simprocAttr])
          unfold rowE at hfin
          (refine at_retL ?_; simp only [Tryz.results73, retL, push_cast, simprocAttr]; simpa [show List.range 1 = [0] from rfl, show List.range 2 = [0, 1] from rfl, show List.range 3 = [0, 1, 2] from rfl, nmL, mvF, ndB, ixOf, rowsOf, hget, rdR, rowS, rowN, rowC] using  hfin)
        · have hl1 : 0 < l.length := List.length_pos_iff.2 hl0
          have i1 : ltI 0 (l.length : Int) = true := ltI_t (by omega)
          (try simp only [i1, push_cast, simprocAttr])
          (try simp only [push_cast, simprocAttr]); refine call_lend [500000] none (lr := [rdR z r]) (by simp [ndB]) (by first | rfl | simp [rowsOf, hget, rdR, rowS, rowN, rowC, sC, ndC, cmC]) (by simp [idsL, idsA]) (by simp [mvN]) (by simpa [rnA, ixOf] using pick_pcl z r 24 (hr.le (by omega)) (by omega)) ?_
          rintro rv lr' rows ⟨m24, rfl, hm24, rfl, rfl⟩
          (refine ⟨by simp [shB, mvF, rdR, rowS, rowN, rowC], by simp [frB, baseOf], go_on ?_⟩; simp only [killA, killH, killRow, push_cast, simprocAttr])
          refine at_b (fun hb => ?_) (fun hb => ?_)
          · (try simp only [hb, push_cast, simprocAttr])
            (try simp only [push_cast, simprocAttr]); refine call_lend [500000] none (lr := [rdR z (r + 1)]) (by simp [ndB]) (by first | rfl | simp [rowsOf, hget, rdR, rowS, rowN, rowC, sC, ndC, cmC]) (by simp [idsL, idsA]) (by simp [mvN]) (by simpa [rnA, ixOf] using pick_pcl z (r + 1) l.length (hr.le (by omega)) (by omega)) ?_
            rintro rv lr' rows ⟨j, rfl, hj, rfl, rfl⟩
            have hj := hj hl1
            (refine ⟨by simp [shB, mvF, rdR, rowS, rowN, rowC], by simp [frB, baseOf], go_on ?_⟩; simp only [killA, killH, killRow, push_cast, simprocAttr])
            (try simp only [push_cast, simprocAttr]); refine call_lend [500000] none (lr := [rdR z (r + 1 + 1)]) (by simp [ndB]) (by first | rfl | simp [rowsOf, hget, rdR, rowS, rowN, rowC, sC, ndC, cmC]) (by simp [idsL, idsA]) (by simp [mvN]) (by simpa [rnA, ixOf] using pick_pcl z (r + 1 + 1) 5 (hr.le (by omega)) (by omega)) ?_
            rintro rv lr' rows ⟨k5, rfl, hk5, rfl, rfl⟩
            obtain ⟨e, he⟩ := get_of_lt hj
            have i2 := ix_n he
            have i3 := map_get evC he
            simp only [evC] at i3
            have hset : (l.map evC).set j [iA k5, sA e.c.p, iA e.c.a.k, iA e.c.a.v, iA e.c.b.k, iA e.c.b.v] = (l.set j ⟨k5, e.c⟩).map evC := by rw [List.map_set]; rfl
            have hfin : evD z p 800 (.tup [ndA t, .o 1 l.length]) [rdR z (r + 1 + 1 + 1)] [rowE (l.set j ⟨k5, e.c⟩)] := ⟨t, l.set j ⟨k5, e.c⟩, ht, by simp; omega, fun x hx => by
              rcases List.mem_or_eq_of_mem_set hx with hx | rfl
              · exact q5 x hx
              · exact q5 e (List.mem_of_getElem? he), by simp, ⟨_, rfl, by omega, by omega⟩, rfl⟩
            unfold rowE at hfin
            (refine ⟨by simp [shB, mvF, rdR, rowS, rowN, rowC], by simp [frB, baseOf], go_on ?_⟩; simp only [i2, i3, hset, killA, killH, killRow, push_cast, simprocAttr])
            (refine at_retL ?_; simp only [Tryz.results73, retL, push_cast, simprocAttr]; simpa [show List.range 1 = [0] from rfl, show List.range 2 = [0, 1] from rfl, show List.range 3 = [0, 1, 2] from rfl, nmL, mvF, ndB, ixOf, rowsOf, hget, rdR, rowS, rowN, rowC] using  hfin)
          · have hfin : evD z p 800 (.tup [ndA t, .o 1 l.length]) [rdR z (r + 1)] [rowE l] := ⟨t, l, ht, by omega, q5, rfl, ⟨_, rfl, by omega, by omega⟩, rfl⟩
            unfold rowE at hfin
            (try simp only [hb, push_cast, simprocAttr])
            (refine at_retL ?_; simp only [Tryz.results73, retL, push_cast, simprocAttr]; simpa [show List.range 1 = [0] from rfl, show List.range 2 = [0, 1] from rfl, show List.range 3 = [0, 1, 2] from rfl, nmL, mvF, ndB, ixOf, rowsOf, hget, rdR, rowS, rowN, rowC] using  hfin)
  · (try simp only [hb0, push_cast, simprocAttr])
    have hn25 : n ≤ 25 := by omega
    obtain ⟨q, hq⟩ : ∃ q, q = u + 1 + 1 := ⟨_, rfl⟩
    rw [← hq]
    have hq2 : p ≤ q ∧ q ≤ p + 120 := by omega
    refine at_chk (by omega) ?_
    (try simp only [hrc, push_cast, simprocAttr])
    refine at_call ?_
    (try simp only [Nat.zero_add, hrc, push_cast, simprocAttr])
    refine rwc_r hL (by simp [flatV, flatL]) (flat_nc _ _) (by simp [frB, baseOf]) ?_
    (try simp only [hrc, push_cast, simprocAttr])
    (refine at_frzS2 [28, 31, 35000, 35001] (by refine wk_frz ?_ ?_ ?_ ?_ <;> simp [rowN, rowC, rdR, frzS2, frzH, frzRow, frzT, hasN, delL, hdel, leF, leHF, rowF, frzB, idsL, idsA, idsR, inH, hget, sameRow, viewN, tk]) ?_; simp only [rowN, rowC, frzS2, frzH, frzRow, frzT, hasN, delL, hdel, idsA, idsL, viewN, hget, tk, isC, hrE, List.map_cons, List.map_nil, List.all_cons, List.all_nil, List.append_nil, List.drop, List.getElem?_cons_zero, List.getElem?_cons_succ, Bool.not_false, Bool.not_true, Bool.and_true, if_true, if_false, Nat.zero_add, List.length_map, simprocAttr])
    refine go_on ?_
    (try simp only [push_cast, simprocAttr])
    refine at_loop (X := Nat × St × St × List Ev × Nat) (fun x => [(5, .o 19 x.2.2.2.1.length), (9, iA x.1), (19, .any)]) (fun x => [(2, ⟨98, 3, [], true⟩), (3, ⟨55, 6, [], true⟩), (19, ⟨55, 6, x.2.2.2.1.map evC, true⟩), (7, ⟨26, 3, [[iA x.2.1.ep, ndA x.2.1.base, cmA x.2.1.log]], true⟩), (8, ⟨26, 3, [[iA x.2.2.1.ep, ndA x.2.2.1.base, cmA x.2.2.1.log]], true⟩), (500000, rdR z x.2.2.2.2)])
      (fun x => x.1 ≤ n ∧ SmS x.2.1 ∧ SmS x.2.2.1 ∧ x.2.2.2.1.length ≤ x.1 ∧ (∀ e ∈ x.2.2.2.1, e.c.p.length ≤ 10) ∧ p ≤ x.2.2.2.2 ∧ x.2.2.2.2 ≤ p + 120 + 21 * x.1) (fun x => n - x.1) (0, ⟨0, t, []⟩, ⟨0, t, []⟩, [], q) ⟨by omega, h0s, h0s, by simp, by simp, by dsimp only; omega, by dsimp only; omega⟩ ?_ ?_
    · (refine wk_frz ?_ ?_ ?_ ?_ <;> simp [rdR, leF, leHF, frzB, idsL, idsA, idsR, inH, hget, sameRow, viewN, tk, upA, hvA, dsts, dstO, setA_0, setA_1, setA_8, List.append, List.cons_append, List.nil_append])
    · rintro ⟨i, a, b, l, r⟩ ⟨q1, q2, q3, q4, q5, q6, q7⟩
      simp only at q1 q2 q3 q4 q5 q6 q7
      simp only [upA, hvA, dsts, dstO, setA_0, setA_1, setA_8, List.append, List.cons_append, List.nil_append]
      refine go_on ?_
      (try simp only [push_cast, simprocAttr])
      by_cases hlt : i < n
      · have i0 : ltI (i : Int) n = true := ltI_t (by omega)
        have w3 := wr ((i : Int) + 1) (by omega)
        (try simp only [i0, push_cast, simprocAttr])
        (try simp only [push_cast, simprocAttr]); refine call_lend [500000] none (lr := [rdR z r]) (by simp [ndB]) (by first | rfl | simp [rowsOf, hget, rdR, rowS, rowN, rowC, sC, ndC, cmC]) (by simp [idsL, idsA]) (by simp [mvN]) (by simpa [rnA, ixOf] using pick_pcl z r 5 (hr.le (by omega)) (by omega)) ?_
        rintro rv lr' rows ⟨m5, rfl, hm5, rfl, rfl⟩
        have hm5 := hm5 (by omega)
        obtain ⟨m, hm⟩ : ∃ m, m = m5 % 3 := ⟨_, rfl⟩
        have ht3 : Int.tmod (m5 : Int) 3 = (m : Int) := by rw [hm]; exact (Int.ofNat_tmod m5 3).symm
        have w4 := wr (1 + (m : Int)) (by omega)
        have hm3 : m < 3 := by omega
        (refine ⟨by simp [shB, mvF, rdR, rowS, rowN, rowC], by simp [frB, baseOf], go_on ?_⟩; simp only [ht3, w4, killA, killH, killRow, push_cast, simprocAttr])
        have hbody : ∀ (c : Cm) (k : Int) (a' b' : St) (ok : Bool), evDo a b ⟨k, c⟩ = (a', b', ok) → c.p.length ≤ 10 → SmS a' ∧ SmS b' ∧ (∀ e ∈ l ++ [(⟨k, c⟩ : Ev)], e.c.p.length ≤ 10) := fun c k a' b' ok he hc => by
          have := evDo_sm q2 q3 (e := ⟨k, c⟩) (by simp only; omega)
          rw [he] at this
          exact ⟨this.1, this.2, fun e h => by
            rcases List.mem_append.1 h with h | h
            · exact q5 e h
            · simp only [List.mem_singleton] at h
              subst h
              exact hc⟩
        have hL1 : (l ++ [(⟨0, cm0⟩ : Ev)]).length = l.length + 1 := by simp
        obtain rfl | rfl | rfl : m = 0 ∨ m = 1 ∨ m = 2 := by omega
        · have hT := specSiteTree_pc a q2
          unfold stA' stC at hT
          have k1 : (1 : Int) + ((0 : Nat) : Int) = 1 := rfl
          (try simp only [k1, show eqI 1 1 = true from rfl, push_cast, simprocAttr])
          ((try simp only [push_cast, simprocAttr]); refine at_share2 (by simp [isC2, isC]) (by first | rfl | simp [ren]) (hT) (go_on ?_); (try simp only [push_cast, simprocAttr]))
          (try simp only [push_cast, simprocAttr]); refine call_lend [500000] none (lr := [rdR z (r + 1)]) (by simp [ndB]) (by first | rfl | simp [rowsOf, hget, rdR, rowS, rowN, rowC, sC, ndC, cmC]) (by simp [idsL, idsA]) (by simp [mvN]) (by simpa [rnA, ixOf] using l91Command_pcl z (r + 1) (siteT a) (tV_siteT a) (hr.le (by omega))) ?_
          rintro rv lr' rows ⟨c, hc, rfl, ⟨u, rfl, g3, g4⟩, rfl⟩
          have hC := specCommandValid_pc c (by omega)
          obtain ⟨a', b', ok, he⟩ : ∃ a' b' ok, evDo a b ⟨1, c⟩ = (a', b', ok) := ⟨_, _, _, rfl⟩
          obtain ⟨h5, h6, h7⟩ := hbody c 1 a' b' ok he hc
          have hD := l43Do_d a b ⟨1, c⟩ q2 q3 (by simp only; omega)
          rw [he] at hD
          simp only at hD
          have hmap : l.map evC ++ [[iA 1, sA c.p, iA c.a.k, iA c.a.v, iA c.b.k, iA c.b.v]] = (l ++ [(⟨1, c⟩ : Ev)]).map evC := by rw [List.map_append]; rfl
          unfold cmdA cmC at hC ⊢
          unfold stA' stC at hD
          unfold evtA evC at hD
          simp only at hD
          (refine ⟨by simp [shB, mvF, rdR, rowS, rowN, rowC], by simp [frB, baseOf], go_on ?_⟩; simp only [show eqI 1 3 = false from rfl, w3, killA, killH, killRow, push_cast, simprocAttr])
          (refine at_call ?_; (try simp only [push_cast, simprocAttr]); refine rwc_v (hC) (go_on ?_); (try simp only [push_cast, simprocAttr]))
          cases hv : cmV c with
          | false =>
            (try simp only [hv, w3, push_cast, simprocAttr])
            refine at_fin ⟨(i + 1, a, b, l, u), ⟨by dsimp only; omega, q2, q3, by dsimp only; omega, q5, by dsimp only; omega, by dsimp only; omega⟩, by dsimp only; omega, ?_⟩
            (refine wk_frz ?_ ?_ ?_ ?_ <;> simp [rdR, leF, leHF, frzB, idsL, idsA, idsR, inH, hget, sameRow, viewN, tk, upA, hvA, dsts, dstO, setA_0, setA_1, setA_8, List.append, List.cons_append, List.nil_append])
          | true =>
            (try simp only [hv, w3, push_cast, simprocAttr])
            refine at_chk (by omega) ?_
            (try simp only [hmap, hrc, push_cast, simprocAttr])
            ((try simp only [push_cast, simprocAttr]); refine at_share2 (by simp [isC2, isC]) (by first | rfl | simp [ren]) (hD) (go_on ?_); (try simp only [push_cast, simprocAttr]))
            (try simp only [w3, push_cast, simprocAttr])
            refine at_fin ⟨(i + 1, a', b', l ++ [⟨1, c⟩], u), ⟨by dsimp only; omega, h5, h6, by simp; omega, h7, by dsimp only; omega, by dsimp only; omega⟩, by dsimp only; omega, ?_⟩
            simp only [List.length_append, List.length_cons, List.length_nil]
            (refine wk_frz ?_ ?_ ?_ ?_ <;> simp [rdR, evC, leF, leHF, frzB, idsL, idsA, idsR, inH, hget, sameRow, viewN, tk, upA, hvA, dsts, dstO, setA_0, setA_1, setA_8, List.append, List.cons_append, List.nil_append])
        · have hT := specSiteTree_pc b q3
          unfold stA' stC at hT
          have k1 : (1 : Int) + ((1 : Nat) : Int) = 2 := rfl
          (try simp only [k1, show eqI 2 1 = false from rfl, show eqI 2 2 = true from rfl, push_cast, simprocAttr])
          ((try simp only [push_cast, simprocAttr]); refine at_share2 (by simp [isC2, isC]) (by first | rfl | simp [ren]) (hT) (go_on ?_); (try simp only [push_cast, simprocAttr]))
          (try simp only [push_cast, simprocAttr]); refine call_lend [500000] none (lr := [rdR z (r + 1)]) (by simp [ndB]) (by first | rfl | simp [rowsOf, hget, rdR, rowS, rowN, rowC, sC, ndC, cmC]) (by simp [idsL, idsA]) (by simp [mvN]) (by simpa [rnA, ixOf] using l91Command_pcl z (r + 1) (siteT b) (tV_siteT b) (hr.le (by omega))) ?_
          rintro rv lr' rows ⟨c, hc, rfl, ⟨u, rfl, g3, g4⟩, rfl⟩
          have hC := specCommandValid_pc c (by omega)
          obtain ⟨a', b', ok, he⟩ : ∃ a' b' ok, evDo a b ⟨2, c⟩ = (a', b', ok) := ⟨_, _, _, rfl⟩
          obtain ⟨h5, h6, h7⟩ := hbody c 2 a' b' ok he hc
          have hD := l43Do_d a b ⟨2, c⟩ q2 q3 (by simp only; omega)
          rw [he] at hD
          simp only at hD
          have hmap : l.map evC ++ [[iA 2, sA c.p, iA c.a.k, iA c.a.v, iA c.b.k, iA c.b.v]] = (l ++ [(⟨2, c⟩ : Ev)]).map evC := by rw [List.map_append]; rfl
          unfold cmdA cmC at hC ⊢
          unfold stA' stC at hD
          unfold evtA evC at hD
          simp only at hD
          (refine ⟨by simp [shB, mvF, rdR, rowS, rowN, rowC], by simp [frB, baseOf], go_on ?_⟩; simp only [show eqI 2 3 = false from rfl, w3, killA, killH, killRow, push_cast, simprocAttr])
          (refine at_call ?_; (try simp only [push_cast, simprocAttr]); refine rwc_v (hC) (go_on ?_); (try simp only [push_cast, simprocAttr]))
          cases hv : cmV c with
          | false =>
            (try simp only [hv, w3, push_cast, simprocAttr])
            refine at_fin ⟨(i + 1, a, b, l, u), ⟨by dsimp only; omega, q2, q3, by dsimp only; omega, q5, by dsimp only; omega, by dsimp only; omega⟩, by dsimp only; omega, ?_⟩
            (refine wk_frz ?_ ?_ ?_ ?_ <;> simp [rdR, leF, leHF, frzB, idsL, idsA, idsR, inH, hget, sameRow, viewN, tk, upA, hvA, dsts, dstO, setA_0, setA_1, setA_8, List.append, List.cons_append, List.nil_append])
          | true =>
            (try simp only [hv, w3, push_cast, simprocAttr])
            refine at_chk (by omega) ?_
            (try simp only [hmap, hrc, push_cast, simprocAttr])
            ((try simp only [push_cast, simprocAttr]); refine at_share2 (by simp [isC2, isC]) (by first | rfl | simp [ren]) (hD) (go_on ?_); (try simp only [push_cast, simprocAttr]))
            (try simp only [w3, push_cast, simprocAttr])
            refine at_fin ⟨(i + 1, a', b', l ++ [⟨2, c⟩], u), ⟨by dsimp only; omega, h5, h6, by simp; omega, h7, by dsimp only; omega, by dsimp only; omega⟩, by dsimp only; omega, ?_⟩
            simp only [List.length_append, List.length_cons, List.length_nil]
            (refine wk_frz ?_ ?_ ?_ ?_ <;> simp [rdR, evC, leF, leHF, frzB, idsL, idsA, idsR, inH, hget, sameRow, viewN, tk, upA, hvA, dsts, dstO, setA_0, setA_1, setA_8, List.append, List.cons_append, List.nil_append])
        · have k1 : (1 : Int) + ((2 : Nat) : Int) = 3 := rfl
          obtain ⟨a', b', ok, he⟩ : ∃ a' b' ok, evDo a b ⟨3, cm0⟩ = (a', b', ok) := ⟨_, _, _, rfl⟩
          obtain ⟨h5, h6, h7⟩ := hbody cm0 3 a' b' ok he (by simp [cm0])
          have hD := l43Do_d a b ⟨3, cm0⟩ q2 q3 (by simp [cm0])
          rw [he] at hD
          simp only at hD
          have hmap : l.map evC ++ [[iA 3, .v (.string ⟨#[]⟩), iA 0, iA 0, iA 0, iA 0]] = (l ++ [(⟨3, cm0⟩ : Ev)]).map evC := by rw [List.map_append]; rfl
          unfold stA' stC at hD
          unfold evtA at hD
          have hE3 : evC ⟨3, cm0⟩ = [iA 3, .v (.string ⟨#[]⟩), iA 0, iA 0, iA 0, iA 0] := rfl
          rw [hE3] at hD
          (try simp only [k1, show eqI 3 1 = false from rfl, show eqI 3 2 = false from rfl, show eqI 3 3 = true from rfl, push_cast, simprocAttr])
          refine at_chk (by omega) ?_
          (try simp only [hmap, hrc, push_cast, simprocAttr])
          ((try simp only [push_cast, simprocAttr]); refine at_share2 (by simp [isC2, isC]) (by first | rfl | simp [ren]) (hD) (go_on ?_); (try simp only [push_cast, simprocAttr]))
          (try simp only [w3, push_cast, simprocAttr])
          refine at_fin ⟨(i + 1, a', b', l ++ [⟨3, cm0⟩], r + 1), ⟨by dsimp only; omega, h5, h6, by simp; omega, h7, by dsimp only; omega, by dsimp only; omega⟩, by dsimp only; omega, ?_⟩
          simp only [List.length_append, List.length_cons, List.length_nil]
          (refine wk_frz ?_ ?_ ?_ ?_ <;> simp [rdR, evC, leF, leHF, frzB, idsL, idsA, idsR, inH, hget, sameRow, viewN, tk, upA, hvA, dsts, dstO, setA_0, setA_1, setA_8, List.append, List.cons_append, List.nil_append])
      · have i0 : ltI (i : Int) n = false := ltI_f (by omega)
        (try simp only [i0, push_cast, simprocAttr])
        by_cases hl0 : l = []
        · subst hl0
          have hfin : evD z p 800 (.tup [ndA t, .o 1 0]) [rdR z r] [rowE []] := ⟨t, [], ht, by simp, by simp, rfl, ⟨_, rfl, by omega, by omega⟩, rfl⟩
          (try simp only [List.length_nil, show ltI 0 ((0 : Nat) : Int) = false from rfl, push_cast, simprocAttr])
          unfold rowE at hfin
          (refine at_retL ?_; simp only [Tryz.results73, retL, push_cast, simprocAttr]; simpa [show List.range 1 = [0] from rfl, show List.range 2 = [0, 1] from rfl, show List.range 3 = [0, 1, 2] from rfl, nmL, mvF, ndB, ixOf, rowsOf, hget, rdR, rowS, rowN, rowC] using  hfin)
        · have hl1 : 0 < l.length := List.length_pos_iff.2 hl0
          have i1 : ltI 0 (l.length : Int) = true := ltI_t (by omega)
          (try simp only [i1, push_cast, simprocAttr])
          (try simp only [push_cast, simprocAttr]); refine call_lend [500000] none (lr := [rdR z r]) (by simp [ndB]) (by first | rfl | simp [rowsOf, hget, rdR, rowS, rowN, rowC, sC, ndC, cmC]) (by simp [idsL, idsA]) (by simp [mvN]) (by simpa [rnA, ixOf] using pick_pcl z r 24 (hr.le (by omega)) (by omega)) ?_
          rintro rv lr' rows ⟨m24, rfl, hm24, rfl, rfl⟩
          (refine ⟨by simp [shB, mvF, rdR, rowS, rowN, rowC], by simp [frB, baseOf], go_on ?_⟩; simp only [killA, killH, killRow, push_cast, simprocAttr])
          refine at_b (fun hb => ?_) (fun hb => ?_)
          · (try simp only [hb, push_cast, simprocAttr])
            (try simp only [push_cast, simprocAttr]); refine call_lend [500000] none (lr := [rdR z (r + 1)]) (by simp [ndB]) (by first | rfl | simp [rowsOf, hget, rdR, rowS, rowN, rowC, sC, ndC, cmC]) (by simp [idsL, idsA]) (by simp [mvN]) (by simpa [rnA, ixOf] using pick_pcl z (r + 1) l.length (hr.le (by omega)) (by omega)) ?_
            rintro rv lr' rows ⟨j, rfl, hj, rfl, rfl⟩
            have hj := hj hl1
            (refine ⟨by simp [shB, mvF, rdR, rowS, rowN, rowC], by simp [frB, baseOf], go_on ?_⟩; simp only [killA, killH, killRow, push_cast, simprocAttr])
            (try simp only [push_cast, simprocAttr]); refine call_lend [500000] none (lr := [rdR z (r + 1 + 1)]) (by simp [ndB]) (by first | rfl | simp [rowsOf, hget, rdR, rowS, rowN, rowC, sC, ndC, cmC]) (by simp [idsL, idsA]) (by simp [mvN]) (by simpa [rnA, ixOf] using pick_pcl z (r + 1 + 1) 5 (hr.le (by omega)) (by omega)) ?_
            rintro rv lr' rows ⟨k5, rfl, hk5, rfl, rfl⟩
            obtain ⟨e, he⟩ := get_of_lt hj
            have i2 := ix_n he
            have i3 := map_get evC he
            simp only [evC] at i3
            have hset : (l.map evC).set j [iA k5, sA e.c.p, iA e.c.a.k, iA e.c.a.v, iA e.c.b.k, iA e.c.b.v] = (l.set j ⟨k5, e.c⟩).map evC := by rw [List.map_set]; rfl
            have hfin : evD z p 800 (.tup [ndA t, .o 1 l.length]) [rdR z (r + 1 + 1 + 1)] [rowE (l.set j ⟨k5, e.c⟩)] := ⟨t, l.set j ⟨k5, e.c⟩, ht, by simp; omega, fun x hx => by
              rcases List.mem_or_eq_of_mem_set hx with hx | rfl
              · exact q5 x hx
              · exact q5 e (List.mem_of_getElem? he), by simp, ⟨_, rfl, by omega, by omega⟩, rfl⟩
            unfold rowE at hfin
            (refine ⟨by simp [shB, mvF, rdR, rowS, rowN, rowC], by simp [frB, baseOf], go_on ?_⟩; simp only [i2, i3, hset, killA, killH, killRow, push_cast, simprocAttr])
            (refine at_retL ?_; simp only [Tryz.results73, retL, push_cast, simprocAttr]; simpa [show List.range 1 = [0] from rfl, show List.range 2 = [0, 1] from rfl, show List.range 3 = [0, 1, 2] from rfl, nmL, mvF, ndB, ixOf, rowsOf, hget, rdR, rowS, rowN, rowC] using  hfin)
          · have hfin : evD z p 800 (.tup [ndA t, .o 1 l.length]) [rdR z (r + 1)] [rowE l] := ⟨t, l, ht, by omega, q5, rfl, ⟨_, rfl, by omega, by omega⟩, rfl⟩
            unfold rowE at hfin
            (try simp only [hb, push_cast, simprocAttr])
            (refine at_retL ?_; simp only [Tryz.results73, retL, push_cast, simprocAttr]; simpa [show List.range 1 = [0] from rfl, show List.range 2 = [0, 1] from rfl, show List.range 3 = [0, 1, 2] from rfl, nmL, mvF, ndB, ixOf, rowsOf, hget, rdR, rowS, rowN, rowC] using  hfin)
def evX (rv : AV) (rows : List Row) : Prop := ∃ (t : List Nd) (l : List Ev), tV t = true ∧ l.length ≤ 25 ∧ (∀ e ∈ l, e.c.p.length ≤ 10) ∧ rv = .tup [ndA t, evsA l] ∧ rows = []
end Go.Proofs.YtdjglbedimpldaaGreatDoor
/-
  Walks: the draws of rounds (DrawRoundPlay, DrawRoundApart).
-/
namespace Go.Proofs.YtdjglbedimpldaaGreatDoor
open Go Go.RowKit Go.Proofs
theorem evX_of {P : Program} {f : FuncId} {args : List AV} (h : PC P f args fun rv rows => ∃ (t : List Nd) (l : List Ev), tV t = true ∧ l.length ≤ 25 ∧ (∀ e ∈ l, e.c.p.length ≤ 10) ∧ rv = .tup [ndA t, .o 0 l.length] ∧ rows = [rowE l]) : PC P f args evX := by
  refine h.frz ?_
  rintro rv rows ⟨t, l, h1, h2, h3, rfl, rfl⟩
  exact ⟨t, l, h1, h2, h3, by simp [viewN, hpOf, hget, rowE, isC, tk], rfl⟩
attribute [local irreducible] RWp AW run kPe pe Kt effA gd gu br retR RDp runD kPeD brW gW effD
set_option maxRecDepth 100000
theorem DrawRoundPlay_pc (z : List Int) (hz : BytesOk z) : PC Tryz.prog 25 [byA z] evX := by
  have hr : RdOk (z.take 2000) (0 + 800) := ⟨hz.tk, by rw [List.length_take]; omega, by omega⟩
  refine evX_of ?_
  refine pc_enter Tryz.func25 rfl rfl fun w0 fb => go_on ?_; (try simp only [Tryz.ntmps25, push_cast, simprocAttr])
  refine call_share (by simp [isC]) (l6Open_pc z hz) ?_
  rintro rv rows ⟨rfl, rfl⟩
  refine ⟨by simp [frB, baseOf], go_on ?_⟩
  (try simp only [push_cast, simprocAttr])
  (try simp only [push_cast, simprocAttr]); refine call_lend [6000] none (lr := [rdR (z.take 2000) 0]) (by simp [ndB]) (by first | rfl | simp [rowsOf, hget, rdR, rowS, rowN, rowC, sC, ndC, cmC]) (by simp [idsL, idsA]) (by simp [mvN]) (by simpa [rnA, ixOf] using l92Events_pcl (z.take 2000) 0 hr) ?_
  rintro rv lr' rows ⟨t, l, h1, h2, h3, rfl, ⟨v, rfl, _, _⟩, rfl⟩
  unfold rowE
  (refine ⟨by simp [shB, mvF, rdR, rowS, rowN, rowC], by simp [frB, baseOf], go_on ?_⟩; simp only [killA, killH, killRow, push_cast, simprocAttr])
  refine at_ret ?_; simp only [Tryz.results25, push_cast, simprocAttr]
  exact ⟨t, l, h1, h2, h3, rfl, rfl⟩
theorem DrawRoundApart_pc (z : List Int) (hz : BytesOk z) : PC Tryz.prog 37 [byA z] evX := by
  have hr : RdOk (z.take 2000) (0 + 800) := ⟨hz.tk, by rw [List.length_take]; omega, by omega⟩
  refine evX_of ?_
  refine pc_enter Tryz.func37 rfl rfl fun w0 fb => go_on ?_; (try simp only [Tryz.ntmps37, push_cast, simprocAttr])
  refine call_share (by simp [isC]) (l6Open_pc z hz) ?_
  rintro rv rows ⟨rfl, rfl⟩
  refine ⟨by simp [frB, baseOf], go_on ?_⟩
  (try simp only [push_cast, simprocAttr])
  (try simp only [push_cast, simprocAttr]); refine call_lend [6000] none (lr := [rdR (z.take 2000) 0]) (by simp [ndB]) (by first | rfl | simp [rowsOf, hget, rdR, rowS, rowN, rowC, sC, ndC, cmC]) (by simp [idsL, idsA]) (by simp [mvN]) (by simpa [rnA, ixOf] using l92Events_pcl (z.take 2000) 0 hr) ?_
  rintro rv lr' rows ⟨t, l, h1, h2, h3, rfl, ⟨v, rfl, _, _⟩, rfl⟩
  unfold rowE
  (refine ⟨by simp [shB, mvF, rdR, rowS, rowN, rowC], by simp [frB, baseOf], go_on ?_⟩; simp only [killA, killH, killRow, push_cast, simprocAttr])
  refine at_ret ?_; simp only [Tryz.results37, push_cast, simprocAttr]
  exact ⟨t, l, h1, h2, h3, rfl, rfl⟩
end Go.Proofs.YtdjglbedimpldaaGreatDoor
/-
  Walks: rounds: own rows read as data at a call; what rounds leave is small.
-/
namespace Go.Proofs.YtdjglbedimpldaaGreatDoor
open Go Go.RowKit Go.Proofs
theorem at_callF {P : Program} {w0 : World} {lent : Lent} {Q : Exit → Act → World → Prop} {f : FuncId} {args : List AV} {dst : Option Tmp} {k : List It} {s : AS} (ids : List Nat) (h : Wk ⟨s.t ++ args, s.h⟩ (frzS2 ids ⟨s.t ++ args, s.h⟩))
    (hk : RWp P w0 lent Q (.call f (args.map (frzT ids s.h)) dst k (frzS2 ids s))) : RWp P w0 lent Q (.call f args dst k s) := by
  intro loc a w hR vs hs hg
  have hR1 : Rel w0 lent ⟨s.t ++ args, s.h⟩ loc { a with tmps := a.tmps ++ vs } w := by
    refine ⟨by simp [hR.tsz, hs], fun i x hx => ?_, hR.df, hR.rw, hR.inj, hR.own, hR.os, hR.tape, hR.output, hR.size, hR.keep, hR.fbe, hR.fbl, hR.pn, hR.pl⟩
    have htsz := hR.tsz
    rcases Nat.lt_or_ge i s.t.length with h1 | h1
    · rw [List.getElem?_append_left h1] at hx
      have := hR.tm i x hx
      have e : (a.tmps ++ vs).getD i undef = a.tmps.getD i undef := by
        simp only [Array.getD_eq_getD_getElem?]
        rw [Array.getElem?_append_left (by omega)]
      rw [e]; exact this
    · rw [List.getElem?_append_right h1] at hx
      have := hg (i - s.t.length) x hx
      have e : (a.tmps ++ vs).getD i undef = vs.getD (i - s.t.length) undef := by
        simp only [Array.getD_eq_getD_getElem?]
        rw [Array.getElem?_append_right (by omega), htsz]
      rw [e]; exact this
  obtain ⟨loc', hR2⟩ := h w0 lent loc _ w hR1
  have ht : (frzS2 ids ⟨s.t ++ args, s.h⟩).t = (frzS2 ids s).t ++ args.map (frzT ids s.h) := by simp [frzS2]
  have hh : (frzS2 ids ⟨s.t ++ args, s.h⟩).h = (frzS2 ids s).h := rfl
  have hl : (frzS2 ids s).t.length = s.t.length := by simp [frzS2]
  have htsz := hR.tsz
  have hR3 : Rel w0 lent (frzS2 ids s) loc' a w := by
    refine ⟨by rw [hl]; exact htsz, fun i x hx => ?_, hR.df, hR2.rw, hR2.inj, hR2.own, hR2.os, hR2.tape, hR2.output, hR2.size, hR2.keep, hR2.fbe, hR2.fbl, hR2.pn, hR2.pl⟩
    have hi := lt_of_some hx
    have := hR2.tm i x (by rw [ht, List.getElem?_append_left hi]; exact hx)
    have e : (a.tmps ++ vs).getD i undef = a.tmps.getD i undef := by
      simp only [Array.getD_eq_getD_getElem?]
      rw [Array.getElem?_append_left (by omega)]
    rw [hh] at this
    dsimp only at this
    rw [e] at this; exact this
  refine hk loc' a w hR3 vs (by simp [hs]) fun j x hx => ?_
  have := hR2.tm (s.t.length + j) x (by rw [ht, List.getElem?_append_right (by omega), hl, Nat.add_sub_cancel_left]; exact hx)
  have e : (a.tmps ++ vs).getD (s.t.length + j) undef = vs.getD j undef := by
    simp only [Array.getD_eq_getD_getElem?]
    rw [Array.getElem?_append_right (by omega), htsz, Nat.add_sub_cancel_left]
  rw [hh] at this
  dsimp only at this
  rw [e] at this; exact this
theorem rd_ge {t : List Nd} {l : List Ev} (h : 0 ≤ (rPlay t l).2.2) : rdV t l = true := by
  cases hv : rdV t l with
  | true => rfl
  | false => have := (rPlay_neg t l).2 hv; omega
theorem rPlay_sm (t : List Nd) (l : List Ev) : SmS (rPlay t l).1 ∧ SmS (rPlay t l).2.1 := by
  cases hv : rdV t l with
  | false => rw [rPlay_f hv]; exact ⟨st0_sm, st0_sm⟩
  | true =>
    have h : 0 ≤ (rPlay t l).2.2 := by
      have := rPlay_neg t l
      rw [hv] at this
      have := mt this.1 (by simp)
      omega
    obtain ⟨h1, h2, _⟩ := law_round h
    exact ⟨siteV_sm h1, siteV_sm h2⟩
theorem rDone_in {t : List Nd} {l : List Ev} {j : Int} (hj : j ∈ rDone t l) : 0 ≤ j ∧ j < l.length := by
  unfold rDone at hj
  split at hj
  · have := play_ge l 0 _ _ j hj; omega
  · cases hj
theorem rDone_len (t : List Nd) (l : List Ev) : (rDone t l).length ≤ l.length := by
  unfold rDone
  split
  · exact play_len l 0 _ _
  · simp
end Go.Proofs.YtdjglbedimpldaaGreatDoor
