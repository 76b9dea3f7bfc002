/- A part of the proof of FnExactSessionRun: texts VFnExactSessionRun. -/
import Derived.Test.YtdjglbedimpldaaGreatDoorZr5
set_option linter.unusedSimpArgs false
set_option linter.unusedVariables false
/-
  Walks: FnExactSessionRun.
-/
namespace Go.Proofs.YtdjglbedimpldaaGreatDoor
open Go Go.RowKit Go.Proofs
attribute [local irreducible] RWp AW run kPe pe Kt effA gd gu br retR RDp runD kPeD brW gW effD
set_option maxRecDepth 100000
set_option maxHeartbeats 1000000 in
theorem FnExactSessionRun_pc (a : St) (qa : SiteOk a) (b : St) (qb : SiteOk b) : PC Tryz.prog 4 [stA' a, stA' b] (vB true) := by
  have hmx := max63
  have hZ := szSite_pc a 1048576 (by omega) (by omega) qa
  unfold stA' stC at hZ ⊢
  refine pc_enter Tryz.func4 rfl rfl fun w0 fb => go_on ?_; (try simp only [Tryz.ntmps4, push_cast, simprocAttr])
  (refine at_call ?_; (try simp only [push_cast, simprocAttr]); refine rwc_v (hZ) (go_on ?_); (try simp only [push_cast, simprocAttr]))
  refine at_b (fun hb => ?_) (fun hb => ?_)
  · (try simp only [hb, push_cast, simprocAttr])
    refine at_ret ?_; simp only [Tryz.results4, push_cast, simprocAttr]
    simp [vX]
  have hb' := of_ltI_f hb
  obtain ⟨a0, a1, a2, _⟩ := szT_ok (by omega) (by omega) hb'
  have ha := szT_sm (by omega) (by omega) hb'
  have hZ2 := szSite_pc b (szT a 1048576) (by omega) (by omega) qb
  unfold stA' stC at hZ2
  (try simp only [hb, push_cast, simprocAttr])
  (refine at_call ?_; (try simp only [push_cast, simprocAttr]); refine rwc_v (hZ2) (go_on ?_); (try simp only [push_cast, simprocAttr]))
  refine at_b (fun hb2 => ?_) (fun hb2 => ?_)
  · (try simp only [hb2, push_cast, simprocAttr])
    refine at_ret ?_; simp only [Tryz.results4, push_cast, simprocAttr]
    simp [vX]
  have hb2' := of_ltI_f hb2
  obtain ⟨c0, c1, c2, _⟩ := szT_ok (by omega) (by omega) hb2'
  have hbs := szT_sm (by omega) (by omega) hb2'
  have hT := toSite_pc a a1 a2
  have hU := toSite_pc b c1 c2
  have hTd := toSite_d a a1 a2
  have hUd := toSite_d b c1 c2
  have hEa := eqSite_pc a a (by omega) (by omega)
  have hEb := eqSite_pc b b (by omega) (by omega)
  rw [decide_eq_true rfl] at hEa hEb
  have hMa := markSite_pcl a 1 (by omega) (by omega)
  have hMb := markSite_pcl b (1 + 3 * a.base.length + 5 * a.log.length) (by omega) (by omega)
  push_cast at hMb
  have iM : ltI (1 + 3 * (a.base.length : Int) + 5 * (a.log.length : Int) + 3 * (b.base.length : Int) + 5 * (b.log.length : Int)) 0 = false := ltI_f (by omega)
  have hSp := specSessionRun_e a b ha hbs
  have hId := SessionRun_d a b ha hbs
  unfold srV at hId
  cases hr : sRun a b with
  | none =>
    rw [rA_none hr, rB_none hr, hr] at hSp
    rw [hr] at hId
    simp only [Option.isSome_none] at hSp
    simp only at hId
    have hE0 := eqSite_0
    have hM0 := markSite_00 1
    have hH0 := heldSite_00
    unfold stA' stC at hTd hUd hEa hEb hSp hE0
    unfold st00 at hId hE0 hM0 hH0
    unfold stO at hT hU hMa hMb
    (try simp only [hb2, push_cast, simprocAttr])
    refine at_draw rfl (by kernel_rfl) ?_; simp only [push_cast, simprocAttr]
    (refine at_shareD (by simp [isC2, isC]) (by first | rfl | simp [ren]) hTd ?_; (try simp only [push_cast, simprocAttr]))
    (refine at_shareD (by simp [isC2, isC]) (by first | rfl | simp [ren]) hUd ?_; (try simp only [push_cast, simprocAttr]))
    (refine at_shareD (by simp [isC2, isC]) (by first | rfl | simp [ren]) hSp ?_; (try simp only [push_cast, simprocAttr]))
    refine at_done (by kernel_rfl) (by kernel_rfl) (go_on ?_)
    (try simp only [push_cast, simprocAttr])
    (refine at_call ?_; (try simp only [push_cast, simprocAttr]); refine rwc_r (hT) (by simp [flatV, flatL]) (flat_nc _ _) (by simp [frB, baseOf]) (go_on ?_); (try simp only [push_cast, simprocAttr]))
    (refine at_call ?_; (try simp only [push_cast, simprocAttr]); refine rwc_r (hU) (by simp [flatV, flatL]) (flat_nc _ _) (by simp [frB, baseOf]) (go_on ?_); (try simp only [push_cast, simprocAttr]))
    (refine at_call ?_; (try simp only [push_cast, simprocAttr]); refine rwc_d (hId) (by simp [flatV, flatL, ctC, ndC, cmC]) (by simp [ren, ctC, ndC, cmC]) (go_on ?_); (try simp only [push_cast, simprocAttr]))
    (refine at_call ?_; (try simp only [push_cast, simprocAttr]); refine rwc_v (hE0) (go_on ?_); (try simp only [push_cast, simprocAttr]))
    (try simp only [Bool.not_true, push_cast, simprocAttr])
    (refine at_call ?_; (try simp only [push_cast, simprocAttr]); refine rwc_v (hE0) (go_on ?_); (try simp only [push_cast, simprocAttr]))
    (try simp only [Bool.not_true, show (!(false == false)) = false from rfl, push_cast, simprocAttr])
    refine at_draw rfl (by kernel_rfl) ?_; simp only [push_cast, simprocAttr]
    (refine at_shareD (by simp [isC2, isC]) (by first | rfl | simp [ren]) hTd ?_; (try simp only [push_cast, simprocAttr]))
    repeat' first | (refine at_bWn (fun hb => ?_) (fun hb => ?_) <;> simp only [Bool.not_true, hb, push_cast, simprocAttr]) | (refine at_bW (fun hb => ?_) (fun hb => ?_) <;> simp only [Bool.not_true, hb, push_cast, simprocAttr]) | (refine at_callD (by simp [clB, idsL, idsA, hget]) ?_; (try simp only [push_cast, simprocAttr]); first | (refine rcd_v (hEa) ?_; simp only [Bool.not_true, push_cast, simprocAttr]) | (refine rcd_d (hEa) (by simp [flatV, flatL, ctC, ndC, cmC]) (by simp [ren, ctC, ndC, cmC]) ?_; simp only [Bool.not_true, push_cast, simprocAttr])) | (refine at_done (by kernel_rfl) (by kernel_rfl) (go_on ?_); (try simp only [Bool.not_true, push_cast, simprocAttr]))
    refine at_draw rfl (by kernel_rfl) ?_; simp only [push_cast, simprocAttr]
    (refine at_shareD (by simp [isC2, isC]) (by first | rfl | simp [ren]) hUd ?_; (try simp only [push_cast, simprocAttr]))
    repeat' first | (refine at_bWn (fun hb => ?_) (fun hb => ?_) <;> simp only [Bool.not_true, hb, push_cast, simprocAttr]) | (refine at_bW (fun hb => ?_) (fun hb => ?_) <;> simp only [Bool.not_true, hb, push_cast, simprocAttr]) | (refine at_callD (by simp [clB, idsL, idsA, hget]) ?_; (try simp only [push_cast, simprocAttr]); first | (refine rcd_v (hEb) ?_; simp only [Bool.not_true, push_cast, simprocAttr]) | (refine rcd_d (hEb) (by simp [flatV, flatL, ctC, ndC, cmC]) (by simp [ren, ctC, ndC, cmC]) ?_; simp only [Bool.not_true, push_cast, simprocAttr])) | (refine at_done (by kernel_rfl) (by kernel_rfl) (go_on ?_); (try simp only [Bool.not_true, push_cast, simprocAttr]))
    (try simp only [push_cast, simprocAttr]); refine call_lend [41000, 41001] none (lr := [rowN a.base, rowC a.log]) (by simp [ndB]) (by first | rfl | simp [rowsOf, hget, rdR, rowS, rowN, rowC, sC, ndC, cmC]) (by simp [idsL, idsA]) (by simp [mvN]) (by simpa [rnA, ixOf] using hMa) ?_
    rintro rv lr' rows ⟨rfl, rfl, rfl⟩
    (refine ⟨by simp [shB, mvF, rdR, rowS, rowN, rowC, mkN_len, mkC_len], by simp [frB, baseOf], go_on ?_⟩; simp only [killA, killH, killRow, push_cast, simprocAttr])
    (try simp only [push_cast, simprocAttr]); refine call_lend [43000, 43001] none (lr := [rowN b.base, rowC b.log]) (by simp [ndB]) (by first | rfl | simp [rowsOf, hget, rdR, rowS, rowN, rowC, sC, ndC, cmC]) (by simp [idsL, idsA]) (by simp [mvN]) (by simpa [rnA, ixOf] using hMb) ?_
    rintro rv lr' rows ⟨rfl, rfl, rfl⟩
    (refine ⟨by simp [shB, mvF, rdR, rowS, rowN, rowC, mkN_len, mkC_len], by simp [frB, baseOf], go_on ?_⟩; simp only [killA, killH, killRow, push_cast, simprocAttr])
    (try simp only [iM, push_cast, simprocAttr])
    (refine at_call ?_; (try simp only [push_cast, simprocAttr]); refine rwc_v (hE0) (go_on ?_); (try simp only [push_cast, simprocAttr]))
    (try simp only [Bool.not_true, push_cast, simprocAttr])
    (refine at_call ?_; (try simp only [push_cast, simprocAttr]); refine rwc_v (hE0) (go_on ?_); (try simp only [push_cast, simprocAttr]))
    (try simp only [Bool.not_true, show (!(false == false)) = false from rfl, push_cast, simprocAttr])
    (refine at_call ?_; (try simp only [push_cast, simprocAttr]); refine rwc_v (hM0) (go_on ?_); (try simp only [push_cast, simprocAttr]))
    (refine at_call ?_; (try simp only [push_cast, simprocAttr]); refine rwc_v (hM0) (go_on ?_); (try simp only [push_cast, simprocAttr]))
    (refine at_call ?_; (try simp only [push_cast, simprocAttr]); refine rwc_v (hH0) (go_on ?_); (try simp only [push_cast, simprocAttr]))
    (try simp only [show ltI 1 0 = false from rfl, push_cast, simprocAttr])
    (refine at_call ?_; (try simp only [push_cast, simprocAttr]); refine rwc_v (hH0) (go_on ?_); (try simp only [push_cast, simprocAttr]))
    (try simp only [show ltI 1 0 = false from rfl, push_cast, simprocAttr])
    refine at_draw rfl (by kernel_rfl) ?_; simp only [push_cast, simprocAttr]
    (refine at_shareD (by simp [isC2, isC]) (by first | rfl | simp [ren]) hTd ?_; (try simp only [push_cast, simprocAttr]))
    (refine at_shareD (by simp [isC2, isC]) (by first | rfl | simp [ren]) hUd ?_; (try simp only [push_cast, simprocAttr]))
    (refine at_shareD (by simp [isC2, isC]) (by first | rfl | simp [ren]) hId ?_; (try simp only [push_cast, simprocAttr]))
    refine at_done (by kernel_rfl) (by kernel_rfl) (go_on ?_)
    (try simp only [push_cast, simprocAttr])
    (refine at_call ?_; (try simp only [push_cast, simprocAttr]); refine rwc_v (hE0) (go_on ?_); (try simp only [push_cast, simprocAttr]))
    (try simp only [Bool.not_true, push_cast, simprocAttr])
    (refine at_call ?_; (try simp only [push_cast, simprocAttr]); refine rwc_v (hE0) (go_on ?_); (try simp only [push_cast, simprocAttr]))
    (try simp only [Bool.not_true, show (!(false == false)) = false from rfl, push_cast, simprocAttr])
    (refine at_call ?_; (try simp only [push_cast, simprocAttr]); refine rwc_v (hH0) (go_on ?_); (try simp only [push_cast, simprocAttr]))
    (try simp only [show ltI 1 0 = false from rfl, push_cast, simprocAttr])
    (refine at_call ?_; (try simp only [push_cast, simprocAttr]); refine rwc_v (hH0) (go_on ?_); (try simp only [push_cast, simprocAttr]))
    (try simp only [show ltI 1 0 = false from rfl, push_cast, simprocAttr])
    refine at_ret ?_; simp only [Tryz.results4, push_cast, simprocAttr]
    simp [vX]
  | some xy =>
    obtain ⟨x, y⟩ := xy
    rw [rA_some hr, rB_some hr, hr] at hSp
    rw [hr] at hId
    simp only [Option.isSome_some] at hSp
    simp only at hId
    have hIo := SessionRun_o a b ha hbs x y hr
    have hxs := siteV_sm (law_session hr).1
    have hys := siteV_sm (law_session hr).2.1
    have x1 := hxs.t.n
    have x2 := hxs.l.n
    have y1 := hys.t.n
    have y2 := hys.l.n
    have hE1 := eqSite_pc x x (by omega) (by omega)
    have hE2 := eqSite_pc y y (by omega) (by omega)
    rw [decide_eq_true rfl] at hE1 hE2
    have hM1 := markSite_pcl x 1 (by omega) (by omega)
    have hM2 := markSite_pcl y (1 + 3 * x.base.length + 5 * x.log.length) (by omega) (by omega)
    have hH1 := heldSite_pc x 1 (by omega) (by omega)
    have hH2 := heldSite_pc y (1 + 3 * x.base.length + 5 * x.log.length) (by omega) (by omega)
    push_cast at hM2 hH2
    have i2 : ltI (1 + 3 * (x.base.length : Int) + 5 * (x.log.length : Int)) 0 = false := ltI_f (by omega)
    have i3 : ltI (1 + 3 * (x.base.length : Int) + 5 * (x.log.length : Int) + 3 * (y.base.length : Int) + 5 * (y.log.length : Int)) 0 = false := ltI_f (by omega)
    unfold stA' stC at hTd hUd hEa hEb hSp hId hIo hE1 hE2 hH1 hH2
    unfold run4 rows4 at hIo
    unfold stO at hT hU hMa hMb hM1 hM2
    (try simp only [hb2, push_cast, simprocAttr])
    refine at_draw rfl (by kernel_rfl) ?_; simp only [push_cast, simprocAttr]
    (refine at_shareD (by simp [isC2, isC]) (by first | rfl | simp [ren]) hTd ?_; (try simp only [push_cast, simprocAttr]))
    (refine at_shareD (by simp [isC2, isC]) (by first | rfl | simp [ren]) hUd ?_; (try simp only [push_cast, simprocAttr]))
    (refine at_shareD (by simp [isC2, isC]) (by first | rfl | simp [ren]) hSp ?_; (try simp only [push_cast, simprocAttr]))
    refine at_done (by kernel_rfl) (by kernel_rfl) (go_on ?_)
    (try simp only [push_cast, simprocAttr])
    (refine at_call ?_; (try simp only [push_cast, simprocAttr]); refine rwc_r (hT) (by simp [flatV, flatL]) (flat_nc _ _) (by simp [frB, baseOf]) (go_on ?_); (try simp only [push_cast, simprocAttr]))
    (refine at_call ?_; (try simp only [push_cast, simprocAttr]); refine rwc_r (hU) (by simp [flatV, flatL]) (flat_nc _ _) (by simp [frB, baseOf]) (go_on ?_); (try simp only [push_cast, simprocAttr]))
    (refine at_call ?_; (try simp only [push_cast, simprocAttr]); refine rwc_r (hIo) (by simp [flatV, flatL]) (flat_4 _ _) (by simp [frB, baseOf]) (go_on ?_); (try simp only [push_cast, simprocAttr]))
    (refine at_call ?_; (try simp only [push_cast, simprocAttr]); refine rwc_v (hE1) (go_on ?_); (try simp only [push_cast, simprocAttr]))
    (try simp only [Bool.not_true, push_cast, simprocAttr])
    (refine at_call ?_; (try simp only [push_cast, simprocAttr]); refine rwc_v (hE2) (go_on ?_); (try simp only [push_cast, simprocAttr]))
    (try simp only [Bool.not_true, show (!(true == true)) = false from rfl, push_cast, simprocAttr])
    refine at_draw rfl (by kernel_rfl) ?_; simp only [push_cast, simprocAttr]
    (refine at_shareD (by simp [isC2, isC]) (by first | rfl | simp [ren]) hTd ?_; (try simp only [push_cast, simprocAttr]))
    repeat' first | (refine at_bWn (fun hb => ?_) (fun hb => ?_) <;> simp only [Bool.not_true, hb, push_cast, simprocAttr]) | (refine at_bW (fun hb => ?_) (fun hb => ?_) <;> simp only [Bool.not_true, hb, push_cast, simprocAttr]) | (refine at_callD (by simp [clB, idsL, idsA, hget]) ?_; (try simp only [push_cast, simprocAttr]); first | (refine rcd_v (hEa) ?_; simp only [Bool.not_true, push_cast, simprocAttr]) | (refine rcd_d (hEa) (by simp [flatV, flatL, ctC, ndC, cmC]) (by simp [ren, ctC, ndC, cmC]) ?_; simp only [Bool.not_true, push_cast, simprocAttr])) | (refine at_done (by kernel_rfl) (by kernel_rfl) (go_on ?_); (try simp only [Bool.not_true, push_cast, simprocAttr]))
    refine at_draw rfl (by kernel_rfl) ?_; simp only [push_cast, simprocAttr]
    (refine at_shareD (by simp [isC2, isC]) (by first | rfl | simp [ren]) hUd ?_; (try simp only [push_cast, simprocAttr]))
    repeat' first | (refine at_bWn (fun hb => ?_) (fun hb => ?_) <;> simp only [Bool.not_true, hb, push_cast, simprocAttr]) | (refine at_bW (fun hb => ?_) (fun hb => ?_) <;> simp only [Bool.not_true, hb, push_cast, simprocAttr]) | (refine at_callD (by simp [clB, idsL, idsA, hget]) ?_; (try simp only [push_cast, simprocAttr]); first | (refine rcd_v (hEb) ?_; simp only [Bool.not_true, push_cast, simprocAttr]) | (refine rcd_d (hEb) (by simp [flatV, flatL, ctC, ndC, cmC]) (by simp [ren, ctC, ndC, cmC]) ?_; simp only [Bool.not_true, push_cast, simprocAttr])) | (refine at_done (by kernel_rfl) (by kernel_rfl) (go_on ?_); (try simp only [Bool.not_true, push_cast, simprocAttr]))
    (try simp only [push_cast, simprocAttr]); refine call_lend [41000, 41001] none (lr := [rowN a.base, rowC a.log]) (by simp [ndB]) (by first | rfl | simp [rowsOf, hget, rdR, rowS, rowN, rowC, sC, ndC, cmC]) (by simp [idsL, idsA]) (by simp [mvN]) (by simpa [rnA, ixOf] using hMa) ?_
    rintro rv lr' rows ⟨rfl, rfl, rfl⟩
    (refine ⟨by simp [shB, mvF, rdR, rowS, rowN, rowC, mkN_len, mkC_len], by simp [frB, baseOf], go_on ?_⟩; simp only [killA, killH, killRow, push_cast, simprocAttr])
    (try simp only [push_cast, simprocAttr]); refine call_lend [43000, 43001] none (lr := [rowN b.base, rowC b.log]) (by simp [ndB]) (by first | rfl | simp [rowsOf, hget, rdR, rowS, rowN, rowC, sC, ndC, cmC]) (by simp [idsL, idsA]) (by simp [mvN]) (by simpa [rnA, ixOf] using hMb) ?_
    rintro rv lr' rows ⟨rfl, rfl, rfl⟩
    (refine ⟨by simp [shB, mvF, rdR, rowS, rowN, rowC, mkN_len, mkC_len], by simp [frB, baseOf], go_on ?_⟩; simp only [killA, killH, killRow, push_cast, simprocAttr])
    (try simp only [iM, push_cast, simprocAttr])
    (refine at_call ?_; (try simp only [push_cast, simprocAttr]); refine rwc_v (hE1) (go_on ?_); (try simp only [push_cast, simprocAttr]))
    (try simp only [Bool.not_true, push_cast, simprocAttr])
    (refine at_call ?_; (try simp only [push_cast, simprocAttr]); refine rwc_v (hE2) (go_on ?_); (try simp only [push_cast, simprocAttr]))
    (try simp only [Bool.not_true, show (!(true == true)) = false from rfl, push_cast, simprocAttr])
    (try simp only [push_cast, simprocAttr]); refine call_lend [47000, 47001] none (lr := [rowN x.base, rowC x.log]) (by simp [ndB]) (by first | rfl | simp [rowsOf, hget, rdR, rowS, rowN, rowC, sC, ndC, cmC]) (by simp [idsL, idsA]) (by simp [mvN]) (by simpa [rnA, ixOf] using hM1) ?_
    rintro rv lr' rows ⟨rfl, rfl, rfl⟩
    (refine ⟨by simp [shB, mvF, rdR, rowS, rowN, rowC, mkN_len, mkC_len], by simp [frB, baseOf], go_on ?_⟩; simp only [killA, killH, killRow, push_cast, simprocAttr])
    (try simp only [push_cast, simprocAttr]); refine call_lend [47002, 47003] none (lr := [rowN y.base, rowC y.log]) (by simp [ndB]) (by first | rfl | simp [rowsOf, hget, rdR, rowS, rowN, rowC, sC, ndC, cmC]) (by simp [idsL, idsA]) (by simp [mvN]) (by simpa [rnA, ixOf] using hM2) ?_
    rintro rv lr' rows ⟨rfl, rfl, rfl⟩
    (refine ⟨by simp [shB, mvF, rdR, rowS, rowN, rowC, mkN_len, mkC_len], by simp [frB, baseOf], go_on ?_⟩; simp only [killA, killH, killRow, push_cast, simprocAttr])
    refine at_call ?_
    simp only [mkN_len, mkC_len, push_cast, simprocAttr]
    refine rwc_v hH1 (go_on ?_)
    (try simp only [i2, push_cast, simprocAttr])
    refine at_call ?_
    simp only [mkN_len, mkC_len, push_cast, simprocAttr]
    refine rwc_v hH2 (go_on ?_)
    (try simp only [i3, push_cast, simprocAttr])
    refine at_draw rfl (by kernel_rfl) ?_; simp only [push_cast, simprocAttr]
    (refine at_shareD (by simp [isC2, isC]) (by first | rfl | simp [ren]) hTd ?_; (try simp only [push_cast, simprocAttr]))
    (refine at_shareD (by simp [isC2, isC]) (by first | rfl | simp [ren]) hUd ?_; (try simp only [push_cast, simprocAttr]))
    (refine at_shareD (by simp [isC2, isC]) (by first | rfl | simp [ren]) hId ?_; (try simp only [push_cast, simprocAttr]))
    refine at_done (by kernel_rfl) (by kernel_rfl) (go_on ?_)
    (try simp only [push_cast, simprocAttr])
    (refine at_call ?_; (try simp only [push_cast, simprocAttr]); refine rwc_v (hE1) (go_on ?_); (try simp only [push_cast, simprocAttr]))
    (try simp only [Bool.not_true, push_cast, simprocAttr])
    (refine at_call ?_; (try simp only [push_cast, simprocAttr]); refine rwc_v (hE2) (go_on ?_); (try simp only [push_cast, simprocAttr]))
    (try simp only [Bool.not_true, show (!(true == true)) = false from rfl, push_cast, simprocAttr])
    refine at_call ?_
    simp only [mkN_len, mkC_len, push_cast, simprocAttr]
    refine rwc_v hH1 (go_on ?_)
    (try simp only [i2, push_cast, simprocAttr])
    refine at_call ?_
    simp only [mkN_len, mkC_len, push_cast, simprocAttr]
    refine rwc_v hH2 (go_on ?_)
    (try simp only [i3, push_cast, simprocAttr])
    refine at_ret ?_; simp only [Tryz.results4, push_cast, simprocAttr]
    simp [vX]
end Go.Proofs.YtdjglbedimpldaaGreatDoor
