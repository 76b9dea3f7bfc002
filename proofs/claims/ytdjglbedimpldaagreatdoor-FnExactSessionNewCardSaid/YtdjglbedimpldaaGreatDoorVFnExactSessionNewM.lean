/- A part of the proof of FnExactSessionNew: texts VFnExactSessionNew. -/
import Derived.Test.YtdjglbedimpldaaGreatDoorZx6
set_option linter.unusedSimpArgs false
set_option linter.unusedVariables false
/-
  Walks: FnExactSessionNew.
-/
namespace Go.Proofs.YtdjglbedimpldaaGreatDoor
open Go Go.RowKit Go.Proofs
attribute [local irreducible] RWp AW run kPe pe Kt effA gd gu br retR RDp runD kPeD brW gW effD
set_option maxRecDepth 100000
set_option maxHeartbeats 1000000 in
theorem FnExactSessionNew_pc (a : St) (qa : SiteOk a) (b : St) (qb : SiteOk b) : PC Tryz.prog 10 [stA' a, stA' b] (vB true) := by
  have hmx := max63
  have hZ := szSite_pc a 1048576 (by omega) (by omega) qa
  unfold stA' stC at hZ ⊢
  refine pc_enter Tryz.func10 rfl rfl fun w0 fb => go_on ?_; (try simp only [Tryz.ntmps10, push_cast, simprocAttr])
  (refine at_call ?_; (try simp only [push_cast, simprocAttr]); refine rwc_v (hZ) (go_on ?_); (try simp only [push_cast, simprocAttr]))
  refine at_b (fun hb => ?_) (fun hb => ?_)
  · (try simp only [hb, push_cast, simprocAttr])
    refine at_ret ?_; simp only [Tryz.results10, push_cast, simprocAttr]
    simp [vX]
  have hb' := of_ltI_f hb
  obtain ⟨a0, a1, a2, _⟩ := szT_ok (by omega) (by omega) hb'
  have ha := szT_sm (by omega) (by omega) hb'
  have hZ2 := szSite_pc b (szT a 1048576) (by omega) (by omega) qb
  unfold stA' stC at hZ2
  (try simp only [hb, push_cast, simprocAttr])
  (refine at_call ?_; (try simp only [push_cast, simprocAttr]); refine rwc_v (hZ2) (go_on ?_); (try simp only [push_cast, simprocAttr]))
  refine at_b (fun hb2 => ?_) (fun hb2 => ?_)
  · (try simp only [hb2, push_cast, simprocAttr])
    refine at_ret ?_; simp only [Tryz.results10, push_cast, simprocAttr]
    simp [vX]
  have hb2' := of_ltI_f hb2
  obtain ⟨c0, c1, c2, _⟩ := szT_ok (by omega) (by omega) hb2'
  have hbs := szT_sm (by omega) (by omega) hb2'
  have hT := toSite_pc a a1 a2
  have hU := toSite_pc b c1 c2
  have hTd := toSite_d a a1 a2
  have hUd := toSite_d b c1 c2
  have hEa := eqSite_pc a a (by omega) (by omega)
  have hEb := eqSite_pc b b (by omega) (by omega)
  rw [decide_eq_true rfl] at hEa hEb
  have hMa := markSite_pcl a 1 (by omega) (by omega)
  have hMb := markSite_pcl b (1 + 3 * a.base.length + 5 * a.log.length) (by omega) (by omega)
  push_cast at hMb
  have iM : ltI (1 + 3 * (a.base.length : Int) + 5 * (a.log.length : Int) + 3 * (b.base.length : Int) + 5 * (b.log.length : Int)) 0 = false := ltI_f (by omega)
  have hSp := specSessionNew_e a b ha hbs
  unfold ssO at hSp
  have v0 : (!(false == false)) = false := rfl
  have v1 : (!(true == true)) = false := rfl
  cases hr : sRun a b with
  | none =>
    have hI := SessionNew_d0 a b ha hbs hr
    have hn : sNew a b = none := by simp [sNew, hr]
    rw [hn] at hSp
    simp only [Option.getD_none, Option.isSome_none] at hSp
    have hE0 := eqSession_0
    have hM0 := markSession_0
    have hH0 := heldSession_0
    unfold ssA ssC at hSp hE0
    unfold ss00 z3 at hI hE0 hM0 hH0
    unfold stA' stC at hTd hUd hEa hEb hSp hI
    unfold stO at hT hU hMa hMb
    (try simp only [hb2, push_cast, simprocAttr])
    refine at_draw rfl (by kernel_rfl) ?_; simp only [push_cast, simprocAttr]
    (refine at_shareD (by simp [isC2, isC]) (by first | rfl | simp [ren]) hTd ?_; (try simp only [push_cast, simprocAttr]))
    (refine at_shareD (by simp [isC2, isC]) (by first | rfl | simp [ren]) hUd ?_; (try simp only [push_cast, simprocAttr]))
    (refine at_shareD (by simp [isC2, isC]) (by first | rfl | simp [ren]) hSp ?_; (try simp only [push_cast, simprocAttr]))
    refine at_done (by kernel_rfl) (by kernel_rfl) (go_on ?_)
    (try simp only [push_cast, simprocAttr])
    (refine at_call ?_; (try simp only [push_cast, simprocAttr]); refine rwc_r (hT) (by simp [flatV, flatL]) (flat_nc _ _) (by simp [frB, baseOf]) (go_on ?_); (try simp only [push_cast, simprocAttr]))
    (refine at_call ?_; (try simp only [push_cast, simprocAttr]); refine rwc_r (hU) (by simp [flatV, flatL]) (flat_nc _ _) (by simp [frB, baseOf]) (go_on ?_); (try simp only [push_cast, simprocAttr]))
    (refine at_call ?_; (try simp only [push_cast, simprocAttr]); refine rwc_d (hI) (by simp [flatV, flatL, ctC, ndC, cmC]) (by simp [ren, ctC, ndC, cmC]) (go_on ?_); (try simp only [push_cast, simprocAttr]))
    (refine at_call ?_; (try simp only [push_cast, simprocAttr]); refine rwc_v (hE0) (go_on ?_); (try simp only [push_cast, simprocAttr]))
    (try simp only [Bool.not_true, v0, push_cast, simprocAttr])
    refine at_draw rfl (by kernel_rfl) ?_; simp only [push_cast, simprocAttr]
    (refine at_shareD (by simp [isC2, isC]) (by first | rfl | simp [ren]) hTd ?_; (try simp only [push_cast, simprocAttr]))
    repeat' first | (refine at_bWn (fun hb => ?_) (fun hb => ?_) <;> simp only [Bool.not_true, hb, push_cast, simprocAttr]) | (refine at_bW (fun hb => ?_) (fun hb => ?_) <;> simp only [Bool.not_true, hb, push_cast, simprocAttr]) | (refine at_callD (by simp [clB, idsL, idsA, hget]) ?_; (try simp only [push_cast, simprocAttr]); first | (refine rcd_v (hEa) ?_; simp only [Bool.not_true, push_cast, simprocAttr]) | (refine rcd_d (hEa) (by simp [flatV, flatL, ctC, ndC, cmC]) (by simp [ren, ctC, ndC, cmC]) ?_; simp only [Bool.not_true, push_cast, simprocAttr])) | (refine at_done (by kernel_rfl) (by kernel_rfl) (go_on ?_); (try simp only [Bool.not_true, push_cast, simprocAttr]))
    refine at_draw rfl (by kernel_rfl) ?_; simp only [push_cast, simprocAttr]
    (refine at_shareD (by simp [isC2, isC]) (by first | rfl | simp [ren]) hUd ?_; (try simp only [push_cast, simprocAttr]))
    repeat' first | (refine at_bWn (fun hb => ?_) (fun hb => ?_) <;> simp only [Bool.not_true, hb, push_cast, simprocAttr]) | (refine at_bW (fun hb => ?_) (fun hb => ?_) <;> simp only [Bool.not_true, hb, push_cast, simprocAttr]) | (refine at_callD (by simp [clB, idsL, idsA, hget]) ?_; (try simp only [push_cast, simprocAttr]); first | (refine rcd_v (hEb) ?_; simp only [Bool.not_true, push_cast, simprocAttr]) | (refine rcd_d (hEb) (by simp [flatV, flatL, ctC, ndC, cmC]) (by simp [ren, ctC, ndC, cmC]) ?_; simp only [Bool.not_true, push_cast, simprocAttr])) | (refine at_done (by kernel_rfl) (by kernel_rfl) (go_on ?_); (try simp only [Bool.not_true, push_cast, simprocAttr]))
    (try simp only [push_cast, simprocAttr]); refine call_lend [37000, 37001] none (lr := [rowN a.base, rowC a.log]) (by simp [ndB]) (by first | rfl | simp [rowsOf, hget, rdR, rowS, rowN, rowC, sC, ndC, cmC]) (by simp [idsL, idsA]) (by simp [mvN]) (by simpa [rnA, ixOf] using hMa) ?_
    rintro rv lr' rows ⟨rfl, rfl, rfl⟩
    (refine ⟨by simp [shB, mvF, rdR, rowS, rowN, rowC, mkN_len, mkC_len], by simp [frB, baseOf], go_on ?_⟩; simp only [killA, killH, killRow, push_cast, simprocAttr])
    (try simp only [push_cast, simprocAttr]); refine call_lend [39000, 39001] none (lr := [rowN b.base, rowC b.log]) (by simp [ndB]) (by first | rfl | simp [rowsOf, hget, rdR, rowS, rowN, rowC, sC, ndC, cmC]) (by simp [idsL, idsA]) (by simp [mvN]) (by simpa [rnA, ixOf] using hMb) ?_
    rintro rv lr' rows ⟨rfl, rfl, rfl⟩
    (refine ⟨by simp [shB, mvF, rdR, rowS, rowN, rowC, mkN_len, mkC_len], by simp [frB, baseOf], go_on ?_⟩; simp only [killA, killH, killRow, push_cast, simprocAttr])
    (try simp only [iM, push_cast, simprocAttr])
    (refine at_call ?_; (try simp only [push_cast, simprocAttr]); refine rwc_v (hE0) (go_on ?_); (try simp only [push_cast, simprocAttr]))
    (try simp only [Bool.not_true, v0, push_cast, simprocAttr])
    (refine at_call ?_; (try simp only [push_cast, simprocAttr]); refine rwc_v (hM0) (go_on ?_); (try simp only [push_cast, simprocAttr]))
    (refine at_call ?_; (try simp only [push_cast, simprocAttr]); refine rwc_v (hH0) (go_on ?_); (try simp only [push_cast, simprocAttr]))
    (try simp only [show ltI 1 0 = false from rfl, push_cast, simprocAttr])
    refine at_draw rfl (by kernel_rfl) ?_; simp only [push_cast, simprocAttr]
    (refine at_shareD (by simp [isC2, isC]) (by first | rfl | simp [ren]) hTd ?_; (try simp only [push_cast, simprocAttr]))
    (refine at_shareD (by simp [isC2, isC]) (by first | rfl | simp [ren]) hUd ?_; (try simp only [push_cast, simprocAttr]))
    (refine at_shareD (by simp [isC2, isC]) (by first | rfl | simp [ren]) hI ?_; (try simp only [push_cast, simprocAttr]))
    refine at_done (by kernel_rfl) (by kernel_rfl) (go_on ?_)
    (try simp only [push_cast, simprocAttr])
    (refine at_call ?_; (try simp only [push_cast, simprocAttr]); refine rwc_v (hE0) (go_on ?_); (try simp only [push_cast, simprocAttr]))
    (try simp only [Bool.not_true, v0, push_cast, simprocAttr])
    (refine at_call ?_; (try simp only [push_cast, simprocAttr]); refine rwc_v (hH0) (go_on ?_); (try simp only [push_cast, simprocAttr]))
    (try simp only [show ltI 1 0 = false from rfl, push_cast, simprocAttr])
    refine at_ret ?_; simp only [Tryz.results10, push_cast, simprocAttr]
    simp [vX]
  | some xy =>
    obtain ⟨x, y⟩ := xy
    have hIo := SessionNew_o a b ha hbs x y hr
    have hI := SessionNew_d1 a b ha hbs x y hr
    have hn : sNew a b = some ⟨a, b, false, st0, st0⟩ := by simp [sNew, hr]
    rw [hn] at hSp
    simp only [Option.getD_some, Option.isSome_some] at hSp
    have hE0 := eqSession_H a b false ha hbs
    have hM0 := markSession_H a b false 1 (by omega) (by unfold endS; omega)
    have hH0 := heldSession_H a b false 1 (by omega) (by unfold endS; omega)
    have iE : ltI ((endS b (endS a 1) : Nat) : Int) 0 = false := ltI_f (by omega)
    obtain ⟨en, hen⟩ : ∃ en, en = endS b (endS a 1) := ⟨_, rfl⟩
    unfold markH at hM0
    rw [← hen] at hM0 hH0 iE
    unfold mkS endS at hH0
    unfold endS at hM0
    unfold ssA ssC at hSp hE0
    unfold ssH at hE0 hH0
    unfold ssO4 rows4 at hIo hM0
    unfold z3 at hI
    unfold stA' stC at hTd hUd hEa hEb hSp hI hIo
    simp only [List.cons_append, List.nil_append] at hI
    simp only at hH0
    unfold stO at hT hU hMa hMb
    (try simp only [hb2, push_cast, simprocAttr])
    refine at_draw rfl (by kernel_rfl) ?_; simp only [push_cast, simprocAttr]
    (refine at_shareD (by simp [isC2, isC]) (by first | rfl | simp [ren]) hTd ?_; (try simp only [push_cast, simprocAttr]))
    (refine at_shareD (by simp [isC2, isC]) (by first | rfl | simp [ren]) hUd ?_; (try simp only [push_cast, simprocAttr]))
    (refine at_shareD (by simp [isC2, isC]) (by first | rfl | simp [ren]) hSp ?_; (try simp only [push_cast, simprocAttr]))
    refine at_done (by kernel_rfl) (by kernel_rfl) (go_on ?_)
    (try simp only [push_cast, simprocAttr])
    (refine at_call ?_; (try simp only [push_cast, simprocAttr]); refine rwc_r (hT) (by simp [flatV, flatL]) (flat_nc _ _) (by simp [frB, baseOf]) (go_on ?_); (try simp only [push_cast, simprocAttr]))
    (refine at_call ?_; (try simp only [push_cast, simprocAttr]); refine rwc_r (hU) (by simp [flatV, flatL]) (flat_nc _ _) (by simp [frB, baseOf]) (go_on ?_); (try simp only [push_cast, simprocAttr]))
    (refine at_call ?_; (try simp only [push_cast, simprocAttr]); refine rwc_r (hIo) (by simp [flatV, flatL]) (flat_4 _ _) (by simp [frB, baseOf]) (go_on ?_); (try simp only [push_cast, simprocAttr]))
    (refine at_call ?_; (try simp only [push_cast, simprocAttr]); refine rwc_v (hE0) (go_on ?_); (try simp only [push_cast, simprocAttr]))
    (try simp only [Bool.not_true, v1, push_cast, simprocAttr])
    refine at_draw rfl (by kernel_rfl) ?_; simp only [push_cast, simprocAttr]
    (refine at_shareD (by simp [isC2, isC]) (by first | rfl | simp [ren]) hTd ?_; (try simp only [push_cast, simprocAttr]))
    repeat' first | (refine at_bWn (fun hb => ?_) (fun hb => ?_) <;> simp only [Bool.not_true, hb, push_cast, simprocAttr]) | (refine at_bW (fun hb => ?_) (fun hb => ?_) <;> simp only [Bool.not_true, hb, push_cast, simprocAttr]) | (refine at_callD (by simp [clB, idsL, idsA, hget]) ?_; (try simp only [push_cast, simprocAttr]); first | (refine rcd_v (hEa) ?_; simp only [Bool.not_true, push_cast, simprocAttr]) | (refine rcd_d (hEa) (by simp [flatV, flatL, ctC, ndC, cmC]) (by simp [ren, ctC, ndC, cmC]) ?_; simp only [Bool.not_true, push_cast, simprocAttr])) | (refine at_done (by kernel_rfl) (by kernel_rfl) (go_on ?_); (try simp only [Bool.not_true, push_cast, simprocAttr]))
    refine at_draw rfl (by kernel_rfl) ?_; simp only [push_cast, simprocAttr]
    (refine at_shareD (by simp [isC2, isC]) (by first | rfl | simp [ren]) hUd ?_; (try simp only [push_cast, simprocAttr]))
    repeat' first | (refine at_bWn (fun hb => ?_) (fun hb => ?_) <;> simp only [Bool.not_true, hb, push_cast, simprocAttr]) | (refine at_bW (fun hb => ?_) (fun hb => ?_) <;> simp only [Bool.not_true, hb, push_cast, simprocAttr]) | (refine at_callD (by simp [clB, idsL, idsA, hget]) ?_; (try simp only [push_cast, simprocAttr]); first | (refine rcd_v (hEb) ?_; simp only [Bool.not_true, push_cast, simprocAttr]) | (refine rcd_d (hEb) (by simp [flatV, flatL, ctC, ndC, cmC]) (by simp [ren, ctC, ndC, cmC]) ?_; simp only [Bool.not_true, push_cast, simprocAttr])) | (refine at_done (by kernel_rfl) (by kernel_rfl) (go_on ?_); (try simp only [Bool.not_true, push_cast, simprocAttr]))
    (try simp only [push_cast, simprocAttr]); refine call_lend [37000, 37001] none (lr := [rowN a.base, rowC a.log]) (by simp [ndB]) (by first | rfl | simp [rowsOf, hget, rdR, rowS, rowN, rowC, sC, ndC, cmC]) (by simp [idsL, idsA]) (by simp [mvN]) (by simpa [rnA, ixOf] using hMa) ?_
    rintro rv lr' rows ⟨rfl, rfl, rfl⟩
    (refine ⟨by simp [shB, mvF, rdR, rowS, rowN, rowC, mkN_len, mkC_len], by simp [frB, baseOf], go_on ?_⟩; simp only [killA, killH, killRow, push_cast, simprocAttr])
    (try simp only [push_cast, simprocAttr]); refine call_lend [39000, 39001] none (lr := [rowN b.base, rowC b.log]) (by simp [ndB]) (by first | rfl | simp [rowsOf, hget, rdR, rowS, rowN, rowC, sC, ndC, cmC]) (by simp [idsL, idsA]) (by simp [mvN]) (by simpa [rnA, ixOf] using hMb) ?_
    rintro rv lr' rows ⟨rfl, rfl, rfl⟩
    (refine ⟨by simp [shB, mvF, rdR, rowS, rowN, rowC, mkN_len, mkC_len], by simp [frB, baseOf], go_on ?_⟩; simp only [killA, killH, killRow, push_cast, simprocAttr])
    (try simp only [iM, push_cast, simprocAttr])
    (refine at_call ?_; (try simp only [push_cast, simprocAttr]); refine rwc_v (hE0) (go_on ?_); (try simp only [push_cast, simprocAttr]))
    (try simp only [Bool.not_true, v1, push_cast, simprocAttr])
    (try simp only [push_cast, simprocAttr]); refine call_lend [43000, 43001, 43002, 43003] none (lr := [rowN a.base, rowC a.log, rowN b.base, rowC b.log]) (by simp [ndB]) (by first | rfl | simp [rowsOf, hget, rdR, rowS, rowN, rowC, sC, ndC, cmC]) (by simp [idsL, idsA]) (by simp [mvN]) (by simpa [rnA, ixOf] using hM0) ?_
    rintro rv lr' rows ⟨rfl, rfl, rfl⟩
    (refine ⟨by simp [shB, mvF, rdR, rowS, rowN, rowC, mkN_len, mkC_len], by simp [frB, baseOf], go_on ?_⟩; simp only [killA, killH, killRow, push_cast, simprocAttr])
    refine at_call ?_
    simp only [mkN_len, mkC_len, push_cast, simprocAttr]
    refine rwc_v hH0 (go_on ?_)
    (try simp only [iE, push_cast, simprocAttr])
    refine at_draw rfl (by kernel_rfl) ?_; simp only [push_cast, simprocAttr]
    (refine at_shareD (by simp [isC2, isC]) (by first | rfl | simp [ren]) hTd ?_; (try simp only [push_cast, simprocAttr]))
    (refine at_shareD (by simp [isC2, isC]) (by first | rfl | simp [ren]) hUd ?_; (try simp only [push_cast, simprocAttr]))
    (refine at_shareD (by simp [isC2, isC]) (by first | rfl | simp [ren]) hI ?_; (try simp only [push_cast, simprocAttr]))
    refine at_done (by kernel_rfl) (by kernel_rfl) (go_on ?_)
    (try simp only [push_cast, simprocAttr])
    (refine at_call ?_; (try simp only [push_cast, simprocAttr]); refine rwc_v (hE0) (go_on ?_); (try simp only [push_cast, simprocAttr]))
    (try simp only [Bool.not_true, v1, push_cast, simprocAttr])
    refine at_call ?_
    simp only [mkN_len, mkC_len, push_cast, simprocAttr]
    refine rwc_v hH0 (go_on ?_)
    (try simp only [iE, push_cast, simprocAttr])
    refine at_ret ?_; simp only [Tryz.results10, push_cast, simprocAttr]
    simp [vX]
end Go.Proofs.YtdjglbedimpldaaGreatDoor
