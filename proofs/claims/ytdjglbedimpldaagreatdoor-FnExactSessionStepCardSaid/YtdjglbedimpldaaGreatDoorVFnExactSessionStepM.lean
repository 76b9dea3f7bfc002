/- A part of the proof of FnExactSessionStep: texts VFnExactSessionStep. -/
import Derived.Test.YtdjglbedimpldaaGreatDoorZx6
set_option linter.unusedSimpArgs false
set_option linter.unusedVariables false
/-
  Walks: FnExactSessionStep.
-/
namespace Go.Proofs.YtdjglbedimpldaaGreatDoor
open Go Go.RowKit Go.Proofs
attribute [local irreducible] RWp AW run kPe pe Kt effA gd gu br retR RDp runD kPeD brW gW effD
set_option maxRecDepth 100000
theorem toSession_d (s : Ss) (q : SsSz s) : PC Tryz.prog 43 [ssA s] (vX (ssA s)) := by
  have := (toSession_pc s q).frzX
  simpa [viewN, hpOf, hget, ssO8, rows8, ssA, ssC, isC, tk] using this
set_option maxHeartbeats 2000000 in
theorem FnExactSessionStep_0 (s : Ss) (q : SsOk s) (hn : sStep s = none) : PC Tryz.prog 12 [ssA s] (vB true) := by
  have hZ := szSession_pc s 1048576 (by omega) (by omega) q
  unfold ssA ssC at hZ ⊢
  refine pc_enter Tryz.func12 rfl rfl fun w0 fb => go_on ?_; (try simp only [Tryz.ntmps12, push_cast, simprocAttr])
  (refine at_call ?_; (try simp only [push_cast, simprocAttr]); refine rwc_v (hZ) (go_on ?_); (try simp only [push_cast, simprocAttr]))
  refine at_b (fun hb => ?_) (fun hb => ?_)
  · (try simp only [hb, push_cast, simprocAttr])
    refine at_ret ?_; simp only [Tryz.results12, push_cast, simprocAttr]
    simp [vX]
  have hb' := of_ltI_f hb
  have hz := szSs_ok (by omega) (by omega) hb'
  have hs := hz.sm
  have hT := toSession_pc s hz
  have hTd := toSession_d s hz
  have hEq := eqSession_pc s s hs
  rw [decide_eq_true rfl] at hEq
  have A1 := hz.A1
  have A2 := hz.A2
  have B1 := hz.B1
  have B2 := hz.B2
  have C1 := hz.nA1
  have C2 := hz.nA2
  have D1 := hz.nB1
  have D2 := hz.nB2
  have hM := markSession_pcl s 1 (by omega) (by unfold mkE8; omega)
  have i1 : ltI (mkE8 s 1 : Nat) 0 = false := ltI_f (by omega)
  have v0 : (!(false == false)) = false := rfl
  have v1 : (!(true == true)) = false := rfl
  unfold ssA ssC at hTd hEq hT
  unfold ssO8 rows8 at hT hM
  have hSp := specSessionStep_e s hs
  have hId := SessionStep_e s hs
  unfold ssO at hSp hId
  rw [hn] at hSp hId
  simp only [Option.getD_none, Option.isSome_none] at hSp hId
  have hp : s.plan = false ∧ sRun s.A s.B = none := by
    unfold sStep at hn
    split at hn
    · rename_i hp
      split at hn
      · cases hn
      · rename_i hr; exact ⟨hp, hr⟩
    · split at hn
      · cases hn
      · split at hn <;> cases hn
  have hI := SessionStep_d0 s hs hp.1 hp.2
  have hE0 := eqSession_0
  have hM0 := markSession_0
  have hH0 := heldSession_0
  have hEo := eqSession_pc ss0 ss0 ss0_sm
  rw [decide_eq_true rfl] at hEo
  unfold ssA ssC at hSp hId hI hE0 hEo
  unfold ss00 z3 at hI hE0 hM0 hH0
  (try simp only [hb, push_cast, simprocAttr])
  ((try simp only [push_cast, simprocAttr]); refine at_share2 (by simp [isC2, isC]) (by first | rfl | simp [ren]) (hTd) (go_on ?_); (try simp only [push_cast, simprocAttr]))
  ((try simp only [push_cast, simprocAttr]); refine at_share2 (by simp [isC2, isC]) (by first | rfl | simp [ren]) (hSp) (go_on ?_); (try simp only [push_cast, simprocAttr]))
  (refine at_call ?_; (try simp only [push_cast, simprocAttr]); refine rwc_r (hT) (by simp [flatV, flatL]) (flat_8 _) (by simp [frB, baseOf]) (go_on ?_); (try simp only [push_cast, simprocAttr]))
  (refine at_call ?_; (try simp only [push_cast, simprocAttr]); refine rwc_d (hI) (by simp [flatV, flatL, ctC, ndC, cmC]) (by simp [ren, ctC, ndC, cmC]) (go_on ?_); (try simp only [push_cast, simprocAttr]))
  (refine at_call ?_; (try simp only [push_cast, simprocAttr]); refine rwc_v (hE0) (go_on ?_); (try simp only [push_cast, simprocAttr]))
  (try simp only [Bool.not_true, v0, push_cast, simprocAttr])
  refine at_draw rfl (by kernel_rfl) ?_; simp only [push_cast, simprocAttr]
  (refine at_shareD (by simp [isC2, isC]) (by first | rfl | simp [ren]) hTd ?_; (try simp only [push_cast, simprocAttr]))
  repeat' first | (refine at_bWn (fun hb => ?_) (fun hb => ?_) <;> simp only [Bool.not_true, hb, push_cast, simprocAttr]) | (refine at_bW (fun hb => ?_) (fun hb => ?_) <;> simp only [Bool.not_true, hb, push_cast, simprocAttr]) | (refine at_callD (by simp [clB, idsL, idsA, hget]) ?_; (try simp only [push_cast, simprocAttr]); first | (refine rcd_v (hEq) ?_; simp only [Bool.not_true, push_cast, simprocAttr]) | (refine rcd_d (hEq) (by simp [flatV, flatL, ctC, ndC, cmC]) (by simp [ren, ctC, ndC, cmC]) ?_; simp only [Bool.not_true, push_cast, simprocAttr])) | (refine at_done (by kernel_rfl) (by kernel_rfl) (go_on ?_); (try simp only [Bool.not_true, push_cast, simprocAttr]))
  (try simp only [push_cast, simprocAttr]); refine call_lend [27000, 27001, 27002, 27003, 27004, 27005, 27006, 27007] none (lr := [rowN s.A.base, rowC s.A.log, rowN s.B.base, rowC s.B.log, rowN s.nA.base, rowC s.nA.log, rowN s.nB.base, rowC s.nB.log]) (by simp [ndB]) (by first | rfl | simp [rowsOf, hget, rdR, rowS, rowN, rowC, sC, ndC, cmC]) (by simp [idsL, idsA]) (by simp [mvN]) (by simpa [rnA, ixOf] using hM) ?_
  rintro rv lr' rows ⟨rfl, rfl, rfl⟩
  unfold mk8
  (refine ⟨by simp [shB, mvF, rdR, rowS, rowN, rowC, mkN_len, mkC_len], by simp [frB, baseOf], go_on ?_⟩; simp only [killA, killH, killRow, push_cast, simprocAttr])
  (try simp only [i1, push_cast, simprocAttr])
  (refine at_call ?_; (try simp only [push_cast, simprocAttr]); refine rwc_v (hE0) (go_on ?_); (try simp only [push_cast, simprocAttr]))
  (try simp only [Bool.not_true, v0, push_cast, simprocAttr])
  (refine at_call ?_; (try simp only [push_cast, simprocAttr]); refine rwc_v (hM0) (go_on ?_); (try simp only [push_cast, simprocAttr]))
  (refine at_call ?_; (try simp only [push_cast, simprocAttr]); refine rwc_v (hH0) (go_on ?_); (try simp only [push_cast, simprocAttr]))
  (try simp only [show ltI 1 0 = false from rfl, push_cast, simprocAttr])
  ((try simp only [push_cast, simprocAttr]); refine at_share2 (by simp [isC2, isC]) (by first | rfl | simp [ren]) (hTd) (go_on ?_); (try simp only [push_cast, simprocAttr]))
  ((try simp only [push_cast, simprocAttr]); refine at_share2 (by simp [isC2, isC]) (by first | rfl | simp [ren]) (hId) (go_on ?_); (try simp only [push_cast, simprocAttr]))
  (refine at_call ?_; (try simp only [push_cast, simprocAttr]); refine rwc_v (hEo) (go_on ?_); (try simp only [push_cast, simprocAttr]))
  (try simp only [Bool.not_true, v0, push_cast, simprocAttr])
  (refine at_call ?_; (try simp only [push_cast, simprocAttr]); refine rwc_v (hH0) (go_on ?_); (try simp only [push_cast, simprocAttr]))
  (try simp only [show ltI 1 0 = false from rfl, push_cast, simprocAttr])
  refine at_ret ?_; simp only [Tryz.results12, push_cast, simprocAttr]
  simp [vX]
set_option maxHeartbeats 2000000 in
theorem FnExactSessionStep_8 (s : Ss) (q : SsOk s) (o : Ss) (hn : sStep s = some o) (hI : SmSs s → PC Tryz.prog 14 [ssA s] (rX (.tup [ssO8 o, bA true]) (rows8 o))) : PC Tryz.prog 12 [ssA s] (vB true) := by
  have hZ := szSession_pc s 1048576 (by omega) (by omega) q
  unfold ssA ssC at hZ ⊢
  refine pc_enter Tryz.func12 rfl rfl fun w0 fb => go_on ?_; (try simp only [Tryz.ntmps12, push_cast, simprocAttr])
  (refine at_call ?_; (try simp only [push_cast, simprocAttr]); refine rwc_v (hZ) (go_on ?_); (try simp only [push_cast, simprocAttr]))
  refine at_b (fun hb => ?_) (fun hb => ?_)
  · (try simp only [hb, push_cast, simprocAttr])
    refine at_ret ?_; simp only [Tryz.results12, push_cast, simprocAttr]
    simp [vX]
  have hb' := of_ltI_f hb
  have hz := szSs_ok (by omega) (by omega) hb'
  have hs := hz.sm
  have hT := toSession_pc s hz
  have hTd := toSession_d s hz
  have hEq := eqSession_pc s s hs
  rw [decide_eq_true rfl] at hEq
  have A1 := hz.A1
  have A2 := hz.A2
  have B1 := hz.B1
  have B2 := hz.B2
  have C1 := hz.nA1
  have C2 := hz.nA2
  have D1 := hz.nB1
  have D2 := hz.nB2
  have hM := markSession_pcl s 1 (by omega) (by unfold mkE8; omega)
  have i1 : ltI (mkE8 s 1 : Nat) 0 = false := ltI_f (by omega)
  have v0 : (!(false == false)) = false := rfl
  have v1 : (!(true == true)) = false := rfl
  unfold ssA ssC at hTd hEq hT
  unfold ssO8 rows8 at hT hM
  replace hI := hI hs
  have hSp := specSessionStep_e s hs
  have hId := SessionStep_e s hs
  unfold ssO at hSp hId
  rw [hn] at hSp hId
  simp only [Option.getD_some, Option.isSome_some] at hSp hId
  have ho := sStep_sm hs hn
  have hE0 := eqSession_pc o o ho
  rw [decide_eq_true rfl] at hE0
  have hEo := hE0
  have o1 := ho.A.t.n
  have o2 := ho.A.l.n
  have o3 := ho.B.t.n
  have o4 := ho.B.l.n
  have o5 := ho.nA.t.n
  have o6 := ho.nA.l.n
  have o7 := ho.nB.t.n
  have o8 := ho.nB.l.n
  have hM0 := markSession_pcl o 1 (by omega) (by unfold mkE8; omega)
  have hH0 := heldSession_pc o 1 (by omega) (by unfold mkE8; omega)
  have iE : ltI (mkE8 o 1 : Nat) 0 = false := ltI_f (by omega)
  unfold ssA ssC at hSp hId hI hE0 hEo hH0
  unfold ssO8 rows8 at hI hM0
  unfold mkSs mkS at hH0
  simp only at hH0
  (try simp only [hb, push_cast, simprocAttr])
  ((try simp only [push_cast, simprocAttr]); refine at_share2 (by simp [isC2, isC]) (by first | rfl | simp [ren]) (hTd) (go_on ?_); (try simp only [push_cast, simprocAttr]))
  ((try simp only [push_cast, simprocAttr]); refine at_share2 (by simp [isC2, isC]) (by first | rfl | simp [ren]) (hSp) (go_on ?_); (try simp only [push_cast, simprocAttr]))
  (refine at_call ?_; (try simp only [push_cast, simprocAttr]); refine rwc_r (hT) (by simp [flatV, flatL]) (flat_8 _) (by simp [frB, baseOf]) (go_on ?_); (try simp only [push_cast, simprocAttr]))
  (refine at_call ?_; (try simp only [push_cast, simprocAttr]); refine rwc_r (hI) (by simp [flatV, flatL]) (flat_8 _) (by simp [frB, baseOf]) (go_on ?_); (try simp only [push_cast, simprocAttr]))
  (refine at_call ?_; (try simp only [push_cast, simprocAttr]); refine rwc_v (hE0) (go_on ?_); (try simp only [push_cast, simprocAttr]))
  (try simp only [Bool.not_true, v1, push_cast, simprocAttr])
  refine at_draw rfl (by kernel_rfl) ?_; simp only [push_cast, simprocAttr]
  (refine at_shareD (by simp [isC2, isC]) (by first | rfl | simp [ren]) hTd ?_; (try simp only [push_cast, simprocAttr]))
  repeat' first | (refine at_bWn (fun hb => ?_) (fun hb => ?_) <;> simp only [Bool.not_true, hb, push_cast, simprocAttr]) | (refine at_bW (fun hb => ?_) (fun hb => ?_) <;> simp only [Bool.not_true, hb, push_cast, simprocAttr]) | (refine at_callD (by simp [clB, idsL, idsA, hget]) ?_; (try simp only [push_cast, simprocAttr]); first | (refine rcd_v (hEq) ?_; simp only [Bool.not_true, push_cast, simprocAttr]) | (refine rcd_d (hEq) (by simp [flatV, flatL, ctC, ndC, cmC]) (by simp [ren, ctC, ndC, cmC]) ?_; simp only [Bool.not_true, push_cast, simprocAttr])) | (refine at_done (by kernel_rfl) (by kernel_rfl) (go_on ?_); (try simp only [Bool.not_true, push_cast, simprocAttr]))
  (try simp only [push_cast, simprocAttr]); refine call_lend [27000, 27001, 27002, 27003, 27004, 27005, 27006, 27007] none (lr := [rowN s.A.base, rowC s.A.log, rowN s.B.base, rowC s.B.log, rowN s.nA.base, rowC s.nA.log, rowN s.nB.base, rowC s.nB.log]) (by simp [ndB]) (by first | rfl | simp [rowsOf, hget, rdR, rowS, rowN, rowC, sC, ndC, cmC]) (by simp [idsL, idsA]) (by simp [mvN]) (by simpa [rnA, ixOf] using hM) ?_
  rintro rv lr' rows ⟨rfl, rfl, rfl⟩
  unfold mk8
  (refine ⟨by simp [shB, mvF, rdR, rowS, rowN, rowC, mkN_len, mkC_len], by simp [frB, baseOf], go_on ?_⟩; simp only [killA, killH, killRow, push_cast, simprocAttr])
  (try simp only [i1, push_cast, simprocAttr])
  (refine at_call ?_; (try simp only [push_cast, simprocAttr]); refine rwc_v (hE0) (go_on ?_); (try simp only [push_cast, simprocAttr]))
  (try simp only [Bool.not_true, v1, push_cast, simprocAttr])
  (try simp only [push_cast, simprocAttr]); refine call_lend [30000, 30001, 30002, 30003, 30004, 30005, 30006, 30007] none (lr := [rowN o.A.base, rowC o.A.log, rowN o.B.base, rowC o.B.log, rowN o.nA.base, rowC o.nA.log, rowN o.nB.base, rowC o.nB.log]) (by simp [ndB]) (by first | rfl | simp [rowsOf, hget, rdR, rowS, rowN, rowC, sC, ndC, cmC]) (by simp [idsL, idsA]) (by simp [mvN]) (by simpa [rnA, ixOf] using hM0) ?_
  rintro rv lr' rows ⟨rfl, rfl, rfl⟩
  unfold mk8
  (refine ⟨by simp [shB, mvF, rdR, rowS, rowN, rowC, mkN_len, mkC_len], by simp [frB, baseOf], go_on ?_⟩; simp only [killA, killH, killRow, push_cast, simprocAttr])
  refine at_call ?_
  simp only [mkN_len, mkC_len, push_cast, simprocAttr]
  refine rwc_v hH0 (go_on ?_)
  (try simp only [iE, push_cast, simprocAttr])
  ((try simp only [push_cast, simprocAttr]); refine at_share2 (by simp [isC2, isC]) (by first | rfl | simp [ren]) (hTd) (go_on ?_); (try simp only [push_cast, simprocAttr]))
  ((try simp only [push_cast, simprocAttr]); refine at_share2 (by simp [isC2, isC]) (by first | rfl | simp [ren]) (hId) (go_on ?_); (try simp only [push_cast, simprocAttr]))
  (refine at_call ?_; (try simp only [push_cast, simprocAttr]); refine rwc_v (hEo) (go_on ?_); (try simp only [push_cast, simprocAttr]))
  (try simp only [Bool.not_true, v1, push_cast, simprocAttr])
  refine at_call ?_
  simp only [mkN_len, mkC_len, push_cast, simprocAttr]
  refine rwc_v hH0 (go_on ?_)
  (try simp only [iE, push_cast, simprocAttr])
  refine at_ret ?_; simp only [Tryz.results12, push_cast, simprocAttr]
  simp [vX]
set_option maxHeartbeats 2000000 in
theorem FnExactSessionStep_4 (s : Ss) (q : SsOk s) (hn : sStep s = some ⟨s.A, s.B, false, st0, st0⟩) (hI : SmSs s → PC Tryz.prog 14 [ssA s] (rX (.tup [ssO4 s.A s.B false, bA true]) (rows4 s.A s.B))) : PC Tryz.prog 12 [ssA s] (vB true) := by
  have hZ := szSession_pc s 1048576 (by omega) (by omega) q
  unfold ssA ssC at hZ ⊢
  refine pc_enter Tryz.func12 rfl rfl fun w0 fb => go_on ?_; (try simp only [Tryz.ntmps12, push_cast, simprocAttr])
  (refine at_call ?_; (try simp only [push_cast, simprocAttr]); refine rwc_v (hZ) (go_on ?_); (try simp only [push_cast, simprocAttr]))
  refine at_b (fun hb => ?_) (fun hb => ?_)
  · (try simp only [hb, push_cast, simprocAttr])
    refine at_ret ?_; simp only [Tryz.results12, push_cast, simprocAttr]
    simp [vX]
  have hb' := of_ltI_f hb
  have hz := szSs_ok (by omega) (by omega) hb'
  have hs := hz.sm
  have hT := toSession_pc s hz
  have hTd := toSession_d s hz
  have hEq := eqSession_pc s s hs
  rw [decide_eq_true rfl] at hEq
  have A1 := hz.A1
  have A2 := hz.A2
  have B1 := hz.B1
  have B2 := hz.B2
  have C1 := hz.nA1
  have C2 := hz.nA2
  have D1 := hz.nB1
  have D2 := hz.nB2
  have hM := markSession_pcl s 1 (by omega) (by unfold mkE8; omega)
  have i1 : ltI (mkE8 s 1 : Nat) 0 = false := ltI_f (by omega)
  have v0 : (!(false == false)) = false := rfl
  have v1 : (!(true == true)) = false := rfl
  unfold ssA ssC at hTd hEq hT
  unfold ssO8 rows8 at hT hM
  replace hI := hI hs
  have hSp := specSessionStep_e s hs
  have hId := SessionStep_e s hs
  unfold ssO at hSp hId
  rw [hn] at hSp hId
  simp only [Option.getD_some, Option.isSome_some] at hSp hId
  have hE0 := eqSession_H s.A s.B false hs.A hs.B
  have hEo := eqSession_pc ⟨s.A, s.B, false, st0, st0⟩ ⟨s.A, s.B, false, st0, st0⟩ (sStep_sm hs hn)
  rw [decide_eq_true rfl] at hEo
  have hM0 := markSession_H s.A s.B false 1 (by omega) (by unfold endS; omega)
  have hH0 := heldSession_H s.A s.B false 1 (by omega) (by unfold endS; omega)
  have iE : ltI ((endS s.B (endS s.A 1) : Nat) : Int) 0 = false := ltI_f (by omega)
  obtain ⟨en, hen⟩ : ∃ en, en = endS s.B (endS s.A 1) := ⟨_, rfl⟩
  unfold markH at hM0
  rw [← hen] at hM0 hH0 iE
  unfold mkS endS at hH0
  unfold endS at hM0
  unfold ssA ssC at hSp hId hI hE0 hEo
  simp only at hSp hId hE0 hEo
  unfold ssH at hE0 hH0
  unfold ssO4 rows4 at hI hM0
  simp only at hH0
  (try simp only [hb, push_cast, simprocAttr])
  ((try simp only [push_cast, simprocAttr]); refine at_share2 (by simp [isC2, isC]) (by first | rfl | simp [ren]) (hTd) (go_on ?_); (try simp only [push_cast, simprocAttr]))
  ((try simp only [push_cast, simprocAttr]); refine at_share2 (by simp [isC2, isC]) (by first | rfl | simp [ren]) (hSp) (go_on ?_); (try simp only [push_cast, simprocAttr]))
  (refine at_call ?_; (try simp only [push_cast, simprocAttr]); refine rwc_r (hT) (by simp [flatV, flatL]) (flat_8 _) (by simp [frB, baseOf]) (go_on ?_); (try simp only [push_cast, simprocAttr]))
  (refine at_call ?_; (try simp only [push_cast, simprocAttr]); refine rwc_r (hI) (by simp [flatV, flatL]) (flat_4 _ _) (by simp [frB, baseOf]) (go_on ?_); (try simp only [push_cast, simprocAttr]))
  (refine at_call ?_; (try simp only [push_cast, simprocAttr]); refine rwc_v (hE0) (go_on ?_); (try simp only [push_cast, simprocAttr]))
  (try simp only [Bool.not_true, v1, push_cast, simprocAttr])
  refine at_draw rfl (by kernel_rfl) ?_; simp only [push_cast, simprocAttr]
  (refine at_shareD (by simp [isC2, isC]) (by first | rfl | simp [ren]) hTd ?_; (try simp only [push_cast, simprocAttr]))
  repeat' first | (refine at_bWn (fun hb => ?_) (fun hb => ?_) <;> simp only [Bool.not_true, hb, push_cast, simprocAttr]) | (refine at_bW (fun hb => ?_) (fun hb => ?_) <;> simp only [Bool.not_true, hb, push_cast, simprocAttr]) | (refine at_callD (by simp [clB, idsL, idsA, hget]) ?_; (try simp only [push_cast, simprocAttr]); first | (refine rcd_v (hEq) ?_; simp only [Bool.not_true, push_cast, simprocAttr]) | (refine rcd_d (hEq) (by simp [flatV, flatL, ctC, ndC, cmC]) (by simp [ren, ctC, ndC, cmC]) ?_; simp only [Bool.not_true, push_cast, simprocAttr])) | (refine at_done (by kernel_rfl) (by kernel_rfl) (go_on ?_); (try simp only [Bool.not_true, push_cast, simprocAttr]))
  (try simp only [push_cast, simprocAttr]); refine call_lend [27000, 27001, 27002, 27003, 27004, 27005, 27006, 27007] none (lr := [rowN s.A.base, rowC s.A.log, rowN s.B.base, rowC s.B.log, rowN s.nA.base, rowC s.nA.log, rowN s.nB.base, rowC s.nB.log]) (by simp [ndB]) (by first | rfl | simp [rowsOf, hget, rdR, rowS, rowN, rowC, sC, ndC, cmC]) (by simp [idsL, idsA]) (by simp [mvN]) (by simpa [rnA, ixOf] using hM) ?_
  rintro rv lr' rows ⟨rfl, rfl, rfl⟩
  unfold mk8
  (refine ⟨by simp [shB, mvF, rdR, rowS, rowN, rowC, mkN_len, mkC_len], by simp [frB, baseOf], go_on ?_⟩; simp only [killA, killH, killRow, push_cast, simprocAttr])
  (try simp only [i1, push_cast, simprocAttr])
  (refine at_call ?_; (try simp only [push_cast, simprocAttr]); refine rwc_v (hE0) (go_on ?_); (try simp only [push_cast, simprocAttr]))
  (try simp only [Bool.not_true, v1, push_cast, simprocAttr])
  (try simp only [push_cast, simprocAttr]); refine call_lend [30000, 30001, 30002, 30003] none (lr := [rowN s.A.base, rowC s.A.log, rowN s.B.base, rowC s.B.log]) (by simp [ndB]) (by first | rfl | simp [rowsOf, hget, rdR, rowS, rowN, rowC, sC, ndC, cmC]) (by simp [idsL, idsA]) (by simp [mvN]) (by simpa [rnA, ixOf] using hM0) ?_
  rintro rv lr' rows ⟨rfl, rfl, rfl⟩
  (refine ⟨by simp [shB, mvF, rdR, rowS, rowN, rowC, mkN_len, mkC_len], by simp [frB, baseOf], go_on ?_⟩; simp only [killA, killH, killRow, push_cast, simprocAttr])
  refine at_call ?_
  simp only [mkN_len, mkC_len, push_cast, simprocAttr]
  refine rwc_v hH0 (go_on ?_)
  (try simp only [iE, push_cast, simprocAttr])
  ((try simp only [push_cast, simprocAttr]); refine at_share2 (by simp [isC2, isC]) (by first | rfl | simp [ren]) (hTd) (go_on ?_); (try simp only [push_cast, simprocAttr]))
  ((try simp only [push_cast, simprocAttr]); refine at_share2 (by simp [isC2, isC]) (by first | rfl | simp [ren]) (hId) (go_on ?_); (try simp only [push_cast, simprocAttr]))
  (refine at_call ?_; (try simp only [push_cast, simprocAttr]); refine rwc_v (hEo) (go_on ?_); (try simp only [push_cast, simprocAttr]))
  (try simp only [Bool.not_true, v1, push_cast, simprocAttr])
  refine at_call ?_
  simp only [mkN_len, mkC_len, push_cast, simprocAttr]
  refine rwc_v hH0 (go_on ?_)
  (try simp only [iE, push_cast, simprocAttr])
  refine at_ret ?_; simp only [Tryz.results12, push_cast, simprocAttr]
  simp [vX]
theorem FnExactSessionStep_pc (s : Ss) (q : SsOk s) : PC Tryz.prog 12 [ssA s] (vB true) := by
  cases hn : sStep s with
  | none => exact FnExactSessionStep_0 s q hn
  | some o =>
    have hn' := hn
    unfold sStep at hn
    split at hn
    · rename_i hp
      split at hn
      · rename_i x y hr
        cases hn
        exact FnExactSessionStep_8 s q _ hn' fun hs => SessionStep_o1 s hs hp x y hr
      · cases hn
    · rename_i hp
      have hp : s.plan = true := by simpa using hp
      split at hn
      · rename_i h1
        rw [hp] at hn
        cases hn
        exact FnExactSessionStep_8 s q _ hn' fun hs => SessionStep_oA s hs hp h1
      · rename_i h1
        split at hn
        · rename_i h2
          rw [hp] at hn
          cases hn
          exact FnExactSessionStep_8 s q _ hn' fun hs => SessionStep_oB s hs hp (Decidable.not_not.1 h1) h2
        · rename_i h2
          cases hn
          exact FnExactSessionStep_4 s q hn' fun hs => SessionStep_oZ s hs hp (Decidable.not_not.1 h1) (Decidable.not_not.1 h2)
end Go.Proofs.YtdjglbedimpldaaGreatDoor
