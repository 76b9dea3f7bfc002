/- A part of the proof of FnExactSessionRecover: texts Y6 Y4 VFnExactSessionRecover. -/
import Derived.Test.YtdjglbedimpldaaG5
set_option linter.unusedSimpArgs false
set_option linter.unusedVariables false
/-
  Walks: marks in a session; SessionRecover with rows of its own.
-/
namespace Go.Proofs.Ytdjglbedimpldaa
open Go Go.RowKit Go.Proofs
def mk8 (s : Ss) (k : Nat) : List Row := [rowN (mkN k s.A.base), rowC (mkC (k + 3 * s.A.base.length) s.A.log), rowN (mkN (k + 3 * s.A.base.length + 5 * s.A.log.length) s.B.base), rowC (mkC ((k + 3 * s.A.base.length + 5 * s.A.log.length) + 3 * s.B.base.length) s.B.log), rowN (mkN ((k + 3 * s.A.base.length + 5 * s.A.log.length) + 3 * s.B.base.length + 5 * s.B.log.length) s.nA.base), rowC (mkC (((k + 3 * s.A.base.length + 5 * s.A.log.length) + 3 * s.B.base.length + 5 * s.B.log.length) + 3 * s.nA.base.length) s.nA.log), rowN (mkN (((k + 3 * s.A.base.length + 5 * s.A.log.length) + 3 * s.B.base.length + 5 * s.B.log.length) + 3 * s.nA.base.length + 5 * s.nA.log.length) s.nB.base), rowC (mkC ((((k + 3 * s.A.base.length + 5 * s.A.log.length) + 3 * s.B.base.length + 5 * s.B.log.length) + 3 * s.nA.base.length + 5 * s.nA.log.length) + 3 * s.nB.base.length) s.nB.log)]
def mkE8 (s : Ss) (k : Nat) : Nat := (((k + 3 * s.A.base.length + 5 * s.A.log.length) + 3 * s.B.base.length + 5 * s.B.log.length) + 3 * s.nA.base.length + 5 * s.nA.log.length) + 3 * s.nB.base.length + 5 * s.nB.log.length
def mark8 (s : Ss) (k : Nat) (rv : AV) (lr' rows : List Row) : Prop := rv = iA ((mkE8 s k : Nat) : Int) ∧ lr' = mk8 s k ∧ rows = []
def ss4 (s t : St) : AV := .tup [.agg [iA s.ep, .o 0 s.base.length, .o 1 s.log.length], .agg [iA t.ep, .o 2 t.base.length, .o 3 t.log.length]]
def rows4 (s t : St) : List Row := [rowN s.base, rowC s.log, rowN t.base, rowC t.log]
theorem flat_4 (s t : St) : FlatR (rows4 s t) := flat_app (flat_nc s.base s.log) (flat_nc t.base t.log)
attribute [local irreducible] RWp AW run kPe pe Kt effA gd gu br retR RDp runD kPeD brW gW effD
set_option maxRecDepth 100000
theorem markSession_pcl (s : Ss) (k : Nat) (h0 : 0 < k) (hk : mkE8 s k ≤ 4611686018427387904) : PCL Try.prog 11 (rows8 s) (mvF none) [ssO8 s, iA k] (mark8 s k) := by
  unfold mkE8 at hk
  have hA := markSite_pcl s.A k (by omega) (by omega)
  have hB := markSite_pcl s.B (k + 3 * s.A.base.length + 5 * s.A.log.length) (by omega) (by omega)
  have hC := markSite_pcl s.nA ((k + 3 * s.A.base.length + 5 * s.A.log.length) + 3 * s.B.base.length + 5 * s.B.log.length) (by omega) (by omega)
  have hD := markSite_pcl s.nB (((k + 3 * s.A.base.length + 5 * s.A.log.length) + 3 * s.B.base.length + 5 * s.B.log.length) + 3 * s.nA.base.length + 5 * s.nA.log.length) (by omega) (by omega)
  unfold stO at hA hB hC hD
  unfold ssO8 rows8
  refine pcl_enter Try.func11 rfl rfl (by simp) fun w0 fb loc => go_on ?_; simp only [Try.ntmps11, hpL, nmL, mvF, renL, decide_true, decide_false, push_cast, simprocAttr]
  (try simp only [push_cast, simprocAttr]); refine call_lend [500000, 500001] none (lr := [rowN s.A.base, rowC s.A.log]) (by simp [ndB]) (by first | rfl | simp [rowsOf, hget, rdR, rowS, rowN, rowC, sC, ndC, cmC]) (by simp [idsL, idsA]) (by simp [mvN]) (by simpa [rnA, ixOf] using hA) ?_
  rintro rv lr' rows ⟨rfl, rfl, rfl⟩
  (refine ⟨by simp [shB, mvF, rdR, rowS, rowN, rowC, mkN_len, mkC_len], by simp [frB, baseOf], go_on ?_⟩; simp only [killA, killH, killRow, push_cast, simprocAttr])
  push_cast at hB
  (try simp only [push_cast, simprocAttr]); refine call_lend [500002, 500003] none (lr := [rowN s.B.base, rowC s.B.log]) (by simp [ndB]) (by first | rfl | simp [rowsOf, hget, rdR, rowS, rowN, rowC, sC, ndC, cmC]) (by simp [idsL, idsA]) (by simp [mvN]) (by simpa [rnA, ixOf] using hB) ?_
  rintro rv lr' rows ⟨rfl, rfl, rfl⟩
  (refine ⟨by simp [shB, mvF, rdR, rowS, rowN, rowC, mkN_len, mkC_len], by simp [frB, baseOf], go_on ?_⟩; simp only [killA, killH, killRow, push_cast, simprocAttr])
  push_cast at hC
  (try simp only [push_cast, simprocAttr]); refine call_lend [500004, 500005] none (lr := [rowN s.nA.base, rowC s.nA.log]) (by simp [ndB]) (by first | rfl | simp [rowsOf, hget, rdR, rowS, rowN, rowC, sC, ndC, cmC]) (by simp [idsL, idsA]) (by simp [mvN]) (by simpa [rnA, ixOf] using hC) ?_
  rintro rv lr' rows ⟨rfl, rfl, rfl⟩
  (refine ⟨by simp [shB, mvF, rdR, rowS, rowN, rowC, mkN_len, mkC_len], by simp [frB, baseOf], go_on ?_⟩; simp only [killA, killH, killRow, push_cast, simprocAttr])
  push_cast at hD
  (try simp only [push_cast, simprocAttr]); refine call_lend [500006, 500007] none (lr := [rowN s.nB.base, rowC s.nB.log]) (by simp [ndB]) (by first | rfl | simp [rowsOf, hget, rdR, rowS, rowN, rowC, sC, ndC, cmC]) (by simp [idsL, idsA]) (by simp [mvN]) (by simpa [rnA, ixOf] using hD) ?_
  rintro rv lr' rows ⟨rfl, rfl, rfl⟩
  (refine ⟨by simp [shB, mvF, rdR, rowS, rowN, rowC, mkN_len, mkC_len], by simp [frB, baseOf], go_on ?_⟩; simp only [killA, killH, killRow, push_cast, simprocAttr])
  have hfin : mark8 s k (iA ((mkE8 s k : Nat) : Int)) (mk8 s k) [] := ⟨rfl, rfl, rfl⟩
  unfold mkE8 mk8 at hfin
  push_cast at hfin
  (try simp only [push_cast, simprocAttr])
  (refine at_retL ?_; simp only [Try.results11, retL, push_cast, simprocAttr]; simpa [show List.range 8 = [0, 1, 2, 3, 4, 5, 6, 7] from rfl, nmL, mvF, ndB, ixOf, rowsOf, hget, rdR, rowS, rowN, rowC] using hfin)
end Go.Proofs.Ytdjglbedimpldaa
/-
  Walks: marks in a side, read again; a side of nothing.
-/
namespace Go.Proofs.Ytdjglbedimpldaa
open Go Go.RowKit Go.Proofs
attribute [local irreducible] RWp AW run kPe pe Kt effA gd gu br retR RDp runD kPeD brW gW effD
set_option maxRecDepth 100000
theorem heldSite_pc (s : St) (k : Nat) (h0 : 0 < k) (hk : k + 3 * s.base.length + 5 * s.log.length ≤ 4611686018427387904) :
    PC Try.prog 13 [stA' ⟨s.ep, mkN k s.base, mkC (k + 3 * s.base.length) s.log⟩, iA k] (vI ((k + 3 * s.base.length + 5 * s.log.length : Nat) : Int)) := by
  have hN := heldNodeS_pc s.base k h0 (by omega)
  have hC := heldCommandS_pc s.log (k + 3 * s.base.length) (by omega) (by omega)
  have i1 : ltI ((k : Int) + 3 * (s.base.length : Int)) 0 = false := ltI_f (by omega)
  have i2 : ltI ((k : Int) + 3 * (s.base.length : Int) + 5 * (s.log.length : Int)) 0 = false := ltI_f (by omega)
  push_cast at hC
  unfold stA' stC
  refine pc_enter Try.func13 rfl rfl fun w0 fb => go_on ?_; (try simp only [Try.ntmps13, push_cast, simprocAttr])
  (refine at_call ?_; (try simp only [push_cast, simprocAttr]); refine rwc_v (hN) (go_on ?_); (try simp only [push_cast, simprocAttr]))
  (try simp only [i1, push_cast, simprocAttr])
  (refine at_call ?_; (try simp only [push_cast, simprocAttr]); refine rwc_v (hC) (go_on ?_); (try simp only [push_cast, simprocAttr]))
  (try simp only [i2, push_cast, simprocAttr])
  refine at_ret ?_; simp only [Try.results13, push_cast, simprocAttr]
  simp [vX]
theorem markNodeS_0 (k : Nat) : PC Try.prog 22 [ndA [], iA k] (vI k) := by
  refine pc_enter Try.func22 rfl rfl fun w0 fb => go_on ?_; (try simp only [Try.ntmps22, push_cast, simprocAttr])
  refine at_loop (X := Unit) (fun _ => [(1, iA k), (5, iA 0)]) (fun _ => []) (fun _ => True) (fun _ => 0) () trivial ?_ ?_
  · (refine wk_ok ?_ ?_ ?_ ?_ <;> simp [leL, leH, idsL, idsA, idsR, inH, hget, sameRow, upA, hvA, dsts, dstO, setA_0, setA_1, setA_8, List.append, List.cons_append, List.nil_append])
  · rintro _ _
    simp only [upA, hvA, dsts, dstO, setA_0, setA_1, setA_8, List.append, List.cons_append, List.nil_append]
    refine go_on ?_
    (try simp only [push_cast, simprocAttr])
    refine at_ret ?_; simp only [Try.results22, push_cast, simprocAttr]
    simp [vX]
theorem markCommandS_0 (k : Nat) : PC Try.prog 23 [cmA [], iA k] (vI k) := by
  refine pc_enter Try.func23 rfl rfl fun w0 fb => go_on ?_; (try simp only [Try.ntmps23, push_cast, simprocAttr])
  refine at_loop (X := Unit) (fun _ => [(1, iA k), (5, iA 0)]) (fun _ => []) (fun _ => True) (fun _ => 0) () trivial ?_ ?_
  · (refine wk_ok ?_ ?_ ?_ ?_ <;> simp [leL, leH, idsL, idsA, idsR, inH, hget, sameRow, upA, hvA, dsts, dstO, setA_0, setA_1, setA_8, List.append, List.cons_append, List.nil_append])
  · rintro _ _
    simp only [upA, hvA, dsts, dstO, setA_0, setA_1, setA_8, List.append, List.cons_append, List.nil_append]
    refine go_on ?_
    (try simp only [push_cast, simprocAttr])
    refine at_ret ?_; simp only [Try.results23, push_cast, simprocAttr]
    simp [vX]
theorem markSite_0 (ep : Int) (k : Nat) : PC Try.prog 12 [stA' ⟨ep, [], []⟩, iA k] (vI k) := by
  unfold stA' stC
  refine pc_enter Try.func12 rfl rfl fun w0 fb => go_on ?_; (try simp only [Try.ntmps12, push_cast, simprocAttr])
  (refine at_call ?_; (try simp only [push_cast, simprocAttr]); refine rwc_v (markNodeS_0 k) (go_on ?_); (try simp only [push_cast, simprocAttr]))
  (refine at_call ?_; (try simp only [push_cast, simprocAttr]); refine rwc_v (markCommandS_0 k) (go_on ?_); (try simp only [push_cast, simprocAttr]))
  refine at_ret ?_; simp only [Try.results12, push_cast, simprocAttr]
  simp [vX]
theorem C.st00 {lv : Nat → Prop} {w : World} {u : Value} (h : C lv 0 w st00 u) : C lv 0 w (stA' st0) u := by
  unfold Go.Proofs.Ytdjglbedimpldaa.st00 at h
  cases h with
  | agg vs hs hg =>
    refine .agg vs hs fun j a ha => ?_
    rcases j with _ | _ | _ | j
    · cases ha; exact hg 0 _ rfl
    · cases ha
      have := hg 1 _ rfl
      generalize vs.getD 1 undef = v at this ⊢
      cases this
      exact .nilsl _
    · cases ha
      have := hg 2 _ rfl
      generalize vs.getD 2 undef = v at this ⊢
      cases this
      exact .nilsl _
    · simp [stC] at ha
theorem eqSite_0 : PC Try.prog 9 [st00, stA' st0] (vB true) := by
  have := eqSite_pc st0 st0 (by simp [st0]) (by simp [st0])
  rw [decide_eq_true rfl] at this
  refine this.args rfl fun j x y hx hy lv w u hc => ?_
  rcases j with _ | _ | j
  · cases hx; cases hy; exact hc.st00
  · cases hx; cases hy; exact hc
  · simp at hx
theorem markSite_00 (k : Nat) : PC Try.prog 12 [st00, iA k] (vI k) := by
  refine (markSite_0 0 k).args rfl fun j x y hx hy lv w u hc => ?_
  rcases j with _ | _ | j
  · cases hx; cases hy; exact hc.st00
  · cases hx; cases hy; exact hc
  · simp at hx
theorem heldSite_00 : PC Try.prog 13 [st00, iA 1] (vI 1) := by
  refine (heldSite_pc st0 1 (by omega) (by simp [st0])).args rfl fun j x y hx hy lv w u hc => ?_
  rcases j with _ | _ | j
  · cases hx; cases hy; exact hc.st00
  · cases hx; cases hy; exact hc
  · simp at hx
end Go.Proofs.Ytdjglbedimpldaa
/-
  Walks: SessionRecover with rows of its own; FnExactSessionRecover.
-/
namespace Go.Proofs.Ytdjglbedimpldaa
open Go Go.RowKit Go.Proofs
attribute [local irreducible] RWp AW run kPe pe Kt effA gd gu br retR RDp runD kPeD brW gW effD
set_option maxRecDepth 100000
theorem SessionRecover_o (s : Ss) (hs : SmSs s) : PC Try.prog 8 [ssA s] (rX (ss4 (sRec s).1 (sRec s).2) (rows4 (sRec s).1 (sRec s).2)) := by
  have h1 := clone_pc s.A hs.A.c1 hs.A.c2
  have h2 := clone_pc s.B hs.B.c1 hs.B.c2
  have h3 := clone_pc s.nA hs.nA.c1 hs.nA.c2
  have h4 := clone_pc s.nB hs.nB.c1 hs.nB.c2
  unfold stA' stC stO at *
  unfold ssA ssC
  refine pc_enter Try.func8 rfl rfl fun w0 fb => go_on ?_; (try simp only [Try.ntmps8, push_cast, simprocAttr])
  cases hp : s.plan with
  | true =>
    (try simp only [hp, push_cast, simprocAttr])
    refine at_draw rfl (by kernel_rfl) ?_; simp only [push_cast, simprocAttr]
    (refine at_callD (by simp [clB, idsL, idsA, hget]) ?_; (try simp only [push_cast, simprocAttr]); refine rcd_r h3 (by simp [flatV, flatL]) (flat_nc _ _) (by simp [frB, baseOf]) ?_; (try simp only [push_cast, simprocAttr]))
    (refine at_callD (by simp [clB, idsL, idsA, hget]) ?_; (try simp only [push_cast, simprocAttr]); refine rcd_r h4 (by simp [flatV, flatL]) (flat_nc _ _) (by simp [frB, baseOf]) ?_; (try simp only [push_cast, simprocAttr]))
    refine at_done (by kernel_rfl) (by kernel_rfl) (go_on ?_)
    (try simp only [push_cast, simprocAttr])
    refine at_ret ?_; simp only [Try.results8, push_cast, simprocAttr]
    simp [rX, ixOf, ss4, rows4, sRec, hp]
  | false =>
    (try simp only [hp, push_cast, simprocAttr])
    refine at_draw rfl (by kernel_rfl) ?_; simp only [push_cast, simprocAttr]
    (refine at_callD (by simp [clB, idsL, idsA, hget]) ?_; (try simp only [push_cast, simprocAttr]); refine rcd_r h1 (by simp [flatV, flatL]) (flat_nc _ _) (by simp [frB, baseOf]) ?_; (try simp only [push_cast, simprocAttr]))
    (refine at_callD (by simp [clB, idsL, idsA, hget]) ?_; (try simp only [push_cast, simprocAttr]); refine rcd_r h2 (by simp [flatV, flatL]) (flat_nc _ _) (by simp [frB, baseOf]) ?_; (try simp only [push_cast, simprocAttr]))
    refine at_done (by kernel_rfl) (by kernel_rfl) (go_on ?_)
    (try simp only [push_cast, simprocAttr])
    refine at_ret ?_; simp only [Try.results8, push_cast, simprocAttr]
    simp [rX, ixOf, ss4, rows4, sRec, hp]
theorem toSession_d (s : Ss) (q : SsSz s) : PC Try.prog 7 [ssA s] (vX (ssA s)) := by
  have := (toSession_pc s q).frzX
  simpa [viewN, hpOf, hget, ssO8, rows8, ssA, ssC, isC, tk] using this
theorem FnExactSessionRecover_pc (s : Ss) (q : SsOk s) : PC Try.prog 3 [ssA s] (vB true) := by
  have hZ := szSession_pc s 1048576 (by omega) (by omega) q
  unfold ssA ssC at hZ ⊢
  refine pc_enter Try.func3 rfl rfl fun w0 fb => go_on ?_; (try simp only [Try.ntmps3, push_cast, simprocAttr])
  (refine at_call ?_; (try simp only [push_cast, simprocAttr]); refine rwc_v (hZ) (go_on ?_); (try simp only [push_cast, simprocAttr]))
  refine at_b (fun hb => ?_) (fun hb => ?_)
  · (try simp only [hb, push_cast, simprocAttr])
    refine at_ret ?_; simp only [Try.results3, push_cast, simprocAttr]
    simp [vX]
  have hb' := of_ltI_f hb
  have hz := szSs_ok (by omega) (by omega) hb'
  have hs := hz.sm
  have hT := toSession_pc s hz
  have hTd := toSession_d s hz
  have hSp := specSessionRecover_d s hs
  have hId := SessionRecover_d s hs
  have hIo := SessionRecover_o s hs
  have hEq := eqSession_pc s s hs
  rw [decide_eq_true rfl] at hEq
  have A1 := hz.A1
  have A2 := hz.A2
  have B1 := hz.B1
  have B2 := hz.B2
  have C1 := hz.nA1
  have C2 := hz.nA2
  have D1 := hz.nB1
  have D2 := hz.nB2
  have hM := markSession_pcl s 1 (by omega) (by unfold mkE8; omega)
  obtain ⟨x, y, hxy⟩ : ∃ x y, sRec s = (x, y) := ⟨_, _, rfl⟩
  have hxs : x.base.length ≤ 1048576 ∧ x.log.length ≤ 1048576 ∧ y.base.length ≤ 1048576 ∧ y.log.length ≤ 1048576 := by
    unfold sRec at hxy
    split at hxy <;> (cases hxy; exact ⟨by omega, by omega, by omega, by omega⟩)
  obtain ⟨x1, x2, y1, y2⟩ := hxs
  rw [hxy] at hSp hId hIo
  have hE1 := eqSite_pc x x (by omega) (by omega)
  have hE2 := eqSite_pc y y (by omega) (by omega)
  rw [decide_eq_true rfl] at hE1 hE2
  have hM1 := markSite_pcl x 1 (by omega) (by omega)
  have hM2 := markSite_pcl y (1 + 3 * x.base.length + 5 * x.log.length) (by omega) (by omega)
  have hH1 := heldSite_pc x 1 (by omega) (by omega)
  have hH2 := heldSite_pc y (1 + 3 * x.base.length + 5 * x.log.length) (by omega) (by omega)
  push_cast at hM2 hH2
  unfold ssA ssC at hTd hSp hId hIo hEq hT
  unfold ssO8 rows8 at hT hM
  simp only at hSp hId hIo
  unfold ss4 rows4 at hIo
  unfold stA' stC at hSp hId hE1 hE2 hH1 hH2
  unfold stO at hM1 hM2
  have i1 : ltI (mkE8 s 1 : Nat) 0 = false := ltI_f (by omega)
  (try simp only [hb, push_cast, simprocAttr])
  ((try simp only [push_cast, simprocAttr]); refine at_share2 (by simp [isC2, isC]) (by first | rfl | simp [ren]) (hTd) (go_on ?_); (try simp only [push_cast, simprocAttr]))
  ((try simp only [push_cast, simprocAttr]); refine at_share2 (by simp [isC2, isC]) (by first | rfl | simp [ren]) (hSp) (go_on ?_); (try simp only [push_cast, simprocAttr]))
  (refine at_call ?_; (try simp only [push_cast, simprocAttr]); refine rwc_r (hT) (by simp [flatV, flatL]) (flat_8 _) (by simp [frB, baseOf]) (go_on ?_); (try simp only [push_cast, simprocAttr]))
  (refine at_call ?_; (try simp only [push_cast, simprocAttr]); refine rwc_r (hIo) (by simp [flatV, flatL]) (flat_4 _ _) (by simp [frB, baseOf]) (go_on ?_); (try simp only [push_cast, simprocAttr]))
  (refine at_call ?_; (try simp only [push_cast, simprocAttr]); refine rwc_v (hE1) (go_on ?_); (try simp only [push_cast, simprocAttr]))
  (try simp only [Bool.not_true, push_cast, simprocAttr])
  (refine at_call ?_; (try simp only [push_cast, simprocAttr]); refine rwc_v (hE2) (go_on ?_); (try simp only [push_cast, simprocAttr]))
  (try simp only [Bool.not_true, push_cast, simprocAttr])
  refine at_draw rfl (by kernel_rfl) ?_; simp only [push_cast, simprocAttr]
  (refine at_shareD (by simp [isC2, isC]) (by first | rfl | simp [ren]) hTd ?_; (try simp only [push_cast, simprocAttr]))
  repeat' first | (refine at_bWn (fun hb => ?_) (fun hb => ?_) <;> simp only [Bool.not_true, hb, push_cast, simprocAttr]) | (refine at_bW (fun hb => ?_) (fun hb => ?_) <;> simp only [Bool.not_true, hb, push_cast, simprocAttr]) | (refine at_callD (by simp [clB, idsL, idsA, hget]) ?_; (try simp only [push_cast, simprocAttr]); first | (refine rcd_v (hEq) ?_; simp only [Bool.not_true, push_cast, simprocAttr]) | (refine rcd_d (hEq) (by simp [flatV, flatL, ctC, ndC, cmC]) (by simp [ren, ctC, ndC, cmC]) ?_; simp only [Bool.not_true, push_cast, simprocAttr])) | (refine at_done (by kernel_rfl) (by kernel_rfl) (go_on ?_); (try simp only [Bool.not_true, push_cast, simprocAttr]))
  (try simp only [push_cast, simprocAttr]); refine call_lend [27000, 27001, 27002, 27003, 27004, 27005, 27006, 27007] none (lr := [rowN s.A.base, rowC s.A.log, rowN s.B.base, rowC s.B.log, rowN s.nA.base, rowC s.nA.log, rowN s.nB.base, rowC s.nB.log]) (by simp [ndB]) (by first | rfl | simp [rowsOf, hget, rdR, rowS, rowN, rowC, sC, ndC, cmC]) (by simp [idsL, idsA]) (by simp [mvN]) (by simpa [rnA, ixOf] using hM) ?_
  rintro rv lr' rows ⟨rfl, rfl, rfl⟩
  unfold mk8
  (refine ⟨by simp [shB, mvF, rdR, rowS, rowN, rowC, mkN_len, mkC_len], by simp [frB, baseOf], go_on ?_⟩; simp only [killA, killH, killRow, push_cast, simprocAttr])
  have i2 : ltI (1 + 3 * (x.base.length : Int) + 5 * (x.log.length : Int)) 0 = false := ltI_f (by omega)
  have i3 : ltI (1 + 3 * (x.base.length : Int) + 5 * (x.log.length : Int) + 3 * (y.base.length : Int) + 5 * (y.log.length : Int)) 0 = false := ltI_f (by omega)
  (try simp only [i1, push_cast, simprocAttr])
  (refine at_call ?_; (try simp only [push_cast, simprocAttr]); refine rwc_v (hE1) (go_on ?_); (try simp only [push_cast, simprocAttr]))
  (try simp only [Bool.not_true, push_cast, simprocAttr])
  (refine at_call ?_; (try simp only [push_cast, simprocAttr]); refine rwc_v (hE2) (go_on ?_); (try simp only [push_cast, simprocAttr]))
  (try simp only [Bool.not_true, push_cast, simprocAttr])
  (try simp only [push_cast, simprocAttr]); refine call_lend [30000, 30001] none (lr := [rowN x.base, rowC x.log]) (by simp [ndB]) (by first | rfl | simp [rowsOf, hget, rdR, rowS, rowN, rowC, sC, ndC, cmC]) (by simp [idsL, idsA]) (by simp [mvN]) (by simpa [rnA, ixOf] using hM1) ?_
  rintro rv lr' rows ⟨rfl, rfl, rfl⟩
  (refine ⟨by simp [shB, mvF, rdR, rowS, rowN, rowC, mkN_len, mkC_len], by simp [frB, baseOf], go_on ?_⟩; simp only [killA, killH, killRow, push_cast, simprocAttr])
  (try simp only [push_cast, simprocAttr]); refine call_lend [30002, 30003] none (lr := [rowN y.base, rowC y.log]) (by simp [ndB]) (by first | rfl | simp [rowsOf, hget, rdR, rowS, rowN, rowC, sC, ndC, cmC]) (by simp [idsL, idsA]) (by simp [mvN]) (by simpa [rnA, ixOf] using hM2) ?_
  rintro rv lr' rows ⟨rfl, rfl, rfl⟩
  (refine ⟨by simp [shB, mvF, rdR, rowS, rowN, rowC, mkN_len, mkC_len], by simp [frB, baseOf], go_on ?_⟩; simp only [killA, killH, killRow, push_cast, simprocAttr])
  refine at_call ?_
  simp only [mkN_len, mkC_len, push_cast, simprocAttr]
  refine rwc_v hH1 (go_on ?_)
  (try simp only [i2, push_cast, simprocAttr])
  refine at_call ?_
  simp only [mkN_len, mkC_len, push_cast, simprocAttr]
  refine rwc_v hH2 (go_on ?_)
  (try simp only [i3, push_cast, simprocAttr])
  ((try simp only [push_cast, simprocAttr]); refine at_share2 (by simp [isC2, isC]) (by first | rfl | simp [ren]) (hTd) (go_on ?_); (try simp only [push_cast, simprocAttr]))
  ((try simp only [push_cast, simprocAttr]); refine at_share2 (by simp [isC2, isC]) (by first | rfl | simp [ren]) (hId) (go_on ?_); (try simp only [push_cast, simprocAttr]))
  (refine at_call ?_; (try simp only [push_cast, simprocAttr]); refine rwc_v (hE1) (go_on ?_); (try simp only [push_cast, simprocAttr]))
  (try simp only [Bool.not_true, push_cast, simprocAttr])
  (refine at_call ?_; (try simp only [push_cast, simprocAttr]); refine rwc_v (hE2) (go_on ?_); (try simp only [push_cast, simprocAttr]))
  (try simp only [Bool.not_true, push_cast, simprocAttr])
  refine at_call ?_
  simp only [mkN_len, mkC_len, push_cast, simprocAttr]
  refine rwc_v hH1 (go_on ?_)
  (try simp only [i2, push_cast, simprocAttr])
  refine at_call ?_
  simp only [mkN_len, mkC_len, push_cast, simprocAttr]
  refine rwc_v hH2 (go_on ?_)
  (try simp only [i3, push_cast, simprocAttr])
  refine at_ret ?_; simp only [Try.results3, push_cast, simprocAttr]
  simp [vX]
end Go.Proofs.Ytdjglbedimpldaa
