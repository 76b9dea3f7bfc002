/- A part of the proof of FnExactRoundApart: texts VFnExactRoundApart. -/
import Derived.Test.YthifgndjpjaddaaGreatDoorZs6
set_option linter.unusedSimpArgs false
set_option linter.unusedVariables false
/-
  Walks: FnExactRoundApart.
-/
namespace Go.Proofs.YthifgndjpjaddaaGreatDoor
open Go Go.RowKit Go.Proofs
abbrev rowTx (l : List Str) : Row := ⟨9, 1, l.map sC, true⟩
attribute [local irreducible] RWp AW run kPe pe Kt effA gd gu br retR RDp runD kPeD brW gW effD
set_option maxRecDepth 100000
set_option maxHeartbeats 2000000 in
theorem FnExactRoundApart_pc (t : List Nd) (l : List Ev) (q : RdOk2 t l) : PC Tryz.prog 4 [ndA t, evsA l] (vB true) := by
  have hm := max63
  have hZ := szNodeS_pc t 1048576 (by omega) (by omega) (by have := q.b; omega) (fun n hn => by have := q.bp n hn; omega)
  refine pc_enter Tryz.func4 rfl rfl fun w0 fb => go_on ?_; (try simp only [Tryz.ntmps4, push_cast, simprocAttr])
  (refine at_call ?_; (try simp only [push_cast, simprocAttr]); refine rwc_v (hZ) (go_on ?_); (try simp only [push_cast, simprocAttr]))
  refine at_b (fun hb => ?_) (fun hb => ?_)
  · (try simp only [hb, push_cast, simprocAttr])
    refine at_ret ?_; simp only [Tryz.results4, push_cast, simprocAttr]
    simp [vX]
  have hb' := of_ltI_f hb
  obtain ⟨a1, a2, a3⟩ := szS_ok (by omega) hb'
  have hZ2 := szEventS_pc l _ hb' a3 (by have := q.e; omega) (fun n hn => by have := q.ep n hn; omega)
  (try simp only [hb, push_cast, simprocAttr])
  (refine at_call ?_; (try simp only [push_cast, simprocAttr]); refine rwc_v (hZ2) (go_on ?_); (try simp only [push_cast, simprocAttr]))
  refine at_b (fun hc => ?_) (fun hc => ?_)
  · (try simp only [hc, push_cast, simprocAttr])
    refine at_ret ?_; simp only [Tryz.results4, push_cast, simprocAttr]
    simp [vX]
  have hc' := of_ltI_f hc
  obtain ⟨b1, b2, b3⟩ := szS_ok hb' hc'
  simp only [List.length_map] at a1 b1
  have hln : l.length ≤ 1048576 := by omega
  have htn : t.length ≤ 1048576 := by omega
  have htp : ∀ n ∈ t, n.p.length < 4294967281 := fun n hn => by have := a2 _ (List.mem_map_of_mem hn); omega
  have hlp : ∀ e ∈ l, e.c.p.length < 4294967281 := fun e he => by have := b2 _ (List.mem_map_of_mem he); omega
  have ht : SmT2 t := ⟨⟨by omega, htp⟩, by omega⟩
  have hl : SmE l := ⟨by omega, hlp⟩
  clear hZ hZ2
  have hT := toNodeS_pc t htn
  have hTd := toNodeS_d t htn
  have hV := toEventS_pc l hln
  have hVd := toEventS_d l hln
  have hS := specRoundApart_d t ht l hl
  have hId := RoundApart_d t ht l hl
  have hEN := eqNodeS_pc t t (by omega)
  rw [decide_eq_true rfl] at hEN
  have hEE := eqEventS_pc l l (by omega)
  rw [decide_eq_true rfl] at hEE
  have hMN := markNodeS_pcl t 1 (by omega) (by omega)
  have hME := markEventS_pcl l (1 + 3 * t.length) (by omega) (by omega)
  have i1 : ltI (1 + 3 * (t.length : Int) + 6 * (l.length : Int)) 0 = false := ltI_f (by omega)
  push_cast at hME
  have hlen : (rApart t l).length ≤ 20 := rApart_len t l
  have hEo := eqStringS_pc (rApart t l) (rApart t l) (by omega)
  rw [decide_eq_true rfl] at hEo
  (try simp only [hc, push_cast, simprocAttr])
  ((try simp only [push_cast, simprocAttr]); refine at_share2 (by simp [isC2, isC]) (by first | rfl | simp [ren]) (hTd) (go_on ?_); (try simp only [push_cast, simprocAttr]))
  ((try simp only [push_cast, simprocAttr]); refine at_share2 (by simp [isC2, isC]) (by first | rfl | simp [ren]) (hVd) (go_on ?_); (try simp only [push_cast, simprocAttr]))
  ((try simp only [push_cast, simprocAttr]); refine at_share2 (by simp [isC2, isC]) (by first | rfl | simp [ren]) (hS) (go_on ?_); (try simp only [push_cast, simprocAttr]))
  (refine at_call ?_; (try simp only [push_cast, simprocAttr]); refine rwc_r (hT) rfl (flat_n _) (by simp [frB, baseOf]) (go_on ?_); (try simp only [push_cast, simprocAttr]))
  (refine at_call ?_; (try simp only [push_cast, simprocAttr]); refine rwc_r (hV) rfl (flat_ev _) (by simp [frB, baseOf]) (go_on ?_); (try simp only [push_cast, simprocAttr]))
  have hI : PC Tryz.prog 20 [ndA t, evsA l] (rX (.o 0 (rApart t l).length) [rowTx (rApart t l)]) := RoundApart_o t ht l hl
  have hMo : PCL Tryz.prog 22 [rowTx (rApart t l)] (mvF none) [.o 0 (rApart t l).length, iA ((1 : Nat) : Int)] (markD (1 + (rApart t l).length) (rowTx (mkS 1 (rApart t l)))) := markStringS_pcl (rApart t l) 1 (by omega) (by omega)
  have hHo := heldStringS_pc (rApart t l) 1 (by omega) (by omega)
  have i2 : ltI (1 + ((rApart t l).length : Int)) 0 = false := ltI_f (by omega)
  (refine at_call ?_; (try simp only [push_cast, simprocAttr]); refine rwc_r (hI) rfl (flat_s _) (by simp [frB, baseOf]) (go_on ?_); (try simp only [push_cast, simprocAttr]))
  (refine at_call ?_; (try simp only [push_cast, simprocAttr]); refine rwc_v (hEo) (go_on ?_); (try simp only [push_cast, simprocAttr]))
  (try simp only [Bool.not_true, push_cast, simprocAttr])
  ((try simp only [push_cast, simprocAttr]); refine at_share2 (by simp [isC2, isC]) (by first | rfl | simp [ren]) (hTd) (go_on ?_); (try simp only [push_cast, simprocAttr]))
  (refine at_call ?_; (try simp only [push_cast, simprocAttr]); refine rwc_v (hEN) (go_on ?_); (try simp only [push_cast, simprocAttr]))
  (try simp only [Bool.not_true, push_cast, simprocAttr])
  ((try simp only [push_cast, simprocAttr]); refine at_share2 (by simp [isC2, isC]) (by first | rfl | simp [ren]) (hVd) (go_on ?_); (try simp only [push_cast, simprocAttr]))
  (refine at_call ?_; (try simp only [push_cast, simprocAttr]); refine rwc_v (hEE) (go_on ?_); (try simp only [push_cast, simprocAttr]))
  (try simp only [Bool.not_true, push_cast, simprocAttr])
  (try simp only [push_cast, simprocAttr]); refine call_lend [31000] none (lr := [rowN t]) (by simp [ndB]) (by first | rfl | simp [rowsOf, hget, rowS, rowN, rowC, sC, ndC, cmC]) (by simp [idsL, idsA]) (by simp [mvN]) (by simpa [rnA, ixOf] using hMN) ?_
  rintro rv lr' rows ⟨rfl, rfl, rfl⟩
  (refine ⟨by simp [shB, mvF, rowS, rowN, rowC, mkN_len], by simp [frB, baseOf], go_on ?_⟩; simp only [killA, killH, killRow, push_cast, simprocAttr])
  (try simp only [push_cast, simprocAttr]); refine call_lend [33000] none (lr := [rowEv l]) (by simp [ndB]) (by first | rfl | simp [rowsOf, hget, rowS, rowN, rowC, sC, ndC, cmC]) (by simp [idsL, idsA]) (by simp [mvN]) (by simpa [rnA, ixOf] using hME) ?_
  rintro rv lr' rows ⟨rfl, rfl, rfl⟩
  (refine ⟨by simp [shB, mvF, rowS, rowN, rowC, mkEv_len], by simp [frB, baseOf], go_on ?_⟩; simp only [killA, killH, killRow, push_cast, simprocAttr])
  (try simp only [i1, push_cast, simprocAttr])
  (refine at_call ?_; (try simp only [push_cast, simprocAttr]); refine rwc_v (hEo) (go_on ?_); (try simp only [push_cast, simprocAttr]))
  (try simp only [Bool.not_true, push_cast, simprocAttr])
  (try simp only [push_cast, simprocAttr]); refine call_lend [36000] none (lr := [rowTx (rApart t l)]) (by simp [ndB]) (by first | rfl | simp [rowsOf, hget, rowS, rowN, rowC, sC, ndC, cmC]) (by simp [idsL, idsA]) (by simp [mvN]) (by simpa [rnA, ixOf] using hMo) ?_
  rintro rv lr' rows ⟨rfl, rfl, rfl⟩
  (refine ⟨by simp [shB, mvF, rowS, rowN, rowC, mkS_len], by simp [frB, baseOf], go_on ?_⟩; simp only [killA, killH, killRow, push_cast, simprocAttr])
  refine at_call ?_
  simp only [mkS_len, push_cast, simprocAttr]
  refine rwc_v hHo (go_on ?_)
  (try simp only [i2, eqI_self, Bool.not_true, push_cast, simprocAttr])
  ((try simp only [push_cast, simprocAttr]); refine at_share2 (by simp [isC2, isC]) (by first | rfl | simp [ren]) (hTd) (go_on ?_); (try simp only [push_cast, simprocAttr]))
  ((try simp only [push_cast, simprocAttr]); refine at_share2 (by simp [isC2, isC]) (by first | rfl | simp [ren]) (hVd) (go_on ?_); (try simp only [push_cast, simprocAttr]))
  ((try simp only [push_cast, simprocAttr]); refine at_share2 (by simp [isC2, isC]) (by first | rfl | simp [ren]) (hId) (go_on ?_); (try simp only [push_cast, simprocAttr]))
  (refine at_call ?_; (try simp only [push_cast, simprocAttr]); refine rwc_v (hEo) (go_on ?_); (try simp only [push_cast, simprocAttr]))
  (try simp only [Bool.not_true, push_cast, simprocAttr])
  refine at_call ?_
  simp only [mkS_len, push_cast, simprocAttr]
  refine rwc_v hHo (go_on ?_)
  (try simp only [i2, eqI_self, Bool.not_true, push_cast, simprocAttr])
  refine at_ret ?_; simp only [Tryz.results4, push_cast, simprocAttr]
  simp [vX]
end Go.Proofs.YthifgndjpjaddaaGreatDoor
