/- A part of the proof of FnExactBookSteps: texts N35 N36 U12 U13 U14 U15 U16 M41 M47 M48 N33 N37 U17 U18 Y2 U19 U20 U21 N32 U22 U23 VFnExactBookSteps. -/
import Derived.Test.YtccifbbjbnjcfaaGreatDoorZt6
import Derived.Test.YtccifbbjbnjcfaaGreatDoorZt4
import Derived.Test.YtccifbbjbnjcfaaGreatDoorZt5
import Derived.LoopN
set_option linter.unusedSimpArgs false
set_option linter.unusedVariables false
/-
  Walks: impl.DiskWrite, set aside: the file there.
-/
namespace Go.Proofs.YtccifbbjbnjcfaaGreatDoor
open Go Go.RowKit Go.Proofs
attribute [local irreducible] RWp AW run kPe pe Kt effA gd gu br retR RDp runD kPeD brW gW effD
set_option maxRecDepth 100000
theorem DiskWrite_old10_o (bs : List BD) (nm : Int) (xs : List Int) (hx : xs.length ≤ 2000000) (hv : diskB bs = true) (hxb : bytesB xs = true) (hi : inB nm 1 3 = true) (d : BD) (hj : bs[0]? = some d) (hg : getB bs nm = some d) (hix : ixB bs nm = 0) (hb : ∃ d0, bs = [d0]) : PO Tryz.prog 48 [blsA bs, iA nm, intsA xs] (otB (writeD bs nm xs).1 (writeD bs nm xs).2) := by
  have hs := disk_sm hv
  have hn3 := disk_len hv
  have hV := DiskValid_pc bs hs
  have hB := bytesValid_pc xs (by omega)
  have hI := in_pc nm 1 3
  have hF := file_pc bs hs.n nm
  have hC := cloneDisk_pc bs hs
  have hi' : inR nm 1 3 = true := hi
  have hnm : 0 ≤ nm ∧ nm ≤ 3 := by simp only [inR, Bool.and_eq_true, decide_eq_true_eq] at hi'; omega
  have hwl := withB_len bs (wrB bs nm xs)
  have hnms := disk_names hv
  have hWs : SmD (wrB bs nm xs) := by
    unfold wrB
    cases hg : getB bs nm with
    | none => exact ⟨by simp, by simp only; omega⟩
    | some d =>
      have hm := (getB_name hg).2
      have hok := disk_okF hv hm
      simp only [okF, Bool.and_eq_true, decide_eq_true_eq] at hok
      exact ⟨(hs.d d hm).s, by simp only [List.length_append]; omega⟩
  have hws : SmB (withB bs (wrB bs nm xs)) := withB_sm hs (by omega) hWs
  obtain ⟨Y, hY⟩ : ∃ Y, Y = withB bs (wrB bs nm xs) := ⟨_, rfl⟩
  rw [← hY] at hws hwl
  have hwr : writeD bs nm xs = if diskB Y = true then (Y, true) else ([], false) := by unfold writeD; rw [hv, hxb, hi, ← hY]; rfl
  have hV2 := DiskValid_pc Y hws
  have hC2 := cloneDisk_o Y hws
  rw [hix] at hF
  obtain ⟨d0, rfl⟩ := hb
  obtain rfl : d0 = d := Option.some.inj hj
  have hfl : d0.fresh.length ≤ 400 := by
    have := disk_okF hv (getB_name hg).2
    simp only [okF, Bool.and_eq_true, decide_eq_true_eq] at this
    omega
  have hX := cloneDisk_at [d0] hs 0 d0 rfl
  have hR : rfRow (nmB [] 25000) (lnkR [d0] 0 d0 1 2) = ⟨79, 3, [[iA d0.name, .o 25001 d0.safe.length, .o 25002 d0.fresh.length]], false⟩ := by rw [lnk_rf _ (by simp)]; rfl
  have hS := sorted_pcl ([⟨d0.name, d0.safe, d0.fresh ++ xs⟩] : List BD) (by simp) fun d hd => by
    rcases mem_set_or (show d ∈ ([d0] : List BD).set 0 ⟨d0.name, d0.safe, d0.fresh ++ xs⟩ from hd) with hd | rfl
    · exact hnms d hd
    · exact hnms d0 (by simp)
  cases hd : diskB Y with
  | false =>
    have hr : writeD [d0] nm xs = ([], false) := by rw [hwr, hd]; rfl
    rw [hr]
    refine po_enter Tryz.func48 rfl rfl fun w0 => go_on ?_; (try simp only [Tryz.ntmps48, push_cast, simprocAttr])
    refine at_call ?_
    (try simp only [push_cast, simprocAttr])
    refine rwc_v hV ?_
    (try simp only [push_cast, simprocAttr])
    (refine at_dropS [6] (by refine wk_ok ?_ ?_ ?_ ?_ <;> simp [dropS, dropT, hasN, delL, hdel, leL, leH, idsL, idsA, idsR, inH, hget, sameRow]) ?_; simp only [dropS, dropT, hasN, delL, hdel, idsA, idsL, hget, List.map_cons, List.map_nil, List.all_cons, List.all_nil, List.append_nil, Bool.not_false, Bool.not_true, Bool.and_true, if_true, if_false, simprocAttr])
    refine go_on ?_
    (try simp only [hv, Bool.not_true, push_cast, simprocAttr])
    (refine at_call ?_; (try simp only [push_cast, simprocAttr]); refine rwc_v (hB) (go_on ?_); (try simp only [push_cast, simprocAttr]))
    (try simp only [hxb, Bool.not_true, push_cast, simprocAttr])
    (refine at_call ?_; (try simp only [push_cast, simprocAttr]); refine rwc_v (hI) (go_on ?_); (try simp only [push_cast, simprocAttr]))
    (try simp only [hi', Bool.not_true, push_cast, simprocAttr])
    refine call_lendX [] (lr := []) rfl rfl (by simp [idsL, idsA]) (by simpa [rfA] using hX) ?_
    rintro rv lr' rows ⟨rfl, rfl, rfl⟩
    refine ⟨rfl, by simp [frB, baseOf], go_on ?_⟩
    simp only [backX, hR, rowZ_rf, rfA, nmB, hsL, baseOf, hpOf, List.map_cons, List.map_nil, List.nil_append, List.length_nil, push_cast, simprocAttr]
    (refine at_call ?_; simp only [bC, viewN, hget, tk, isC, List.map_cons, List.map_nil, List.length_map, List.length_cons, List.length_nil, Nat.reduceAdd, Nat.reduceEqDiff, if_true, if_false, reduceIte, simprocAttr]; refine rwc_v (hF) (go_on ?_); (try simp only [push_cast, simprocAttr]))
    (try simp only [show ltI 0 0 = false from rfl, show toIx 0 1 = some 0 from rfl, bC, push_cast, simprocAttr])
    refine at_chk (by omega) ?_
    (try simp only [bC, push_cast, simprocAttr])
    (refine at_callW [25001, 25002] (by refine wk_frz ?_ ?_ ?_ ?_ <;> simp [← List.map_append, List.length_append, eq_self, frwS, frwH, frwRow, frzT, hasN, delL, hdel, leF, leHF, rowF, frzB, idsL, idsA, idsR, inH, hget, sameRow, viewN, tk]) ?_; simp only [← List.map_append, List.length_append, eq_self, frwS, frwH, frwRow, frzT, hasN, delL, hdel, idsA, idsL, viewN, hget, tk, isC, List.map_cons, List.map_nil, List.all_cons, List.all_nil, List.append_nil, List.drop, List.getElem?_cons_zero, List.getElem?_cons_succ, Bool.not_false, Bool.not_true, Bool.and_true, if_true, if_false, Nat.zero_add, List.length_map, simprocAttr])
    (try simp only [push_cast, simprocAttr]); refine call_lend [25000] none (lr := [rowB [⟨d0.name, d0.safe, d0.fresh ++ xs⟩]]) (by simp [ndB]) (by first | rfl | simp [rowsOf, hget, rdR, rowS, rowN, rowC, sC, ndC, cmC]) (by simp [idsL, idsA]) (by simp [mvN]) (by simpa [rnA, ixOf] using hS) ?_
    rintro rv lr' rows ⟨L', g1, g2, rfl, rfl, rfl⟩
    have hlen := g1.length_eq
    simp only [List.length_cons, List.length_nil, Nat.reduceAdd] at hlen
    have hLY : L' = Y := by rw [hY]; exact wr_old hv hj hg g1 g2
    (refine ⟨by simp [shB, mvF, hlen], by simp [frB, baseOf], go_on ?_⟩; simp only [killA, killH, killRow, push_cast, simprocAttr])
    rw [hLY]
    have hYl : Y.length = 1 := by rw [← hLY]; exact hlen
    (try simp only [push_cast, simprocAttr])
    (refine at_call ?_; simp only [hYl, viewN, hget, tk, isC, List.map_cons, List.map_nil, List.length_map, List.length_cons, List.length_nil, Nat.reduceAdd, Nat.reduceEqDiff, if_true, if_false, reduceIte, simprocAttr]; refine rwc_v (hV2) (go_on ?_); (try simp only [push_cast, simprocAttr]))
    (try simp only [hd, Bool.not_false, push_cast, simprocAttr])
    (refine at_retO (Ch.refl w0) (l := [.o 6 0, bA false]) (by simp only [Tryz.results48, push_cast, simprocAttr]) ?_)
    exact fun loc a w v hR hG => ownNil (Ch.refl w0) rfl hR hG
  | true =>
    have hr : writeD [d0] nm xs = (Y, true) := by rw [hwr, hd]; rfl
    rw [hr]
    refine po_enter Tryz.func48 rfl rfl fun w0 => go_on ?_; (try simp only [Tryz.ntmps48, push_cast, simprocAttr])
    refine at_call ?_
    (try simp only [push_cast, simprocAttr])
    refine rwc_v hV ?_
    (try simp only [push_cast, simprocAttr])
    (refine at_dropS [6] (by refine wk_ok ?_ ?_ ?_ ?_ <;> simp [dropS, dropT, hasN, delL, hdel, leL, leH, idsL, idsA, idsR, inH, hget, sameRow]) ?_; simp only [dropS, dropT, hasN, delL, hdel, idsA, idsL, hget, List.map_cons, List.map_nil, List.all_cons, List.all_nil, List.append_nil, Bool.not_false, Bool.not_true, Bool.and_true, if_true, if_false, simprocAttr])
    refine go_on ?_
    (try simp only [hv, Bool.not_true, push_cast, simprocAttr])
    (refine at_call ?_; (try simp only [push_cast, simprocAttr]); refine rwc_v (hB) (go_on ?_); (try simp only [push_cast, simprocAttr]))
    (try simp only [hxb, Bool.not_true, push_cast, simprocAttr])
    (refine at_call ?_; (try simp only [push_cast, simprocAttr]); refine rwc_v (hI) (go_on ?_); (try simp only [push_cast, simprocAttr]))
    (try simp only [hi', Bool.not_true, push_cast, simprocAttr])
    refine call_lendX [] (lr := []) rfl rfl (by simp [idsL, idsA]) (by simpa [rfA] using hX) ?_
    rintro rv lr' rows ⟨rfl, rfl, rfl⟩
    refine ⟨rfl, by simp [frB, baseOf], go_on ?_⟩
    simp only [backX, hR, rowZ_rf, rfA, nmB, hsL, baseOf, hpOf, List.map_cons, List.map_nil, List.nil_append, List.length_nil, push_cast, simprocAttr]
    (refine at_call ?_; simp only [bC, viewN, hget, tk, isC, List.map_cons, List.map_nil, List.length_map, List.length_cons, List.length_nil, Nat.reduceAdd, Nat.reduceEqDiff, if_true, if_false, reduceIte, simprocAttr]; refine rwc_v (hF) (go_on ?_); (try simp only [push_cast, simprocAttr]))
    (try simp only [show ltI 0 0 = false from rfl, show toIx 0 1 = some 0 from rfl, bC, push_cast, simprocAttr])
    refine at_chk (by omega) ?_
    (try simp only [bC, push_cast, simprocAttr])
    (refine at_callW [25001, 25002] (by refine wk_frz ?_ ?_ ?_ ?_ <;> simp [← List.map_append, List.length_append, eq_self, frwS, frwH, frwRow, frzT, hasN, delL, hdel, leF, leHF, rowF, frzB, idsL, idsA, idsR, inH, hget, sameRow, viewN, tk]) ?_; simp only [← List.map_append, List.length_append, eq_self, frwS, frwH, frwRow, frzT, hasN, delL, hdel, idsA, idsL, viewN, hget, tk, isC, List.map_cons, List.map_nil, List.all_cons, List.all_nil, List.append_nil, List.drop, List.getElem?_cons_zero, List.getElem?_cons_succ, Bool.not_false, Bool.not_true, Bool.and_true, if_true, if_false, Nat.zero_add, List.length_map, simprocAttr])
    (try simp only [push_cast, simprocAttr]); refine call_lend [25000] none (lr := [rowB [⟨d0.name, d0.safe, d0.fresh ++ xs⟩]]) (by simp [ndB]) (by first | rfl | simp [rowsOf, hget, rdR, rowS, rowN, rowC, sC, ndC, cmC]) (by simp [idsL, idsA]) (by simp [mvN]) (by simpa [rnA, ixOf] using hS) ?_
    rintro rv lr' rows ⟨L', g1, g2, rfl, rfl, rfl⟩
    have hlen := g1.length_eq
    simp only [List.length_cons, List.length_nil, Nat.reduceAdd] at hlen
    have hLY : L' = Y := by rw [hY]; exact wr_old hv hj hg g1 g2
    (refine ⟨by simp [shB, mvF, hlen], by simp [frB, baseOf], go_on ?_⟩; simp only [killA, killH, killRow, push_cast, simprocAttr])
    rw [hLY]
    have hYl : Y.length = 1 := by rw [← hLY]; exact hlen
    (try simp only [push_cast, simprocAttr])
    (refine at_call ?_; simp only [hYl, viewN, hget, tk, isC, List.map_cons, List.map_nil, List.length_map, List.length_cons, List.length_nil, Nat.reduceAdd, Nat.reduceEqDiff, if_true, if_false, reduceIte, simprocAttr]; refine rwc_v (hV2) (go_on ?_); (try simp only [push_cast, simprocAttr]))
    (try simp only [hd, Bool.not_true, push_cast, simprocAttr])
    (refine at_callW [25000] (by refine wk_frz ?_ ?_ ?_ ?_ <;> simp [hYl, frwS, frwH, frwRow, frzT, hasN, delL, hdel, leF, leHF, rowF, frzB, idsL, idsA, idsR, inH, hget, sameRow, viewN, tk]) ?_; simp only [hYl, frwS, frwH, frwRow, frzT, hasN, delL, hdel, idsA, idsL, viewN, hget, tk, isC, List.map_cons, List.map_nil, List.all_cons, List.all_nil, List.append_nil, List.drop, List.getElem?_cons_zero, List.getElem?_cons_succ, Bool.not_false, Bool.not_true, Bool.and_true, if_true, if_false, Nat.zero_add, List.length_map, simprocAttr])
    refine call_PO rfl [blsA Y] ⟨ga_c rfl, trivial⟩ hC2 ?_
    rintro w2 lent2 X x hN ⟨u, us, rfl, hO⟩
    obtain ⟨g0, cp0, rfl⟩ := hO.some (by omega)
    refine go_on ?_
    (try simp only [push_cast, simprocAttr])
    (refine at_retO (hN.ch _ _ (Ch.refl w0)) (l := [.v (.slice (some ⟨g0, 0, none⟩) Y.length cp0), bA true]) (by simp only [Tryz.results48, push_cast, simprocAttr]) ?_)
    exact fun loc a w v hR hG => otOut hR hO hN.xfb hN.xge hG
theorem DiskWrite_old20_o (bs : List BD) (nm : Int) (xs : List Int) (hx : xs.length ≤ 2000000) (hv : diskB bs = true) (hxb : bytesB xs = true) (hi : inB nm 1 3 = true) (d : BD) (hj : bs[0]? = some d) (hg : getB bs nm = some d) (hix : ixB bs nm = 0) (hb : ∃ d0 d1, bs = [d0, d1]) : PO Tryz.prog 48 [blsA bs, iA nm, intsA xs] (otB (writeD bs nm xs).1 (writeD bs nm xs).2) := by
  have hs := disk_sm hv
  have hn3 := disk_len hv
  have hV := DiskValid_pc bs hs
  have hB := bytesValid_pc xs (by omega)
  have hI := in_pc nm 1 3
  have hF := file_pc bs hs.n nm
  have hC := cloneDisk_pc bs hs
  have hi' : inR nm 1 3 = true := hi
  have hnm : 0 ≤ nm ∧ nm ≤ 3 := by simp only [inR, Bool.and_eq_true, decide_eq_true_eq] at hi'; omega
  have hwl := withB_len bs (wrB bs nm xs)
  have hnms := disk_names hv
  have hWs : SmD (wrB bs nm xs) := by
    unfold wrB
    cases hg : getB bs nm with
    | none => exact ⟨by simp, by simp only; omega⟩
    | some d =>
      have hm := (getB_name hg).2
      have hok := disk_okF hv hm
      simp only [okF, Bool.and_eq_true, decide_eq_true_eq] at hok
      exact ⟨(hs.d d hm).s, by simp only [List.length_append]; omega⟩
  have hws : SmB (withB bs (wrB bs nm xs)) := withB_sm hs (by omega) hWs
  obtain ⟨Y, hY⟩ : ∃ Y, Y = withB bs (wrB bs nm xs) := ⟨_, rfl⟩
  rw [← hY] at hws hwl
  have hwr : writeD bs nm xs = if diskB Y = true then (Y, true) else ([], false) := by unfold writeD; rw [hv, hxb, hi, ← hY]; rfl
  have hV2 := DiskValid_pc Y hws
  have hC2 := cloneDisk_o Y hws
  rw [hix] at hF
  obtain ⟨d0, d1, rfl⟩ := hb
  obtain rfl : d0 = d := Option.some.inj hj
  have hfl : d0.fresh.length ≤ 400 := by
    have := disk_okF hv (getB_name hg).2
    simp only [okF, Bool.and_eq_true, decide_eq_true_eq] at this
    omega
  have hX := cloneDisk_at [d0, d1] hs 0 d0 rfl
  have hR : rfRow (nmB [] 25000) (lnkR [d0, d1] 0 d0 1 2) = ⟨79, 3, [[iA d0.name, .o 25001 d0.safe.length, .o 25002 d0.fresh.length], [iA d1.name, intsA d1.safe, intsA d1.fresh]], false⟩ := by rw [lnk_rf _ (by simp)]; rfl
  have hS := sorted_pcl ([⟨d0.name, d0.safe, d0.fresh ++ xs⟩, d1] : List BD) (by simp) fun d hd => by
    rcases mem_set_or (show d ∈ ([d0, d1] : List BD).set 0 ⟨d0.name, d0.safe, d0.fresh ++ xs⟩ from hd) with hd | rfl
    · exact hnms d hd
    · exact hnms d0 (by simp)
  cases hd : diskB Y with
  | false =>
    have hr : writeD [d0, d1] nm xs = ([], false) := by rw [hwr, hd]; rfl
    rw [hr]
    refine po_enter Tryz.func48 rfl rfl fun w0 => go_on ?_; (try simp only [Tryz.ntmps48, push_cast, simprocAttr])
    refine at_call ?_
    (try simp only [push_cast, simprocAttr])
    refine rwc_v hV ?_
    (try simp only [push_cast, simprocAttr])
    (refine at_dropS [6] (by refine wk_ok ?_ ?_ ?_ ?_ <;> simp [dropS, dropT, hasN, delL, hdel, leL, leH, idsL, idsA, idsR, inH, hget, sameRow]) ?_; simp only [dropS, dropT, hasN, delL, hdel, idsA, idsL, hget, List.map_cons, List.map_nil, List.all_cons, List.all_nil, List.append_nil, Bool.not_false, Bool.not_true, Bool.and_true, if_true, if_false, simprocAttr])
    refine go_on ?_
    (try simp only [hv, Bool.not_true, push_cast, simprocAttr])
    (refine at_call ?_; (try simp only [push_cast, simprocAttr]); refine rwc_v (hB) (go_on ?_); (try simp only [push_cast, simprocAttr]))
    (try simp only [hxb, Bool.not_true, push_cast, simprocAttr])
    (refine at_call ?_; (try simp only [push_cast, simprocAttr]); refine rwc_v (hI) (go_on ?_); (try simp only [push_cast, simprocAttr]))
    (try simp only [hi', Bool.not_true, push_cast, simprocAttr])
    refine call_lendX [] (lr := []) rfl rfl (by simp [idsL, idsA]) (by simpa [rfA] using hX) ?_
    rintro rv lr' rows ⟨rfl, rfl, rfl⟩
    refine ⟨rfl, by simp [frB, baseOf], go_on ?_⟩
    simp only [backX, hR, rowZ_rf, rfA, nmB, hsL, baseOf, hpOf, List.map_cons, List.map_nil, List.nil_append, List.length_nil, push_cast, simprocAttr]
    (refine at_call ?_; simp only [bC, viewN, hget, tk, isC, List.map_cons, List.map_nil, List.length_map, List.length_cons, List.length_nil, Nat.reduceAdd, Nat.reduceEqDiff, if_true, if_false, reduceIte, simprocAttr]; refine rwc_v (hF) (go_on ?_); (try simp only [push_cast, simprocAttr]))
    (try simp only [show ltI 0 0 = false from rfl, show toIx 0 2 = some 0 from rfl, bC, push_cast, simprocAttr])
    refine at_chk (by omega) ?_
    (try simp only [bC, push_cast, simprocAttr])
    (refine at_callW [25001, 25002] (by refine wk_frz ?_ ?_ ?_ ?_ <;> simp [← List.map_append, List.length_append, eq_self, frwS, frwH, frwRow, frzT, hasN, delL, hdel, leF, leHF, rowF, frzB, idsL, idsA, idsR, inH, hget, sameRow, viewN, tk]) ?_; simp only [← List.map_append, List.length_append, eq_self, frwS, frwH, frwRow, frzT, hasN, delL, hdel, idsA, idsL, viewN, hget, tk, isC, List.map_cons, List.map_nil, List.all_cons, List.all_nil, List.append_nil, List.drop, List.getElem?_cons_zero, List.getElem?_cons_succ, Bool.not_false, Bool.not_true, Bool.and_true, if_true, if_false, Nat.zero_add, List.length_map, simprocAttr])
    (try simp only [push_cast, simprocAttr]); refine call_lend [25000] none (lr := [rowB [⟨d0.name, d0.safe, d0.fresh ++ xs⟩, d1]]) (by simp [ndB]) (by first | rfl | simp [rowsOf, hget, rdR, rowS, rowN, rowC, sC, ndC, cmC]) (by simp [idsL, idsA]) (by simp [mvN]) (by simpa [rnA, ixOf] using hS) ?_
    rintro rv lr' rows ⟨L', g1, g2, rfl, rfl, rfl⟩
    have hlen := g1.length_eq
    simp only [List.length_cons, List.length_nil, Nat.reduceAdd] at hlen
    have hLY : L' = Y := by rw [hY]; exact wr_old hv hj hg g1 g2
    (refine ⟨by simp [shB, mvF, hlen], by simp [frB, baseOf], go_on ?_⟩; simp only [killA, killH, killRow, push_cast, simprocAttr])
    rw [hLY]
    have hYl : Y.length = 2 := by rw [← hLY]; exact hlen
    (try simp only [push_cast, simprocAttr])
    (refine at_call ?_; simp only [hYl, viewN, hget, tk, isC, List.map_cons, List.map_nil, List.length_map, List.length_cons, List.length_nil, Nat.reduceAdd, Nat.reduceEqDiff, if_true, if_false, reduceIte, simprocAttr]; refine rwc_v (hV2) (go_on ?_); (try simp only [push_cast, simprocAttr]))
    (try simp only [hd, Bool.not_false, push_cast, simprocAttr])
    (refine at_retO (Ch.refl w0) (l := [.o 6 0, bA false]) (by simp only [Tryz.results48, push_cast, simprocAttr]) ?_)
    exact fun loc a w v hR hG => ownNil (Ch.refl w0) rfl hR hG
  | true =>
    have hr : writeD [d0, d1] nm xs = (Y, true) := by rw [hwr, hd]; rfl
    rw [hr]
    refine po_enter Tryz.func48 rfl rfl fun w0 => go_on ?_; (try simp only [Tryz.ntmps48, push_cast, simprocAttr])
    refine at_call ?_
    (try simp only [push_cast, simprocAttr])
    refine rwc_v hV ?_
    (try simp only [push_cast, simprocAttr])
    (refine at_dropS [6] (by refine wk_ok ?_ ?_ ?_ ?_ <;> simp [dropS, dropT, hasN, delL, hdel, leL, leH, idsL, idsA, idsR, inH, hget, sameRow]) ?_; simp only [dropS, dropT, hasN, delL, hdel, idsA, idsL, hget, List.map_cons, List.map_nil, List.all_cons, List.all_nil, List.append_nil, Bool.not_false, Bool.not_true, Bool.and_true, if_true, if_false, simprocAttr])
    refine go_on ?_
    (try simp only [hv, Bool.not_true, push_cast, simprocAttr])
    (refine at_call ?_; (try simp only [push_cast, simprocAttr]); refine rwc_v (hB) (go_on ?_); (try simp only [push_cast, simprocAttr]))
    (try simp only [hxb, Bool.not_true, push_cast, simprocAttr])
    (refine at_call ?_; (try simp only [push_cast, simprocAttr]); refine rwc_v (hI) (go_on ?_); (try simp only [push_cast, simprocAttr]))
    (try simp only [hi', Bool.not_true, push_cast, simprocAttr])
    refine call_lendX [] (lr := []) rfl rfl (by simp [idsL, idsA]) (by simpa [rfA] using hX) ?_
    rintro rv lr' rows ⟨rfl, rfl, rfl⟩
    refine ⟨rfl, by simp [frB, baseOf], go_on ?_⟩
    simp only [backX, hR, rowZ_rf, rfA, nmB, hsL, baseOf, hpOf, List.map_cons, List.map_nil, List.nil_append, List.length_nil, push_cast, simprocAttr]
    (refine at_call ?_; simp only [bC, viewN, hget, tk, isC, List.map_cons, List.map_nil, List.length_map, List.length_cons, List.length_nil, Nat.reduceAdd, Nat.reduceEqDiff, if_true, if_false, reduceIte, simprocAttr]; refine rwc_v (hF) (go_on ?_); (try simp only [push_cast, simprocAttr]))
    (try simp only [show ltI 0 0 = false from rfl, show toIx 0 2 = some 0 from rfl, bC, push_cast, simprocAttr])
    refine at_chk (by omega) ?_
    (try simp only [bC, push_cast, simprocAttr])
    (refine at_callW [25001, 25002] (by refine wk_frz ?_ ?_ ?_ ?_ <;> simp [← List.map_append, List.length_append, eq_self, frwS, frwH, frwRow, frzT, hasN, delL, hdel, leF, leHF, rowF, frzB, idsL, idsA, idsR, inH, hget, sameRow, viewN, tk]) ?_; simp only [← List.map_append, List.length_append, eq_self, frwS, frwH, frwRow, frzT, hasN, delL, hdel, idsA, idsL, viewN, hget, tk, isC, List.map_cons, List.map_nil, List.all_cons, List.all_nil, List.append_nil, List.drop, List.getElem?_cons_zero, List.getElem?_cons_succ, Bool.not_false, Bool.not_true, Bool.and_true, if_true, if_false, Nat.zero_add, List.length_map, simprocAttr])
    (try simp only [push_cast, simprocAttr]); refine call_lend [25000] none (lr := [rowB [⟨d0.name, d0.safe, d0.fresh ++ xs⟩, d1]]) (by simp [ndB]) (by first | rfl | simp [rowsOf, hget, rdR, rowS, rowN, rowC, sC, ndC, cmC]) (by simp [idsL, idsA]) (by simp [mvN]) (by simpa [rnA, ixOf] using hS) ?_
    rintro rv lr' rows ⟨L', g1, g2, rfl, rfl, rfl⟩
    have hlen := g1.length_eq
    simp only [List.length_cons, List.length_nil, Nat.reduceAdd] at hlen
    have hLY : L' = Y := by rw [hY]; exact wr_old hv hj hg g1 g2
    (refine ⟨by simp [shB, mvF, hlen], by simp [frB, baseOf], go_on ?_⟩; simp only [killA, killH, killRow, push_cast, simprocAttr])
    rw [hLY]
    have hYl : Y.length = 2 := by rw [← hLY]; exact hlen
    (try simp only [push_cast, simprocAttr])
    (refine at_call ?_; simp only [hYl, viewN, hget, tk, isC, List.map_cons, List.map_nil, List.length_map, List.length_cons, List.length_nil, Nat.reduceAdd, Nat.reduceEqDiff, if_true, if_false, reduceIte, simprocAttr]; refine rwc_v (hV2) (go_on ?_); (try simp only [push_cast, simprocAttr]))
    (try simp only [hd, Bool.not_true, push_cast, simprocAttr])
    (refine at_callW [25000] (by refine wk_frz ?_ ?_ ?_ ?_ <;> simp [hYl, frwS, frwH, frwRow, frzT, hasN, delL, hdel, leF, leHF, rowF, frzB, idsL, idsA, idsR, inH, hget, sameRow, viewN, tk]) ?_; simp only [hYl, frwS, frwH, frwRow, frzT, hasN, delL, hdel, idsA, idsL, viewN, hget, tk, isC, List.map_cons, List.map_nil, List.all_cons, List.all_nil, List.append_nil, List.drop, List.getElem?_cons_zero, List.getElem?_cons_succ, Bool.not_false, Bool.not_true, Bool.and_true, if_true, if_false, Nat.zero_add, List.length_map, simprocAttr])
    refine call_PO rfl [blsA Y] ⟨ga_c rfl, trivial⟩ hC2 ?_
    rintro w2 lent2 X x hN ⟨u, us, rfl, hO⟩
    obtain ⟨g0, cp0, rfl⟩ := hO.some (by omega)
    refine go_on ?_
    (try simp only [push_cast, simprocAttr])
    (refine at_retO (hN.ch _ _ (Ch.refl w0)) (l := [.v (.slice (some ⟨g0, 0, none⟩) Y.length cp0), bA true]) (by simp only [Tryz.results48, push_cast, simprocAttr]) ?_)
    exact fun loc a w v hR hG => otOut hR hO hN.xfb hN.xge hG
theorem DiskWrite_old21_o (bs : List BD) (nm : Int) (xs : List Int) (hx : xs.length ≤ 2000000) (hv : diskB bs = true) (hxb : bytesB xs = true) (hi : inB nm 1 3 = true) (d : BD) (hj : bs[1]? = some d) (hg : getB bs nm = some d) (hix : ixB bs nm = 1) (hb : ∃ d0 d1, bs = [d0, d1]) : PO Tryz.prog 48 [blsA bs, iA nm, intsA xs] (otB (writeD bs nm xs).1 (writeD bs nm xs).2) := by
  have hs := disk_sm hv
  have hn3 := disk_len hv
  have hV := DiskValid_pc bs hs
  have hB := bytesValid_pc xs (by omega)
  have hI := in_pc nm 1 3
  have hF := file_pc bs hs.n nm
  have hC := cloneDisk_pc bs hs
  have hi' : inR nm 1 3 = true := hi
  have hnm : 0 ≤ nm ∧ nm ≤ 3 := by simp only [inR, Bool.and_eq_true, decide_eq_true_eq] at hi'; omega
  have hwl := withB_len bs (wrB bs nm xs)
  have hnms := disk_names hv
  have hWs : SmD (wrB bs nm xs) := by
    unfold wrB
    cases hg : getB bs nm with
    | none => exact ⟨by simp, by simp only; omega⟩
    | some d =>
      have hm := (getB_name hg).2
      have hok := disk_okF hv hm
      simp only [okF, Bool.and_eq_true, decide_eq_true_eq] at hok
      exact ⟨(hs.d d hm).s, by simp only [List.length_append]; omega⟩
  have hws : SmB (withB bs (wrB bs nm xs)) := withB_sm hs (by omega) hWs
  obtain ⟨Y, hY⟩ : ∃ Y, Y = withB bs (wrB bs nm xs) := ⟨_, rfl⟩
  rw [← hY] at hws hwl
  have hwr : writeD bs nm xs = if diskB Y = true then (Y, true) else ([], false) := by unfold writeD; rw [hv, hxb, hi, ← hY]; rfl
  have hV2 := DiskValid_pc Y hws
  have hC2 := cloneDisk_o Y hws
  rw [hix] at hF
  obtain ⟨d0, d1, rfl⟩ := hb
  obtain rfl : d1 = d := Option.some.inj hj
  have hfl : d1.fresh.length ≤ 400 := by
    have := disk_okF hv (getB_name hg).2
    simp only [okF, Bool.and_eq_true, decide_eq_true_eq] at this
    omega
  have hX := cloneDisk_at [d0, d1] hs 1 d1 rfl
  have hR : rfRow (nmB [] 25000) (lnkR [d0, d1] 1 d1 1 2) = ⟨79, 3, [[iA d0.name, intsA d0.safe, intsA d0.fresh], [iA d1.name, .o 25001 d1.safe.length, .o 25002 d1.fresh.length]], false⟩ := by rw [lnk_rf _ (by simp)]; rfl
  have hS := sorted_pcl ([d0, ⟨d1.name, d1.safe, d1.fresh ++ xs⟩] : List BD) (by simp) fun d hd => by
    rcases mem_set_or (show d ∈ ([d0, d1] : List BD).set 1 ⟨d1.name, d1.safe, d1.fresh ++ xs⟩ from hd) with hd | rfl
    · exact hnms d hd
    · exact hnms d1 (by simp)
  cases hd : diskB Y with
  | false =>
    have hr : writeD [d0, d1] nm xs = ([], false) := by rw [hwr, hd]; rfl
    rw [hr]
    refine po_enter Tryz.func48 rfl rfl fun w0 => go_on ?_; (try simp only [Tryz.ntmps48, push_cast, simprocAttr])
    refine at_call ?_
    (try simp only [push_cast, simprocAttr])
    refine rwc_v hV ?_
    (try simp only [push_cast, simprocAttr])
    (refine at_dropS [6] (by refine wk_ok ?_ ?_ ?_ ?_ <;> simp [dropS, dropT, hasN, delL, hdel, leL, leH, idsL, idsA, idsR, inH, hget, sameRow]) ?_; simp only [dropS, dropT, hasN, delL, hdel, idsA, idsL, hget, List.map_cons, List.map_nil, List.all_cons, List.all_nil, List.append_nil, Bool.not_false, Bool.not_true, Bool.and_true, if_true, if_false, simprocAttr])
    refine go_on ?_
    (try simp only [hv, Bool.not_true, push_cast, simprocAttr])
    (refine at_call ?_; (try simp only [push_cast, simprocAttr]); refine rwc_v (hB) (go_on ?_); (try simp only [push_cast, simprocAttr]))
    (try simp only [hxb, Bool.not_true, push_cast, simprocAttr])
    (refine at_call ?_; (try simp only [push_cast, simprocAttr]); refine rwc_v (hI) (go_on ?_); (try simp only [push_cast, simprocAttr]))
    (try simp only [hi', Bool.not_true, push_cast, simprocAttr])
    refine call_lendX [] (lr := []) rfl rfl (by simp [idsL, idsA]) (by simpa [rfA] using hX) ?_
    rintro rv lr' rows ⟨rfl, rfl, rfl⟩
    refine ⟨rfl, by simp [frB, baseOf], go_on ?_⟩
    simp only [backX, hR, rowZ_rf, rfA, nmB, hsL, baseOf, hpOf, List.map_cons, List.map_nil, List.nil_append, List.length_nil, push_cast, simprocAttr]
    (refine at_call ?_; simp only [bC, viewN, hget, tk, isC, List.map_cons, List.map_nil, List.length_map, List.length_cons, List.length_nil, Nat.reduceAdd, Nat.reduceEqDiff, if_true, if_false, reduceIte, simprocAttr]; refine rwc_v (hF) (go_on ?_); (try simp only [push_cast, simprocAttr]))
    (try simp only [show ltI 1 0 = false from rfl, show toIx 1 2 = some 1 from rfl, bC, push_cast, simprocAttr])
    refine at_chk (by omega) ?_
    (try simp only [bC, push_cast, simprocAttr])
    (refine at_callW [25001, 25002] (by refine wk_frz ?_ ?_ ?_ ?_ <;> simp [← List.map_append, List.length_append, eq_self, frwS, frwH, frwRow, frzT, hasN, delL, hdel, leF, leHF, rowF, frzB, idsL, idsA, idsR, inH, hget, sameRow, viewN, tk]) ?_; simp only [← List.map_append, List.length_append, eq_self, frwS, frwH, frwRow, frzT, hasN, delL, hdel, idsA, idsL, viewN, hget, tk, isC, List.map_cons, List.map_nil, List.all_cons, List.all_nil, List.append_nil, List.drop, List.getElem?_cons_zero, List.getElem?_cons_succ, Bool.not_false, Bool.not_true, Bool.and_true, if_true, if_false, Nat.zero_add, List.length_map, simprocAttr])
    (try simp only [push_cast, simprocAttr]); refine call_lend [25000] none (lr := [rowB [d0, ⟨d1.name, d1.safe, d1.fresh ++ xs⟩]]) (by simp [ndB]) (by first | rfl | simp [rowsOf, hget, rdR, rowS, rowN, rowC, sC, ndC, cmC]) (by simp [idsL, idsA]) (by simp [mvN]) (by simpa [rnA, ixOf] using hS) ?_
    rintro rv lr' rows ⟨L', g1, g2, rfl, rfl, rfl⟩
    have hlen := g1.length_eq
    simp only [List.length_cons, List.length_nil, Nat.reduceAdd] at hlen
    have hLY : L' = Y := by rw [hY]; exact wr_old hv hj hg g1 g2
    (refine ⟨by simp [shB, mvF, hlen], by simp [frB, baseOf], go_on ?_⟩; simp only [killA, killH, killRow, push_cast, simprocAttr])
    rw [hLY]
    have hYl : Y.length = 2 := by rw [← hLY]; exact hlen
    (try simp only [push_cast, simprocAttr])
    (refine at_call ?_; simp only [hYl, viewN, hget, tk, isC, List.map_cons, List.map_nil, List.length_map, List.length_cons, List.length_nil, Nat.reduceAdd, Nat.reduceEqDiff, if_true, if_false, reduceIte, simprocAttr]; refine rwc_v (hV2) (go_on ?_); (try simp only [push_cast, simprocAttr]))
    (try simp only [hd, Bool.not_false, push_cast, simprocAttr])
    (refine at_retO (Ch.refl w0) (l := [.o 6 0, bA false]) (by simp only [Tryz.results48, push_cast, simprocAttr]) ?_)
    exact fun loc a w v hR hG => ownNil (Ch.refl w0) rfl hR hG
  | true =>
    have hr : writeD [d0, d1] nm xs = (Y, true) := by rw [hwr, hd]; rfl
    rw [hr]
    refine po_enter Tryz.func48 rfl rfl fun w0 => go_on ?_; (try simp only [Tryz.ntmps48, push_cast, simprocAttr])
    refine at_call ?_
    (try simp only [push_cast, simprocAttr])
    refine rwc_v hV ?_
    (try simp only [push_cast, simprocAttr])
    (refine at_dropS [6] (by refine wk_ok ?_ ?_ ?_ ?_ <;> simp [dropS, dropT, hasN, delL, hdel, leL, leH, idsL, idsA, idsR, inH, hget, sameRow]) ?_; simp only [dropS, dropT, hasN, delL, hdel, idsA, idsL, hget, List.map_cons, List.map_nil, List.all_cons, List.all_nil, List.append_nil, Bool.not_false, Bool.not_true, Bool.and_true, if_true, if_false, simprocAttr])
    refine go_on ?_
    (try simp only [hv, Bool.not_true, push_cast, simprocAttr])
    (refine at_call ?_; (try simp only [push_cast, simprocAttr]); refine rwc_v (hB) (go_on ?_); (try simp only [push_cast, simprocAttr]))
    (try simp only [hxb, Bool.not_true, push_cast, simprocAttr])
    (refine at_call ?_; (try simp only [push_cast, simprocAttr]); refine rwc_v (hI) (go_on ?_); (try simp only [push_cast, simprocAttr]))
    (try simp only [hi', Bool.not_true, push_cast, simprocAttr])
    refine call_lendX [] (lr := []) rfl rfl (by simp [idsL, idsA]) (by simpa [rfA] using hX) ?_
    rintro rv lr' rows ⟨rfl, rfl, rfl⟩
    refine ⟨rfl, by simp [frB, baseOf], go_on ?_⟩
    simp only [backX, hR, rowZ_rf, rfA, nmB, hsL, baseOf, hpOf, List.map_cons, List.map_nil, List.nil_append, List.length_nil, push_cast, simprocAttr]
    (refine at_call ?_; simp only [bC, viewN, hget, tk, isC, List.map_cons, List.map_nil, List.length_map, List.length_cons, List.length_nil, Nat.reduceAdd, Nat.reduceEqDiff, if_true, if_false, reduceIte, simprocAttr]; refine rwc_v (hF) (go_on ?_); (try simp only [push_cast, simprocAttr]))
    (try simp only [show ltI 1 0 = false from rfl, show toIx 1 2 = some 1 from rfl, bC, push_cast, simprocAttr])
    refine at_chk (by omega) ?_
    (try simp only [bC, push_cast, simprocAttr])
    (refine at_callW [25001, 25002] (by refine wk_frz ?_ ?_ ?_ ?_ <;> simp [← List.map_append, List.length_append, eq_self, frwS, frwH, frwRow, frzT, hasN, delL, hdel, leF, leHF, rowF, frzB, idsL, idsA, idsR, inH, hget, sameRow, viewN, tk]) ?_; simp only [← List.map_append, List.length_append, eq_self, frwS, frwH, frwRow, frzT, hasN, delL, hdel, idsA, idsL, viewN, hget, tk, isC, List.map_cons, List.map_nil, List.all_cons, List.all_nil, List.append_nil, List.drop, List.getElem?_cons_zero, List.getElem?_cons_succ, Bool.not_false, Bool.not_true, Bool.and_true, if_true, if_false, Nat.zero_add, List.length_map, simprocAttr])
    (try simp only [push_cast, simprocAttr]); refine call_lend [25000] none (lr := [rowB [d0, ⟨d1.name, d1.safe, d1.fresh ++ xs⟩]]) (by simp [ndB]) (by first | rfl | simp [rowsOf, hget, rdR, rowS, rowN, rowC, sC, ndC, cmC]) (by simp [idsL, idsA]) (by simp [mvN]) (by simpa [rnA, ixOf] using hS) ?_
    rintro rv lr' rows ⟨L', g1, g2, rfl, rfl, rfl⟩
    have hlen := g1.length_eq
    simp only [List.length_cons, List.length_nil, Nat.reduceAdd] at hlen
    have hLY : L' = Y := by rw [hY]; exact wr_old hv hj hg g1 g2
    (refine ⟨by simp [shB, mvF, hlen], by simp [frB, baseOf], go_on ?_⟩; simp only [killA, killH, killRow, push_cast, simprocAttr])
    rw [hLY]
    have hYl : Y.length = 2 := by rw [← hLY]; exact hlen
    (try simp only [push_cast, simprocAttr])
    (refine at_call ?_; simp only [hYl, viewN, hget, tk, isC, List.map_cons, List.map_nil, List.length_map, List.length_cons, List.length_nil, Nat.reduceAdd, Nat.reduceEqDiff, if_true, if_false, reduceIte, simprocAttr]; refine rwc_v (hV2) (go_on ?_); (try simp only [push_cast, simprocAttr]))
    (try simp only [hd, Bool.not_true, push_cast, simprocAttr])
    (refine at_callW [25000] (by refine wk_frz ?_ ?_ ?_ ?_ <;> simp [hYl, frwS, frwH, frwRow, frzT, hasN, delL, hdel, leF, leHF, rowF, frzB, idsL, idsA, idsR, inH, hget, sameRow, viewN, tk]) ?_; simp only [hYl, frwS, frwH, frwRow, frzT, hasN, delL, hdel, idsA, idsL, viewN, hget, tk, isC, List.map_cons, List.map_nil, List.all_cons, List.all_nil, List.append_nil, List.drop, List.getElem?_cons_zero, List.getElem?_cons_succ, Bool.not_false, Bool.not_true, Bool.and_true, if_true, if_false, Nat.zero_add, List.length_map, simprocAttr])
    refine call_PO rfl [blsA Y] ⟨ga_c rfl, trivial⟩ hC2 ?_
    rintro w2 lent2 X x hN ⟨u, us, rfl, hO⟩
    obtain ⟨g0, cp0, rfl⟩ := hO.some (by omega)
    refine go_on ?_
    (try simp only [push_cast, simprocAttr])
    (refine at_retO (hN.ch _ _ (Ch.refl w0)) (l := [.v (.slice (some ⟨g0, 0, none⟩) Y.length cp0), bA true]) (by simp only [Tryz.results48, push_cast, simprocAttr]) ?_)
    exact fun loc a w v hR hG => otOut hR hO hN.xfb hN.xge hG
theorem DiskWrite_old30_o (bs : List BD) (nm : Int) (xs : List Int) (hx : xs.length ≤ 2000000) (hv : diskB bs = true) (hxb : bytesB xs = true) (hi : inB nm 1 3 = true) (d : BD) (hj : bs[0]? = some d) (hg : getB bs nm = some d) (hix : ixB bs nm = 0) (hb : ∃ d0 d1 d2, bs = [d0, d1, d2]) : PO Tryz.prog 48 [blsA bs, iA nm, intsA xs] (otB (writeD bs nm xs).1 (writeD bs nm xs).2) := by
  have hs := disk_sm hv
  have hn3 := disk_len hv
  have hV := DiskValid_pc bs hs
  have hB := bytesValid_pc xs (by omega)
  have hI := in_pc nm 1 3
  have hF := file_pc bs hs.n nm
  have hC := cloneDisk_pc bs hs
  have hi' : inR nm 1 3 = true := hi
  have hnm : 0 ≤ nm ∧ nm ≤ 3 := by simp only [inR, Bool.and_eq_true, decide_eq_true_eq] at hi'; omega
  have hwl := withB_len bs (wrB bs nm xs)
  have hnms := disk_names hv
  have hWs : SmD (wrB bs nm xs) := by
    unfold wrB
    cases hg : getB bs nm with
    | none => exact ⟨by simp, by simp only; omega⟩
    | some d =>
      have hm := (getB_name hg).2
      have hok := disk_okF hv hm
      simp only [okF, Bool.and_eq_true, decide_eq_true_eq] at hok
      exact ⟨(hs.d d hm).s, by simp only [List.length_append]; omega⟩
  have hws : SmB (withB bs (wrB bs nm xs)) := withB_sm hs (by omega) hWs
  obtain ⟨Y, hY⟩ : ∃ Y, Y = withB bs (wrB bs nm xs) := ⟨_, rfl⟩
  rw [← hY] at hws hwl
  have hwr : writeD bs nm xs = if diskB Y = true then (Y, true) else ([], false) := by unfold writeD; rw [hv, hxb, hi, ← hY]; rfl
  have hV2 := DiskValid_pc Y hws
  have hC2 := cloneDisk_o Y hws
  rw [hix] at hF
  obtain ⟨d0, d1, d2, rfl⟩ := hb
  obtain rfl : d0 = d := Option.some.inj hj
  have hfl : d0.fresh.length ≤ 400 := by
    have := disk_okF hv (getB_name hg).2
    simp only [okF, Bool.and_eq_true, decide_eq_true_eq] at this
    omega
  have hX := cloneDisk_at [d0, d1, d2] hs 0 d0 rfl
  have hR : rfRow (nmB [] 25000) (lnkR [d0, d1, d2] 0 d0 1 2) = ⟨79, 3, [[iA d0.name, .o 25001 d0.safe.length, .o 25002 d0.fresh.length], [iA d1.name, intsA d1.safe, intsA d1.fresh], [iA d2.name, intsA d2.safe, intsA d2.fresh]], false⟩ := by rw [lnk_rf _ (by simp)]; rfl
  have hS := sorted_pcl ([⟨d0.name, d0.safe, d0.fresh ++ xs⟩, d1, d2] : List BD) (by simp) fun d hd => by
    rcases mem_set_or (show d ∈ ([d0, d1, d2] : List BD).set 0 ⟨d0.name, d0.safe, d0.fresh ++ xs⟩ from hd) with hd | rfl
    · exact hnms d hd
    · exact hnms d0 (by simp)
  cases hd : diskB Y with
  | false =>
    have hr : writeD [d0, d1, d2] nm xs = ([], false) := by rw [hwr, hd]; rfl
    rw [hr]
    refine po_enter Tryz.func48 rfl rfl fun w0 => go_on ?_; (try simp only [Tryz.ntmps48, push_cast, simprocAttr])
    refine at_call ?_
    (try simp only [push_cast, simprocAttr])
    refine rwc_v hV ?_
    (try simp only [push_cast, simprocAttr])
    (refine at_dropS [6] (by refine wk_ok ?_ ?_ ?_ ?_ <;> simp [dropS, dropT, hasN, delL, hdel, leL, leH, idsL, idsA, idsR, inH, hget, sameRow]) ?_; simp only [dropS, dropT, hasN, delL, hdel, idsA, idsL, hget, List.map_cons, List.map_nil, List.all_cons, List.all_nil, List.append_nil, Bool.not_false, Bool.not_true, Bool.and_true, if_true, if_false, simprocAttr])
    refine go_on ?_
    (try simp only [hv, Bool.not_true, push_cast, simprocAttr])
    (refine at_call ?_; (try simp only [push_cast, simprocAttr]); refine rwc_v (hB) (go_on ?_); (try simp only [push_cast, simprocAttr]))
    (try simp only [hxb, Bool.not_true, push_cast, simprocAttr])
    (refine at_call ?_; (try simp only [push_cast, simprocAttr]); refine rwc_v (hI) (go_on ?_); (try simp only [push_cast, simprocAttr]))
    (try simp only [hi', Bool.not_true, push_cast, simprocAttr])
    refine call_lendX [] (lr := []) rfl rfl (by simp [idsL, idsA]) (by simpa [rfA] using hX) ?_
    rintro rv lr' rows ⟨rfl, rfl, rfl⟩
    refine ⟨rfl, by simp [frB, baseOf], go_on ?_⟩
    simp only [backX, hR, rowZ_rf, rfA, nmB, hsL, baseOf, hpOf, List.map_cons, List.map_nil, List.nil_append, List.length_nil, push_cast, simprocAttr]
    (refine at_call ?_; simp only [bC, viewN, hget, tk, isC, List.map_cons, List.map_nil, List.length_map, List.length_cons, List.length_nil, Nat.reduceAdd, Nat.reduceEqDiff, if_true, if_false, reduceIte, simprocAttr]; refine rwc_v (hF) (go_on ?_); (try simp only [push_cast, simprocAttr]))
    (try simp only [show ltI 0 0 = false from rfl, show toIx 0 3 = some 0 from rfl, bC, push_cast, simprocAttr])
    refine at_chk (by omega) ?_
    (try simp only [bC, push_cast, simprocAttr])
    (refine at_callW [25001, 25002] (by refine wk_frz ?_ ?_ ?_ ?_ <;> simp [← List.map_append, List.length_append, eq_self, frwS, frwH, frwRow, frzT, hasN, delL, hdel, leF, leHF, rowF, frzB, idsL, idsA, idsR, inH, hget, sameRow, viewN, tk]) ?_; simp only [← List.map_append, List.length_append, eq_self, frwS, frwH, frwRow, frzT, hasN, delL, hdel, idsA, idsL, viewN, hget, tk, isC, List.map_cons, List.map_nil, List.all_cons, List.all_nil, List.append_nil, List.drop, List.getElem?_cons_zero, List.getElem?_cons_succ, Bool.not_false, Bool.not_true, Bool.and_true, if_true, if_false, Nat.zero_add, List.length_map, simprocAttr])
    (try simp only [push_cast, simprocAttr]); refine call_lend [25000] none (lr := [rowB [⟨d0.name, d0.safe, d0.fresh ++ xs⟩, d1, d2]]) (by simp [ndB]) (by first | rfl | simp [rowsOf, hget, rdR, rowS, rowN, rowC, sC, ndC, cmC]) (by simp [idsL, idsA]) (by simp [mvN]) (by simpa [rnA, ixOf] using hS) ?_
    rintro rv lr' rows ⟨L', g1, g2, rfl, rfl, rfl⟩
    have hlen := g1.length_eq
    simp only [List.length_cons, List.length_nil, Nat.reduceAdd] at hlen
    have hLY : L' = Y := by rw [hY]; exact wr_old hv hj hg g1 g2
    (refine ⟨by simp [shB, mvF, hlen], by simp [frB, baseOf], go_on ?_⟩; simp only [killA, killH, killRow, push_cast, simprocAttr])
    rw [hLY]
    have hYl : Y.length = 3 := by rw [← hLY]; exact hlen
    (try simp only [push_cast, simprocAttr])
    (refine at_call ?_; simp only [hYl, viewN, hget, tk, isC, List.map_cons, List.map_nil, List.length_map, List.length_cons, List.length_nil, Nat.reduceAdd, Nat.reduceEqDiff, if_true, if_false, reduceIte, simprocAttr]; refine rwc_v (hV2) (go_on ?_); (try simp only [push_cast, simprocAttr]))
    (try simp only [hd, Bool.not_false, push_cast, simprocAttr])
    (refine at_retO (Ch.refl w0) (l := [.o 6 0, bA false]) (by simp only [Tryz.results48, push_cast, simprocAttr]) ?_)
    exact fun loc a w v hR hG => ownNil (Ch.refl w0) rfl hR hG
  | true =>
    have hr : writeD [d0, d1, d2] nm xs = (Y, true) := by rw [hwr, hd]; rfl
    rw [hr]
    refine po_enter Tryz.func48 rfl rfl fun w0 => go_on ?_; (try simp only [Tryz.ntmps48, push_cast, simprocAttr])
    refine at_call ?_
    (try simp only [push_cast, simprocAttr])
    refine rwc_v hV ?_
    (try simp only [push_cast, simprocAttr])
    (refine at_dropS [6] (by refine wk_ok ?_ ?_ ?_ ?_ <;> simp [dropS, dropT, hasN, delL, hdel, leL, leH, idsL, idsA, idsR, inH, hget, sameRow]) ?_; simp only [dropS, dropT, hasN, delL, hdel, idsA, idsL, hget, List.map_cons, List.map_nil, List.all_cons, List.all_nil, List.append_nil, Bool.not_false, Bool.not_true, Bool.and_true, if_true, if_false, simprocAttr])
    refine go_on ?_
    (try simp only [hv, Bool.not_true, push_cast, simprocAttr])
    (refine at_call ?_; (try simp only [push_cast, simprocAttr]); refine rwc_v (hB) (go_on ?_); (try simp only [push_cast, simprocAttr]))
    (try simp only [hxb, Bool.not_true, push_cast, simprocAttr])
    (refine at_call ?_; (try simp only [push_cast, simprocAttr]); refine rwc_v (hI) (go_on ?_); (try simp only [push_cast, simprocAttr]))
    (try simp only [hi', Bool.not_true, push_cast, simprocAttr])
    refine call_lendX [] (lr := []) rfl rfl (by simp [idsL, idsA]) (by simpa [rfA] using hX) ?_
    rintro rv lr' rows ⟨rfl, rfl, rfl⟩
    refine ⟨rfl, by simp [frB, baseOf], go_on ?_⟩
    simp only [backX, hR, rowZ_rf, rfA, nmB, hsL, baseOf, hpOf, List.map_cons, List.map_nil, List.nil_append, List.length_nil, push_cast, simprocAttr]
    (refine at_call ?_; simp only [bC, viewN, hget, tk, isC, List.map_cons, List.map_nil, List.length_map, List.length_cons, List.length_nil, Nat.reduceAdd, Nat.reduceEqDiff, if_true, if_false, reduceIte, simprocAttr]; refine rwc_v (hF) (go_on ?_); (try simp only [push_cast, simprocAttr]))
    (try simp only [show ltI 0 0 = false from rfl, show toIx 0 3 = some 0 from rfl, bC, push_cast, simprocAttr])
    refine at_chk (by omega) ?_
    (try simp only [bC, push_cast, simprocAttr])
    (refine at_callW [25001, 25002] (by refine wk_frz ?_ ?_ ?_ ?_ <;> simp [← List.map_append, List.length_append, eq_self, frwS, frwH, frwRow, frzT, hasN, delL, hdel, leF, leHF, rowF, frzB, idsL, idsA, idsR, inH, hget, sameRow, viewN, tk]) ?_; simp only [← List.map_append, List.length_append, eq_self, frwS, frwH, frwRow, frzT, hasN, delL, hdel, idsA, idsL, viewN, hget, tk, isC, List.map_cons, List.map_nil, List.all_cons, List.all_nil, List.append_nil, List.drop, List.getElem?_cons_zero, List.getElem?_cons_succ, Bool.not_false, Bool.not_true, Bool.and_true, if_true, if_false, Nat.zero_add, List.length_map, simprocAttr])
    (try simp only [push_cast, simprocAttr]); refine call_lend [25000] none (lr := [rowB [⟨d0.name, d0.safe, d0.fresh ++ xs⟩, d1, d2]]) (by simp [ndB]) (by first | rfl | simp [rowsOf, hget, rdR, rowS, rowN, rowC, sC, ndC, cmC]) (by simp [idsL, idsA]) (by simp [mvN]) (by simpa [rnA, ixOf] using hS) ?_
    rintro rv lr' rows ⟨L', g1, g2, rfl, rfl, rfl⟩
    have hlen := g1.length_eq
    simp only [List.length_cons, List.length_nil, Nat.reduceAdd] at hlen
    have hLY : L' = Y := by rw [hY]; exact wr_old hv hj hg g1 g2
    (refine ⟨by simp [shB, mvF, hlen], by simp [frB, baseOf], go_on ?_⟩; simp only [killA, killH, killRow, push_cast, simprocAttr])
    rw [hLY]
    have hYl : Y.length = 3 := by rw [← hLY]; exact hlen
    (try simp only [push_cast, simprocAttr])
    (refine at_call ?_; simp only [hYl, viewN, hget, tk, isC, List.map_cons, List.map_nil, List.length_map, List.length_cons, List.length_nil, Nat.reduceAdd, Nat.reduceEqDiff, if_true, if_false, reduceIte, simprocAttr]; refine rwc_v (hV2) (go_on ?_); (try simp only [push_cast, simprocAttr]))
    (try simp only [hd, Bool.not_true, push_cast, simprocAttr])
    (refine at_callW [25000] (by refine wk_frz ?_ ?_ ?_ ?_ <;> simp [hYl, frwS, frwH, frwRow, frzT, hasN, delL, hdel, leF, leHF, rowF, frzB, idsL, idsA, idsR, inH, hget, sameRow, viewN, tk]) ?_; simp only [hYl, frwS, frwH, frwRow, frzT, hasN, delL, hdel, idsA, idsL, viewN, hget, tk, isC, List.map_cons, List.map_nil, List.all_cons, List.all_nil, List.append_nil, List.drop, List.getElem?_cons_zero, List.getElem?_cons_succ, Bool.not_false, Bool.not_true, Bool.and_true, if_true, if_false, Nat.zero_add, List.length_map, simprocAttr])
    refine call_PO rfl [blsA Y] ⟨ga_c rfl, trivial⟩ hC2 ?_
    rintro w2 lent2 X x hN ⟨u, us, rfl, hO⟩
    obtain ⟨g0, cp0, rfl⟩ := hO.some (by omega)
    refine go_on ?_
    (try simp only [push_cast, simprocAttr])
    (refine at_retO (hN.ch _ _ (Ch.refl w0)) (l := [.v (.slice (some ⟨g0, 0, none⟩) Y.length cp0), bA true]) (by simp only [Tryz.results48, push_cast, simprocAttr]) ?_)
    exact fun loc a w v hR hG => otOut hR hO hN.xfb hN.xge hG
theorem DiskWrite_old31_o (bs : List BD) (nm : Int) (xs : List Int) (hx : xs.length ≤ 2000000) (hv : diskB bs = true) (hxb : bytesB xs = true) (hi : inB nm 1 3 = true) (d : BD) (hj : bs[1]? = some d) (hg : getB bs nm = some d) (hix : ixB bs nm = 1) (hb : ∃ d0 d1 d2, bs = [d0, d1, d2]) : PO Tryz.prog 48 [blsA bs, iA nm, intsA xs] (otB (writeD bs nm xs).1 (writeD bs nm xs).2) := by
  have hs := disk_sm hv
  have hn3 := disk_len hv
  have hV := DiskValid_pc bs hs
  have hB := bytesValid_pc xs (by omega)
  have hI := in_pc nm 1 3
  have hF := file_pc bs hs.n nm
  have hC := cloneDisk_pc bs hs
  have hi' : inR nm 1 3 = true := hi
  have hnm : 0 ≤ nm ∧ nm ≤ 3 := by simp only [inR, Bool.and_eq_true, decide_eq_true_eq] at hi'; omega
  have hwl := withB_len bs (wrB bs nm xs)
  have hnms := disk_names hv
  have hWs : SmD (wrB bs nm xs) := by
    unfold wrB
    cases hg : getB bs nm with
    | none => exact ⟨by simp, by simp only; omega⟩
    | some d =>
      have hm := (getB_name hg).2
      have hok := disk_okF hv hm
      simp only [okF, Bool.and_eq_true, decide_eq_true_eq] at hok
      exact ⟨(hs.d d hm).s, by simp only [List.length_append]; omega⟩
  have hws : SmB (withB bs (wrB bs nm xs)) := withB_sm hs (by omega) hWs
  obtain ⟨Y, hY⟩ : ∃ Y, Y = withB bs (wrB bs nm xs) := ⟨_, rfl⟩
  rw [← hY] at hws hwl
  have hwr : writeD bs nm xs = if diskB Y = true then (Y, true) else ([], false) := by unfold writeD; rw [hv, hxb, hi, ← hY]; rfl
  have hV2 := DiskValid_pc Y hws
  have hC2 := cloneDisk_o Y hws
  rw [hix] at hF
  obtain ⟨d0, d1, d2, rfl⟩ := hb
  obtain rfl : d1 = d := Option.some.inj hj
  have hfl : d1.fresh.length ≤ 400 := by
    have := disk_okF hv (getB_name hg).2
    simp only [okF, Bool.and_eq_true, decide_eq_true_eq] at this
    omega
  have hX := cloneDisk_at [d0, d1, d2] hs 1 d1 rfl
  have hR : rfRow (nmB [] 25000) (lnkR [d0, d1, d2] 1 d1 1 2) = ⟨79, 3, [[iA d0.name, intsA d0.safe, intsA d0.fresh], [iA d1.name, .o 25001 d1.safe.length, .o 25002 d1.fresh.length], [iA d2.name, intsA d2.safe, intsA d2.fresh]], false⟩ := by rw [lnk_rf _ (by simp)]; rfl
  have hS := sorted_pcl ([d0, ⟨d1.name, d1.safe, d1.fresh ++ xs⟩, d2] : List BD) (by simp) fun d hd => by
    rcases mem_set_or (show d ∈ ([d0, d1, d2] : List BD).set 1 ⟨d1.name, d1.safe, d1.fresh ++ xs⟩ from hd) with hd | rfl
    · exact hnms d hd
    · exact hnms d1 (by simp)
  cases hd : diskB Y with
  | false =>
    have hr : writeD [d0, d1, d2] nm xs = ([], false) := by rw [hwr, hd]; rfl
    rw [hr]
    refine po_enter Tryz.func48 rfl rfl fun w0 => go_on ?_; (try simp only [Tryz.ntmps48, push_cast, simprocAttr])
    refine at_call ?_
    (try simp only [push_cast, simprocAttr])
    refine rwc_v hV ?_
    (try simp only [push_cast, simprocAttr])
    (refine at_dropS [6] (by refine wk_ok ?_ ?_ ?_ ?_ <;> simp [dropS, dropT, hasN, delL, hdel, leL, leH, idsL, idsA, idsR, inH, hget, sameRow]) ?_; simp only [dropS, dropT, hasN, delL, hdel, idsA, idsL, hget, List.map_cons, List.map_nil, List.all_cons, List.all_nil, List.append_nil, Bool.not_false, Bool.not_true, Bool.and_true, if_true, if_false, simprocAttr])
    refine go_on ?_
    (try simp only [hv, Bool.not_true, push_cast, simprocAttr])
    (refine at_call ?_; (try simp only [push_cast, simprocAttr]); refine rwc_v (hB) (go_on ?_); (try simp only [push_cast, simprocAttr]))
    (try simp only [hxb, Bool.not_true, push_cast, simprocAttr])
    (refine at_call ?_; (try simp only [push_cast, simprocAttr]); refine rwc_v (hI) (go_on ?_); (try simp only [push_cast, simprocAttr]))
    (try simp only [hi', Bool.not_true, push_cast, simprocAttr])
    refine call_lendX [] (lr := []) rfl rfl (by simp [idsL, idsA]) (by simpa [rfA] using hX) ?_
    rintro rv lr' rows ⟨rfl, rfl, rfl⟩
    refine ⟨rfl, by simp [frB, baseOf], go_on ?_⟩
    simp only [backX, hR, rowZ_rf, rfA, nmB, hsL, baseOf, hpOf, List.map_cons, List.map_nil, List.nil_append, List.length_nil, push_cast, simprocAttr]
    (refine at_call ?_; simp only [bC, viewN, hget, tk, isC, List.map_cons, List.map_nil, List.length_map, List.length_cons, List.length_nil, Nat.reduceAdd, Nat.reduceEqDiff, if_true, if_false, reduceIte, simprocAttr]; refine rwc_v (hF) (go_on ?_); (try simp only [push_cast, simprocAttr]))
    (try simp only [show ltI 1 0 = false from rfl, show toIx 1 3 = some 1 from rfl, bC, push_cast, simprocAttr])
    refine at_chk (by omega) ?_
    (try simp only [bC, push_cast, simprocAttr])
    (refine at_callW [25001, 25002] (by refine wk_frz ?_ ?_ ?_ ?_ <;> simp [← List.map_append, List.length_append, eq_self, frwS, frwH, frwRow, frzT, hasN, delL, hdel, leF, leHF, rowF, frzB, idsL, idsA, idsR, inH, hget, sameRow, viewN, tk]) ?_; simp only [← List.map_append, List.length_append, eq_self, frwS, frwH, frwRow, frzT, hasN, delL, hdel, idsA, idsL, viewN, hget, tk, isC, List.map_cons, List.map_nil, List.all_cons, List.all_nil, List.append_nil, List.drop, List.getElem?_cons_zero, List.getElem?_cons_succ, Bool.not_false, Bool.not_true, Bool.and_true, if_true, if_false, Nat.zero_add, List.length_map, simprocAttr])
    (try simp only [push_cast, simprocAttr]); refine call_lend [25000] none (lr := [rowB [d0, ⟨d1.name, d1.safe, d1.fresh ++ xs⟩, d2]]) (by simp [ndB]) (by first | rfl | simp [rowsOf, hget, rdR, rowS, rowN, rowC, sC, ndC, cmC]) (by simp [idsL, idsA]) (by simp [mvN]) (by simpa [rnA, ixOf] using hS) ?_
    rintro rv lr' rows ⟨L', g1, g2, rfl, rfl, rfl⟩
    have hlen := g1.length_eq
    simp only [List.length_cons, List.length_nil, Nat.reduceAdd] at hlen
    have hLY : L' = Y := by rw [hY]; exact wr_old hv hj hg g1 g2
    (refine ⟨by simp [shB, mvF, hlen], by simp [frB, baseOf], go_on ?_⟩; simp only [killA, killH, killRow, push_cast, simprocAttr])
    rw [hLY]
    have hYl : Y.length = 3 := by rw [← hLY]; exact hlen
    (try simp only [push_cast, simprocAttr])
    (refine at_call ?_; simp only [hYl, viewN, hget, tk, isC, List.map_cons, List.map_nil, List.length_map, List.length_cons, List.length_nil, Nat.reduceAdd, Nat.reduceEqDiff, if_true, if_false, reduceIte, simprocAttr]; refine rwc_v (hV2) (go_on ?_); (try simp only [push_cast, simprocAttr]))
    (try simp only [hd, Bool.not_false, push_cast, simprocAttr])
    (refine at_retO (Ch.refl w0) (l := [.o 6 0, bA false]) (by simp only [Tryz.results48, push_cast, simprocAttr]) ?_)
    exact fun loc a w v hR hG => ownNil (Ch.refl w0) rfl hR hG
  | true =>
    have hr : writeD [d0, d1, d2] nm xs = (Y, true) := by rw [hwr, hd]; rfl
    rw [hr]
    refine po_enter Tryz.func48 rfl rfl fun w0 => go_on ?_; (try simp only [Tryz.ntmps48, push_cast, simprocAttr])
    refine at_call ?_
    (try simp only [push_cast, simprocAttr])
    refine rwc_v hV ?_
    (try simp only [push_cast, simprocAttr])
    (refine at_dropS [6] (by refine wk_ok ?_ ?_ ?_ ?_ <;> simp [dropS, dropT, hasN, delL, hdel, leL, leH, idsL, idsA, idsR, inH, hget, sameRow]) ?_; simp only [dropS, dropT, hasN, delL, hdel, idsA, idsL, hget, List.map_cons, List.map_nil, List.all_cons, List.all_nil, List.append_nil, Bool.not_false, Bool.not_true, Bool.and_true, if_true, if_false, simprocAttr])
    refine go_on ?_
    (try simp only [hv, Bool.not_true, push_cast, simprocAttr])
    (refine at_call ?_; (try simp only [push_cast, simprocAttr]); refine rwc_v (hB) (go_on ?_); (try simp only [push_cast, simprocAttr]))
    (try simp only [hxb, Bool.not_true, push_cast, simprocAttr])
    (refine at_call ?_; (try simp only [push_cast, simprocAttr]); refine rwc_v (hI) (go_on ?_); (try simp only [push_cast, simprocAttr]))
    (try simp only [hi', Bool.not_true, push_cast, simprocAttr])
    refine call_lendX [] (lr := []) rfl rfl (by simp [idsL, idsA]) (by simpa [rfA] using hX) ?_
    rintro rv lr' rows ⟨rfl, rfl, rfl⟩
    refine ⟨rfl, by simp [frB, baseOf], go_on ?_⟩
    simp only [backX, hR, rowZ_rf, rfA, nmB, hsL, baseOf, hpOf, List.map_cons, List.map_nil, List.nil_append, List.length_nil, push_cast, simprocAttr]
    (refine at_call ?_; simp only [bC, viewN, hget, tk, isC, List.map_cons, List.map_nil, List.length_map, List.length_cons, List.length_nil, Nat.reduceAdd, Nat.reduceEqDiff, if_true, if_false, reduceIte, simprocAttr]; refine rwc_v (hF) (go_on ?_); (try simp only [push_cast, simprocAttr]))
    (try simp only [show ltI 1 0 = false from rfl, show toIx 1 3 = some 1 from rfl, bC, push_cast, simprocAttr])
    refine at_chk (by omega) ?_
    (try simp only [bC, push_cast, simprocAttr])
    (refine at_callW [25001, 25002] (by refine wk_frz ?_ ?_ ?_ ?_ <;> simp [← List.map_append, List.length_append, eq_self, frwS, frwH, frwRow, frzT, hasN, delL, hdel, leF, leHF, rowF, frzB, idsL, idsA, idsR, inH, hget, sameRow, viewN, tk]) ?_; simp only [← List.map_append, List.length_append, eq_self, frwS, frwH, frwRow, frzT, hasN, delL, hdel, idsA, idsL, viewN, hget, tk, isC, List.map_cons, List.map_nil, List.all_cons, List.all_nil, List.append_nil, List.drop, List.getElem?_cons_zero, List.getElem?_cons_succ, Bool.not_false, Bool.not_true, Bool.and_true, if_true, if_false, Nat.zero_add, List.length_map, simprocAttr])
    (try simp only [push_cast, simprocAttr]); refine call_lend [25000] none (lr := [rowB [d0, ⟨d1.name, d1.safe, d1.fresh ++ xs⟩, d2]]) (by simp [ndB]) (by first | rfl | simp [rowsOf, hget, rdR, rowS, rowN, rowC, sC, ndC, cmC]) (by simp [idsL, idsA]) (by simp [mvN]) (by simpa [rnA, ixOf] using hS) ?_
    rintro rv lr' rows ⟨L', g1, g2, rfl, rfl, rfl⟩
    have hlen := g1.length_eq
    simp only [List.length_cons, List.length_nil, Nat.reduceAdd] at hlen
    have hLY : L' = Y := by rw [hY]; exact wr_old hv hj hg g1 g2
    (refine ⟨by simp [shB, mvF, hlen], by simp [frB, baseOf], go_on ?_⟩; simp only [killA, killH, killRow, push_cast, simprocAttr])
    rw [hLY]
    have hYl : Y.length = 3 := by rw [← hLY]; exact hlen
    (try simp only [push_cast, simprocAttr])
    (refine at_call ?_; simp only [hYl, viewN, hget, tk, isC, List.map_cons, List.map_nil, List.length_map, List.length_cons, List.length_nil, Nat.reduceAdd, Nat.reduceEqDiff, if_true, if_false, reduceIte, simprocAttr]; refine rwc_v (hV2) (go_on ?_); (try simp only [push_cast, simprocAttr]))
    (try simp only [hd, Bool.not_true, push_cast, simprocAttr])
    (refine at_callW [25000] (by refine wk_frz ?_ ?_ ?_ ?_ <;> simp [hYl, frwS, frwH, frwRow, frzT, hasN, delL, hdel, leF, leHF, rowF, frzB, idsL, idsA, idsR, inH, hget, sameRow, viewN, tk]) ?_; simp only [hYl, frwS, frwH, frwRow, frzT, hasN, delL, hdel, idsA, idsL, viewN, hget, tk, isC, List.map_cons, List.map_nil, List.all_cons, List.all_nil, List.append_nil, List.drop, List.getElem?_cons_zero, List.getElem?_cons_succ, Bool.not_false, Bool.not_true, Bool.and_true, if_true, if_false, Nat.zero_add, List.length_map, simprocAttr])
    refine call_PO rfl [blsA Y] ⟨ga_c rfl, trivial⟩ hC2 ?_
    rintro w2 lent2 X x hN ⟨u, us, rfl, hO⟩
    obtain ⟨g0, cp0, rfl⟩ := hO.some (by omega)
    refine go_on ?_
    (try simp only [push_cast, simprocAttr])
    (refine at_retO (hN.ch _ _ (Ch.refl w0)) (l := [.v (.slice (some ⟨g0, 0, none⟩) Y.length cp0), bA true]) (by simp only [Tryz.results48, push_cast, simprocAttr]) ?_)
    exact fun loc a w v hR hG => otOut hR hO hN.xfb hN.xge hG
theorem DiskWrite_old32_o (bs : List BD) (nm : Int) (xs : List Int) (hx : xs.length ≤ 2000000) (hv : diskB bs = true) (hxb : bytesB xs = true) (hi : inB nm 1 3 = true) (d : BD) (hj : bs[2]? = some d) (hg : getB bs nm = some d) (hix : ixB bs nm = 2) (hb : ∃ d0 d1 d2, bs = [d0, d1, d2]) : PO Tryz.prog 48 [blsA bs, iA nm, intsA xs] (otB (writeD bs nm xs).1 (writeD bs nm xs).2) := by
  have hs := disk_sm hv
  have hn3 := disk_len hv
  have hV := DiskValid_pc bs hs
  have hB := bytesValid_pc xs (by omega)
  have hI := in_pc nm 1 3
  have hF := file_pc bs hs.n nm
  have hC := cloneDisk_pc bs hs
  have hi' : inR nm 1 3 = true := hi
  have hnm : 0 ≤ nm ∧ nm ≤ 3 := by simp only [inR, Bool.and_eq_true, decide_eq_true_eq] at hi'; omega
  have hwl := withB_len bs (wrB bs nm xs)
  have hnms := disk_names hv
  have hWs : SmD (wrB bs nm xs) := by
    unfold wrB
    cases hg : getB bs nm with
    | none => exact ⟨by simp, by simp only; omega⟩
    | some d =>
      have hm := (getB_name hg).2
      have hok := disk_okF hv hm
      simp only [okF, Bool.and_eq_true, decide_eq_true_eq] at hok
      exact ⟨(hs.d d hm).s, by simp only [List.length_append]; omega⟩
  have hws : SmB (withB bs (wrB bs nm xs)) := withB_sm hs (by omega) hWs
  obtain ⟨Y, hY⟩ : ∃ Y, Y = withB bs (wrB bs nm xs) := ⟨_, rfl⟩
  rw [← hY] at hws hwl
  have hwr : writeD bs nm xs = if diskB Y = true then (Y, true) else ([], false) := by unfold writeD; rw [hv, hxb, hi, ← hY]; rfl
  have hV2 := DiskValid_pc Y hws
  have hC2 := cloneDisk_o Y hws
  rw [hix] at hF
  obtain ⟨d0, d1, d2, rfl⟩ := hb
  obtain rfl : d2 = d := Option.some.inj hj
  have hfl : d2.fresh.length ≤ 400 := by
    have := disk_okF hv (getB_name hg).2
    simp only [okF, Bool.and_eq_true, decide_eq_true_eq] at this
    omega
  have hX := cloneDisk_at [d0, d1, d2] hs 2 d2 rfl
  have hR : rfRow (nmB [] 25000) (lnkR [d0, d1, d2] 2 d2 1 2) = ⟨79, 3, [[iA d0.name, intsA d0.safe, intsA d0.fresh], [iA d1.name, intsA d1.safe, intsA d1.fresh], [iA d2.name, .o 25001 d2.safe.length, .o 25002 d2.fresh.length]], false⟩ := by rw [lnk_rf _ (by simp)]; rfl
  have hS := sorted_pcl ([d0, d1, ⟨d2.name, d2.safe, d2.fresh ++ xs⟩] : List BD) (by simp) fun d hd => by
    rcases mem_set_or (show d ∈ ([d0, d1, d2] : List BD).set 2 ⟨d2.name, d2.safe, d2.fresh ++ xs⟩ from hd) with hd | rfl
    · exact hnms d hd
    · exact hnms d2 (by simp)
  cases hd : diskB Y with
  | false =>
    have hr : writeD [d0, d1, d2] nm xs = ([], false) := by rw [hwr, hd]; rfl
    rw [hr]
    refine po_enter Tryz.func48 rfl rfl fun w0 => go_on ?_; (try simp only [Tryz.ntmps48, push_cast, simprocAttr])
    refine at_call ?_
    (try simp only [push_cast, simprocAttr])
    refine rwc_v hV ?_
    (try simp only [push_cast, simprocAttr])
    (refine at_dropS [6] (by refine wk_ok ?_ ?_ ?_ ?_ <;> simp [dropS, dropT, hasN, delL, hdel, leL, leH, idsL, idsA, idsR, inH, hget, sameRow]) ?_; simp only [dropS, dropT, hasN, delL, hdel, idsA, idsL, hget, List.map_cons, List.map_nil, List.all_cons, List.all_nil, List.append_nil, Bool.not_false, Bool.not_true, Bool.and_true, if_true, if_false, simprocAttr])
    refine go_on ?_
    (try simp only [hv, Bool.not_true, push_cast, simprocAttr])
    (refine at_call ?_; (try simp only [push_cast, simprocAttr]); refine rwc_v (hB) (go_on ?_); (try simp only [push_cast, simprocAttr]))
    (try simp only [hxb, Bool.not_true, push_cast, simprocAttr])
    (refine at_call ?_; (try simp only [push_cast, simprocAttr]); refine rwc_v (hI) (go_on ?_); (try simp only [push_cast, simprocAttr]))
    (try simp only [hi', Bool.not_true, push_cast, simprocAttr])
    refine call_lendX [] (lr := []) rfl rfl (by simp [idsL, idsA]) (by simpa [rfA] using hX) ?_
    rintro rv lr' rows ⟨rfl, rfl, rfl⟩
    refine ⟨rfl, by simp [frB, baseOf], go_on ?_⟩
    simp only [backX, hR, rowZ_rf, rfA, nmB, hsL, baseOf, hpOf, List.map_cons, List.map_nil, List.nil_append, List.length_nil, push_cast, simprocAttr]
    (refine at_call ?_; simp only [bC, viewN, hget, tk, isC, List.map_cons, List.map_nil, List.length_map, List.length_cons, List.length_nil, Nat.reduceAdd, Nat.reduceEqDiff, if_true, if_false, reduceIte, simprocAttr]; refine rwc_v (hF) (go_on ?_); (try simp only [push_cast, simprocAttr]))
    (try simp only [show ltI 2 0 = false from rfl, show toIx 2 3 = some 2 from rfl, bC, push_cast, simprocAttr])
    refine at_chk (by omega) ?_
    (try simp only [bC, push_cast, simprocAttr])
    (refine at_callW [25001, 25002] (by refine wk_frz ?_ ?_ ?_ ?_ <;> simp [← List.map_append, List.length_append, eq_self, frwS, frwH, frwRow, frzT, hasN, delL, hdel, leF, leHF, rowF, frzB, idsL, idsA, idsR, inH, hget, sameRow, viewN, tk]) ?_; simp only [← List.map_append, List.length_append, eq_self, frwS, frwH, frwRow, frzT, hasN, delL, hdel, idsA, idsL, viewN, hget, tk, isC, List.map_cons, List.map_nil, List.all_cons, List.all_nil, List.append_nil, List.drop, List.getElem?_cons_zero, List.getElem?_cons_succ, Bool.not_false, Bool.not_true, Bool.and_true, if_true, if_false, Nat.zero_add, List.length_map, simprocAttr])
    (try simp only [push_cast, simprocAttr]); refine call_lend [25000] none (lr := [rowB [d0, d1, ⟨d2.name, d2.safe, d2.fresh ++ xs⟩]]) (by simp [ndB]) (by first | rfl | simp [rowsOf, hget, rdR, rowS, rowN, rowC, sC, ndC, cmC]) (by simp [idsL, idsA]) (by simp [mvN]) (by simpa [rnA, ixOf] using hS) ?_
    rintro rv lr' rows ⟨L', g1, g2, rfl, rfl, rfl⟩
    have hlen := g1.length_eq
    simp only [List.length_cons, List.length_nil, Nat.reduceAdd] at hlen
    have hLY : L' = Y := by rw [hY]; exact wr_old hv hj hg g1 g2
    (refine ⟨by simp [shB, mvF, hlen], by simp [frB, baseOf], go_on ?_⟩; simp only [killA, killH, killRow, push_cast, simprocAttr])
    rw [hLY]
    have hYl : Y.length = 3 := by rw [← hLY]; exact hlen
    (try simp only [push_cast, simprocAttr])
    (refine at_call ?_; simp only [hYl, viewN, hget, tk, isC, List.map_cons, List.map_nil, List.length_map, List.length_cons, List.length_nil, Nat.reduceAdd, Nat.reduceEqDiff, if_true, if_false, reduceIte, simprocAttr]; refine rwc_v (hV2) (go_on ?_); (try simp only [push_cast, simprocAttr]))
    (try simp only [hd, Bool.not_false, push_cast, simprocAttr])
    (refine at_retO (Ch.refl w0) (l := [.o 6 0, bA false]) (by simp only [Tryz.results48, push_cast, simprocAttr]) ?_)
    exact fun loc a w v hR hG => ownNil (Ch.refl w0) rfl hR hG
  | true =>
    have hr : writeD [d0, d1, d2] nm xs = (Y, true) := by rw [hwr, hd]; rfl
    rw [hr]
    refine po_enter Tryz.func48 rfl rfl fun w0 => go_on ?_; (try simp only [Tryz.ntmps48, push_cast, simprocAttr])
    refine at_call ?_
    (try simp only [push_cast, simprocAttr])
    refine rwc_v hV ?_
    (try simp only [push_cast, simprocAttr])
    (refine at_dropS [6] (by refine wk_ok ?_ ?_ ?_ ?_ <;> simp [dropS, dropT, hasN, delL, hdel, leL, leH, idsL, idsA, idsR, inH, hget, sameRow]) ?_; simp only [dropS, dropT, hasN, delL, hdel, idsA, idsL, hget, List.map_cons, List.map_nil, List.all_cons, List.all_nil, List.append_nil, Bool.not_false, Bool.not_true, Bool.and_true, if_true, if_false, simprocAttr])
    refine go_on ?_
    (try simp only [hv, Bool.not_true, push_cast, simprocAttr])
    (refine at_call ?_; (try simp only [push_cast, simprocAttr]); refine rwc_v (hB) (go_on ?_); (try simp only [push_cast, simprocAttr]))
    (try simp only [hxb, Bool.not_true, push_cast, simprocAttr])
    (refine at_call ?_; (try simp only [push_cast, simprocAttr]); refine rwc_v (hI) (go_on ?_); (try simp only [push_cast, simprocAttr]))
    (try simp only [hi', Bool.not_true, push_cast, simprocAttr])
    refine call_lendX [] (lr := []) rfl rfl (by simp [idsL, idsA]) (by simpa [rfA] using hX) ?_
    rintro rv lr' rows ⟨rfl, rfl, rfl⟩
    refine ⟨rfl, by simp [frB, baseOf], go_on ?_⟩
    simp only [backX, hR, rowZ_rf, rfA, nmB, hsL, baseOf, hpOf, List.map_cons, List.map_nil, List.nil_append, List.length_nil, push_cast, simprocAttr]
    (refine at_call ?_; simp only [bC, viewN, hget, tk, isC, List.map_cons, List.map_nil, List.length_map, List.length_cons, List.length_nil, Nat.reduceAdd, Nat.reduceEqDiff, if_true, if_false, reduceIte, simprocAttr]; refine rwc_v (hF) (go_on ?_); (try simp only [push_cast, simprocAttr]))
    (try simp only [show ltI 2 0 = false from rfl, show toIx 2 3 = some 2 from rfl, bC, push_cast, simprocAttr])
    refine at_chk (by omega) ?_
    (try simp only [bC, push_cast, simprocAttr])
    (refine at_callW [25001, 25002] (by refine wk_frz ?_ ?_ ?_ ?_ <;> simp [← List.map_append, List.length_append, eq_self, frwS, frwH, frwRow, frzT, hasN, delL, hdel, leF, leHF, rowF, frzB, idsL, idsA, idsR, inH, hget, sameRow, viewN, tk]) ?_; simp only [← List.map_append, List.length_append, eq_self, frwS, frwH, frwRow, frzT, hasN, delL, hdel, idsA, idsL, viewN, hget, tk, isC, List.map_cons, List.map_nil, List.all_cons, List.all_nil, List.append_nil, List.drop, List.getElem?_cons_zero, List.getElem?_cons_succ, Bool.not_false, Bool.not_true, Bool.and_true, if_true, if_false, Nat.zero_add, List.length_map, simprocAttr])
    (try simp only [push_cast, simprocAttr]); refine call_lend [25000] none (lr := [rowB [d0, d1, ⟨d2.name, d2.safe, d2.fresh ++ xs⟩]]) (by simp [ndB]) (by first | rfl | simp [rowsOf, hget, rdR, rowS, rowN, rowC, sC, ndC, cmC]) (by simp [idsL, idsA]) (by simp [mvN]) (by simpa [rnA, ixOf] using hS) ?_
    rintro rv lr' rows ⟨L', g1, g2, rfl, rfl, rfl⟩
    have hlen := g1.length_eq
    simp only [List.length_cons, List.length_nil, Nat.reduceAdd] at hlen
    have hLY : L' = Y := by rw [hY]; exact wr_old hv hj hg g1 g2
    (refine ⟨by simp [shB, mvF, hlen], by simp [frB, baseOf], go_on ?_⟩; simp only [killA, killH, killRow, push_cast, simprocAttr])
    rw [hLY]
    have hYl : Y.length = 3 := by rw [← hLY]; exact hlen
    (try simp only [push_cast, simprocAttr])
    (refine at_call ?_; simp only [hYl, viewN, hget, tk, isC, List.map_cons, List.map_nil, List.length_map, List.length_cons, List.length_nil, Nat.reduceAdd, Nat.reduceEqDiff, if_true, if_false, reduceIte, simprocAttr]; refine rwc_v (hV2) (go_on ?_); (try simp only [push_cast, simprocAttr]))
    (try simp only [hd, Bool.not_true, push_cast, simprocAttr])
    (refine at_callW [25000] (by refine wk_frz ?_ ?_ ?_ ?_ <;> simp [hYl, frwS, frwH, frwRow, frzT, hasN, delL, hdel, leF, leHF, rowF, frzB, idsL, idsA, idsR, inH, hget, sameRow, viewN, tk]) ?_; simp only [hYl, frwS, frwH, frwRow, frzT, hasN, delL, hdel, idsA, idsL, viewN, hget, tk, isC, List.map_cons, List.map_nil, List.all_cons, List.all_nil, List.append_nil, List.drop, List.getElem?_cons_zero, List.getElem?_cons_succ, Bool.not_false, Bool.not_true, Bool.and_true, if_true, if_false, Nat.zero_add, List.length_map, simprocAttr])
    refine call_PO rfl [blsA Y] ⟨ga_c rfl, trivial⟩ hC2 ?_
    rintro w2 lent2 X x hN ⟨u, us, rfl, hO⟩
    obtain ⟨g0, cp0, rfl⟩ := hO.some (by omega)
    refine go_on ?_
    (try simp only [push_cast, simprocAttr])
    (refine at_retO (hN.ch _ _ (Ch.refl w0)) (l := [.v (.slice (some ⟨g0, 0, none⟩) Y.length cp0), bA true]) (by simp only [Tryz.results48, push_cast, simprocAttr]) ?_)
    exact fun loc a w v hR hG => otOut hR hO hN.xfb hN.xge hG
end Go.Proofs.YtccifbbjbnjcfaaGreatDoor
/-
  Walks: impl.DiskWrite, set aside, as a whole.
-/
namespace Go.Proofs.YtccifbbjbnjcfaaGreatDoor
open Go Go.RowKit Go.Proofs
theorem DiskWrite_o (bs : List BD) (hs : SmB bs) (nm : Int) (xs : List Int) (hx : xs.length ≤ 2000000) : PO Tryz.prog 48 [blsA bs, iA nm, intsA xs] (otB (writeD bs nm xs).1 (writeD bs nm xs).2) := by
  cases h : (diskB bs && bytesB xs && inB nm 1 3) with
  | false =>
    have hr : writeD bs nm xs = ([], false) := by unfold writeD; rw [h]; rfl
    rw [hr]
    exact DiskWrite_bad_o bs hs nm xs hx h
  | true =>
    simp only [Bool.and_eq_true] at h
    obtain ⟨⟨hv, hxb⟩, hi⟩ := h
    have hl := disk_len hv
    rcases ixB_cases bs nm with ⟨h1, h2⟩ | ⟨j, d, h1, h2, h3⟩
    · match bs, hl with
      | [], _ => exact DiskWrite_new0_o _ nm xs hx hv hxb hi h2 rfl
      | [d0], _ => exact DiskWrite_new1_o _ nm xs hx hv hxb hi h2 ⟨_, rfl⟩
      | [d0, d1], _ => exact DiskWrite_new2_o _ nm xs hx hv hxb hi h2 ⟨_, _, rfl⟩
      | [d0, d1, d2], _ => exact DiskWrite_new3_o _ nm xs hx hv hxb hi h2 ⟨_, _, _, rfl⟩
      | _ :: _ :: _ :: _ :: _, hl => simp at hl
    · match bs, hl, j with
      | [], _, _ => simp at h2
      | [d0], _, 0 => exact DiskWrite_old10_o _ nm xs hx hv hxb hi d h2 h3 h1 ⟨_, rfl⟩
      | [d0], _, j + 1 => simp at h2
      | [d0, d1], _, 0 => exact DiskWrite_old20_o _ nm xs hx hv hxb hi d h2 h3 h1 ⟨_, _, rfl⟩
      | [d0, d1], _, 1 => exact DiskWrite_old21_o _ nm xs hx hv hxb hi d h2 h3 h1 ⟨_, _, rfl⟩
      | [d0, d1], _, j + 2 => simp at h2
      | [d0, d1, d2], _, 0 => exact DiskWrite_old30_o _ nm xs hx hv hxb hi d h2 h3 h1 ⟨_, _, _, rfl⟩
      | [d0, d1, d2], _, 1 => exact DiskWrite_old31_o _ nm xs hx hv hxb hi d h2 h3 h1 ⟨_, _, _, rfl⟩
      | [d0, d1, d2], _, 2 => exact DiskWrite_old32_o _ nm xs hx hv hxb hi d h2 h3 h1 ⟨_, _, _, rfl⟩
      | [d0, d1, d2], _, j + 3 => simp at h2
      | _ :: _ :: _ :: _ :: _, hl, _ => simp at hl
end Go.Proofs.YtccifbbjbnjcfaaGreatDoor
/-
  Walks: BookAdd, set aside.
-/
namespace Go.Proofs.YtccifbbjbnjcfaaGreatDoor
open Go Go.RowKit Go.Proofs
attribute [local irreducible] RWp AW run kPe pe Kt effA gd gu br retR RDp runD kPeD brW gW effD
set_option maxRecDepth 100000
end Go.Proofs.YtccifbbjbnjcfaaGreatDoor
/-
  Walks: BookSteps, read as data.
-/
namespace Go.Proofs.YtccifbbjbnjcfaaGreatDoor
open Go Go.RowKit Go.Proofs
def dC (l : List BD) : List AV := [blsA l]
abbrev dssA (l : List (List BD)) : AV := .sl 1 (l.map dC)
def rowD (l : List (List BD)) : Row := ⟨29, 1, l.map dC, true⟩
theorem stepsP_f {bs : List BD} {b : Bk} (h : ((bookB b).2 && diskB bs) = false) : stepsP bs b = ([], false) := by unfold stepsP; rw [h]; rfl
theorem stepsP_w {bs : List BD} {b : Bk} (h : ((bookB b).2 && diskB bs) = true) (hw : (writeD (bs.filter fun x => decide (x.name ≠ 2)) 2 (bookB b).1).2 = false) : stepsP bs b = ([], false) := by
  unfold stepsP; rw [h]; simp only [if_true]; rw [hw]; rfl
theorem stepsP_t {bs : List BD} {b : Bk} (h : ((bookB b).2 && diskB bs) = true) (hw : (writeD (bs.filter fun x => decide (x.name ≠ 2)) 2 (bookB b).1).2 = true) :
    stepsP bs b = ([(writeD (bs.filter fun x => decide (x.name ≠ 2)) 2 (bookB b).1).1, (syncP (writeD (bs.filter fun x => decide (x.name ≠ 2)) 2 (bookB b).1).1 2).1, (renD (syncP (writeD (bs.filter fun x => decide (x.name ≠ 2)) 2 (bookB b).1).1 2).1 2 1).1], true) := by
  unfold stepsP; rw [h]; simp only [if_true]; rw [hw]; rfl
theorem fmB_le : ∀ l : List Cm, (l.flatMap fun c => frameB (cmdB c)).length ≤ l.length * 18
  | [] => by simp
  | c :: l => by
    have h1 := frameB_le c
    have h2 := fmB_le l
    rw [List.flatMap_cons, List.length_append, List.length_cons, Nat.add_mul]; omega
theorem bookB_400 (b : Bk) (hv : (bookB b).2 = true) : (bookB b).1.length ≤ 400 := by
  unfold bookB at hv ⊢
  split at hv
  · rename_i hc
    rw [if_pos hc]
    rw [Bool.and_eq_true] at hc
    have h1 := lV_n hc.1
    have h2 := fmB_le b.log
    have h3 : (frameB [b.ep]).length ≤ 3 := by
      unfold frameB
      split
      · simp
      · simp
    simp only [logB, hc.1, if_true, List.length_append]
    have h4 := Nat.mul_le_mul_right 18 h1
    omega
  · cases hv
theorem bookB_le (b : Bk) (hv : (bookB b).2 = true) : (bookB b).1.length ≤ 2000000 := by have := bookB_400 b hv; omega
attribute [local irreducible] RWp AW run kPe pe Kt effA gd gu br retR RDp runD kPeD brW gW effD
set_option maxRecDepth 100000
theorem BookSteps1_pc (d : BD) : PC Tryz.prog 63 [blobA d] (vB (decide (d.name = 2))) := by
  unfold blobA bC
  refine pc_enter Tryz.func63 rfl rfl fun w0 fb => go_on ?_; (try simp only [Tryz.ntmps63, push_cast, simprocAttr])
  refine at_ret ?_; simp only [Tryz.results63, push_cast, simprocAttr]
  simp [vX, eqI_d]
theorem specBookSteps_d (bs : List BD) (hs : SmB bs) (b : Bk) (hb : SmL b.log) : PC Tryz.prog 18 [blsA bs, bkA b] (vX (.tup [dssA (stepsP bs b).1, bA (stepsP bs b).2])) := by
  have hBB := specBookBytes_d b hb
  have hV := specDiskValid_pc bs hs
  have hn := hs.n
  have hWo := l31Without_d bs hs 2
  have hsf : SmB (bs.filter fun x => decide (x.name ≠ 2)) := smB_filter hs _
  have emp : ∀ {q : PC Tryz.prog 18 [blsA bs, bkA b] (rX (.tup [.o 0 0, bA false]) [rowD []])}, PC Tryz.prog 18 [blsA bs, bkA b] (vX (.tup [dssA [], bA false])) := fun {q} => by
    have := q.frzX
    simp [viewN, hpOf, hget, isC, tk] at this
    exact this
  obtain ⟨⟨y, okb⟩, hy⟩ : ∃ y, y = bookB b := ⟨_, rfl⟩
  rw [← hy] at hBB
  unfold bkA bkC at hBB emp ⊢
  cases okb with
  | false =>
    rw [stepsP_f (by rw [← hy]; rfl)]
    refine emp (q := ?_)
    refine pc_enter Tryz.func18 rfl rfl fun w0 fb => go_on ?_; (try simp only [Tryz.ntmps18, push_cast, simprocAttr])
    ((try simp only [push_cast, simprocAttr]); refine at_share2 (by simp [isC2, isC]) (by first | rfl | simp [ren]) (hBB) (go_on ?_); (try simp only [push_cast, simprocAttr]))
    (try simp only [Bool.not_false, push_cast, simprocAttr])
    refine at_ret ?_; simp only [Tryz.results18, push_cast, simprocAttr]
    simp [rX, ixOf, rowD]
  | true =>
    cases hv : diskB bs with
    | false =>
      rw [stepsP_f (by rw [← hy, hv]; rfl)]
      refine emp (q := ?_)
      refine pc_enter Tryz.func18 rfl rfl fun w0 fb => go_on ?_; (try simp only [Tryz.ntmps18, push_cast, simprocAttr])
      ((try simp only [push_cast, simprocAttr]); refine at_share2 (by simp [isC2, isC]) (by first | rfl | simp [ren]) (hBB) (go_on ?_); (try simp only [push_cast, simprocAttr]))
      (try simp only [Bool.not_true, push_cast, simprocAttr])
      (refine at_call ?_; (try simp only [push_cast, simprocAttr]); refine rwc_v (hV) (go_on ?_); (try simp only [push_cast, simprocAttr]))
      (try simp only [hv, Bool.not_false, push_cast, simprocAttr])
      refine at_ret ?_; simp only [Tryz.results18, push_cast, simprocAttr]
      simp [rX, ixOf, rowD]
    | true =>
      have hcn : ((bookB b).2 && diskB bs) = true := by rw [← hy, hv]; rfl
      have hyl : y.length ≤ 2000000 := by have := bookB_le b (by rw [← hy]); rw [← hy] at this; exact this
      obtain ⟨f, hf⟩ : ∃ f, f = bs.filter fun x => decide (x.name ≠ 2) := ⟨_, rfl⟩
      rw [← hf] at hWo hsf
      have hW := specDiskWrite_d f hsf 2 y hyl (fun d hd => by
        rw [hf] at hd
        have := disk_okF hv (List.mem_filter.1 hd).1
        simp only [okF, Bool.and_eq_true, decide_eq_true_eq] at this
        omega)
      obtain ⟨⟨wd, ok⟩, hwd⟩ : ∃ w, w = writeD f 2 y := ⟨_, rfl⟩
      rw [← hwd] at hW
      simp only at hW
      cases ok with
      | false =>
        rw [stepsP_w hcn (by rw [← hf, ← hy, ← hwd])]
        refine emp (q := ?_)
        refine pc_enter Tryz.func18 rfl rfl fun w0 fb => go_on ?_; (try simp only [Tryz.ntmps18, push_cast, simprocAttr])
        ((try simp only [push_cast, simprocAttr]); refine at_share2 (by simp [isC2, isC]) (by first | rfl | simp [ren]) (hBB) (go_on ?_); (try simp only [push_cast, simprocAttr]))
        (try simp only [Bool.not_true, push_cast, simprocAttr])
        (refine at_call ?_; (try simp only [push_cast, simprocAttr]); refine rwc_v (hV) (go_on ?_); (try simp only [push_cast, simprocAttr]))
        (try simp only [hv, Bool.not_true, push_cast, simprocAttr])
        ((try simp only [push_cast, simprocAttr]); refine at_share2 (by simp [isC2, isC]) (by first | rfl | simp [ren]) (hWo) (go_on ?_); (try simp only [push_cast, simprocAttr]))
        ((try simp only [push_cast, simprocAttr]); refine at_share2 (by simp [isC2, isC]) (by first | rfl | simp [ren]) (hW) (go_on ?_); (try simp only [push_cast, simprocAttr]))
        (try simp only [Bool.not_false, push_cast, simprocAttr])
        refine at_ret ?_; simp only [Tryz.results18, push_cast, simprocAttr]
        simp [rX, ixOf, rowD]
      | true =>
        have hwv : diskB wd = true ∨ wd = [] := writeD_disk2 hwd
        have hSy := specDiskSync_d wd (disk_tot hwv).1 2
        have hsv := syncP_disk (bs := wd) (nm := 2) (Y := (syncP wd 2).1) (ok := (syncP wd 2).2) rfl
        have hRn := specDiskRename_d (syncP wd 2).1 (disk_tot hsv).1 2 1
        rw [stepsP_t hcn (by rw [← hf, ← hy, ← hwd]), ← hf, ← hy, ← hwd]
        have key : PC Tryz.prog 18 [blsA bs, .agg [iA b.ep, cmA b.log]] (rX (.tup [.o 0 3, bA true]) [rowD [wd, (syncP wd 2).1, (renD (syncP wd 2).1 2 1).1]]) := by
          refine pc_enter Tryz.func18 rfl rfl fun w0 fb => go_on ?_; (try simp only [Tryz.ntmps18, push_cast, simprocAttr])
          ((try simp only [push_cast, simprocAttr]); refine at_share2 (by simp [isC2, isC]) (by first | rfl | simp [ren]) (hBB) (go_on ?_); (try simp only [push_cast, simprocAttr]))
          (try simp only [Bool.not_true, push_cast, simprocAttr])
          (refine at_call ?_; (try simp only [push_cast, simprocAttr]); refine rwc_v (hV) (go_on ?_); (try simp only [push_cast, simprocAttr]))
          (try simp only [hv, Bool.not_true, push_cast, simprocAttr])
          ((try simp only [push_cast, simprocAttr]); refine at_share2 (by simp [isC2, isC]) (by first | rfl | simp [ren]) (hWo) (go_on ?_); (try simp only [push_cast, simprocAttr]))
          ((try simp only [push_cast, simprocAttr]); refine at_share2 (by simp [isC2, isC]) (by first | rfl | simp [ren]) (hW) (go_on ?_); (try simp only [push_cast, simprocAttr]))
          (try simp only [Bool.not_true, push_cast, simprocAttr])
          ((try simp only [push_cast, simprocAttr]); refine at_share2 (by simp [isC2, isC]) (by first | rfl | simp [ren]) (hSy) (go_on ?_); (try simp only [push_cast, simprocAttr]))
          ((try simp only [push_cast, simprocAttr]); refine at_share2 (by simp [isC2, isC]) (by first | rfl | simp [ren]) (hRn) (go_on ?_); (try simp only [push_cast, simprocAttr]))
          refine at_chk trivial ?_
          refine at_ret ?_; simp only [Tryz.results18, push_cast, simprocAttr]
          simp [rX, ixOf, rowD, dC]
        have := key.frzX
        simp [viewN, hpOf, hget, isC, tk, rowD, dC] at this
        exact this
end Go.Proofs.YtccifbbjbnjcfaaGreatDoor
/-
  Walks: books: the draws.
-/
namespace Go.Proofs.YtccifbbjbnjcfaaGreatDoor
open Go Go.RowKit Go.Proofs
theorem LogS.sm {l : List Cm} (h : LogS l) : SmL l := ⟨by have := h.n; omega, fun c hc => by have := h.p c hc; omega⟩
attribute [local irreducible] RWp AW run kPe pe Kt effA gd gu br retR RDp runD kPeD brW gW effD
set_option maxRecDepth 100000
end Go.Proofs.YtccifbbjbnjcfaaGreatDoor
/-
  Walks: books: the draws, joined.
-/
namespace Go.Proofs.YtccifbbjbnjcfaaGreatDoor
open Go Go.RowKit Go.Proofs
attribute [local irreducible] RWp AW run kPe pe Kt effA gd gu br retR RDp runD kPeD brW gW effD
set_option maxRecDepth 100000
end Go.Proofs.YtccifbbjbnjcfaaGreatDoor
/-
  Walks: books: the draws: a shelf; DrawBookSteps, DrawBookAdd.
-/
namespace Go.Proofs.YtccifbbjbnjcfaaGreatDoor
open Go Go.RowKit Go.Proofs
attribute [local irreducible] RWp AW run kPe pe Kt effA gd gu br retR RDp runD kPeD brW gW effD
set_option maxRecDepth 100000
end Go.Proofs.YtccifbbjbnjcfaaGreatDoor
/-
  The abstract machine: a drawn region whose last operation waits for all others: the others in any order, then the last.
-/
namespace Go.Proofs.YtccifbbjbnjcfaaGreatDoor
open Go Go.RowKit
section
variable {P : Program} {w0 : World} {lent : Lent} {Q : Exit → Act → World → Prop}
end
end Go.Proofs.YtccifbbjbnjcfaaGreatDoor
/-
  The abstract machine: a drawn region whose last two operations wait for all others: the others in any order, then the last two.
-/
namespace Go.Proofs.YtccifbbjbnjcfaaGreatDoor
open Go Go.RowKit
section
variable {P : Program} {w0 : World} {lent : Lent} {Q : Exit → Act → World → Prop}
end
end Go.Proofs.YtccifbbjbnjcfaaGreatDoor
/-
  The abstract machine: a drawn region whose last three operations wait for all others, but the third last for all but the first (a move).
-/
namespace Go.Proofs.YtccifbbjbnjcfaaGreatDoor
open Go Go.RowKit
section
variable {P : Program} {w0 : World} {lent : Lent} {Q : Exit → Act → World → Prop}
end
end Go.Proofs.YtccifbbjbnjcfaaGreatDoor
/-
  Walks: the reference's DiskCrash.
-/
namespace Go.Proofs.YtccifbbjbnjcfaaGreatDoor
open Go Go.RowKit Go.Proofs
attribute [local irreducible] RWp AW run kPe pe Kt effA gd gu br retR RDp runD kPeD brW gW effD
set_option maxRecDepth 100000
end Go.Proofs.YtccifbbjbnjcfaaGreatDoor
/-
  Walks: DiskCrash, set aside.
-/
namespace Go.Proofs.YtccifbbjbnjcfaaGreatDoor
open Go Go.RowKit Go.Proofs
attribute [local irreducible] RWp AW run kPe pe Kt effA gd gu br retR RDp runD kPeD brW gW effD
set_option maxRecDepth 100000
end Go.Proofs.YtccifbbjbnjcfaaGreatDoor
/-
  Walks: sameBook; small facts about books.
-/
namespace Go.Proofs.YtccifbbjbnjcfaaGreatDoor
open Go Go.RowKit Go.Proofs
attribute [local irreducible] RWp AW run kPe pe Kt effA gd gu br retR RDp runD kPeD brW gW effD
set_option maxRecDepth 100000
end Go.Proofs.YtccifbbjbnjcfaaGreatDoor
/-
  Drawn regions: calls that share.
-/
namespace Go.Proofs.YtccifbbjbnjcfaaGreatDoor
open Go Go.RowKit Go.Proofs
theorem at_shareD2 {P : Program} {K : List E → AS → Prop} {f : FuncId} {args : List AV} {o : SO} {l : List SO} {evs : List E} {s : AS} {x : AV} (hc : args.all isC2 = true) (hx : ren (baseOf o.dst) x = x) (hpc : PC P f args (vX x))
    (hk : RDp P K (runD P l (evs ++ [mkE o s x none []]) (s.put o.dst x))) : RDp P K (.call f args o l evs s) := by
  refine ⟨x, [], .inr ⟨hc, hpc⟩, frB_0 _ _, ?_⟩
  rw [hx]
  exact runD_sound _ _ _ (by simpa only [hpOf, hsets] using hk)
theorem szF_le : ∀ (l : List Nat) (r : Int), 0 ≤ r → szF r l ≤ r
  | [], r, h => Int.le_refl _
  | a :: l, r, h => by
    unfold szF
    split
    · omega
    · have := szF_le l (r - a) (by omega); omega
theorem szS_le (l : List Nat) (r : Int) (h : 0 ≤ r) : szS r l ≤ r := by
  unfold szS
  split
  · omega
  · have := szF_le l (r - l.length) (by omega); omega
end Go.Proofs.YtccifbbjbnjcfaaGreatDoor
/-
  Walks: marks written into a side's rows, and read again.
-/
namespace Go.Proofs.YtccifbbjbnjcfaaGreatDoor
open Go Go.RowKit Go.Proofs
attribute [local irreducible] RWp AW run kPe pe Kt effA gd gu br retR RDp runD kPeD brW gW effD
set_option maxRecDepth 100000
def markD (n : Nat) (l' : Row) (rv : AV) (lr' rows : List Row) : Prop := rv = iA n ∧ lr' = [l'] ∧ rows = []
theorem markCommandS_pcl (l : List Cm) (k : Nat) (h0 : 0 < k) (hk : k + 5 * l.length ≤ 4611686018427387904) : PCL Tryz.prog 66 [rowC l] (mvF none) [.o 0 l.length, iA k] (markD (k + 5 * l.length) (rowC (mkC k l))) := by
  refine pcl_enter Tryz.func66 rfl rfl (by simp) fun w0 fb loc => go_on ?_; simp only [Tryz.ntmps66, hpL, nmL, mvF, renL, decide_true, decide_false, push_cast, simprocAttr]
  refine at_loop (X := Nat) (fun i => [(1, iA ((k + 5 * i : Nat) : Int)), (5, iA i)]) (fun i => [(500000, rowC (upC k l i))]) (fun i => i ≤ l.length) (fun i => l.length - i) 0 (Nat.zero_le _) ?_ ?_
  · (refine wk_frz ?_ ?_ ?_ ?_ <;> simp [rowC, upC, leF, leHF, frzB, idsL, idsA, idsR, inH, hget, sameRow, viewN, tk, upA, hvA, dsts, dstO, setA_0, setA_1, setA_8, List.append, List.cons_append, List.nil_append])
  · rintro i hi
    simp only [upA, hvA, dsts, dstO, setA_0, setA_1, setA_8, List.append, List.cons_append, List.nil_append]
    refine go_on ?_
    (try simp only [push_cast, simprocAttr])
    by_cases hlt : i < l.length
    · have i0 : ltI (i : Int) l.length = true := ltI_t (by omega)
      have hlen := upC_len k l i hi
      have hm := markText_pc (k + 5 * i) (by omega) (by omega)
      obtain ⟨x, hx⟩ := get_of_lt hlt
      have hux : (upC k l i)[i]? = some x := by unfold upC; rw [up_get (by rw [mkC_len]; exact hi)]; exact hx
      have i1 := ix_n hx
      have i2 := map_get cmC hux
      have i3 : ∀ e, ((List.map cmC (upC k l i)).set i e)[i]? = some e := fun e => by rw [List.getElem?_set_self (by rw [List.length_map]; omega)]
      have hs : (List.map cmC (upC k l i)).set i [sA (mkT (k + 5 * i)), iA ((k + 5 * i : Nat) + 1), iA ((k + 5 * i : Nat) + 1 + 1), iA ((k + 5 * i : Nat) + 1 + 1 + 1), iA ((k + 5 * i : Nat) + 1 + 1 + 1 + 1)] = List.map cmC (upC k l (i + 1)) := by
        unfold upC
        rw [← up_set (mkC_get l k i hlt) hlt, List.map_set]
        rfl
      have w1 : IntKind.i64.wrap ((k : Int) + 5 * (i : Int) + 1) = (k : Int) + 5 * (i : Int) + 1 := wr _ (by omega)
      have w2 : IntKind.i64.wrap ((k : Int) + 5 * (i : Int) + 1 + 1) = (k : Int) + 5 * (i : Int) + 1 + 1 := wr _ (by omega)
      have w3 : IntKind.i64.wrap ((k : Int) + 5 * (i : Int) + 1 + 1 + 1) = (k : Int) + 5 * (i : Int) + 1 + 1 + 1 := wr _ (by omega)
      have w6 : IntKind.i64.wrap ((k : Int) + 5 * (i : Int) + 1 + 1 + 1 + 1) = (k : Int) + 5 * (i : Int) + 1 + 1 + 1 + 1 := wr _ (by omega)
      have w7 : IntKind.i64.wrap ((k : Int) + 5 * (i : Int) + 1 + 1 + 1 + 1 + 1) = (k : Int) + 5 * (i : Int) + 1 + 1 + 1 + 1 + 1 := wr _ (by omega)
      have w4 : IntKind.i64.wrap ((i : Int) + 1) = (i : Int) + 1 := wr _ (by omega)
      push_cast at hs
      simp only [cmC] at i2
      (try simp only [i0, push_cast, simprocAttr])
      (refine at_call ?_; (try simp only [push_cast, simprocAttr]); refine rwc_v (hm) (go_on ?_); (try simp only [push_cast, simprocAttr]))
      (try simp only [i1, i2, i3, w1, w2, w3, w4, w6, w7, List.set_set, hs, push_cast, simprocAttr])
      have e5 : (k : Int) + 5 * ((i + 1 : Nat) : Int) = (k : Int) + 5 * (i : Int) + 1 + 1 + 1 + 1 + 1 := by omega
      refine at_fin ⟨i + 1, by omega, by omega, ?_⟩
      simp only [e5]
      (refine wk_frz ?_ ?_ ?_ ?_ <;> simp [rowC, leF, leHF, frzB, idsL, idsA, idsR, inH, hget, sameRow, viewN, tk, upA, hvA, dsts, dstO, setA_0, setA_1, setA_8, List.append, List.cons_append, List.nil_append])
    · have i0 : ltI (i : Int) l.length = false := ltI_f (by omega)
      obtain rfl : i = l.length := by omega
      have e : upC k l l.length = mkC k l := by unfold upC; rw [List.drop_length, List.append_nil, List.take_of_length_le (by rw [mkC_len]; exact Nat.le_refl _)]
      have hfin : markD (k + 5 * l.length) (rowC (mkC k l)) (iA ((k + 5 * l.length : Nat) : Int)) [rowC (mkC k l)] [] := ⟨rfl, rfl, rfl⟩
      (try simp only [i0, e, push_cast, simprocAttr])
      (refine at_retL ?_; simp only [Tryz.results66, retL, push_cast, simprocAttr]; simpa [show List.range 1 = [0] from rfl, show List.range 2 = [0, 1] from rfl, show List.range 3 = [0, 1, 2] from rfl, nmL, mvF, ndB, ixOf, rowsOf, hget, rdR, rowS, rowN, rowC] using  hfin)
end Go.Proofs.YtccifbbjbnjcfaaGreatDoor
/-
  Walks: the law's helpers at books and at lists of disks.
-/
namespace Go.Proofs.YtccifbbjbnjcfaaGreatDoor
open Go Go.RowKit Go.Proofs
def bkO (b : Bk) : AV := .agg [iA b.ep, .o 0 b.log.length]
def szK (b : Bk) (left : Int) : Int := szS left (b.log.map fun n => n.p.length)
def markK (b : Bk) (k : Nat) (rv : AV) (lr' rows : List Row) : Prop := rv = iA ((k + 5 * b.log.length : Nat) : Int) ∧ lr' = [rowC (mkC k b.log)] ∧ rows = []
/-- Lists of disks, marked. -/
def tots (l : List (List BD)) : Nat := (l.map tot).sum
def mkS : Nat → List (List BD) → List (List BD)
  | _, [] => []
  | k, d :: l => mkB k d :: mkS (k + tot d) l
theorem mkS_len : ∀ (k : Nat) (l : List (List BD)), (mkS k l).length = l.length
  | _, [] => rfl
  | k, d :: l => by simp [mkS, mkS_len (k + tot d) l]
theorem mkS_get : ∀ (l : List (List BD)) (k i : Nat) (d : List BD), l[i]? = some d → (mkS k l)[i]? = some (mkB (k + tots (l.take i)) d)
  | [], _, _, _, h => by simp at h
  | x :: l, k, 0, d, h => by simp at h; subst h; simp [mkS, tots]
  | x :: l, k, i + 1, d, h => by
    have := mkS_get l (k + tot x) i d (by simpa using h)
    simp only [mkS, List.getElem?_cons_succ, this, List.take_succ_cons]
    simp [tots, Nat.add_assoc]
theorem tots_take {l : List (List BD)} {i : Nat} {d : List BD} (h : l[i]? = some d) : tots (l.take (i + 1)) = tots (l.take i) + tot d := by
  rw [List.take_add_one, h]; simp [tots]
theorem tots_le : ∀ (l : List (List BD)) (i : Nat), tots (l.take i) ≤ tots l
  | [], i => by simp [tots]
  | d :: l, 0 => by simp [tots]
  | d :: l, i + 1 => by
    have := tots_le l i
    simp only [tots, List.take_succ_cons, List.map_cons, List.sum_cons] at this ⊢; omega
attribute [local irreducible] RWp AW run kPe pe Kt effA gd gu br retR RDp runD kPeD brW gW effD
set_option maxRecDepth 100000
theorem szBook_pc (b : Bk) (left : Int) (h0 : 0 ≤ left) (h1 : left ≤ 1048576) (hl : b.log.length ≤ 9223372036854775807) (hp : ∀ n ∈ b.log, n.p.length ≤ 9223372036854775807) : PC Tryz.prog 17 [bkA b, iA left] (vI (if szK b left < 0 then -1 else szK b left)) := by
  have hC := szCommandS_pc b.log left h0 h1 hl hp
  unfold bkA bkC
  refine pc_enter Tryz.func17 rfl rfl fun w0 fb => go_on ?_; (try simp only [Tryz.ntmps17, push_cast, simprocAttr])
  (refine at_call ?_; (try simp only [push_cast, simprocAttr]); refine rwc_v (hC) (go_on ?_); (try simp only [push_cast, simprocAttr]))
  refine at_b (fun hb => ?_) (fun hb => ?_)
  · have := of_ltI_t hb
    (try simp only [hb, push_cast, simprocAttr])
    refine at_ret ?_; simp only [Tryz.results17, push_cast, simprocAttr]
    simp [vX, szK, this]
  · have := of_ltI_f hb
    (try simp only [hb, push_cast, simprocAttr])
    refine at_ret ?_; simp only [Tryz.results17, push_cast, simprocAttr]
    simp [vX, szK]
    omega
theorem toBook_pc (b : Bk) (hl : b.log.length ≤ 1048576) : PC Tryz.prog 19 [bkA b] (rX (bkO b) [rowC b.log]) := by
  unfold bkA bkC bkO
  refine pc_enter Tryz.func19 rfl rfl fun w0 fb => go_on ?_; (try simp only [Tryz.ntmps19, push_cast, simprocAttr])
  (refine at_call ?_; (try simp only [push_cast, simprocAttr]); refine rwc_r (toCommandS_pc b.log hl) rfl (flat_c _) (by simp [frB, baseOf]) (go_on ?_); (try simp only [push_cast, simprocAttr]))
  refine at_ret ?_; simp only [Tryz.results19, push_cast, simprocAttr]
  simp [rX, ixOf]
theorem toBook_d (b : Bk) (hl : b.log.length ≤ 1048576) : PC Tryz.prog 19 [bkA b] (vX (bkA b)) := by
  have := (toBook_pc b hl).frzX
  simp [viewN, hpOf, hget, isC, tk, bkO] at this
  exact this
theorem eqBook_pc (a b : Bk) (hl : a.log.length < 4294967281) : PC Tryz.prog 22 [bkA a, bkA b] (vB (decide (a = b))) := by
  have hS := eqCommandS_pc a.log b.log hl
  have e : decide (a = b) = (eqI a.ep b.ep && decide (a.log = b.log)) := by
    rw [Bool.eq_iff_iff, eqI_d]
    obtain ⟨ae, al⟩ := a
    obtain ⟨be, bl⟩ := b
    simp
  rw [e]
  unfold bkA bkC
  cases he : eqI a.ep b.ep with
  | false =>
    refine pc_enter Tryz.func22 rfl rfl fun w0 fb => go_on ?_; (try simp only [Tryz.ntmps22, push_cast, simprocAttr])
    (try simp only [he, Bool.not_false, push_cast, simprocAttr])
    refine at_ret ?_; simp only [Tryz.results22, push_cast, simprocAttr]
    simp [vX]
  | true =>
    refine pc_enter Tryz.func22 rfl rfl fun w0 fb => go_on ?_; (try simp only [Tryz.ntmps22, push_cast, simprocAttr])
    (try simp only [he, Bool.not_true, push_cast, simprocAttr])
    (refine at_call ?_; (try simp only [push_cast, simprocAttr]); refine rwc_v (hS) (go_on ?_); (try simp only [push_cast, simprocAttr]))
    refine at_b (fun hb => ?_) (fun hb => ?_)
    · (try simp only [hb, push_cast, simprocAttr])
      refine at_ret ?_; simp only [Tryz.results22, push_cast, simprocAttr]
      have := not_t hb
      simp [vX, this]
    · (try simp only [hb, push_cast, simprocAttr])
      refine at_ret ?_; simp only [Tryz.results22, push_cast, simprocAttr]
      have := not_f hb
      simp [vX, this]
theorem markBook_pcl (b : Bk) (k : Nat) (h0 : 0 < k) (hk : k + 5 * b.log.length ≤ 4611686018427387904) : PCL Tryz.prog 23 [rowC b.log] (mvF none) [bkO b, iA k] (markK b k) := by
  have hC := markCommandS_pcl b.log k (by omega) (by omega)
  unfold bkO
  refine pcl_enter Tryz.func23 rfl rfl (by simp) fun w0 fb loc => go_on ?_; simp only [Tryz.ntmps23, hpL, nmL, mvF, renL, decide_true, decide_false, push_cast, simprocAttr]
  push_cast at hC
  (try simp only [push_cast, simprocAttr]); refine call_lend [500000] none (lr := [rowC b.log]) (by simp [ndB]) (by first | rfl | simp [rowsOf, hget, rdR, rowS, rowN, rowC, sC, ndC, cmC]) (by simp [idsL, idsA]) (by simp [mvN]) (by simpa [rnA, ixOf] using hC) ?_
  rintro rv lr' rows ⟨rfl, rfl, rfl⟩
  (refine ⟨by simp [shB, mvF, rdR, rowS, rowN, rowC, mkC_len], by simp [frB, baseOf], go_on ?_⟩; simp only [killA, killH, killRow, push_cast, simprocAttr])
  have hfin : markK b k (iA ((k + 5 * b.log.length : Nat) : Int)) [rowC (mkC k b.log)] [] := ⟨rfl, rfl, rfl⟩
  push_cast at hfin
  (try simp only [push_cast, simprocAttr])
  (refine at_retL ?_; simp only [Tryz.results23, retL, push_cast, simprocAttr]; simpa [show List.range 1 = [0] from rfl, show List.range 2 = [0, 1] from rfl, show List.range 3 = [0, 1, 2] from rfl, nmL, mvF, ndB, ixOf, rowsOf, hget, rdR, rowS, rowN, rowC] using  hfin)
theorem eqBlobSS_pc (L : List (List BD)) (hl : L.length < 4294967281) (hs : ∀ d ∈ L, SmB d) : PC Tryz.prog 21 [dssA L, dssA L] (vB true) := by
  have e0 : eqI (L.length : Int) L.length = true := eqI_t rfl
  refine pc_enter Tryz.func21 rfl rfl fun w0 fb => go_on ?_; (try simp only [Tryz.ntmps21, push_cast, simprocAttr])
  (try simp only [List.length_map, e0, Bool.not_true, push_cast, simprocAttr])
  refine at_loop (X := Nat) (fun k => [(5, iA k)]) (fun _ => []) (fun k => k ≤ L.length) (fun k => L.length - k) 0 (by omega) ?_ ?_
  · (refine wk_ok ?_ ?_ ?_ ?_ <;> simp [leL, leH, idsL, idsA, idsR, inH, hget, sameRow, upA, hvA, dsts, dstO, setA_0, setA_1, setA_8, List.append, List.cons_append, List.nil_append])
  · intro k hk
    simp only [upA, hvA, dsts, dstO, setA_0, setA_1, setA_8, List.append, List.cons_append, List.nil_append]
    refine go_on ?_
    (try simp only [List.length_map, push_cast, simprocAttr])
    by_cases hlt : k < L.length
    · obtain ⟨d, hd⟩ := get_of_lt hlt
      have i0 : ltI (k : Int) L.length = true := ltI_t (by omega)
      have i1 := ix_n hd
      have i2 := map_get dC hd
      simp only [dC] at i2
      have w1 := wr ((k : Int) + 1) (by omega)
      have hsd := hs d (mem_of_get hd)
      have hE := eqBlobS_pc d d (by have := hsd.n; omega) hsd.d8
      rw [decide_eq_true rfl] at hE
      (try simp only [i0, push_cast, simprocAttr])
      refine at_draw rfl (by kernel_rfl) ?_
      (try simp only [i0, i1, i2, List.length_map, push_cast, simprocAttr])
      (refine at_callD (by simp [clB, idsL, idsA, hget]) ?_; (try simp only [viewN, push_cast, simprocAttr]); refine rcd_v hE ?_; (try simp only [push_cast, simprocAttr]))
      (try simp only [Bool.not_true, push_cast, simprocAttr])
      refine at_done (by kernel_rfl) (by kernel_rfl) (go_on ?_)
      (try simp only [w1, Bool.not_true, push_cast, simprocAttr])
      refine at_fin ⟨k + 1, by omega, by omega, ?_⟩
      (refine wk_ok ?_ ?_ ?_ ?_ <;> simp [leL, leH, idsL, idsA, idsR, inH, hget, sameRow, upA, hvA, dsts, dstO, setA_0, setA_1, setA_8, List.append, List.cons_append, List.nil_append])
    · have i0 : ltI (k : Int) L.length = false := ltI_f (by omega)
      (try simp only [i0, push_cast, simprocAttr])
      refine at_ret ?_; simp only [Tryz.results21, push_cast, simprocAttr]
      simp [vX]
theorem heldBlobSS_pc (L : List (List BD)) (k0 : Nat) (h0 : 0 < k0) (hk : k0 + tots L ≤ 4611686018427387904) (hl : L.length < 4294967281) : PC Tryz.prog 25 [dssA (mkS k0 L), iA k0] (vI ((k0 + tots L : Nat) : Int)) := by
  have hln := mkS_len k0 L
  refine pc_enter Tryz.func25 rfl rfl fun w0 fb => go_on ?_; (try simp only [Tryz.ntmps25, push_cast, simprocAttr])
  refine at_loop (X := Nat) (fun k => [(1, iA ((k0 + tots (L.take k) : Nat) : Int)), (5, iA k)]) (fun _ => []) (fun k => k ≤ L.length) (fun k => L.length - k) 0 (by omega) ?_ ?_
  · simp only [List.take_zero, tots, List.map_nil, List.sum_nil, Nat.add_zero]
    (refine wk_ok ?_ ?_ ?_ ?_ <;> simp [leL, leH, idsL, idsA, idsR, inH, hget, sameRow, upA, hvA, dsts, dstO, setA_0, setA_1, setA_8, List.append, List.cons_append, List.nil_append])
  · intro k hk
    have hle := tots_le L k
    simp only [upA, hvA, dsts, dstO, setA_0, setA_1, setA_8, List.append, List.cons_append, List.nil_append]
    refine go_on ?_
    (try simp only [List.length_map, hln, push_cast, simprocAttr])
    by_cases hlt : k < L.length
    · obtain ⟨d, hd⟩ := get_of_lt hlt
      have i0 : ltI (k : Int) L.length = true := ltI_t (by omega)
      have hm := mkS_get L k0 k d hd
      have i1 := ix_n hm
      have i2 := map_get dC hm
      simp only [dC] at i2
      rw [hln] at i1
      have w1 := wr ((k : Int) + 1) (by omega)
      have ht := tots_take hd
      have hle2 := tots_le L (k + 1)
      have hH := heldBlobS_pc d (k0 + tots (L.take k)) (by omega) (by omega)
      have e1 : ltI ((k0 + tots (L.take k) + tot d : Nat) : Int) 0 = false := ltI_f (by omega)
      push_cast at hH e1
      (try simp only [i0, i1, i2, List.length_map, hln, push_cast, simprocAttr])
      (refine at_call ?_; (try simp only [push_cast, simprocAttr]); refine rwc_v (hH) (go_on ?_); (try simp only [push_cast, simprocAttr]))
      (try simp only [e1, w1, push_cast, simprocAttr])
      refine at_fin ⟨k + 1, by omega, by omega, ?_⟩
      have e5 : (k0 : Int) + (tots (L.take (k + 1)) : Int) = (k0 : Int) + tots (L.take k) + tot d := by omega
      simp only [e5]
      (refine wk_ok ?_ ?_ ?_ ?_ <;> simp [leL, leH, idsL, idsA, idsR, inH, hget, sameRow, upA, hvA, dsts, dstO, setA_0, setA_1, setA_8, List.append, List.cons_append, List.nil_append])
    · have i0 : ltI (k : Int) L.length = false := ltI_f (by omega)
      obtain rfl : k = L.length := by omega
      (try simp only [i0, List.take_length, push_cast, simprocAttr])
      refine at_ret ?_; simp only [Tryz.results25, push_cast, simprocAttr]
      simp [vX]
end Go.Proofs.YtccifbbjbnjcfaaGreatDoor
/-
  Lists of disks set aside: read as data; marked.
-/
namespace Go.Proofs.YtccifbbjbnjcfaaGreatDoor
open Go Go.RowKit Go.Proofs
theorem own_c1 {w : World} {E : TypeId} {u : Value} {n : Nat} {vs : List Value} {lv : Nat → Prop} (row : w.ownsRow 0 E 1 u n vs) (hx : ∀ g, u.ownBlock = some g → ¬ lv g) (es : List (List AV)) (hes : es.length = n)
    (hc : ∀ (k : Nat) e, es[k]? = some e → ∃ a v, e = [a] ∧ vs[k]? = some v ∧ v.oneCell' = true ∧ C lv 0 w a v) : C lv 0 w (.sl 1 es) u := by
  have hu : ∃ A c, u = .slice A n c ∧ n ≤ c ∧ c ≤ maxLen ∧ Rd w 0 1 A n vs ∧ (0 < n → ∀ ad, A = some ad → ¬ lv ad.block) := by
    rcases row.2 with ⟨rfl, h0⟩ | ⟨g, cap, cur, rfl, h1, h2, h3, h4, h5, h6⟩
    · subst h0
      have : vs = [] := List.eq_nil_of_length_eq_zero (by have := row.1; omega)
      subst this
      exact ⟨none, 0, rfl, Nat.le_refl _, Nat.zero_le _, ⟨rfl, fun h => absurd h (by simp)⟩, fun h => absurd h (by simp)⟩
    · refine ⟨_, cap, rfl, h3, h4, ⟨row.1, fun _ => ⟨g, 0, rfl, Nat.zero_le _, own_lt row rfl, fun j v hv => ?_⟩⟩, fun _ ad had => by cases had; exact hx g rfl⟩
      rw [Nat.zero_add]
      rw [← h6, List.getElem?_take] at hv
      split at hv
      · simpa [World.cell?, h2] using hv
      · cases hv
  obtain ⟨A, c, rfl, h3, h4, h5, h6⟩ := hu
  have := C.sl (lv := lv) (lo := 0) (w := w) (sz := 1) (es := es) (A := A) (c := c) vs (fun k j => (vs[k * 1 + j]?).getD undef) (by rw [hes]; exact h5) (by rw [hes]; exact h6) (by rw [hes]; exact h3) h4
    (fun k e he => by obtain ⟨a, v, rfl, _⟩ := hc k e he; rfl)
    (fun k e j he hj => by
      obtain ⟨a, v, rfl, h7, h8, _⟩ := hc k e he
      have : j = 0 := by simp at hj; exact hj
      subst this
      have e0 : vs[k * 1 + 0]? = some v := by rw [Nat.mul_one, Nat.add_zero]; exact h7
      rw [e0]
      exact ⟨rfl, h8⟩)
    (fun k e j a' he ha => by
      obtain ⟨a, v, rfl, h7, h8, h9⟩ := hc k e he
      rcases j with _ | j
      · simp at ha; subst ha
        have e0 : vs[k * 1 + 0]? = some v := by rw [Nat.mul_one, Nat.add_zero]; exact h7
        rw [e0]
        exact h9
      · simp at ha)
  rwa [hes] at this
/-- Lists of disks set aside. -/
structure OL (w : World) (X : Nat → Prop) (u : Value) (L : List (List BD)) (vs : List Value) (uss : Nat → UU) (Xs : Nat → Nat → Prop) : Prop where
  len : vs.length = L.length
  row : w.ownsRow 0 29 1 u L.length vs
  blk : ∀ g, u.ownBlock = some g → X g ∧ ∀ i, ¬ Xs i g
  inn : ∀ (i : Nat) d v, L[i]? = some d → vs[i]? = some v → OT w (Xs i) v d (uss i)
  sub : ∀ i b, Xs i b → X b
  dis : ∀ i j b, i ≠ j → Xs i b → ¬ Xs j b
  pos : ∀ (i : Nat) d, L[i]? = some d → 0 < d.length
  lt : ∀ b, X b → b < w.heap.size
section
variable {w w' w0 w1 : World} {X : Nat → Prop} {u : Value} {L : List (List BD)} {vs : List Value} {uss : Nat → UU} {Xs : Nat → Nat → Prop}
theorem OL.same (h : OL w X u L vs uss Xs) (hs : ∀ b, X b → w'.heap[b]? = w.heap[b]?) : OL w' X u L vs uss Xs :=
  ⟨h.len, own_same h.row fun g hg => hs g (h.blk g hg).1, h.blk, fun i d v h1 h2 => (h.inn i d v h1 h2).same (fun b hb => hs b (h.sub i b hb)) fun _ h => h, h.sub, h.dis, h.pos, fun b hb => by
    have h1 := hs b hb
    rw [Array.getElem?_eq_getElem (h.lt b hb)] at h1
    exact (Array.getElem?_eq_some_iff.1 h1).1⟩
theorem OL.one (h : OL w X u L vs uss Xs) {i : Nat} {v : Value} (hv : vs[i]? = some v) : ∃ g c d, L[i]? = some d ∧ v = .slice (some ⟨g, 0, none⟩) d.length c := by
  obtain ⟨d, hd⟩ := get_of_lt (l := L) (k := i) (by have := lt_of_some hv; have := h.len; omega)
  obtain ⟨g, c, rfl⟩ := (h.inn i d v hd hv).some (h.pos i d hd)
  exact ⟨g, c, d, hd, rfl⟩
theorem OL.cv (h : OL w X u L vs uss Xs) : C (fun b => ∃ i, Xs i b) 0 w (.sl 1 (vs.map fun v => [.v v])) u :=
  own_c1 h.row (fun g hg ⟨i, hi⟩ => (h.blk g hg).2 i hi) _ (by rw [List.length_map, h.len]) fun k e he => by
    rw [List.getElem?_map, Option.map_eq_some_iff] at he
    obtain ⟨v, hv, rfl⟩ := he
    obtain ⟨g, c, d, _, rfl⟩ := h.one hv
    exact ⟨_, _, rfl, hv, rfl, .v⟩
theorem OL.c (h : OL w X u L vs uss Xs) {lv : Nat → Prop} (hx : ∀ b, X b → ¬ lv b) : C lv 0 w (dssA L) u :=
  own_c1 h.row (fun g hg => hx g (h.blk g hg).1) _ (by rw [List.length_map]) fun k e he => by
    rw [List.getElem?_map, Option.map_eq_some_iff] at he
    obtain ⟨d, hd, rfl⟩ := he
    obtain ⟨v, hv⟩ := get_of_lt (l := vs) (k := k) (by have := lt_of_some hd; have := h.len; omega)
    have hi := h.inn k d v hd hv
    refine ⟨_, v, rfl, hv, ?_, hi.c fun b hb => hx b (h.sub k b hb)⟩
    obtain ⟨g, c, d', _, rfl⟩ := h.one hv
    rfl
theorem OL.ga {lent1 : Lent} {s : AS} (hO : OL w1 X u L vs uss Xs) (hX : ∀ b, X b → lent1.fb b) : ∀ loc a w, Rel w1 lent1 s loc a w → ∀ v, G s.h loc w (.v u) v → C (fun _ => False) 0 w (dssA L) v :=
  ga_g fun w h => (hO.same (fun b hb => h b (hX b hb))).c fun _ _ h => h
/-- A function that is handed data among which memory lies that it writes. -/
theorem ps_enter {P : Program} {f : FuncId} {fn : Func} {c : Code} {args : List AV} {Post : Ending → World → Prop} {vs : Array Value} (hf : P.funcs[f]? = some fn) (hb : fn.body = some c) (hX : ∀ b, X b → b < w.heap.size)
    (hs : vs.size = args.length) (hg : ∀ (j : Nat) x, args[j]? = some x → C X 0 w x (vs.getD j undef))
    (h : AW P w ⟨fun _ => False, X, fun _ => none⟩ (bodyPost P fn Post) [.code c] ⟨args ++ List.replicate (fn.ntmps - args.length) .any, []⟩) : Calls P f vs w Post := by
  refine calls_of_wp hf hb ?_
  refine h ⟨fun _ => none, X⟩ _ w ⟨?_, fun i x hx => ?_, rfl, fun r row hr => (by cases hr), fun r r' row row' b c c' hr => (by cases hr), fun r row b c hr => (by cases hr), rfl, rfl, rfl, Nat.le_refl _, fun _ _ _ => rfl, rfl, fun b hb => ⟨hX b hb, fun h => h⟩, fun r p h => (by cases h), fun r p h => (by cases h)⟩
  · simp [hs]
  · by_cases hi : i < args.length
    · simp only at hx
      rw [List.getElem?_append_left hi] at hx
      refine .cl ?_
      have := hg i x hx
      have e : (vs ++ Array.replicate (fn.ntmps - vs.size) undef).getD i undef = vs.getD i undef := by
        rw [Array.getD_eq_getD_getElem?, Array.getElem?_append, if_pos (by omega), ← Array.getD_eq_getD_getElem?]
      rw [e]
      exact this.mono (Nat.le_refl _) (Nat.le_refl _) fun b _ _ hnl => ⟨fun h => by
        rcases h with ⟨r, row, c, h1, _⟩ | h
        · cases h1
        · exact hnl h, rfl⟩
    · simp only at hx
      rw [List.getElem?_append_right (by omega), List.getElem?_replicate] at hx
      split at hx
      · cases hx; exact .cl .any
      · cases hx
end
/-- A loop whose rounds each lay the world anew. -/
theorem at_loopN {P : Program} {Q : Exit → Act → World → Prop} {w1 : World} {lent1 : Lent} {s : AS} {c : Code} {k : List It} {X : Type} (f : X → List (Nat × AV)) (g : X → Hp) (J : X → World → Lent → Prop) (μ : X → Nat) (hk : nf k = true)
    (h0 : ∀ loc a w, Rel w1 lent1 s loc a w → ∃ x w2 lent2 loc2, J x w2 lent2 ∧ Rel w2 lent2 ⟨upA (hvA s.t (dsts c)) (f x), g x⟩ loc2 a w)
    (hl : ∀ x w2 lent2, J x w2 lent2 → μ x = 0 → AW P w2 lent2 Q (.code c :: .fin (fun _ => False) :: k) ⟨upA (hvA s.t (dsts c)) (f x), g x⟩)
    (hr : ∀ x w2 lent2, J x w2 lent2 → 0 < μ x → ∀ Q' : Exit → Act → World → Prop, (∀ y w3 lent3 loc3 a w, J y w3 lent3 → μ y + 1 = μ x → Rel w3 lent3 ⟨upA (hvA s.t (dsts c)) (f y), g y⟩ loc3 a w → Q' .normal a w) → AW P w2 lent2 Q' [.code c] ⟨upA (hvA s.t (dsts c)) (f x), g x⟩) : RWp P w1 lent1 Q (.loop c k s) := by
  intro loc a w hR
  have key : ∀ n x w2 lent2 loc a w, J x w2 lent2 → μ x = n → Rel w2 lent2 ⟨upA (hvA s.t (dsts c)) (f x), g x⟩ loc a w → Code.rounds P c (Kt P w1 lent1 Q k) (n + 1) a w := by
    intro n
    induction n with
    | zero =>
      intro x w2 lent2 loc a w hJ hm hR
      rw [rounds_succ]
      refine wp_mono (hl x w2 lent2 hJ hm loc a w hR) fun e a' w' hkk => ?_
      rw [Kt_nf (w1 := w2) (lent1 := lent2) hk]
      cases e with
      | normal => obtain ⟨_, _, h, _⟩ := hkk; exact h.elim
      | _ => exact hkk
    | succ n ih =>
      intro x w2 lent2 loc a w hJ hm hR
      rw [rounds_succ]
      exact hr x w2 lent2 hJ (by omega) (Exit.then (Code.rounds P c (Kt P w1 lent1 Q k) (n + 1)) (Kt P w1 lent1 Q k)) (fun y w3 lent3 loc3 a w h1 h2 h3 => ih y w3 lent3 loc3 a w h1 (by omega) h3) loc a w hR
  obtain ⟨x, w2, lent2, loc2, h1, h2⟩ := h0 loc a w hR
  exact wp_loop_rounds _ (key _ x w2 lent2 loc2 a w h1 rfl h2)
theorem at_fallW {P : Program} {Q' : Exit → Act → World → Prop} {w1 : World} {lent1 : Lent} {s : AS} (S' : AS) (hwk : Wk s S') (h : ∀ loc a w, Rel w1 lent1 S' loc a w → Q' .normal a w) : RWp P w1 lent1 Q' (.fall s) := fun loc a w hR => by
  obtain ⟨loc', h'⟩ := hwk w1 lent1 loc a w hR
  exact h loc' a w h'
def upM (k0 : Nat) (L : List (List BD)) (i j : Nat) (d : List BD) : List BD := if j < i then mkB (k0 + tots (L.take j)) d else d
attribute [local irreducible] RWp AW run kPe pe Kt effA gd gu br retR RDp runD kPeD brW gW effD
set_option maxRecDepth 100000
theorem markBlobSS_m {w : World} {X : Nat → Prop} {u : Value} {L : List (List BD)} {vs : List Value} {uss : Nat → UU} {Xs : Nat → Nat → Prop} (hO : OL w X u L vs uss Xs) (k0 : Nat) (h0 : 0 < k0) (hk : k0 + tots L ≤ 4611686018427387904) (hl : L.length < 4294967281) :
    Calls Tryz.prog 24 #[u, .int .i64 k0] w fun e w' => e = .returned (.int .i64 ((k0 + tots L : Nat) : Int)) ∧ Mut (fun b => ∃ i, Xs i b) w w' ∧ ∀ (j : Nat) d v, L[j]? = some d → vs[j]? = some v → OT w' (Xs j) v (mkB (k0 + tots (L.take j)) d) (uss j) := by
  have hlen := hO.len
  refine ps_enter (args := [.sl 1 (vs.map fun v => [.v v]), iA k0]) Tryz.func24 rfl (X := fun b => ∃ i, Xs i b) (fun b ⟨i, hi⟩ => hO.lt b (hO.sub i b hi)) rfl (fun j x hx => ?_) (go_on ?_)
  · rcases j with _ | _ | j
    · cases hx; exact hO.cv
    · cases hx; exact .v
    · simp at hx
  (try simp only [Tryz.ntmps24, push_cast, simprocAttr])
  refine at_loopN (X := Nat) (fun i => [(1, iA ((k0 + tots (L.take i) : Nat) : Int)), (5, iA i)]) (fun _ => []) (fun i w2 lent2 => i ≤ L.length ∧ (lent2.fb = fun b => ∃ i, Xs i b) ∧ ChX (fun b => ∃ i, Xs i b) w w2 lent2 ∧ ∀ (j : Nat) d v, L[j]? = some d → vs[j]? = some v → OT w2 (Xs j) v (upM k0 L i j d) (uss j)) (fun i => L.length - i) rfl
    (from_wk 0 ⟨Nat.zero_le _, rfl, ⟨rfl, rfl, rfl, Nat.le_refl _, fun _ _ _ => rfl, fun _ h => h.elim, fun b h => .inl h⟩, fun j d v h1 h2 => by
      unfold upM; rw [if_neg (Nat.not_lt_zero _)]; exact hO.inn j d v h1 h2⟩ ?_) ?_ ?_
  · simp only [List.take_zero, tots, List.map_nil, List.sum_nil, Nat.add_zero]
    (refine wk_ok ?_ ?_ ?_ ?_ <;> simp [leL, leH, idsL, idsA, idsR, inH, hget, sameRow, upA, hvA, dsts, dstO, setA_0, setA_1, setA_8, List.append, List.cons_append, List.nil_append])
  · rintro i w2 lent2 ⟨q1, q2, q3, q4⟩ hz
    obtain rfl : i = L.length := by omega
    simp only [upA, hvA, dsts, dstO, setA_0, setA_1, setA_8, List.append, List.cons_append, List.nil_append]
    refine go_on ?_
    have i0 : ltI (L.length : Int) L.length = false := ltI_f (by omega)
    (try simp only [List.length_map, hlen, i0, List.take_length, push_cast, simprocAttr])
    refine at_retW (l := [iA ((k0 + tots L : Nat) : Int)]) (by simp only [Tryz.results24, push_cast, simprocAttr]) fun loc a w3 v hR hG => ?_
    refine ⟨by rw [hG.v_inv]; push_cast; rfl, q3.mut hR, fun j d v' h1 h2 => ?_⟩
    have h3 := q4 j d v' h1 h2
    unfold upM at h3
    rw [if_pos (lt_of_some h1)] at h3
    exact h3.same (fun b hb => hR.fbk (by rw [q2]; exact ⟨j, hb⟩)) fun _ h => h
  · rintro i w2 lent2 ⟨q1, q2, q3, q4⟩ hz Q' hQ
    simp only [upA, hvA, dsts, dstO, setA_0, setA_1, setA_8, List.append, List.cons_append, List.nil_append] at hQ ⊢
    obtain ⟨m, hm⟩ : ∃ m, m = k0 + tots (L.take i) := ⟨_, rfl⟩
    have hle := tots_le L i
    rw [← hm]
    refine go_on ?_
    have hlt : i < L.length := by omega
    obtain ⟨d, hd⟩ := get_of_lt hlt
    obtain ⟨v, hv⟩ := get_of_lt (l := vs) (k := i) (by omega)
    have i0 : ltI (i : Int) L.length = true := ltI_t (by omega)
    have i1 := ix_n hd
    have i2 := map_get (fun v : Value => [AV.v v]) hv
    have w1 := wr ((i : Int) + 1) (by omega)
    have ht := tots_take hd
    have hle2 := tots_le L (i + 1)
    have hOi := q4 i d v hd hv
    unfold upM at hOi
    rw [if_neg (Nat.lt_irrefl _)] at hOi
    obtain ⟨g, cp, rfl⟩ := hOi.some (hO.pos i d hd)
    (try simp only [i0, i1, i2, List.length_map, hlen, push_cast, simprocAttr])
    refine at_markB (k0 := m) rfl hOi (fun b hb => by rw [q2]; exact ⟨i, hb⟩) (by omega) (by omega) ?_
    rintro w4 lent4 hM hO4
    refine go_on ?_
    (try simp only [w1, push_cast, simprocAttr])
    have hJ : ∀ (j : Nat) d v, L[j]? = some d → vs[j]? = some v → OT w4 (Xs j) v (upM k0 L (i + 1) j d) (uss j) := fun j d' v' h1 h2 => by
      unfold upM
      by_cases hj : j = i
      · subst hj
        rw [hd] at h1; rw [hv] at h2
        cases h1; cases h2
        rw [if_pos (by omega), ← hm]
        exact hO4
      · have h3 := q4 j d' v' h1 h2
        unfold upM at h3
        have e : (j < i + 1) = (j < i) := propext ⟨fun h => by omega, fun h => by omega⟩
        simp only [e]
        exact h3.same (fun b hb => hM.keep b (by rw [q2]; exact ⟨j, hb⟩) (hO.dis j i b hj hb)) fun _ h => h
    refine at_fallW _ ?_ fun loc a w5 hR => hQ (i + 1) w4 lent4 loc a w5 ⟨by omega, by rw [hM.fb]; exact q2, hM.ch _ _ q3, hJ⟩ (by omega) hR
    have e6 : ((k0 + tots (L.take (i + 1)) : Nat) : Int) = (m : Int) + tot d := by omega
    simp only [e6]
    (refine wk_ok ?_ ?_ ?_ ?_ <;> simp [leL, leH, idsL, idsA, idsR, inH, hget, sameRow, upA, hvA, dsts, dstO, setA_0, setA_1, setA_8, List.append, List.cons_append, List.nil_append])
end Go.Proofs.YtccifbbjbnjcfaaGreatDoor
/-
  Walks: lists of disks set aside, marked in place; BookSteps, set aside.
-/
namespace Go.Proofs.YtccifbbjbnjcfaaGreatDoor
open Go Go.RowKit Go.Proofs
theorem mkS_get2 {L : List (List BD)} {k i : Nat} {d' : List BD} (h : (mkS k L)[i]? = some d') : ∃ d, L[i]? = some d ∧ d' = mkB (k + tots (L.take i)) d := by
  obtain ⟨d, hd⟩ := get_of_lt (l := L) (k := i) (by have := lt_of_some h; rw [mkS_len] at this; exact this)
  rw [mkS_get L k i d hd] at h
  cases h
  exact ⟨d, hd, rfl⟩
theorem at_markSS {Q : Exit → Act → World → Prop} {w1 : World} {lent1 : Lent} {s : AS} {X : Nat → Prop} {u : Value} {L : List (List BD)} {vs : List Value} {uss : Nat → UU} {Xs : Nat → Nat → Prop} {k0 : Nat} {dst : Option Tmp} {k : List It} (hnf : nf k = true)
    (hO : OL w1 X u L vs uss Xs) (hX : ∀ b, X b → lent1.fb b) (h0 : 0 < k0) (hk : k0 + tots L ≤ 4611686018427387904) (hl : L.length < 4294967281)
    (h : ∀ w2 lent2, NxM w1 lent1 w2 lent2 (fun b => ∃ i, Xs i b) → OL w2 X u (mkS k0 L) vs uss Xs → AW Tryz.prog w2 lent2 Q k (AS.put s dst (.v (.int .i64 ((k0 + tots L : Nat) : Int))))) :
    RWp Tryz.prog w1 lent1 Q (.call 24 [.v u, .v (.int .i64 k0)] dst k s) :=
  call_mut (fun b => ∃ i, Xs i b) hnf (fun b ⟨i, hi⟩ => hX b (hO.sub i b hi)) (enters_of Tryz.func24 (by kernel_rfl) rfl)
    (Z := fun w x => x = .v (.int .i64 ((k0 + tots L : Nat) : Int)) ∧ OL w X u (mkS k0 L) vs uss Xs)
    (fun w vs' hw hs hv => by
      obtain rfl := getD2 hs (hv 0 _ rfl) (hv 1 _ rfl)
      have hO' := hO.same fun b hb => hw b (hX b hb)
      refine (markBlobSS_m hO' k0 h0 hk hl).mono ?_
      rintro e w' ⟨rfl, h1, h2⟩
      refine ⟨_, _, rfl, fun _ _ _ => .v, h1, rfl, ⟨by rw [mkS_len]; exact hO.len, ?_, hO.blk, fun i d v g1 g2 => ?_, hO.sub, hO.dis, fun i d g1 => ?_, fun b hb => Nat.lt_of_lt_of_le (hO'.lt b hb) h1.size⟩⟩
      · rw [mkS_len]
        exact own_same hO'.row fun g hg => h1.keep g (hO'.lt g (hO.blk g hg).1) fun ⟨i, hi⟩ => (hO.blk g hg).2 i hi
      · obtain ⟨d0, g3, rfl⟩ := mkS_get2 g1
        exact h2 i d0 v g3 g2
      · obtain ⟨d0, g3, rfl⟩ := mkS_get2 g1
        rw [mkB_len]; exact hO.pos i d0 g3)
    (fun w2 lent2 x h1 h2 => by
      obtain ⟨rfl, h2⟩ := h2
      exact h w2 lent2 h1 h2)
/-- What BookSteps returns, set aside. -/
def osB (L : List (List BD)) (ok : Bool) (w : World) (X : Nat → Prop) (x : AV) : Prop := ∃ u vs uss Xs, x = .tup [.v u, bA ok] ∧ OL w X u L vs uss Xs
theorem OL.nil_or {w : World} {X : Nat → Prop} {u : Value} {L : List (List BD)} {vs : List Value} {uss : Nat → UU} {Xs : Nat → Nat → Prop} (h : OL w X u L vs uss Xs) : (u = .slice none 0 0 ∧ L = []) ∨ ∃ g c, u = .slice (some ⟨g, 0, none⟩) L.length c := by
  rcases h.row.2 with ⟨h1, h2⟩ | ⟨g, cap, cur, h1, _⟩
  · exact .inl ⟨h1, List.eq_nil_of_length_eq_zero h2⟩
  · exact .inr ⟨g, cap, h1⟩
section
variable {w0 w1 w : World} {lent1 : Lent} {s : AS} {loc : Loc} {a : Act}
theorem own_of_v {R : Nat} {E : TypeId} {cl : Bool} {vs : List Value} (hR : Rel w1 lent1 s loc a w) (hr : hget s.h R = some ⟨E, 1, vs.map fun v => [.v v], cl⟩) : w.ownsRow 0 E 1 (rowVal loc R vs.length) vs.length vs := by
  obtain ⟨_, xs, h1, h2⟩ := hR.rw R _ hr
  simp only [List.length_map] at h1
  have h3 := h1.1
  have : xs = vs := by
    apply List.ext_getElem?
    intro i
    by_cases hi : i < vs.length
    · have hv := List.getElem?_eq_getElem hi
      obtain ⟨u, g1, _, g2, _⟩ := h2 i [.v vs[i]] 0 (.v vs[i]) (by rw [List.getElem?_map, hv]; rfl) rfl
      simp only [Nat.mul_one, Nat.add_zero] at g1
      rw [g1, hv, g2.v_inv]
    · rw [List.getElem?_eq_none (by omega), List.getElem?_eq_none (by omega)]
  rw [← this]
  rw [← this] at h1
  exact h1
theorem own_blk {R n : Nat} {row : Row} {g : Nat} (hch : Ch w0 w1 lent1) (hR : Rel w1 lent1 s loc a w) (hr : hget s.h R = some row) (hg : (rowVal loc R n).ownBlock = some g) : w0.heap.size ≤ g ∧ ¬ lent1.fb g := by
  unfold rowVal at hg
  cases hl : loc R with
  | none => rw [hl] at hg; cases hg
  | some bc =>
    obtain ⟨b, c⟩ := bc
    rw [hl] at hg
    have : b = g := by simpa [Value.ownBlock] using hg
    subst this
    refine ⟨?_, hR.nfb hr hl⟩
    rcases hch.own hR hr hl with h | h
    · exact h.elim
    · exact h
theorem osNil {R : Nat} {ok : Bool} {v : Value} (hch : Ch w0 w1 lent1) (hr : hget s.h R = some (rowD [])) (hR : Rel w1 lent1 s loc a w) (hG : G s.h loc w (.tup [.o R 0, bA ok]) v) :
    ∃ x, (∀ lv lo W, C lv lo W x v) ∧ osB [] ok w (fun b => w0.heap.size ≤ b ∧ b < w.heap.size) x := by
  obtain ⟨v0, h1, h2⟩ := hG.tupOB
  have ho := own_of_v (vs := []) hR hr
  refine ⟨_, h2, v0, [], fun _ => [], fun _ _ => False, rfl, ⟨rfl, by rw [h1]; exact ho, fun g hg => ?_, fun i d v h => by simp at h, fun _ _ h => h.elim, fun _ _ _ _ h => h.elim, fun i d h => by simp at h, fun b h => h.2⟩⟩
  rw [h1] at hg
  exact ⟨⟨(own_blk hch hR hr hg).1, own_lt ho hg⟩, fun _ h => h⟩
def X3 (Xa Xb Xc : Nat → Prop) (i b : Nat) : Prop := match i with | 0 => Xa b | 1 => Xb b | 2 => Xc b | _ => False
def U3 (ua ub uc : UU) (i : Nat) : UU := match i with | 0 => ua | 1 => ub | _ => uc
theorem osThree {R : Nat} {ok : Bool} {v : Value} {A B D : List BD} {ua ub uc : Value} {sa sb sc : UU} {Xa Xb Xc : Nat → Prop} {cl : Bool} (hch : Ch w0 w1 lent1) (hr : hget s.h R = some ⟨29, 1, [[.v ua], [.v ub], [.v uc]], cl⟩) (hR : Rel w1 lent1 s loc a w)
    (hA : OT w1 Xa ua A sa) (hB : OT w1 Xb ub B sb) (hD : OT w1 Xc uc D sc) (fa : ∀ b, Xa b → lent1.fb b) (fb : ∀ b, Xb b → lent1.fb b) (fc : ∀ b, Xc b → lent1.fb b)
    (dab : ∀ b, Xb b → ¬ Xa b) (dac : ∀ b, Xc b → ¬ Xa b) (dbc : ∀ b, Xc b → ¬ Xb b) (pa : 0 < A.length) (pb : 0 < B.length) (pc : 0 < D.length) (hG : G s.h loc w (.tup [.o R 3, bA ok]) v) :
    ∃ x, (∀ lv lo W, C lv lo W x v) ∧ osB [A, B, D] ok w (fun b => w0.heap.size ≤ b ∧ b < w.heap.size) x := by
  obtain ⟨v0, h1, h2⟩ := hG.tupOB
  have ho := own_of_v (vs := [ua, ub, uc]) hR hr
  have lf : ∀ b, lent1.fb b → w0.heap.size ≤ b ∧ b < w.heap.size := fun b h => ⟨hch.fb' h, Nat.lt_of_lt_of_le (hR.fbl b h).1 hR.size⟩
  have f3 : ∀ i b, X3 Xa Xb Xc i b → lent1.fb b := fun i b h => by
    unfold X3 at h
    split at h
    · exact fa b h
    · exact fb b h
    · exact fc b h
    · exact h.elim
  refine ⟨_, h2, v0, [ua, ub, uc], U3 sa sb sc, X3 Xa Xb Xc, rfl, ⟨rfl, by rw [h1]; exact ho, fun g hg => ?_, fun i d v g1 g2 => ?_, fun i b h => lf b (f3 i b h), fun i j b hne h1 h2 => ?_, fun i d h => ?_, fun b h => h.2⟩⟩
  · rw [h1] at hg
    obtain ⟨k1, k2⟩ := own_blk hch hR hr hg
    exact ⟨⟨k1, own_lt ho hg⟩, fun i hi => k2 (f3 i g hi)⟩
  · rcases i with _ | _ | _ | i
    · cases g1; cases g2; exact hA.same (fun b hb => hR.fbk (fa b hb)) fun _ h => h
    · cases g1; cases g2; exact hB.same (fun b hb => hR.fbk (fb b hb)) fun _ h => h
    · cases g1; cases g2; exact hD.same (fun b hb => hR.fbk (fc b hb)) fun _ h => h
    · simp at g1
  · rcases i with _ | _ | _ | i <;> rcases j with _ | _ | _ | j <;> first | exact hne rfl | exact h1.elim | exact h2.elim | exact dab b h2 h1 | exact dac b h2 h1 | exact dbc b h2 h1 | exact dab b h1 h2 | exact dac b h1 h2 | exact dbc b h1 h2
  · rcases i with _ | _ | _ | i
    · cases h; exact pa
    · cases h; exact pb
    · cases h; exact pc
    · simp at h
end
end Go.Proofs.YtccifbbjbnjcfaaGreatDoor
/-
  Walks: DiskRename, set aside.
-/
namespace Go.Proofs.YtccifbbjbnjcfaaGreatDoor
open Go Go.RowKit Go.Proofs
theorem Gh.zs {w : World} {X : Nat → Prop} {bs : List BD} {us : UU} (h : Gh w X bs us) (hn : ∀ d ∈ bs, 0 ≤ d.name ∧ d.name ≤ 3) : ∀ x ∈ bs.zip us, (0 ≤ x.1.name ∧ x.1.name ≤ 3) ∧ x.2.1.oneCell' = true ∧ x.2.2.oneCell' = true := fun x hx => by
  refine ⟨hn _ (List.of_mem_zip hx).1, h.one x hx _ (by simp [cellV]), h.one x hx _ (by simp [cellV])⟩
attribute [local irreducible] RWp AW run kPe pe Kt effA gd gu br retR RDp runD kPeD brW gW effD
set_option maxRecDepth 100000
theorem DiskRename_o (bs : List BD) (hs : SmB bs) (a b : Int) : PO Tryz.prog 64 [blsA bs, iA a, iA b] (otB (renD bs a b).1 (renD bs a b).2) := by
  have hV := DiskValid_pc bs hs
  have hF := file_pc bs hs.n a
  have hI := in_pc b 1 3
  have hn := hs.n
  have eI : inB b 1 3 = inR b 1 3 := rfl
  refine po_enter Tryz.func64 rfl rfl fun w0 => go_on ?_; (try simp only [Tryz.ntmps64, push_cast, simprocAttr])
  refine at_call ?_
  (try simp only [push_cast, simprocAttr])
  refine rwc_v hF ?_
  (try simp only [push_cast, simprocAttr])
  (refine at_dropS [6] (by refine wk_ok ?_ ?_ ?_ ?_ <;> simp [dropS, dropT, hasN, delL, hdel, leL, leH, idsL, idsA, idsR, inH, hget, sameRow]) ?_; simp only [dropS, dropT, hasN, delL, hdel, idsA, idsL, hget, List.map_cons, List.map_nil, List.all_cons, List.all_nil, List.append_nil, Bool.not_false, Bool.not_true, Bool.and_true, if_true, if_false, simprocAttr])
  refine go_on ?_
  (try simp only [push_cast, simprocAttr])
  (refine at_call ?_; (try simp only [push_cast, simprocAttr]); refine rwc_v (hV) (go_on ?_); (try simp only [push_cast, simprocAttr]))
  cases hv : diskB bs with
  | false =>
    have hr : renD bs a b = ([], false) := by simp [renD, hv]
    rw [hr]
    (try simp only [hv, Bool.not_false, push_cast, simprocAttr])
    (refine at_retO (Ch.refl w0) (l := [.o 6 0, bA false]) (by simp only [Tryz.results64, push_cast, simprocAttr]) ?_)
    exact fun loc a w v hR hG => ownNil (Ch.refl w0) rfl hR hG
  | true =>
    (try simp only [hv, Bool.not_true, push_cast, simprocAttr])
    rcases ixB_cases bs a with ⟨h1, h2⟩ | ⟨j, d, h1, h2, h3⟩
    · have hr : renD bs a b = ([], false) := by cases hb : inB b 1 3 <;> simp [renD, hv, h2, hb]
      rw [hr]
      (try simp only [h1, show ltI (-1) 0 = true from rfl, push_cast, simprocAttr])
      (refine at_retO (Ch.refl w0) (l := [.o 6 0, bA false]) (by simp only [Tryz.results64, push_cast, simprocAttr]) ?_)
      exact fun loc a w v hR hG => ownNil (Ch.refl w0) rfl hR hG
    · have hjl := lt_of_some h2
      have i3 : ltI (j : Int) 0 = false := ltI_f (by omega)
      (try simp only [h1, i3, push_cast, simprocAttr])
      (refine at_call ?_; (try simp only [push_cast, simprocAttr]); refine rwc_v (hI) (go_on ?_); (try simp only [push_cast, simprocAttr]))
      cases hb : inR b 1 3 with
      | false =>
        have hr : renD bs a b = ([], false) := by simp [renD, eI, hb]
        rw [hr]
        (try simp only [hb, Bool.not_false, push_cast, simprocAttr])
        (refine at_retO (Ch.refl w0) (l := [.o 6 0, bA false]) (by simp only [Tryz.results64, push_cast, simprocAttr]) ?_)
        exact fun loc a w v hR hG => ownNil (Ch.refl w0) rfl hR hG
      | true =>
        have ha := ((diskB_iff _).1 hv).2
        have h3n := disk_len hv
        obtain ⟨hdn, hdm⟩ := getB_name h3
        have hb3 : 1 ≤ b ∧ b ≤ 3 := by simp only [inR, Bool.and_eq_true, decide_eq_true_eq] at hb; exact hb
        have hr : renD bs a b = (withB (bs.filter fun x => decide (x.name ≠ a)) ⟨b, d.safe, d.fresh⟩, true) := by unfold renD; rw [hv, eI, hb, h3]; rfl
        rw [hr]
        (try simp only [hb, Bool.not_true, push_cast, simprocAttr])
        refine at_loopR (X := Nat × UU) (fun x => [(9, .o 9 ((bs.take x.1).flatMap (rnF a b)).length), (29, iA x.1)]) (fun x => [(9, rowT ((bs.take x.1).flatMap (rnF a b)) x.2)]) (fun x w lent => x.1 ≤ bs.length ∧ Ch w0 w lent ∧ Gh w lent.fb ((bs.take x.1).flatMap (rnF a b)) x.2) (fun x => bs.length - x.1) rfl (from_wk (0, []) ⟨Nat.zero_le _, Ch.refl w0, by simpa using Gh.nil⟩ ?_) ?_
        · (refine wk_ok ?_ ?_ ?_ ?_ <;> simp [rowT, esT, leL, leH, idsL, idsA, idsR, inH, hget, sameRow, upA, hvA, dsts, dstO, setA_0, setA_1, setA_8, List.append, List.cons_append, List.nil_append])
        · rintro ⟨k, us⟩ w2 lent2 ⟨hk0, hch, hgh⟩
          dsimp only at hk0 hgh
          simp only [upA, hvA, dsts, dstO, setA_0, setA_1, setA_8, List.append, List.cons_append, List.nil_append]
          refine go_on ?_
          have hfl := fm_le a b (bs.take k)
          have hfl2 : (bs.take k).length ≤ k := by rw [List.length_take]; omega
          have hel := esT_len hgh.len
          obtain ⟨es, hes⟩ : ∃ es, es = esT ((bs.take k).flatMap (rnF a b)) us := ⟨_, rfl⟩
          rw [← hes] at hel
          have hce : ∀ e ∈ es, e.all isC = true := fun e he => by rw [hes] at he; exact esT_c e he
          unfold rowT
          rw [← hes]
          (try simp only [List.length_map, push_cast, simprocAttr])
          refine at_b (fun hg => ?_) (fun hg => ?_)
          · have hlt := lt_tt hg
            obtain ⟨x, hx⟩ := get_of_lt hlt
            have i1 := ix_n hx
            have i2 := map_get bC hx
            have hC := blobClone_pc x (hs.d x (mem_of_get hx))
            unfold blobA at hC
            simp only [bC] at i2 hC
            have w1 := wr ((k : Int) + 1) (by omega)
            have e := take_fm (f := rnF a b) hx
            (try simp only [hg, i1, i2, push_cast, simprocAttr])
            by_cases hkj : k = j
            · have hxa : x.name = a := by
                rw [hkj, h2] at hx
                cases hx
                exact hdn
              have es1 : rnF a b x = [⟨b, x.safe, x.fresh⟩] := by unfold rnF; rw [if_pos hxa]
              have g1 : eqI (k : Int) j = true := eqI_t (by omega)
              have hset : ∀ u1 u2, es ++ [[iA b, .v u1, .v u2]] = esT ((bs.take (k + 1)).flatMap (rnF a b)) (us ++ [(u1, u2)]) := fun u1 u2 => by
                rw [e, es1, esT_snoc (by rw [hgh.len]), hes]
              (try simp only [g1, push_cast, simprocAttr])
              (refine at_call ?_; (try simp only [push_cast, simprocAttr]); refine rwc_r (hC) (by simp [flatV, flatL]) (flat_z _ _) (by simp [frB, baseOf]) (go_on ?_); (try simp only [push_cast, simprocAttr]))
              refine at_chk (by omega) ?_
              (try simp only [w1, List.take_of_length_le (Nat.le_of_eq hel), push_cast, simprocAttr])
              have hkill : List.map (fun x => List.map (killA 9) x) (es ++ [[iA b, .o 40000 x.safe.length, .o 40001 x.fresh.length]]) = es ++ [[iA b, .o 40000 x.safe.length, .o 40001 x.fresh.length]] := by
                rw [List.map_append, hes, esT_kill]
                simp [killA]
              rw [hkill]
              refine at_fin fun loc a' w hR => ?_
              obtain ⟨u1, u2, lent3, loc3, hR3, o1, o2, hap, n1, n2, hsub, hkp, hch3, _⟩ := hR.unlink (R := 9) (x := .o 40000 x.safe.length) (y := .o 40001 x.fresh.length) (nm := b) rfl rfl rfl (.o rfl) (.o rfl) (by simp [idsA]) (by simp [idsA]) (by simp [idsA])
                (fun u1 u2 => es ++ [[iA b, .v u1, .v u2]]) (fun u1 u2 => app_rel hce)
              rw [hset] at hR3
              refine from_wk2 hR3 (k + 1, us ++ [(u1, u2)]) ⟨by dsimp only; omega, hch3 _ _ hch, ?_⟩ (by dsimp only; omega) ?_
              · dsimp only
                rw [e, es1]
                exact hgh.snoc hkp hsub o1 o2 hap n1 n2
              · dsimp only
                rw [e, es1, List.length_append]
                (refine wk_ok ?_ ?_ ?_ ?_ <;> simp [clS, isC, leL, leH, idsL, idsA, idsR, inH, hget, sameRow, upA, hvA, dsts, dstO, setA_0, setA_1, setA_8, List.append, List.cons_append, List.nil_append])
            · have hxa : x.name ≠ a := fun h => hkj (asc_ix ha hx h2 (h.trans hdn.symm))
              have g1 : eqI (k : Int) j = false := eqI_f (by omega)
              by_cases hxb : x.name = b
              · have es1 : rnF a b x = [] := by unfold rnF; rw [if_neg hxa, if_pos hxb]
                have g2 : eqI x.name b = true := eqI_t hxb
                (try simp only [g1, g2, Bool.not_true, w1, push_cast, simprocAttr])
                refine at_fin fun loc a' w hR => ?_
                refine from_wk2 hR (k + 1, us) ⟨by dsimp only; omega, hch, ?_⟩ (by dsimp only; omega) ?_
                · dsimp only
                  rw [e, es1, List.append_nil]; exact hgh
                · dsimp only
                  rw [e, es1, List.append_nil, hes]
                  (refine wk_ok ?_ ?_ ?_ ?_ <;> simp [rowT, esT, leL, leH, idsL, idsA, idsR, inH, hget, sameRow, upA, hvA, dsts, dstO, setA_0, setA_1, setA_8, List.append, List.cons_append, List.nil_append])
              · have es1 : rnF a b x = [x] := by unfold rnF; rw [if_neg hxa, if_neg hxb]
                have g2 : eqI x.name b = false := eqI_f hxb
                have hset : ∀ u1 u2, es ++ [[iA x.name, .v u1, .v u2]] = esT ((bs.take (k + 1)).flatMap (rnF a b)) (us ++ [(u1, u2)]) := fun u1 u2 => by
                  rw [e, es1, esT_snoc (by rw [hgh.len]), hes]
                (try simp only [g1, g2, Bool.not_false, push_cast, simprocAttr])
                (refine at_call ?_; (try simp only [push_cast, simprocAttr]); refine rwc_r (hC) (by simp [flatV, flatL]) (flat_z _ _) (by simp [frB, baseOf]) (go_on ?_); (try simp only [push_cast, simprocAttr]))
                refine at_chk (by omega) ?_
                (try simp only [w1, List.take_of_length_le (Nat.le_of_eq hel), push_cast, simprocAttr])
                have hkill : List.map (fun x => List.map (killA 9) x) (es ++ [[iA x.name, .o 54000 x.safe.length, .o 54001 x.fresh.length]]) = es ++ [[iA x.name, .o 54000 x.safe.length, .o 54001 x.fresh.length]] := by
                  rw [List.map_append, hes, esT_kill]
                  simp [killA]
                rw [hkill]
                refine at_fin fun loc a' w hR => ?_
                obtain ⟨u1, u2, lent3, loc3, hR3, o1, o2, hap, n1, n2, hsub, hkp, hch3, _⟩ := hR.unlink (R := 9) (x := .o 54000 x.safe.length) (y := .o 54001 x.fresh.length) (nm := x.name) rfl rfl rfl (.o rfl) (.o rfl) (by simp [idsA]) (by simp [idsA]) (by simp [idsA])
                  (fun u1 u2 => es ++ [[iA x.name, .v u1, .v u2]]) (fun u1 u2 => app_rel hce)
                rw [hset] at hR3
                refine from_wk2 hR3 (k + 1, us ++ [(u1, u2)]) ⟨by dsimp only; omega, hch3 _ _ hch, ?_⟩ (by dsimp only; omega) ?_
                · dsimp only
                  rw [e, es1]
                  exact hgh.snoc hkp hsub o1 o2 hap n1 n2
                · dsimp only
                  rw [e, es1, List.length_append]
                  (refine wk_ok ?_ ?_ ?_ ?_ <;> simp [clS, isC, leL, leH, idsL, idsA, idsR, inH, hget, sameRow, upA, hvA, dsts, dstO, setA_0, setA_1, setA_8, List.append, List.cons_append, List.nil_append])
          · have h5 := lt_ff hg
            have hk' : k = bs.length := by omega
            have hT : bs.take k = bs := by rw [hk', List.take_length]
            rw [hT] at hgh hes hel ⊢
            have hfl3 := fm_le a b bs
            obtain ⟨L, hL⟩ : ∃ L, L = bs.flatMap (rnF a b) := ⟨_, rfl⟩
            rw [← hL] at hgh hes hel hfl3 ⊢
            have hLn : ∀ y ∈ L, 0 ≤ y.name ∧ y.name ≤ 3 := fun y hy => by
              rw [hL, List.mem_flatMap] at hy
              obtain ⟨z, hz, hy⟩ := hy
              have hz := disk_okF hv hz
              simp only [okF, inB, Bool.and_eq_true, decide_eq_true_eq] at hz
              rcases mem_rnF.1 hy with ⟨_, rfl⟩ | ⟨_, _, rfl⟩
              · simp only; omega
              · omega
            have hzl : (L.zip us).length = L.length := zip_len hgh.len
            have hS := sortedZ_pcl (L.zip us) (by omega) (hgh.zs hLn)
            rw [hzl] at hS
            have hes2 : es = (L.zip us).map fun x => (cellV x).map .v := hes
            rw [hes2]
            (try simp only [hg, push_cast, simprocAttr])
            (try simp only [push_cast, simprocAttr]); refine call_lend [9] none (lr := [rowZs (L.zip us)]) (by simp [ndB]) (by first | rfl | simp [rowsOf, hget, rdR, rowS, rowN, rowC, sC, ndC, cmC]) (by simp [idsL, idsA]) (by simp [mvN]) (by simpa [rnA, ixOf] using hS) ?_
            rintro rv lr' rows ⟨zs, g1, g2, rfl, rfl, rfl⟩
            have hll := g1.length_eq
            rw [hzl] at hll
            have hp : (zs.map (·.1)).Perm (bs.flatMap (rnF a b)) := by
              rw [← hL]
              have := g1.map (·.1)
              rwa [List.map_fst_zip (by rw [hgh.len]; exact Nat.le_refl _)] at this
            have hLL := ren_out hv h3 hb hp (by rw [List.pairwise_map]; exact g2)
            (refine ⟨by simp [shB, mvF, rowZs, hll, hzl], by simp [frB, baseOf], go_on ?_⟩; simp only [killA, killH, killRow, push_cast, simprocAttr])
            rw [rowZs_T, hLL]
            have hgh2 := hgh.perm g1
            rw [hLL] at hgh2
            (refine at_retO hch (l := [.o 9 L.length, bA true]) (by simp only [Tryz.results64, push_cast, simprocAttr]) ?_)
            intro loc a' w v hR hG
            obtain ⟨v0, hv0, hv1⟩ := hG.tupOB
            refine ⟨_, hv1, v0, zs.map (·.2), rfl, ?_⟩
            refine hR.toOT hch (R := 9) rfl hgh2 ?_
            rw [hv0, ← hLL, List.length_map, hll]
end Go.Proofs.YtccifbbjbnjcfaaGreatDoor
/-
  Walks: BookSteps, set aside.
-/
namespace Go.Proofs.YtccifbbjbnjcfaaGreatDoor
open Go Go.RowKit Go.Proofs
theorem renD_nil : (renD [] 2 1).1 = [] := rfl
theorem syncP_nil : (syncP [] 2).1 = [] := rfl
attribute [local irreducible] RWp AW run kPe pe Kt effA gd gu br retR RDp runD kPeD brW gW effD
set_option maxRecDepth 100000
set_option maxHeartbeats 1000000
theorem BookSteps_o (bs : List BD) (hs : SmB bs) (b : Bk) (hb : SmL b.log) : PO Tryz.prog 20 [blsA bs, bkA b] (osB (stepsP bs b).1 (stepsP bs b).2) := by
  have hBB := BookBytes_d b hb
  have hV := DiskValid_pc bs hs
  have hC := cloneDisk_pc bs hs
  have hn := hs.n
  have hDel := DeleteFuncB_pcl bs (by omega) 63 [] rfl (fun d => decide (d.name = 2)) (fun d _ => BookSteps1_pc d)
  have hfe : (bs.filter fun n => !decide (n.name = 2)) = bs.filter fun x => decide (x.name ≠ 2) := by
    apply List.filter_congr; intro x _; simp
  rw [hfe] at hDel
  have hsf : SmB (bs.filter fun x => decide (x.name ≠ 2)) := smB_filter hs _
  obtain ⟨⟨y, okb⟩, hy⟩ : ∃ y, y = bookB b := ⟨_, rfl⟩
  rw [← hy] at hBB
  unfold bkA bkC at hBB ⊢
  cases okb with
  | false =>
    rw [stepsP_f (by rw [← hy]; rfl)]
    refine po_enter Tryz.func20 rfl rfl fun w0 => go_on ?_; (try simp only [Tryz.ntmps20, push_cast, simprocAttr])
    (try simp only [push_cast, simprocAttr])
    refine at_share2 (by simp [isC2, isC]) (by first | rfl | simp [ren]) hBB ?_
    simp only [push_cast, simprocAttr]
    (refine at_dropS [4] (by refine wk_ok ?_ ?_ ?_ ?_ <;> simp [dropS, dropT, hasN, delL, hdel, leL, leH, idsL, idsA, idsR, inH, hget, sameRow]) ?_; simp only [dropS, dropT, hasN, delL, hdel, idsA, idsL, hget, List.map_cons, List.map_nil, List.all_cons, List.all_nil, List.append_nil, Bool.not_false, Bool.not_true, Bool.and_true, if_true, if_false, simprocAttr])
    refine go_on ?_
    (try simp only [Bool.not_false, push_cast, simprocAttr])
    (refine at_retO (Ch.refl w0) (l := [.o 4 0, bA false]) (by simp only [Tryz.results20, push_cast, simprocAttr]) ?_)
    exact fun loc a w v hR hG => osNil (Ch.refl w0) rfl hR hG
  | true =>
    cases hv : diskB bs with
    | false =>
      rw [stepsP_f (by rw [← hy, hv]; rfl)]
      refine po_enter Tryz.func20 rfl rfl fun w0 => go_on ?_; (try simp only [Tryz.ntmps20, push_cast, simprocAttr])
      (try simp only [push_cast, simprocAttr])
      refine at_share2 (by simp [isC2, isC]) (by first | rfl | simp [ren]) hBB ?_
      simp only [push_cast, simprocAttr]
      (refine at_dropS [4] (by refine wk_ok ?_ ?_ ?_ ?_ <;> simp [dropS, dropT, hasN, delL, hdel, leL, leH, idsL, idsA, idsR, inH, hget, sameRow]) ?_; simp only [dropS, dropT, hasN, delL, hdel, idsA, idsL, hget, List.map_cons, List.map_nil, List.all_cons, List.all_nil, List.append_nil, Bool.not_false, Bool.not_true, Bool.and_true, if_true, if_false, simprocAttr])
      refine go_on ?_
      (try simp only [Bool.not_true, push_cast, simprocAttr])
      (refine at_call ?_; (try simp only [push_cast, simprocAttr]); refine rwc_v (hV) (go_on ?_); (try simp only [push_cast, simprocAttr]))
      (try simp only [hv, Bool.not_false, push_cast, simprocAttr])
      (refine at_retO (Ch.refl w0) (l := [.o 4 0, bA false]) (by simp only [Tryz.results20, push_cast, simprocAttr]) ?_)
      exact fun loc a w v hR hG => osNil (Ch.refl w0) rfl hR hG
    | true =>
      have hcn : ((bookB b).2 && diskB bs) = true := by rw [← hy, hv]; rfl
      have hyl : y.length ≤ 2000000 := by have := bookB_le b (by rw [← hy]); rw [← hy] at this; exact this
      obtain ⟨f, hf⟩ : ∃ f, f = bs.filter fun x => decide (x.name ≠ 2) := ⟨_, rfl⟩
      rw [← hf] at hDel hsf
      have hW := DiskWrite_o f hsf 2 y hyl
      obtain ⟨⟨wd, ok⟩, hwd⟩ : ∃ w, w = writeD f 2 y := ⟨_, rfl⟩
      rw [← hwd] at hW
      simp only at hW
      cases ok with
      | false =>
        rw [stepsP_w hcn (by rw [← hf, ← hy, ← hwd])]
        refine po_enter Tryz.func20 rfl rfl fun w0 => go_on ?_; (try simp only [Tryz.ntmps20, push_cast, simprocAttr])
        (try simp only [push_cast, simprocAttr])
        refine at_share2 (by simp [isC2, isC]) (by first | rfl | simp [ren]) hBB ?_
        simp only [push_cast, simprocAttr]
        (refine at_dropS [4] (by refine wk_ok ?_ ?_ ?_ ?_ <;> simp [dropS, dropT, hasN, delL, hdel, leL, leH, idsL, idsA, idsR, inH, hget, sameRow]) ?_; simp only [dropS, dropT, hasN, delL, hdel, idsA, idsL, hget, List.map_cons, List.map_nil, List.all_cons, List.all_nil, List.append_nil, Bool.not_false, Bool.not_true, Bool.and_true, if_true, if_false, simprocAttr])
        refine go_on ?_
        (try simp only [Bool.not_true, push_cast, simprocAttr])
        (refine at_call ?_; (try simp only [push_cast, simprocAttr]); refine rwc_v (hV) (go_on ?_); (try simp only [push_cast, simprocAttr]))
        (try simp only [hv, Bool.not_true, push_cast, simprocAttr])
        refine call_share (by simp [isC]) hC ?_
        rintro rv rows ⟨rfl, rfl⟩
        refine ⟨by simp [frB, baseOf], go_on ?_⟩
        (try simp only [push_cast, simprocAttr])
        refine call_lend [28000] (some 0) (lr := [rowB bs]) (by simp [ndB]) (by simp [rowsOf, hget]) (by simp [idsL, idsA]) (by simp [mvN]) (by simpa [rnA, ixOf] using hDel) ?_
        rintro rv lr' rows ⟨rfl, rfl, rfl⟩
        refine ⟨by simp [shB, mvF], by simp [frB], go_on ?_⟩
        (try simp only [killA, killH, killRow, push_cast, simprocAttr])
        (refine at_callW [28000] (by refine wk_frz ?_ ?_ ?_ ?_ <;> simp [frwS, frwH, frwRow, frzT, hasN, delL, hdel, leF, leHF, rowF, frzB, idsL, idsA, idsR, inH, hget, sameRow, viewN, tk]) ?_; simp only [frwS, frwH, frwRow, frzT, hasN, delL, hdel, idsA, idsL, viewN, hget, tk, isC, List.map_cons, List.map_nil, List.all_cons, List.all_nil, List.append_nil, List.drop, List.getElem?_cons_zero, List.getElem?_cons_succ, Bool.not_false, Bool.not_true, Bool.and_true, if_true, if_false, Nat.zero_add, List.length_map, simprocAttr])
        refine call_PO rfl [blsA f, iA 2, intsA y] ⟨ga_c rfl, ga_c rfl, ga_c rfl, trivial⟩ hW ?_
        rintro w2 lent2 X x hN ⟨u, us, rfl, hO⟩
        have c2 := hN.ch _ _ (Ch.refl w0)
        rcases hO.nil_or with ⟨rfl, _⟩ | ⟨g, cp, rfl⟩
        · refine go_on ?_
          (try simp only [Bool.not_false, push_cast, simprocAttr])
          (refine at_retO c2 (l := [.o 4 0, bA false]) (by simp only [Tryz.results20, push_cast, simprocAttr]) ?_)
          exact fun loc a w v hR hG => osNil c2 rfl hR hG
        · refine go_on ?_
          (try simp only [Bool.not_false, push_cast, simprocAttr])
          (refine at_retO c2 (l := [.o 4 0, bA false]) (by simp only [Tryz.results20, push_cast, simprocAttr]) ?_)
          exact fun loc a w v hR hG => osNil c2 rfl hR hG
      | true =>
        have hwv : diskB wd = true ∨ wd = [] := writeD_disk2 hwd
        have hSy := DiskSync_o wd (disk_tot hwv).1 2
        have hsv := syncP_disk (bs := wd) (nm := 2) (Y := (syncP wd 2).1) (ok := (syncP wd 2).2) rfl
        have hRn := DiskRename_o (syncP wd 2).1 (disk_tot hsv).1 2 1
        have hst := stepsP_t hcn (by rw [← hf, ← hy, ← hwd])
        rw [← hf, ← hy, ← hwd] at hst
        simp only at hst
        obtain ⟨w', s', z', l1, l2, _⟩ := law_bookSteps (bs := bs) (b := b) (by rw [hst])
        rw [hst] at l1
        simp only [List.cons.injEq, and_true] at l1
        obtain ⟨rfl, rfl, rfl⟩ := l1
        have hz0 : 0 < (renD (syncP wd 2).1 2 1).1.length := by
          obtain ⟨_, d, hd, _⟩ := readD_true (bookO_some l2).1
          exact List.length_pos_of_mem (getB_name hd).2
        have hs0 : 0 < (syncP wd 2).1.length := by
          rcases Nat.eq_zero_or_pos (syncP wd 2).1.length with h | h
          · rw [List.eq_nil_of_length_eq_zero h] at hz0
            simp [renD_nil] at hz0
          · exact h
        have hw0 : 0 < wd.length := by
          rcases Nat.eq_zero_or_pos wd.length with h | h
          · rw [List.eq_nil_of_length_eq_zero h] at hs0
            simp [syncP_nil] at hs0
          · exact h
        rw [hst]
        obtain ⟨S, hS⟩ : ∃ S, S = (syncP wd 2).1 := ⟨_, rfl⟩
        obtain ⟨Z, hZ⟩ : ∃ Z, Z = (renD S 2 1).1 := ⟨_, rfl⟩
        rw [← hS] at hSy hRn hs0 hz0 ⊢
        rw [← hZ] at hRn hz0 ⊢
        refine po_enter Tryz.func20 rfl rfl fun w0 => go_on ?_; (try simp only [Tryz.ntmps20, push_cast, simprocAttr])
        ((try simp only [push_cast, simprocAttr]); refine at_share2 (by simp [isC2, isC]) (by first | rfl | simp [ren]) (hBB) (go_on ?_); (try simp only [push_cast, simprocAttr]))
        (try simp only [Bool.not_true, push_cast, simprocAttr])
        (refine at_call ?_; (try simp only [push_cast, simprocAttr]); refine rwc_v (hV) (go_on ?_); (try simp only [push_cast, simprocAttr]))
        (try simp only [hv, Bool.not_true, push_cast, simprocAttr])
        refine call_share (by simp [isC]) hC ?_
        rintro rv rows ⟨rfl, rfl⟩
        refine ⟨by simp [frB, baseOf], go_on ?_⟩
        (try simp only [push_cast, simprocAttr])
        refine call_lend [28000] (some 0) (lr := [rowB bs]) (by simp [ndB]) (by simp [rowsOf, hget]) (by simp [idsL, idsA]) (by simp [mvN]) (by simpa [rnA, ixOf] using hDel) ?_
        rintro rv lr' rows ⟨rfl, rfl, rfl⟩
        refine ⟨by simp [shB, mvF], by simp [frB], go_on ?_⟩
        (try simp only [killA, killH, killRow, push_cast, simprocAttr])
        (refine at_callW [28000] (by refine wk_frz ?_ ?_ ?_ ?_ <;> simp [frwS, frwH, frwRow, frzT, hasN, delL, hdel, leF, leHF, rowF, frzB, idsL, idsA, idsR, inH, hget, sameRow, viewN, tk]) ?_; simp only [frwS, frwH, frwRow, frzT, hasN, delL, hdel, idsA, idsL, viewN, hget, tk, isC, List.map_cons, List.map_nil, List.all_cons, List.all_nil, List.append_nil, List.drop, List.getElem?_cons_zero, List.getElem?_cons_succ, Bool.not_false, Bool.not_true, Bool.and_true, if_true, if_false, Nat.zero_add, List.length_map, simprocAttr])
        refine call_PO rfl [blsA f, iA 2, intsA y] ⟨ga_c rfl, ga_c rfl, ga_c rfl, trivial⟩ hW ?_
        rintro w2 lent2 Xa x hN2 ⟨u, us2, rfl, hO2⟩
        have c2 := hN2.ch _ _ (Ch.refl w0)
        have x2 := hN2.xfb
        obtain ⟨g2, cp2, rfl⟩ := hO2.some hw0
        refine go_on ?_
        (try simp only [Bool.not_true, push_cast, simprocAttr])
        refine call_PO rfl [blsA wd, iA 2] ⟨hO2.ga x2, ga_c rfl, trivial⟩ hSy ?_
        rintro w3 lent3 Xb x hN3 ⟨u, us3, rfl, hO3⟩
        have c3 := hN3.ch _ _ c2
        have x3 := hN3.xfb
        have hO2b := hO2.same (fun b hb => hN3.keep b (x2 b hb)) (fun _ h => h)
        have x2b := fun b h => hN3.fb b (x2 b h)
        have dab : ∀ b, Xb b → ¬ Xa b := fun b h1 h2 => by have := hN3.xge b h1; have := hN3.flt b (x2 b h2); omega
        obtain ⟨g3, cp3, rfl⟩ := hO3.some hs0
        clear hN2 hN3 hO2 c2
        refine go_on ?_
        (try simp only [Bool.not_true, push_cast, simprocAttr])
        refine call_PO rfl [blsA S, iA 2, iA 1] ⟨hO3.ga x3, ga_c rfl, ga_c rfl, trivial⟩ hRn ?_
        rintro w4 lent4 Xc x hN4 ⟨u, us4, rfl, hO4⟩
        have c4 := hN4.ch _ _ c3
        have x4 := hN4.xfb
        have hO2c := hO2b.same (fun b hb => hN4.keep b (x2b b hb)) (fun _ h => h)
        have x2c := fun b h => hN4.fb b (x2b b h)
        have hO3c := hO3.same (fun b hb => hN4.keep b (x3 b hb)) (fun _ h => h)
        have x3c := fun b h => hN4.fb b (x3 b h)
        have dac : ∀ b, Xc b → ¬ Xa b := fun b h1 h2 => by have := hN4.xge b h1; have := hN4.flt b (x2b b h2); omega
        have dbc : ∀ b, Xc b → ¬ Xb b := fun b h1 h2 => by have := hN4.xge b h1; have := hN4.flt b (x3 b h2); omega
        obtain ⟨g4, cp4, rfl⟩ := hO4.some hz0
        clear hN4 hO2b hO3 c3
        refine go_on ?_
        (try simp only [Bool.not_true, push_cast, simprocAttr])
        (refine at_retO c4 (l := [.o 50 3, bA true]) (by simp only [Tryz.results20, push_cast, simprocAttr]) ?_)
        exact fun loc a w v hR hG => osThree c4 rfl hR hO2c hO3c hO4 x2c x3c x4 dab dac dbc hw0 hs0 hz0 hG
end Go.Proofs.YtccifbbjbnjcfaaGreatDoor
/-
  Plain facts: what BookSteps returns is small; lists of disks that are none.
-/
namespace Go.Proofs.YtccifbbjbnjcfaaGreatDoor
open Go Go.RowKit Go.Proofs
theorem stepsP_disks {bs : List BD} {b : Bk} {Y : List (List BD)} {ok : Bool} (h : (Y, ok) = stepsP bs b) : Y.length ≤ 3 ∧ ∀ d ∈ Y, diskB d = true ∨ d = [] := by
  unfold stepsP at h
  split at h
  · simp only at h
    split at h
    · cases h
      refine ⟨by simp, fun d hd => ?_⟩
      simp only [List.mem_cons, List.not_mem_nil, or_false] at hd
      rcases hd with rfl | rfl | rfl
      · exact writeD_disk2 rfl
      · exact syncP_disk rfl
      · exact renD_disk rfl
    · cases h; simp
  · cases h; simp
theorem PO.ds {P : Program} {f : FuncId} {args : List AV} {L : List (List BD)} {ok : Bool} (h : PO P f args (osB L ok)) : PC P f args (vX (.tup [dssA L, bA ok])) := by
  refine ⟨h.1, fun w fb vs h1 h2 h3 => (h.2 w vs h2 fun j x hx => (h3 j x hx).mono (Nat.le_refl _) (Nat.le_refl _) fun b _ _ _ => ⟨fun h => h, rfl⟩).mono ?_⟩
  rintro e w' ⟨x, v, rfl, hc, hb, u, us, uss, Xs, rfl, hO⟩
  have hC := hc (fun b => fb b) 0 w'
  have hl : ∀ b, w.heap.size ≤ b ∧ b < w'.heap.size → ¬ Live [] ⟨fun _ => none, fb⟩ b := fun b hb' hl => by
    rcases hl with ⟨r, row, c, h, _⟩ | h
    · cases h
    · have := h1 b h; have := hb'.1; omega
  cases hC with
  | tup vs' hs hg =>
    refine ⟨_, [], _, ⟨rfl, rfl⟩, rfl, hb, ⟨fun _ => none, fb⟩, rfl, .cl (.tup vs' (by simpa using hs) fun j a ha => ?_), fun r row hr => (by cases hr), fun r r' row row' b c c' hr => (by cases hr), fun r row b c hr => (by cases hr)⟩
    rcases j with _ | _ | j
    · simp at ha; subst ha
      have := (hg 0 _ rfl).vEq
      rw [this]
      exact hO.c hl
    · simp at ha; subst ha
      have := (hg 1 _ rfl).vEq
      rw [this]
      exact .v
    · simp at ha
theorem tots_cap : ∀ {L : List (List BD)}, (∀ d ∈ L, diskB d = true ∨ d = []) → tots L ≤ L.length * 1203
  | [], _ => by simp [tots]
  | d :: L, h => by
    have h1 := (disk_tot (h d (by simp))).2
    have h2 := tots_cap (L := L) fun x hx => h x (by simp [hx])
    simp only [tots, List.map_cons, List.sum_cons, List.length_cons, Nat.add_mul, Nat.one_mul] at h2 ⊢; omega
theorem szK_sm {b : Bk} {left : Int} (h0 : 0 ≤ left) (h1 : left ≤ 1048576) (h : 0 ≤ (if szK b left < 0 then -1 else szK b left)) : SmL b.log ∧ (b.log.length : Int) ≤ 1048576 := by
  split at h
  · omega
  · unfold szK at h
    obtain ⟨a1, a2, _⟩ := szS_ok h0 h
    rw [List.length_map] at a1
    exact ⟨⟨by omega, fun c hc => by have := a2 c.p.length (List.mem_map.2 ⟨c, hc, rfl⟩); omega⟩, by omega⟩
attribute [local irreducible] RWp AW run kPe pe Kt effA gd gu br retR RDp runD kPeD brW gW effD
set_option maxRecDepth 100000
theorem markBlobSS_nil (k : Int) : PC Tryz.prog 24 [dssA [], iA k] (vI k) := by
  refine pc_enter Tryz.func24 rfl rfl fun w0 fb => go_on ?_; (try simp only [Tryz.ntmps24, push_cast, simprocAttr])
  refine at_loop (X := Unit) (fun _ => [(1, iA k), (5, iA 0)]) (fun _ => []) (fun _ => True) (fun _ => 0) () trivial ?_ ?_
  · (refine wk_ok ?_ ?_ ?_ ?_ <;> simp [leL, leH, idsL, idsA, idsR, inH, hget, sameRow, upA, hvA, dsts, dstO, setA_0, setA_1, setA_8, List.append, List.cons_append, List.nil_append])
  · rintro ⟨⟩ _
    simp only [upA, hvA, dsts, dstO, setA_0, setA_1, setA_8, List.append, List.cons_append, List.nil_append]
    refine go_on ?_
    (try simp only [show ltI 0 0 = false from rfl, push_cast, simprocAttr])
    refine at_ret ?_; simp only [Tryz.results24, push_cast, simprocAttr]
    simp [vX]
theorem heldBlobSS_nil : PC Tryz.prog 25 [dssA [], iA 1] (vI 1) := by
  have := heldBlobSS_pc [] 1 (by omega) (by simp [tots]) (by simp)
  simpa [mkS, tots] using this
end Go.Proofs.YtccifbbjbnjcfaaGreatDoor
/-
  Walks: the law FnExactBookSteps.
-/
namespace Go.Proofs.YtccifbbjbnjcfaaGreatDoor
open Go Go.RowKit Go.Proofs
attribute [local irreducible] RWp AW run kPe pe Kt effA gd gu br retR RDp runD kPeD brW gW effD
set_option maxRecDepth 100000
set_option maxHeartbeats 4000000
theorem FnExactBookSteps_0 (bs : List BD) (q1 : bs.length ≤ 9223372036854775807) (q2 : ∀ d ∈ bs, d.safe.length ≤ 9223372036854775807 ∧ d.fresh.length ≤ 9223372036854775807)  (hb0 : bs = []) (b : Bk) (q3 : b.log.length ≤ 9223372036854775807) (q4 : ∀ n ∈ b.log, n.p.length ≤ 9223372036854775807) : PC Tryz.prog 4 [blsA bs, bkA b] (vB true) := by
  have hZ := szBlobS_pc bs 1048576 (by omega) (by omega) q1 q2
  subst hb0
  refine PO.pc (v0 := .bool true) ?_
  unfold bkA bkC
  refine po_enter Tryz.func4 rfl rfl fun w0 => go_on ?_; (try simp only [Tryz.ntmps4, push_cast, simprocAttr])
  (refine at_call ?_; (try simp only [push_cast, simprocAttr]); refine rwc_v (hZ) (go_on ?_); (try simp only [push_cast, simprocAttr]))
  refine at_b (fun hb => ?_) (fun hb => ?_)
  · (try simp only [hb, push_cast, simprocAttr])
    (refine at_retO (Ch.refl w0) (l := [bA true]) (by simp only [Tryz.results4, push_cast, simprocAttr]) ?_)
    exact fun loc a w v hR hG => poB hG
  have ht0 := of_ltI_f hb
  have hle := szS_le (([] : List BD).map fun d => d.safe.length + d.fresh.length) 1048576 (by omega)
  simp only [List.map_nil] at hle
  have hz : SzB ([] : List BD) := ⟨by simp, fun d hd => by simp at hd⟩
  have hZc := szBook_pc b _ ht0 hle q3 q4
  unfold bkA bkC at hZc
  (try simp only [hb, push_cast, simprocAttr])
  (refine at_call ?_; (try simp only [push_cast, simprocAttr]); refine rwc_v (hZc) (go_on ?_); (try simp only [push_cast, simprocAttr]))
  refine at_b (fun hb2 => ?_) (fun hb2 => ?_)
  · (try simp only [hb2, push_cast, simprocAttr])
    (refine at_retO (Ch.refl w0) (l := [bA true]) (by simp only [Tryz.results4, push_cast, simprocAttr]) ?_)
    exact fun loc a w v hR hG => poB hG
  obtain ⟨hl, hll⟩ := szK_sm ht0 hle (of_ltI_f hb2)
  have hs : SmB [] := hz.sm
  have hn := hs.n
  have hn2 := hz.n
  have hTd := toBlobS_d [] hz
  have hTb := toBook_d b (by omega)
  have hTo := toBook_pc b (by omega)
  have hSp := specBookSteps_d [] hs b hl
  have hIo := BookSteps_o [] hs b hl
  have hE0 := eqBlobS_pc [] [] (by omega) hs.d8
  have hEb := eqBook_pc b b (by omega)
  obtain ⟨⟨L, ok⟩, hL⟩ : ∃ Y, Y = stepsP [] b := ⟨_, rfl⟩
  obtain ⟨hL3, hLd⟩ := stepsP_disks hL
  have hLt := tots_cap hLd
  have hLt2 := Nat.mul_le_mul_right 1203 hL3
  rw [← hL] at hSp hIo
  dsimp only at hSp hIo
  have hId := hIo.ds
  have hE1 := eqBlobSS_pc L (by omega) fun d hd => (disk_tot (hLd d hd)).1
  rw [decide_eq_true rfl] at hE0 hEb
  have hH := heldBlobSS_pc L 1 (by omega) (by omega) (by omega)
  have hM := markBook_pcl b (1 + 0) (by omega) (by omega)
  have e0 : ltI ((1 + 0 + 5 * b.log.length : Nat) : Int) 0 = false := ltI_f (by omega)
  unfold bkA bkC at hSp hId hTb hEb
  unfold bkO at hTo hM
  have e2 : ltI ((1 + tots L : Nat) : Int) 0 = false := ltI_f (by omega)
  have e3 : eqI ((1 + tots L : Nat) : Int) ((1 + tots L : Nat) : Int) = true := eqI_self _
  have e4 : (!(ok == ok)) = false := by cases ok <;> rfl
  push_cast at e0 e2 e3 hH hM
  (try simp only [hb2, push_cast, simprocAttr])
  refine at_draw rfl (by kernel_rfl) ?_; simp only [push_cast, simprocAttr]
  (refine at_shareD2 (by simp [isC2, isC]) (by first | rfl | simp [ren]) hTd ?_; (try simp only [push_cast, simprocAttr]))
  (refine at_shareD2 (by simp [isC2, isC]) (by first | rfl | simp [ren]) hTb ?_; (try simp only [push_cast, simprocAttr]))
  (refine at_shareD2 (by simp [isC2, isC]) (by first | rfl | simp [ren]) hSp ?_; (try simp only [push_cast, simprocAttr]))
  refine at_done (by kernel_rfl) (by kernel_rfl) (go_on ?_)
  (try simp only [push_cast, simprocAttr])
  have c2 := Ch.refl w0
  ((try simp only [push_cast, simprocAttr]); refine at_share2 (by simp [isC2, isC]) (by first | rfl | simp [ren]) (hTd) (go_on ?_); (try simp only [push_cast, simprocAttr]))
  (refine at_call ?_; (try simp only [push_cast, simprocAttr]); refine rwc_r (hTo) (by simp [flatV, flatL]) (flat_c _) (by simp [frB, baseOf]) (go_on ?_); (try simp only [push_cast, simprocAttr]))
  refine call_PO rfl [blsA [], bkA b] ⟨ga_c rfl, ga_v (by simp [viewN, hget, tk, isC, bkC]), trivial⟩ hIo ?_
  rintro w3 lent3 X1 x hN1 ⟨u1, vs1, us1, Xs1, rfl, hO1⟩
  have c3 := hN1.ch _ _ c2
  have hX1 := hN1.xfb
  clear hN1 c2
  rcases hO1.nil_or with ⟨rfl, hY0⟩ | ⟨g1, cp1, rfl⟩
  · subst hY0
    refine go_on ?_
    (try simp only [push_cast, simprocAttr])
    (refine at_call ?_; (try simp only [push_cast, simprocAttr]); refine rwc_v (hE1) (go_on ?_); (try simp only [push_cast, simprocAttr]))
    (try simp only [Bool.not_true, e4, push_cast, simprocAttr])
    ((try simp only [push_cast, simprocAttr]); refine at_share2 (by simp [isC2, isC]) (by first | rfl | simp [ren]) (hTd) (go_on ?_); (try simp only [push_cast, simprocAttr]))
    (refine at_call ?_; (try simp only [push_cast, simprocAttr]); refine rwc_v (hE0) (go_on ?_); (try simp only [push_cast, simprocAttr]))
    (try simp only [Bool.not_true, push_cast, simprocAttr])
    refine at_draw rfl (by kernel_rfl) ?_; simp only [push_cast, simprocAttr]
    (refine at_shareD2 (by simp [isC2, isC]) (by first | rfl | simp [ren]) hTb ?_; (try simp only [push_cast, simprocAttr]))
    (refine at_callD (by simp [clB, idsL, idsA, hget]) ?_; (try simp only [viewN, hget, tk, isC, List.map_cons, List.map_nil, List.length_map, if_true, reduceIte, push_cast, simprocAttr]); refine rcd_v hEb ?_; (try simp only [push_cast, simprocAttr]))
    (try simp only [Bool.not_true, push_cast, simprocAttr])
    refine at_done (by kernel_rfl) (by kernel_rfl) (go_on ?_)
    (try simp only [Bool.not_true, push_cast, simprocAttr])
    (refine at_call ?_; (try simp only [push_cast, simprocAttr]); refine rwc_v (markBlobS_nil 1) (go_on ?_); (try simp only [push_cast, simprocAttr]))
    have hO1b := hO1
    have hX1b := hX1
    have c4 := c3
    (try simp only [push_cast, simprocAttr])
    (try simp only [push_cast, simprocAttr]); refine call_lend [39000] none (lr := [rowC b.log]) (by simp [ndB]) (by first | rfl | simp [rowsOf, hget, rdR, rowS, rowN, rowC, sC, ndC, cmC]) (by simp [idsL, idsA]) (by simp [mvN]) (by simpa [rnA, ixOf] using hM) ?_
    rintro rv lr' rows ⟨rfl, rfl, rfl⟩
    (refine ⟨by simp [shB, mvF, rdR, rowS, rowN, rowC, mkC_len], by simp [frB, baseOf], go_on ?_⟩; simp only [killA, killH, killRow, push_cast, simprocAttr])
    (try simp only [e0, push_cast, simprocAttr])
    (refine at_call ?_; (try simp only [push_cast, simprocAttr]); refine rwc_v (hE1) (go_on ?_); (try simp only [push_cast, simprocAttr]))
    (try simp only [Bool.not_true, e4, push_cast, simprocAttr])
    (refine at_call ?_; (try simp only [push_cast, simprocAttr]); refine rwc_v (markBlobSS_nil 1) (go_on ?_); (try simp only [push_cast, simprocAttr]))
    (refine at_call ?_; (try simp only [push_cast, simprocAttr]); refine rwc_v (heldBlobSS_nil) (go_on ?_); (try simp only [push_cast, simprocAttr]))
    (try simp only [show ltI 1 0 = false from rfl, show eqI 1 1 = true from rfl, Bool.not_true, push_cast, simprocAttr])
    refine at_draw rfl (by kernel_rfl) ?_; simp only [push_cast, simprocAttr]
    (refine at_shareD2 (by simp [isC2, isC]) (by first | rfl | simp [ren]) hTd ?_; (try simp only [push_cast, simprocAttr]))
    (refine at_shareD2 (by simp [isC2, isC]) (by first | rfl | simp [ren]) hTb ?_; (try simp only [push_cast, simprocAttr]))
    (refine at_shareD2 (by simp [isC2, isC]) (by first | rfl | simp [ren]) hId ?_; (try simp only [push_cast, simprocAttr]))
    refine at_done (by kernel_rfl) (by kernel_rfl) (go_on ?_)
    (try simp only [push_cast, simprocAttr])
    (refine at_call ?_; (try simp only [push_cast, simprocAttr]); refine rwc_v (hE1) (go_on ?_); (try simp only [push_cast, simprocAttr]))
    (try simp only [Bool.not_true, e4, push_cast, simprocAttr])
    (refine at_call ?_; (try simp only [push_cast, simprocAttr]); refine rwc_v (heldBlobSS_nil) (go_on ?_); (try simp only [push_cast, simprocAttr]))
    (try simp only [show ltI 1 0 = false from rfl, show eqI 1 1 = true from rfl, Bool.not_true, push_cast, simprocAttr])
    (refine at_retO c4 (l := [bA true]) (by simp only [Tryz.results4, push_cast, simprocAttr]) ?_)
    exact fun loc a w v hR hG => poB hG
  · refine go_on ?_
    (try simp only [push_cast, simprocAttr])
    refine call_gv [dssA L, dssA L] ⟨hO1.ga hX1, ga_c rfl, trivial⟩ hE1 (go_on ?_)
    (try simp only [Bool.not_true, e4, push_cast, simprocAttr])
    ((try simp only [push_cast, simprocAttr]); refine at_share2 (by simp [isC2, isC]) (by first | rfl | simp [ren]) (hTd) (go_on ?_); (try simp only [push_cast, simprocAttr]))
    (refine at_call ?_; (try simp only [push_cast, simprocAttr]); refine rwc_v (hE0) (go_on ?_); (try simp only [push_cast, simprocAttr]))
    (try simp only [Bool.not_true, push_cast, simprocAttr])
    refine at_draw rfl (by kernel_rfl) ?_; simp only [push_cast, simprocAttr]
    (refine at_shareD2 (by simp [isC2, isC]) (by first | rfl | simp [ren]) hTb ?_; (try simp only [push_cast, simprocAttr]))
    (refine at_callD (by simp [clB, idsL, idsA, hget]) ?_; (try simp only [viewN, hget, tk, isC, List.map_cons, List.map_nil, List.length_map, if_true, reduceIte, push_cast, simprocAttr]); refine rcd_v hEb ?_; (try simp only [push_cast, simprocAttr]))
    (try simp only [Bool.not_true, push_cast, simprocAttr])
    refine at_done (by kernel_rfl) (by kernel_rfl) (go_on ?_)
    (try simp only [Bool.not_true, push_cast, simprocAttr])
    (refine at_call ?_; (try simp only [push_cast, simprocAttr]); refine rwc_v (markBlobS_nil 1) (go_on ?_); (try simp only [push_cast, simprocAttr]))
    have hO1b := hO1
    have hX1b := hX1
    have c4 := c3
    (try simp only [push_cast, simprocAttr])
    (try simp only [push_cast, simprocAttr]); refine call_lend [39000] none (lr := [rowC b.log]) (by simp [ndB]) (by first | rfl | simp [rowsOf, hget, rdR, rowS, rowN, rowC, sC, ndC, cmC]) (by simp [idsL, idsA]) (by simp [mvN]) (by simpa [rnA, ixOf] using hM) ?_
    rintro rv lr' rows ⟨rfl, rfl, rfl⟩
    (refine ⟨by simp [shB, mvF, rdR, rowS, rowN, rowC, mkC_len], by simp [frB, baseOf], go_on ?_⟩; simp only [killA, killH, killRow, push_cast, simprocAttr])
    (try simp only [e0, push_cast, simprocAttr])
    refine call_gv [dssA L, dssA L] ⟨hO1b.ga hX1b, ga_c rfl, trivial⟩ hE1 (go_on ?_)
    (try simp only [Bool.not_true, e4, push_cast, simprocAttr])
    refine at_markSS (k0 := 1) rfl hO1b hX1b (by omega) (by omega) (by omega) ?_
    rintro w5 lent5 hM5 hO5
    have c5 := hM5.ch _ _ c4
    have hX5 : ∀ b, X1 b → lent5.fb b := fun b h => by rw [hM5.fb]; exact hX1b b h
    clear hO1b hX1b hM5 c4
    refine go_on ?_
    (try simp only [push_cast, simprocAttr])
    refine call_gv [dssA (mkS 1 L), iA 1] ⟨hO5.ga hX5, ga_c rfl, trivial⟩ hH (go_on ?_)
    (try simp only [e2, e3, Bool.not_true, push_cast, simprocAttr])
    refine at_draw rfl (by kernel_rfl) ?_; simp only [push_cast, simprocAttr]
    (refine at_shareD2 (by simp [isC2, isC]) (by first | rfl | simp [ren]) hTd ?_; (try simp only [push_cast, simprocAttr]))
    (refine at_shareD2 (by simp [isC2, isC]) (by first | rfl | simp [ren]) hTb ?_; (try simp only [push_cast, simprocAttr]))
    (refine at_shareD2 (by simp [isC2, isC]) (by first | rfl | simp [ren]) hId ?_; (try simp only [push_cast, simprocAttr]))
    refine at_done (by kernel_rfl) (by kernel_rfl) (go_on ?_)
    (try simp only [push_cast, simprocAttr])
    (refine at_call ?_; (try simp only [push_cast, simprocAttr]); refine rwc_v (hE1) (go_on ?_); (try simp only [push_cast, simprocAttr]))
    (try simp only [Bool.not_true, e4, push_cast, simprocAttr])
    refine call_gv [dssA (mkS 1 L), iA 1] ⟨hO5.ga hX5, ga_c rfl, trivial⟩ hH (go_on ?_)
    (try simp only [e2, e3, Bool.not_true, push_cast, simprocAttr])
    (refine at_retO c5 (l := [bA true]) (by simp only [Tryz.results4, push_cast, simprocAttr]) ?_)
    exact fun loc a w v hR hG => poB hG
theorem FnExactBookSteps_1 (bs : List BD) (q1 : bs.length ≤ 9223372036854775807) (q2 : ∀ d ∈ bs, d.safe.length ≤ 9223372036854775807 ∧ d.fresh.length ≤ 9223372036854775807)  (hb0 : bs ≠ []) (b : Bk) (q3 : b.log.length ≤ 9223372036854775807) (q4 : ∀ n ∈ b.log, n.p.length ≤ 9223372036854775807) : PC Tryz.prog 4 [blsA bs, bkA b] (vB true) := by
  have hZ := szBlobS_pc bs 1048576 (by omega) (by omega) q1 q2
  have hbl : 0 < bs.length := List.length_pos_iff.2 hb0
  refine PO.pc (v0 := .bool true) ?_
  unfold bkA bkC
  refine po_enter Tryz.func4 rfl rfl fun w0 => go_on ?_; (try simp only [Tryz.ntmps4, push_cast, simprocAttr])
  (refine at_call ?_; (try simp only [push_cast, simprocAttr]); refine rwc_v (hZ) (go_on ?_); (try simp only [push_cast, simprocAttr]))
  refine at_b (fun hb => ?_) (fun hb => ?_)
  · (try simp only [hb, push_cast, simprocAttr])
    (refine at_retO (Ch.refl w0) (l := [bA true]) (by simp only [Tryz.results4, push_cast, simprocAttr]) ?_)
    exact fun loc a w v hR hG => poB hG
  have ht0 := of_ltI_f hb
  have hle := szS_le (bs.map fun d => d.safe.length + d.fresh.length) 1048576 (by omega)
  have ht := tot_of (by omega) ht0
  have hz : SzB bs := tot_sz ht (by omega)
  have htl : tot bs ≤ 1048576 := by omega
  have hZc := szBook_pc b _ ht0 hle q3 q4
  unfold bkA bkC at hZc
  (try simp only [hb, push_cast, simprocAttr])
  (refine at_call ?_; (try simp only [push_cast, simprocAttr]); refine rwc_v (hZc) (go_on ?_); (try simp only [push_cast, simprocAttr]))
  refine at_b (fun hb2 => ?_) (fun hb2 => ?_)
  · (try simp only [hb2, push_cast, simprocAttr])
    (refine at_retO (Ch.refl w0) (l := [bA true]) (by simp only [Tryz.results4, push_cast, simprocAttr]) ?_)
    exact fun loc a w v hR hG => poB hG
  obtain ⟨hl, hll⟩ := szK_sm ht0 hle (of_ltI_f hb2)
  have hs : SmB bs := hz.sm
  have hn := hs.n
  have hn2 := hz.n
  have hTd := toBlobS_d bs hz
  have hTb := toBook_d b (by omega)
  have hTo := toBook_pc b (by omega)
  have hSp := specBookSteps_d bs hs b hl
  have hIo := BookSteps_o bs hs b hl
  have hE0 := eqBlobS_pc bs bs (by omega) hs.d8
  have hEb := eqBook_pc b b (by omega)
  obtain ⟨⟨L, ok⟩, hL⟩ : ∃ Y, Y = stepsP bs b := ⟨_, rfl⟩
  obtain ⟨hL3, hLd⟩ := stepsP_disks hL
  have hLt := tots_cap hLd
  have hLt2 := Nat.mul_le_mul_right 1203 hL3
  rw [← hL] at hSp hIo
  dsimp only at hSp hIo
  have hId := hIo.ds
  have hE1 := eqBlobSS_pc L (by omega) fun d hd => (disk_tot (hLd d hd)).1
  rw [decide_eq_true rfl] at hE0 hEb
  have hH := heldBlobSS_pc L 1 (by omega) (by omega) (by omega)
  have hM := markBook_pcl b (1 + tot bs) (by omega) (by omega)
  have e0 : ltI ((1 + tot bs + 5 * b.log.length : Nat) : Int) 0 = false := ltI_f (by omega)
  unfold bkA bkC at hSp hId hTb hEb
  unfold bkO at hTo hM
  have e2 : ltI ((1 + tots L : Nat) : Int) 0 = false := ltI_f (by omega)
  have e3 : eqI ((1 + tots L : Nat) : Int) ((1 + tots L : Nat) : Int) = true := eqI_self _
  have e4 : (!(ok == ok)) = false := by cases ok <;> rfl
  push_cast at e0 e2 e3 hH hM
  (try simp only [hb2, push_cast, simprocAttr])
  refine at_draw rfl (by kernel_rfl) ?_; simp only [push_cast, simprocAttr]
  (refine at_shareD2 (by simp [isC2, isC]) (by first | rfl | simp [ren]) hTd ?_; (try simp only [push_cast, simprocAttr]))
  (refine at_shareD2 (by simp [isC2, isC]) (by first | rfl | simp [ren]) hTb ?_; (try simp only [push_cast, simprocAttr]))
  (refine at_shareD2 (by simp [isC2, isC]) (by first | rfl | simp [ren]) hSp ?_; (try simp only [push_cast, simprocAttr]))
  refine at_done (by kernel_rfl) (by kernel_rfl) (go_on ?_)
  (try simp only [push_cast, simprocAttr])
  refine call_PO rfl [blsA bs] ⟨ga_c rfl, trivial⟩ (toBlobS_o bs hz) ?_
  rintro w2 lent2 X0 x hN ⟨u0, us0, rfl, hO⟩
  have c2 := hN.ch _ _ (Ch.refl w0)
  have hX := hN.xfb
  obtain ⟨g0, cp0, rfl⟩ := hO.some hbl
  refine go_on ?_
  (try simp only [push_cast, simprocAttr])
  (refine at_call ?_; (try simp only [push_cast, simprocAttr]); refine rwc_r (hTo) (by simp [flatV, flatL]) (flat_c _) (by simp [frB, baseOf]) (go_on ?_); (try simp only [push_cast, simprocAttr]))
  refine call_PO rfl [blsA bs, bkA b] ⟨hO.ga hX, ga_v (by simp [viewN, hget, tk, isC, bkC]), trivial⟩ hIo ?_
  rintro w3 lent3 X1 x hN1 ⟨u1, vs1, us1, Xs1, rfl, hO1⟩
  have c3 := hN1.ch _ _ c2
  have hX1 := hN1.xfb
  have hdis : ∀ b, X1 b → ¬ X0 b := fun b h1 h2 => by have := hN1.xge b h1; have := hN1.flt b (hX b h2); omega
  have hOb := hO.same (fun b hb => hN1.keep b (hX b hb)) (fun _ h => h)
  have hXb := fun b h => hN1.fb b (hX b h)
  clear hN hN1 hX hO c2
  rcases hO1.nil_or with ⟨rfl, hY0⟩ | ⟨g1, cp1, rfl⟩
  · subst hY0
    refine go_on ?_
    (try simp only [push_cast, simprocAttr])
    (refine at_call ?_; (try simp only [push_cast, simprocAttr]); refine rwc_v (hE1) (go_on ?_); (try simp only [push_cast, simprocAttr]))
    (try simp only [Bool.not_true, e4, push_cast, simprocAttr])
    ((try simp only [push_cast, simprocAttr]); refine at_share2 (by simp [isC2, isC]) (by first | rfl | simp [ren]) (hTd) (go_on ?_); (try simp only [push_cast, simprocAttr]))
    refine call_gv [blsA bs, blsA bs] ⟨hOb.ga hXb, ga_c rfl, trivial⟩ hE0 (go_on ?_)
    (try simp only [Bool.not_true, push_cast, simprocAttr])
    refine at_draw rfl (by kernel_rfl) ?_; simp only [push_cast, simprocAttr]
    (refine at_shareD2 (by simp [isC2, isC]) (by first | rfl | simp [ren]) hTb ?_; (try simp only [push_cast, simprocAttr]))
    (refine at_callD (by simp [clB, idsL, idsA, hget]) ?_; (try simp only [viewN, hget, tk, isC, List.map_cons, List.map_nil, List.length_map, if_true, reduceIte, push_cast, simprocAttr]); refine rcd_v hEb ?_; (try simp only [push_cast, simprocAttr]))
    (try simp only [Bool.not_true, push_cast, simprocAttr])
    refine at_done (by kernel_rfl) (by kernel_rfl) (go_on ?_)
    (try simp only [Bool.not_true, push_cast, simprocAttr])
    refine at_markB (k0 := 1) rfl hOb hXb (by omega) (by omega) ?_
    rintro w4 lent4 hM4 hO2
    have c4 := hM4.ch _ _ c3
    have hO1b := hO1.same (fun b hb => hM4.keep b (hX1 b hb) (hdis b hb))
    have hX1b : ∀ b, X1 b → lent4.fb b := fun b h => by rw [hM4.fb]; exact hX1 b h
    clear hOb hXb hO1 hX1 hM4 hO2 c3
    refine go_on ?_
    (try simp only [push_cast, simprocAttr])
    (try simp only [push_cast, simprocAttr]); refine call_lend [39000] none (lr := [rowC b.log]) (by simp [ndB]) (by first | rfl | simp [rowsOf, hget, rdR, rowS, rowN, rowC, sC, ndC, cmC]) (by simp [idsL, idsA]) (by simp [mvN]) (by simpa [rnA, ixOf] using hM) ?_
    rintro rv lr' rows ⟨rfl, rfl, rfl⟩
    (refine ⟨by simp [shB, mvF, rdR, rowS, rowN, rowC, mkC_len], by simp [frB, baseOf], go_on ?_⟩; simp only [killA, killH, killRow, push_cast, simprocAttr])
    (try simp only [e0, push_cast, simprocAttr])
    (refine at_call ?_; (try simp only [push_cast, simprocAttr]); refine rwc_v (hE1) (go_on ?_); (try simp only [push_cast, simprocAttr]))
    (try simp only [Bool.not_true, e4, push_cast, simprocAttr])
    (refine at_call ?_; (try simp only [push_cast, simprocAttr]); refine rwc_v (markBlobSS_nil 1) (go_on ?_); (try simp only [push_cast, simprocAttr]))
    (refine at_call ?_; (try simp only [push_cast, simprocAttr]); refine rwc_v (heldBlobSS_nil) (go_on ?_); (try simp only [push_cast, simprocAttr]))
    (try simp only [show ltI 1 0 = false from rfl, show eqI 1 1 = true from rfl, Bool.not_true, push_cast, simprocAttr])
    refine at_draw rfl (by kernel_rfl) ?_; simp only [push_cast, simprocAttr]
    (refine at_shareD2 (by simp [isC2, isC]) (by first | rfl | simp [ren]) hTd ?_; (try simp only [push_cast, simprocAttr]))
    (refine at_shareD2 (by simp [isC2, isC]) (by first | rfl | simp [ren]) hTb ?_; (try simp only [push_cast, simprocAttr]))
    (refine at_shareD2 (by simp [isC2, isC]) (by first | rfl | simp [ren]) hId ?_; (try simp only [push_cast, simprocAttr]))
    refine at_done (by kernel_rfl) (by kernel_rfl) (go_on ?_)
    (try simp only [push_cast, simprocAttr])
    (refine at_call ?_; (try simp only [push_cast, simprocAttr]); refine rwc_v (hE1) (go_on ?_); (try simp only [push_cast, simprocAttr]))
    (try simp only [Bool.not_true, e4, push_cast, simprocAttr])
    (refine at_call ?_; (try simp only [push_cast, simprocAttr]); refine rwc_v (heldBlobSS_nil) (go_on ?_); (try simp only [push_cast, simprocAttr]))
    (try simp only [show ltI 1 0 = false from rfl, show eqI 1 1 = true from rfl, Bool.not_true, push_cast, simprocAttr])
    (refine at_retO c4 (l := [bA true]) (by simp only [Tryz.results4, push_cast, simprocAttr]) ?_)
    exact fun loc a w v hR hG => poB hG
  · refine go_on ?_
    (try simp only [push_cast, simprocAttr])
    refine call_gv [dssA L, dssA L] ⟨hO1.ga hX1, ga_c rfl, trivial⟩ hE1 (go_on ?_)
    (try simp only [Bool.not_true, e4, push_cast, simprocAttr])
    ((try simp only [push_cast, simprocAttr]); refine at_share2 (by simp [isC2, isC]) (by first | rfl | simp [ren]) (hTd) (go_on ?_); (try simp only [push_cast, simprocAttr]))
    refine call_gv [blsA bs, blsA bs] ⟨hOb.ga hXb, ga_c rfl, trivial⟩ hE0 (go_on ?_)
    (try simp only [Bool.not_true, push_cast, simprocAttr])
    refine at_draw rfl (by kernel_rfl) ?_; simp only [push_cast, simprocAttr]
    (refine at_shareD2 (by simp [isC2, isC]) (by first | rfl | simp [ren]) hTb ?_; (try simp only [push_cast, simprocAttr]))
    (refine at_callD (by simp [clB, idsL, idsA, hget]) ?_; (try simp only [viewN, hget, tk, isC, List.map_cons, List.map_nil, List.length_map, if_true, reduceIte, push_cast, simprocAttr]); refine rcd_v hEb ?_; (try simp only [push_cast, simprocAttr]))
    (try simp only [Bool.not_true, push_cast, simprocAttr])
    refine at_done (by kernel_rfl) (by kernel_rfl) (go_on ?_)
    (try simp only [Bool.not_true, push_cast, simprocAttr])
    refine at_markB (k0 := 1) rfl hOb hXb (by omega) (by omega) ?_
    rintro w4 lent4 hM4 hO2
    have c4 := hM4.ch _ _ c3
    have hO1b := hO1.same (fun b hb => hM4.keep b (hX1 b hb) (hdis b hb))
    have hX1b : ∀ b, X1 b → lent4.fb b := fun b h => by rw [hM4.fb]; exact hX1 b h
    clear hOb hXb hO1 hX1 hM4 hO2 c3
    refine go_on ?_
    (try simp only [push_cast, simprocAttr])
    (try simp only [push_cast, simprocAttr]); refine call_lend [39000] none (lr := [rowC b.log]) (by simp [ndB]) (by first | rfl | simp [rowsOf, hget, rdR, rowS, rowN, rowC, sC, ndC, cmC]) (by simp [idsL, idsA]) (by simp [mvN]) (by simpa [rnA, ixOf] using hM) ?_
    rintro rv lr' rows ⟨rfl, rfl, rfl⟩
    (refine ⟨by simp [shB, mvF, rdR, rowS, rowN, rowC, mkC_len], by simp [frB, baseOf], go_on ?_⟩; simp only [killA, killH, killRow, push_cast, simprocAttr])
    (try simp only [e0, push_cast, simprocAttr])
    refine call_gv [dssA L, dssA L] ⟨hO1b.ga hX1b, ga_c rfl, trivial⟩ hE1 (go_on ?_)
    (try simp only [Bool.not_true, e4, push_cast, simprocAttr])
    refine at_markSS (k0 := 1) rfl hO1b hX1b (by omega) (by omega) (by omega) ?_
    rintro w5 lent5 hM5 hO5
    have c5 := hM5.ch _ _ c4
    have hX5 : ∀ b, X1 b → lent5.fb b := fun b h => by rw [hM5.fb]; exact hX1b b h
    clear hO1b hX1b hM5 c4
    refine go_on ?_
    (try simp only [push_cast, simprocAttr])
    refine call_gv [dssA (mkS 1 L), iA 1] ⟨hO5.ga hX5, ga_c rfl, trivial⟩ hH (go_on ?_)
    (try simp only [e2, e3, Bool.not_true, push_cast, simprocAttr])
    refine at_draw rfl (by kernel_rfl) ?_; simp only [push_cast, simprocAttr]
    (refine at_shareD2 (by simp [isC2, isC]) (by first | rfl | simp [ren]) hTd ?_; (try simp only [push_cast, simprocAttr]))
    (refine at_shareD2 (by simp [isC2, isC]) (by first | rfl | simp [ren]) hTb ?_; (try simp only [push_cast, simprocAttr]))
    (refine at_shareD2 (by simp [isC2, isC]) (by first | rfl | simp [ren]) hId ?_; (try simp only [push_cast, simprocAttr]))
    refine at_done (by kernel_rfl) (by kernel_rfl) (go_on ?_)
    (try simp only [push_cast, simprocAttr])
    (refine at_call ?_; (try simp only [push_cast, simprocAttr]); refine rwc_v (hE1) (go_on ?_); (try simp only [push_cast, simprocAttr]))
    (try simp only [Bool.not_true, e4, push_cast, simprocAttr])
    refine call_gv [dssA (mkS 1 L), iA 1] ⟨hO5.ga hX5, ga_c rfl, trivial⟩ hH (go_on ?_)
    (try simp only [e2, e3, Bool.not_true, push_cast, simprocAttr])
    (refine at_retO c5 (l := [bA true]) (by simp only [Tryz.results4, push_cast, simprocAttr]) ?_)
    exact fun loc a w v hR hG => poB hG
theorem FnExactBookSteps_pc (bs : List BD) (q1 : bs.length ≤ 9223372036854775807) (q2 : ∀ d ∈ bs, d.safe.length ≤ 9223372036854775807 ∧ d.fresh.length ≤ 9223372036854775807)  (b : Bk) (q3 : b.log.length ≤ 9223372036854775807) (q4 : ∀ n ∈ b.log, n.p.length ≤ 9223372036854775807) : PC Tryz.prog 4 [blsA bs, bkA b] (vB true) := by
  by_cases hb0 : bs = []
  · exact FnExactBookSteps_0 bs q1 q2 hb0 b q3 q4
  · exact FnExactBookSteps_1 bs q1 q2 hb0 b q3 q4
end Go.Proofs.YtccifbbjbnjcfaaGreatDoor
