/- A part of the proof of the session laws: texts N19 N20 O1 O2. -/
import Derived.Test.YtepcabenjikhgaaZt4
import Derived.Test.YtepcabenjikhgaaZt3
import Derived.ChangeArms
import Derived.ChangeSame
import Derived.OpenShut
set_option linter.unusedSimpArgs false
set_option linter.unusedVariables false
/-
  Walks: disks: impl.DiskWrite, where the file is there.
-/
namespace Go.Proofs.Ytepcabenjikhgaa
open Go Go.RowKit Go.Proofs
attribute [local irreducible] RWp AW run kPe pe Kt effA gd gu br retR RDp runD kPeD brW gW effD
set_option maxRecDepth 100000
theorem DiskWrite_old10 (bs : List BD) (nm : Int) (xs : List Int) (hx : xs.length ≤ 2000000) (hv : diskB bs = true) (hxb : bytesB xs = true) (hi : inB nm 1 3 = true) (d : BD) (hj : bs[0]? = some d) (hg : getB bs nm = some d) (hix : ixB bs nm = 0) (hb : ∃ d0, bs = [d0]) : PC Try.prog 24 [blsA bs, iA nm, intsA xs] (vX (.tup [blsA (writeD bs nm xs).1, bA (writeD bs nm xs).2])) := by
  have hs := disk_sm hv
  have hn3 := disk_len hv
  have hV := DiskValid_pc bs hs
  have hB := bytesValid_pc xs (by omega)
  have hI := in_pc nm 1 3
  have hF := file_pc bs hs.n nm
  have hC := cloneDisk_pc bs hs
  have hi' : inR nm 1 3 = true := hi
  have hnm : 0 ≤ nm ∧ nm ≤ 3 := by simp only [inR, Bool.and_eq_true, decide_eq_true_eq] at hi'; omega
  have hwl := withB_len bs (wrB bs nm xs)
  have hnms := disk_names hv
  have hWs : SmD (wrB bs nm xs) := by
    unfold wrB
    cases hg : getB bs nm with
    | none => exact ⟨by simp, by simp only; omega⟩
    | some d =>
      have hm := (getB_name hg).2
      have hok := disk_okF hv hm
      simp only [okF, Bool.and_eq_true, decide_eq_true_eq] at hok
      exact ⟨(hs.d d hm).s, by simp only [List.length_append]; omega⟩
  have hws : SmB (withB bs (wrB bs nm xs)) := withB_sm hs (by omega) hWs
  obtain ⟨Y, hY⟩ : ∃ Y, Y = withB bs (wrB bs nm xs) := ⟨_, rfl⟩
  rw [← hY] at hws hwl
  have hwr : writeD bs nm xs = if diskB Y = true then (Y, true) else ([], false) := by unfold writeD; rw [hv, hxb, hi, ← hY]; rfl
  have hV2 := DiskValid_pc Y hws
  have hC2 := cloneDisk_d Y hws
  have emp : ∀ {q : PC Try.prog 24 [blsA bs, iA nm, intsA xs] (rX (.tup [.o 0 0, bA false]) [rowB []])}, PC Try.prog 24 [blsA bs, iA nm, intsA xs] (vX (.tup [blsA [], bA false])) := fun {q} => by
    have := q.frzX
    simp [viewN, hpOf, hget, isC, tk] at this
    exact this
  rw [hix] at hF
  obtain ⟨d0, rfl⟩ := hb
  obtain rfl : d0 = d := Option.some.inj hj
  have hfl : d0.fresh.length ≤ 400 := by
    have := disk_okF hv (getB_name hg).2
    simp only [okF, Bool.and_eq_true, decide_eq_true_eq] at this
    omega
  have hX := cloneDisk_at [d0] hs 0 d0 rfl
  have hR : rfRow (nmB [] 25000) (lnkR [d0] 0 d0 1 2) = ⟨55, 3, [[iA d0.name, .o 25001 d0.safe.length, .o 25002 d0.fresh.length]], false⟩ := by rw [lnk_rf _ (by simp)]; rfl
  have hS := sorted_pcl ([⟨d0.name, d0.safe, d0.fresh ++ xs⟩] : List BD) (by simp) fun d hd => by
    rcases mem_set_or (show d ∈ ([d0] : List BD).set 0 ⟨d0.name, d0.safe, d0.fresh ++ xs⟩ from hd) with hd | rfl
    · exact hnms d hd
    · exact hnms d0 (by simp)
  cases hd : diskB Y with
  | false =>
    have hr : writeD [d0] nm xs = ([], false) := by rw [hwr, hd]; rfl
    rw [hr]
    refine emp (q := ?_)
    refine pc_enter Try.func24 rfl rfl fun w0 fb => go_on ?_; (try simp only [Try.ntmps24, push_cast, simprocAttr])
    refine at_call ?_
    (try simp only [push_cast, simprocAttr])
    refine rwc_v hV ?_
    (try simp only [push_cast, simprocAttr])
    (refine at_dropS [6] (by refine wk_ok ?_ ?_ ?_ ?_ <;> simp [dropS, dropT, hasN, delL, hdel, leL, leH, idsL, idsA, idsR, inH, hget, sameRow]) ?_; simp only [dropS, dropT, hasN, delL, hdel, idsA, idsL, hget, List.map_cons, List.map_nil, List.all_cons, List.all_nil, List.append_nil, Bool.not_false, Bool.not_true, Bool.and_true, if_true, if_false, simprocAttr])
    refine go_on ?_
    (try simp only [hv, Bool.not_true, push_cast, simprocAttr])
    (refine at_call ?_; (try simp only [push_cast, simprocAttr]); refine rwc_v (hB) (go_on ?_); (try simp only [push_cast, simprocAttr]))
    (try simp only [hxb, Bool.not_true, push_cast, simprocAttr])
    (refine at_call ?_; (try simp only [push_cast, simprocAttr]); refine rwc_v (hI) (go_on ?_); (try simp only [push_cast, simprocAttr]))
    (try simp only [hi', Bool.not_true, push_cast, simprocAttr])
    refine call_lendX [] (lr := []) rfl rfl (by simp [idsL, idsA]) (by simpa [rfA] using hX) ?_
    rintro rv lr' rows ⟨rfl, rfl, rfl⟩
    refine ⟨rfl, by simp [frB, baseOf], go_on ?_⟩
    simp only [backX, hR, rowZ_rf, rfA, nmB, hsL, baseOf, hpOf, List.map_cons, List.map_nil, List.nil_append, List.length_nil, push_cast, simprocAttr]
    (refine at_call ?_; simp only [bC, viewN, hget, tk, isC, List.map_cons, List.map_nil, List.length_map, List.length_cons, List.length_nil, Nat.reduceAdd, Nat.reduceEqDiff, if_true, if_false, reduceIte, simprocAttr]; refine rwc_v (hF) (go_on ?_); (try simp only [push_cast, simprocAttr]))
    (try simp only [show ltI 0 0 = false from rfl, show toIx 0 1 = some 0 from rfl, bC, push_cast, simprocAttr])
    refine at_chk (by omega) ?_
    (try simp only [bC, push_cast, simprocAttr])
    (refine at_callW [25001, 25002] (by refine wk_frz ?_ ?_ ?_ ?_ <;> simp [← List.map_append, List.length_append, eq_self, frwS, frwH, frwRow, frzT, hasN, delL, hdel, leF, leHF, rowF, frzB, idsL, idsA, idsR, inH, hget, sameRow, viewN, tk]) ?_; simp only [← List.map_append, List.length_append, eq_self, frwS, frwH, frwRow, frzT, hasN, delL, hdel, idsA, idsL, viewN, hget, tk, isC, List.map_cons, List.map_nil, List.all_cons, List.all_nil, List.append_nil, List.drop, List.getElem?_cons_zero, List.getElem?_cons_succ, Bool.not_false, Bool.not_true, Bool.and_true, if_true, if_false, Nat.zero_add, List.length_map, simprocAttr])
    (try simp only [push_cast, simprocAttr]); refine call_lend [25000] none (lr := [rowB [⟨d0.name, d0.safe, d0.fresh ++ xs⟩]]) (by simp [ndB]) (by first | rfl | simp [rowsOf, hget, rdR, rowS, sC, ndC, cmC]) (by simp [idsL, idsA]) (by simp [mvN]) (by simpa [rnA, ixOf] using hS) ?_
    rintro rv lr' rows ⟨L', g1, g2, rfl, rfl, rfl⟩
    have hlen := g1.length_eq
    simp only [List.length_cons, List.length_nil, Nat.reduceAdd] at hlen
    have hLY : L' = Y := by rw [hY]; exact wr_old hv hj hg g1 g2
    (refine ⟨by simp [shB, mvF, hlen], by simp [frB, baseOf], go_on ?_⟩; simp only [killA, killH, killRow, push_cast, simprocAttr])
    rw [hLY]
    have hYl : Y.length = 1 := by rw [← hLY]; exact hlen
    (try simp only [push_cast, simprocAttr])
    (refine at_call ?_; simp only [hYl, viewN, hget, tk, isC, List.map_cons, List.map_nil, List.length_map, List.length_cons, List.length_nil, Nat.reduceAdd, Nat.reduceEqDiff, if_true, if_false, reduceIte, simprocAttr]; refine rwc_v (hV2) (go_on ?_); (try simp only [push_cast, simprocAttr]))
    (try simp only [hd, Bool.not_false, push_cast, simprocAttr])
    refine at_ret ?_; simp only [Try.results24, push_cast, simprocAttr]
    simp [rX, ixOf]
  | true =>
    have hr : writeD [d0] nm xs = (Y, true) := by rw [hwr, hd]; rfl
    rw [hr]
    refine pc_enter Try.func24 rfl rfl fun w0 fb => go_on ?_; (try simp only [Try.ntmps24, push_cast, simprocAttr])
    refine at_call ?_
    (try simp only [push_cast, simprocAttr])
    refine rwc_v hV ?_
    (try simp only [push_cast, simprocAttr])
    (refine at_dropS [6] (by refine wk_ok ?_ ?_ ?_ ?_ <;> simp [dropS, dropT, hasN, delL, hdel, leL, leH, idsL, idsA, idsR, inH, hget, sameRow]) ?_; simp only [dropS, dropT, hasN, delL, hdel, idsA, idsL, hget, List.map_cons, List.map_nil, List.all_cons, List.all_nil, List.append_nil, Bool.not_false, Bool.not_true, Bool.and_true, if_true, if_false, simprocAttr])
    refine go_on ?_
    (try simp only [hv, Bool.not_true, push_cast, simprocAttr])
    (refine at_call ?_; (try simp only [push_cast, simprocAttr]); refine rwc_v (hB) (go_on ?_); (try simp only [push_cast, simprocAttr]))
    (try simp only [hxb, Bool.not_true, push_cast, simprocAttr])
    (refine at_call ?_; (try simp only [push_cast, simprocAttr]); refine rwc_v (hI) (go_on ?_); (try simp only [push_cast, simprocAttr]))
    (try simp only [hi', Bool.not_true, push_cast, simprocAttr])
    refine call_lendX [] (lr := []) rfl rfl (by simp [idsL, idsA]) (by simpa [rfA] using hX) ?_
    rintro rv lr' rows ⟨rfl, rfl, rfl⟩
    refine ⟨rfl, by simp [frB, baseOf], go_on ?_⟩
    simp only [backX, hR, rowZ_rf, rfA, nmB, hsL, baseOf, hpOf, List.map_cons, List.map_nil, List.nil_append, List.length_nil, push_cast, simprocAttr]
    (refine at_call ?_; simp only [bC, viewN, hget, tk, isC, List.map_cons, List.map_nil, List.length_map, List.length_cons, List.length_nil, Nat.reduceAdd, Nat.reduceEqDiff, if_true, if_false, reduceIte, simprocAttr]; refine rwc_v (hF) (go_on ?_); (try simp only [push_cast, simprocAttr]))
    (try simp only [show ltI 0 0 = false from rfl, show toIx 0 1 = some 0 from rfl, bC, push_cast, simprocAttr])
    refine at_chk (by omega) ?_
    (try simp only [bC, push_cast, simprocAttr])
    (refine at_callW [25001, 25002] (by refine wk_frz ?_ ?_ ?_ ?_ <;> simp [← List.map_append, List.length_append, eq_self, frwS, frwH, frwRow, frzT, hasN, delL, hdel, leF, leHF, rowF, frzB, idsL, idsA, idsR, inH, hget, sameRow, viewN, tk]) ?_; simp only [← List.map_append, List.length_append, eq_self, frwS, frwH, frwRow, frzT, hasN, delL, hdel, idsA, idsL, viewN, hget, tk, isC, List.map_cons, List.map_nil, List.all_cons, List.all_nil, List.append_nil, List.drop, List.getElem?_cons_zero, List.getElem?_cons_succ, Bool.not_false, Bool.not_true, Bool.and_true, if_true, if_false, Nat.zero_add, List.length_map, simprocAttr])
    (try simp only [push_cast, simprocAttr]); refine call_lend [25000] none (lr := [rowB [⟨d0.name, d0.safe, d0.fresh ++ xs⟩]]) (by simp [ndB]) (by first | rfl | simp [rowsOf, hget, rdR, rowS, sC, ndC, cmC]) (by simp [idsL, idsA]) (by simp [mvN]) (by simpa [rnA, ixOf] using hS) ?_
    rintro rv lr' rows ⟨L', g1, g2, rfl, rfl, rfl⟩
    have hlen := g1.length_eq
    simp only [List.length_cons, List.length_nil, Nat.reduceAdd] at hlen
    have hLY : L' = Y := by rw [hY]; exact wr_old hv hj hg g1 g2
    (refine ⟨by simp [shB, mvF, hlen], by simp [frB, baseOf], go_on ?_⟩; simp only [killA, killH, killRow, push_cast, simprocAttr])
    rw [hLY]
    have hYl : Y.length = 1 := by rw [← hLY]; exact hlen
    (try simp only [push_cast, simprocAttr])
    (refine at_call ?_; simp only [hYl, viewN, hget, tk, isC, List.map_cons, List.map_nil, List.length_map, List.length_cons, List.length_nil, Nat.reduceAdd, Nat.reduceEqDiff, if_true, if_false, reduceIte, simprocAttr]; refine rwc_v (hV2) (go_on ?_); (try simp only [push_cast, simprocAttr]))
    (try simp only [hd, Bool.not_true, push_cast, simprocAttr])
    (refine at_callW [25000] (by refine wk_frz ?_ ?_ ?_ ?_ <;> simp [hYl, frwS, frwH, frwRow, frzT, hasN, delL, hdel, leF, leHF, rowF, frzB, idsL, idsA, idsR, inH, hget, sameRow, viewN, tk]) ?_; simp only [hYl, frwS, frwH, frwRow, frzT, hasN, delL, hdel, idsA, idsL, viewN, hget, tk, isC, List.map_cons, List.map_nil, List.all_cons, List.all_nil, List.append_nil, List.drop, List.getElem?_cons_zero, List.getElem?_cons_succ, Bool.not_false, Bool.not_true, Bool.and_true, if_true, if_false, Nat.zero_add, List.length_map, simprocAttr])
    ((try simp only [push_cast, simprocAttr]); refine at_share2 (by simp [isC2, isC]) (by first | rfl | simp [ren]) (hC2) (go_on ?_); (try simp only [push_cast, simprocAttr]))
    refine at_ret ?_; simp only [Try.results24, push_cast, simprocAttr]
    simp [vX]
theorem DiskWrite_old20 (bs : List BD) (nm : Int) (xs : List Int) (hx : xs.length ≤ 2000000) (hv : diskB bs = true) (hxb : bytesB xs = true) (hi : inB nm 1 3 = true) (d : BD) (hj : bs[0]? = some d) (hg : getB bs nm = some d) (hix : ixB bs nm = 0) (hb : ∃ d0 d1, bs = [d0, d1]) : PC Try.prog 24 [blsA bs, iA nm, intsA xs] (vX (.tup [blsA (writeD bs nm xs).1, bA (writeD bs nm xs).2])) := by
  have hs := disk_sm hv
  have hn3 := disk_len hv
  have hV := DiskValid_pc bs hs
  have hB := bytesValid_pc xs (by omega)
  have hI := in_pc nm 1 3
  have hF := file_pc bs hs.n nm
  have hC := cloneDisk_pc bs hs
  have hi' : inR nm 1 3 = true := hi
  have hnm : 0 ≤ nm ∧ nm ≤ 3 := by simp only [inR, Bool.and_eq_true, decide_eq_true_eq] at hi'; omega
  have hwl := withB_len bs (wrB bs nm xs)
  have hnms := disk_names hv
  have hWs : SmD (wrB bs nm xs) := by
    unfold wrB
    cases hg : getB bs nm with
    | none => exact ⟨by simp, by simp only; omega⟩
    | some d =>
      have hm := (getB_name hg).2
      have hok := disk_okF hv hm
      simp only [okF, Bool.and_eq_true, decide_eq_true_eq] at hok
      exact ⟨(hs.d d hm).s, by simp only [List.length_append]; omega⟩
  have hws : SmB (withB bs (wrB bs nm xs)) := withB_sm hs (by omega) hWs
  obtain ⟨Y, hY⟩ : ∃ Y, Y = withB bs (wrB bs nm xs) := ⟨_, rfl⟩
  rw [← hY] at hws hwl
  have hwr : writeD bs nm xs = if diskB Y = true then (Y, true) else ([], false) := by unfold writeD; rw [hv, hxb, hi, ← hY]; rfl
  have hV2 := DiskValid_pc Y hws
  have hC2 := cloneDisk_d Y hws
  have emp : ∀ {q : PC Try.prog 24 [blsA bs, iA nm, intsA xs] (rX (.tup [.o 0 0, bA false]) [rowB []])}, PC Try.prog 24 [blsA bs, iA nm, intsA xs] (vX (.tup [blsA [], bA false])) := fun {q} => by
    have := q.frzX
    simp [viewN, hpOf, hget, isC, tk] at this
    exact this
  rw [hix] at hF
  obtain ⟨d0, d1, rfl⟩ := hb
  obtain rfl : d0 = d := Option.some.inj hj
  have hfl : d0.fresh.length ≤ 400 := by
    have := disk_okF hv (getB_name hg).2
    simp only [okF, Bool.and_eq_true, decide_eq_true_eq] at this
    omega
  have hX := cloneDisk_at [d0, d1] hs 0 d0 rfl
  have hR : rfRow (nmB [] 25000) (lnkR [d0, d1] 0 d0 1 2) = ⟨55, 3, [[iA d0.name, .o 25001 d0.safe.length, .o 25002 d0.fresh.length], [iA d1.name, intsA d1.safe, intsA d1.fresh]], false⟩ := by rw [lnk_rf _ (by simp)]; rfl
  have hS := sorted_pcl ([⟨d0.name, d0.safe, d0.fresh ++ xs⟩, d1] : List BD) (by simp) fun d hd => by
    rcases mem_set_or (show d ∈ ([d0, d1] : List BD).set 0 ⟨d0.name, d0.safe, d0.fresh ++ xs⟩ from hd) with hd | rfl
    · exact hnms d hd
    · exact hnms d0 (by simp)
  cases hd : diskB Y with
  | false =>
    have hr : writeD [d0, d1] nm xs = ([], false) := by rw [hwr, hd]; rfl
    rw [hr]
    refine emp (q := ?_)
    refine pc_enter Try.func24 rfl rfl fun w0 fb => go_on ?_; (try simp only [Try.ntmps24, push_cast, simprocAttr])
    refine at_call ?_
    (try simp only [push_cast, simprocAttr])
    refine rwc_v hV ?_
    (try simp only [push_cast, simprocAttr])
    (refine at_dropS [6] (by refine wk_ok ?_ ?_ ?_ ?_ <;> simp [dropS, dropT, hasN, delL, hdel, leL, leH, idsL, idsA, idsR, inH, hget, sameRow]) ?_; simp only [dropS, dropT, hasN, delL, hdel, idsA, idsL, hget, List.map_cons, List.map_nil, List.all_cons, List.all_nil, List.append_nil, Bool.not_false, Bool.not_true, Bool.and_true, if_true, if_false, simprocAttr])
    refine go_on ?_
    (try simp only [hv, Bool.not_true, push_cast, simprocAttr])
    (refine at_call ?_; (try simp only [push_cast, simprocAttr]); refine rwc_v (hB) (go_on ?_); (try simp only [push_cast, simprocAttr]))
    (try simp only [hxb, Bool.not_true, push_cast, simprocAttr])
    (refine at_call ?_; (try simp only [push_cast, simprocAttr]); refine rwc_v (hI) (go_on ?_); (try simp only [push_cast, simprocAttr]))
    (try simp only [hi', Bool.not_true, push_cast, simprocAttr])
    refine call_lendX [] (lr := []) rfl rfl (by simp [idsL, idsA]) (by simpa [rfA] using hX) ?_
    rintro rv lr' rows ⟨rfl, rfl, rfl⟩
    refine ⟨rfl, by simp [frB, baseOf], go_on ?_⟩
    simp only [backX, hR, rowZ_rf, rfA, nmB, hsL, baseOf, hpOf, List.map_cons, List.map_nil, List.nil_append, List.length_nil, push_cast, simprocAttr]
    (refine at_call ?_; simp only [bC, viewN, hget, tk, isC, List.map_cons, List.map_nil, List.length_map, List.length_cons, List.length_nil, Nat.reduceAdd, Nat.reduceEqDiff, if_true, if_false, reduceIte, simprocAttr]; refine rwc_v (hF) (go_on ?_); (try simp only [push_cast, simprocAttr]))
    (try simp only [show ltI 0 0 = false from rfl, show toIx 0 2 = some 0 from rfl, bC, push_cast, simprocAttr])
    refine at_chk (by omega) ?_
    (try simp only [bC, push_cast, simprocAttr])
    (refine at_callW [25001, 25002] (by refine wk_frz ?_ ?_ ?_ ?_ <;> simp [← List.map_append, List.length_append, eq_self, frwS, frwH, frwRow, frzT, hasN, delL, hdel, leF, leHF, rowF, frzB, idsL, idsA, idsR, inH, hget, sameRow, viewN, tk]) ?_; simp only [← List.map_append, List.length_append, eq_self, frwS, frwH, frwRow, frzT, hasN, delL, hdel, idsA, idsL, viewN, hget, tk, isC, List.map_cons, List.map_nil, List.all_cons, List.all_nil, List.append_nil, List.drop, List.getElem?_cons_zero, List.getElem?_cons_succ, Bool.not_false, Bool.not_true, Bool.and_true, if_true, if_false, Nat.zero_add, List.length_map, simprocAttr])
    (try simp only [push_cast, simprocAttr]); refine call_lend [25000] none (lr := [rowB [⟨d0.name, d0.safe, d0.fresh ++ xs⟩, d1]]) (by simp [ndB]) (by first | rfl | simp [rowsOf, hget, rdR, rowS, sC, ndC, cmC]) (by simp [idsL, idsA]) (by simp [mvN]) (by simpa [rnA, ixOf] using hS) ?_
    rintro rv lr' rows ⟨L', g1, g2, rfl, rfl, rfl⟩
    have hlen := g1.length_eq
    simp only [List.length_cons, List.length_nil, Nat.reduceAdd] at hlen
    have hLY : L' = Y := by rw [hY]; exact wr_old hv hj hg g1 g2
    (refine ⟨by simp [shB, mvF, hlen], by simp [frB, baseOf], go_on ?_⟩; simp only [killA, killH, killRow, push_cast, simprocAttr])
    rw [hLY]
    have hYl : Y.length = 2 := by rw [← hLY]; exact hlen
    (try simp only [push_cast, simprocAttr])
    (refine at_call ?_; simp only [hYl, viewN, hget, tk, isC, List.map_cons, List.map_nil, List.length_map, List.length_cons, List.length_nil, Nat.reduceAdd, Nat.reduceEqDiff, if_true, if_false, reduceIte, simprocAttr]; refine rwc_v (hV2) (go_on ?_); (try simp only [push_cast, simprocAttr]))
    (try simp only [hd, Bool.not_false, push_cast, simprocAttr])
    refine at_ret ?_; simp only [Try.results24, push_cast, simprocAttr]
    simp [rX, ixOf]
  | true =>
    have hr : writeD [d0, d1] nm xs = (Y, true) := by rw [hwr, hd]; rfl
    rw [hr]
    refine pc_enter Try.func24 rfl rfl fun w0 fb => go_on ?_; (try simp only [Try.ntmps24, push_cast, simprocAttr])
    refine at_call ?_
    (try simp only [push_cast, simprocAttr])
    refine rwc_v hV ?_
    (try simp only [push_cast, simprocAttr])
    (refine at_dropS [6] (by refine wk_ok ?_ ?_ ?_ ?_ <;> simp [dropS, dropT, hasN, delL, hdel, leL, leH, idsL, idsA, idsR, inH, hget, sameRow]) ?_; simp only [dropS, dropT, hasN, delL, hdel, idsA, idsL, hget, List.map_cons, List.map_nil, List.all_cons, List.all_nil, List.append_nil, Bool.not_false, Bool.not_true, Bool.and_true, if_true, if_false, simprocAttr])
    refine go_on ?_
    (try simp only [hv, Bool.not_true, push_cast, simprocAttr])
    (refine at_call ?_; (try simp only [push_cast, simprocAttr]); refine rwc_v (hB) (go_on ?_); (try simp only [push_cast, simprocAttr]))
    (try simp only [hxb, Bool.not_true, push_cast, simprocAttr])
    (refine at_call ?_; (try simp only [push_cast, simprocAttr]); refine rwc_v (hI) (go_on ?_); (try simp only [push_cast, simprocAttr]))
    (try simp only [hi', Bool.not_true, push_cast, simprocAttr])
    refine call_lendX [] (lr := []) rfl rfl (by simp [idsL, idsA]) (by simpa [rfA] using hX) ?_
    rintro rv lr' rows ⟨rfl, rfl, rfl⟩
    refine ⟨rfl, by simp [frB, baseOf], go_on ?_⟩
    simp only [backX, hR, rowZ_rf, rfA, nmB, hsL, baseOf, hpOf, List.map_cons, List.map_nil, List.nil_append, List.length_nil, push_cast, simprocAttr]
    (refine at_call ?_; simp only [bC, viewN, hget, tk, isC, List.map_cons, List.map_nil, List.length_map, List.length_cons, List.length_nil, Nat.reduceAdd, Nat.reduceEqDiff, if_true, if_false, reduceIte, simprocAttr]; refine rwc_v (hF) (go_on ?_); (try simp only [push_cast, simprocAttr]))
    (try simp only [show ltI 0 0 = false from rfl, show toIx 0 2 = some 0 from rfl, bC, push_cast, simprocAttr])
    refine at_chk (by omega) ?_
    (try simp only [bC, push_cast, simprocAttr])
    (refine at_callW [25001, 25002] (by refine wk_frz ?_ ?_ ?_ ?_ <;> simp [← List.map_append, List.length_append, eq_self, frwS, frwH, frwRow, frzT, hasN, delL, hdel, leF, leHF, rowF, frzB, idsL, idsA, idsR, inH, hget, sameRow, viewN, tk]) ?_; simp only [← List.map_append, List.length_append, eq_self, frwS, frwH, frwRow, frzT, hasN, delL, hdel, idsA, idsL, viewN, hget, tk, isC, List.map_cons, List.map_nil, List.all_cons, List.all_nil, List.append_nil, List.drop, List.getElem?_cons_zero, List.getElem?_cons_succ, Bool.not_false, Bool.not_true, Bool.and_true, if_true, if_false, Nat.zero_add, List.length_map, simprocAttr])
    (try simp only [push_cast, simprocAttr]); refine call_lend [25000] none (lr := [rowB [⟨d0.name, d0.safe, d0.fresh ++ xs⟩, d1]]) (by simp [ndB]) (by first | rfl | simp [rowsOf, hget, rdR, rowS, sC, ndC, cmC]) (by simp [idsL, idsA]) (by simp [mvN]) (by simpa [rnA, ixOf] using hS) ?_
    rintro rv lr' rows ⟨L', g1, g2, rfl, rfl, rfl⟩
    have hlen := g1.length_eq
    simp only [List.length_cons, List.length_nil, Nat.reduceAdd] at hlen
    have hLY : L' = Y := by rw [hY]; exact wr_old hv hj hg g1 g2
    (refine ⟨by simp [shB, mvF, hlen], by simp [frB, baseOf], go_on ?_⟩; simp only [killA, killH, killRow, push_cast, simprocAttr])
    rw [hLY]
    have hYl : Y.length = 2 := by rw [← hLY]; exact hlen
    (try simp only [push_cast, simprocAttr])
    (refine at_call ?_; simp only [hYl, viewN, hget, tk, isC, List.map_cons, List.map_nil, List.length_map, List.length_cons, List.length_nil, Nat.reduceAdd, Nat.reduceEqDiff, if_true, if_false, reduceIte, simprocAttr]; refine rwc_v (hV2) (go_on ?_); (try simp only [push_cast, simprocAttr]))
    (try simp only [hd, Bool.not_true, push_cast, simprocAttr])
    (refine at_callW [25000] (by refine wk_frz ?_ ?_ ?_ ?_ <;> simp [hYl, frwS, frwH, frwRow, frzT, hasN, delL, hdel, leF, leHF, rowF, frzB, idsL, idsA, idsR, inH, hget, sameRow, viewN, tk]) ?_; simp only [hYl, frwS, frwH, frwRow, frzT, hasN, delL, hdel, idsA, idsL, viewN, hget, tk, isC, List.map_cons, List.map_nil, List.all_cons, List.all_nil, List.append_nil, List.drop, List.getElem?_cons_zero, List.getElem?_cons_succ, Bool.not_false, Bool.not_true, Bool.and_true, if_true, if_false, Nat.zero_add, List.length_map, simprocAttr])
    ((try simp only [push_cast, simprocAttr]); refine at_share2 (by simp [isC2, isC]) (by first | rfl | simp [ren]) (hC2) (go_on ?_); (try simp only [push_cast, simprocAttr]))
    refine at_ret ?_; simp only [Try.results24, push_cast, simprocAttr]
    simp [vX]
theorem DiskWrite_old21 (bs : List BD) (nm : Int) (xs : List Int) (hx : xs.length ≤ 2000000) (hv : diskB bs = true) (hxb : bytesB xs = true) (hi : inB nm 1 3 = true) (d : BD) (hj : bs[1]? = some d) (hg : getB bs nm = some d) (hix : ixB bs nm = 1) (hb : ∃ d0 d1, bs = [d0, d1]) : PC Try.prog 24 [blsA bs, iA nm, intsA xs] (vX (.tup [blsA (writeD bs nm xs).1, bA (writeD bs nm xs).2])) := by
  have hs := disk_sm hv
  have hn3 := disk_len hv
  have hV := DiskValid_pc bs hs
  have hB := bytesValid_pc xs (by omega)
  have hI := in_pc nm 1 3
  have hF := file_pc bs hs.n nm
  have hC := cloneDisk_pc bs hs
  have hi' : inR nm 1 3 = true := hi
  have hnm : 0 ≤ nm ∧ nm ≤ 3 := by simp only [inR, Bool.and_eq_true, decide_eq_true_eq] at hi'; omega
  have hwl := withB_len bs (wrB bs nm xs)
  have hnms := disk_names hv
  have hWs : SmD (wrB bs nm xs) := by
    unfold wrB
    cases hg : getB bs nm with
    | none => exact ⟨by simp, by simp only; omega⟩
    | some d =>
      have hm := (getB_name hg).2
      have hok := disk_okF hv hm
      simp only [okF, Bool.and_eq_true, decide_eq_true_eq] at hok
      exact ⟨(hs.d d hm).s, by simp only [List.length_append]; omega⟩
  have hws : SmB (withB bs (wrB bs nm xs)) := withB_sm hs (by omega) hWs
  obtain ⟨Y, hY⟩ : ∃ Y, Y = withB bs (wrB bs nm xs) := ⟨_, rfl⟩
  rw [← hY] at hws hwl
  have hwr : writeD bs nm xs = if diskB Y = true then (Y, true) else ([], false) := by unfold writeD; rw [hv, hxb, hi, ← hY]; rfl
  have hV2 := DiskValid_pc Y hws
  have hC2 := cloneDisk_d Y hws
  have emp : ∀ {q : PC Try.prog 24 [blsA bs, iA nm, intsA xs] (rX (.tup [.o 0 0, bA false]) [rowB []])}, PC Try.prog 24 [blsA bs, iA nm, intsA xs] (vX (.tup [blsA [], bA false])) := fun {q} => by
    have := q.frzX
    simp [viewN, hpOf, hget, isC, tk] at this
    exact this
  rw [hix] at hF
  obtain ⟨d0, d1, rfl⟩ := hb
  obtain rfl : d1 = d := Option.some.inj hj
  have hfl : d1.fresh.length ≤ 400 := by
    have := disk_okF hv (getB_name hg).2
    simp only [okF, Bool.and_eq_true, decide_eq_true_eq] at this
    omega
  have hX := cloneDisk_at [d0, d1] hs 1 d1 rfl
  have hR : rfRow (nmB [] 25000) (lnkR [d0, d1] 1 d1 1 2) = ⟨55, 3, [[iA d0.name, intsA d0.safe, intsA d0.fresh], [iA d1.name, .o 25001 d1.safe.length, .o 25002 d1.fresh.length]], false⟩ := by rw [lnk_rf _ (by simp)]; rfl
  have hS := sorted_pcl ([d0, ⟨d1.name, d1.safe, d1.fresh ++ xs⟩] : List BD) (by simp) fun d hd => by
    rcases mem_set_or (show d ∈ ([d0, d1] : List BD).set 1 ⟨d1.name, d1.safe, d1.fresh ++ xs⟩ from hd) with hd | rfl
    · exact hnms d hd
    · exact hnms d1 (by simp)
  cases hd : diskB Y with
  | false =>
    have hr : writeD [d0, d1] nm xs = ([], false) := by rw [hwr, hd]; rfl
    rw [hr]
    refine emp (q := ?_)
    refine pc_enter Try.func24 rfl rfl fun w0 fb => go_on ?_; (try simp only [Try.ntmps24, push_cast, simprocAttr])
    refine at_call ?_
    (try simp only [push_cast, simprocAttr])
    refine rwc_v hV ?_
    (try simp only [push_cast, simprocAttr])
    (refine at_dropS [6] (by refine wk_ok ?_ ?_ ?_ ?_ <;> simp [dropS, dropT, hasN, delL, hdel, leL, leH, idsL, idsA, idsR, inH, hget, sameRow]) ?_; simp only [dropS, dropT, hasN, delL, hdel, idsA, idsL, hget, List.map_cons, List.map_nil, List.all_cons, List.all_nil, List.append_nil, Bool.not_false, Bool.not_true, Bool.and_true, if_true, if_false, simprocAttr])
    refine go_on ?_
    (try simp only [hv, Bool.not_true, push_cast, simprocAttr])
    (refine at_call ?_; (try simp only [push_cast, simprocAttr]); refine rwc_v (hB) (go_on ?_); (try simp only [push_cast, simprocAttr]))
    (try simp only [hxb, Bool.not_true, push_cast, simprocAttr])
    (refine at_call ?_; (try simp only [push_cast, simprocAttr]); refine rwc_v (hI) (go_on ?_); (try simp only [push_cast, simprocAttr]))
    (try simp only [hi', Bool.not_true, push_cast, simprocAttr])
    refine call_lendX [] (lr := []) rfl rfl (by simp [idsL, idsA]) (by simpa [rfA] using hX) ?_
    rintro rv lr' rows ⟨rfl, rfl, rfl⟩
    refine ⟨rfl, by simp [frB, baseOf], go_on ?_⟩
    simp only [backX, hR, rowZ_rf, rfA, nmB, hsL, baseOf, hpOf, List.map_cons, List.map_nil, List.nil_append, List.length_nil, push_cast, simprocAttr]
    (refine at_call ?_; simp only [bC, viewN, hget, tk, isC, List.map_cons, List.map_nil, List.length_map, List.length_cons, List.length_nil, Nat.reduceAdd, Nat.reduceEqDiff, if_true, if_false, reduceIte, simprocAttr]; refine rwc_v (hF) (go_on ?_); (try simp only [push_cast, simprocAttr]))
    (try simp only [show ltI 1 0 = false from rfl, show toIx 1 2 = some 1 from rfl, bC, push_cast, simprocAttr])
    refine at_chk (by omega) ?_
    (try simp only [bC, push_cast, simprocAttr])
    (refine at_callW [25001, 25002] (by refine wk_frz ?_ ?_ ?_ ?_ <;> simp [← List.map_append, List.length_append, eq_self, frwS, frwH, frwRow, frzT, hasN, delL, hdel, leF, leHF, rowF, frzB, idsL, idsA, idsR, inH, hget, sameRow, viewN, tk]) ?_; simp only [← List.map_append, List.length_append, eq_self, frwS, frwH, frwRow, frzT, hasN, delL, hdel, idsA, idsL, viewN, hget, tk, isC, List.map_cons, List.map_nil, List.all_cons, List.all_nil, List.append_nil, List.drop, List.getElem?_cons_zero, List.getElem?_cons_succ, Bool.not_false, Bool.not_true, Bool.and_true, if_true, if_false, Nat.zero_add, List.length_map, simprocAttr])
    (try simp only [push_cast, simprocAttr]); refine call_lend [25000] none (lr := [rowB [d0, ⟨d1.name, d1.safe, d1.fresh ++ xs⟩]]) (by simp [ndB]) (by first | rfl | simp [rowsOf, hget, rdR, rowS, sC, ndC, cmC]) (by simp [idsL, idsA]) (by simp [mvN]) (by simpa [rnA, ixOf] using hS) ?_
    rintro rv lr' rows ⟨L', g1, g2, rfl, rfl, rfl⟩
    have hlen := g1.length_eq
    simp only [List.length_cons, List.length_nil, Nat.reduceAdd] at hlen
    have hLY : L' = Y := by rw [hY]; exact wr_old hv hj hg g1 g2
    (refine ⟨by simp [shB, mvF, hlen], by simp [frB, baseOf], go_on ?_⟩; simp only [killA, killH, killRow, push_cast, simprocAttr])
    rw [hLY]
    have hYl : Y.length = 2 := by rw [← hLY]; exact hlen
    (try simp only [push_cast, simprocAttr])
    (refine at_call ?_; simp only [hYl, viewN, hget, tk, isC, List.map_cons, List.map_nil, List.length_map, List.length_cons, List.length_nil, Nat.reduceAdd, Nat.reduceEqDiff, if_true, if_false, reduceIte, simprocAttr]; refine rwc_v (hV2) (go_on ?_); (try simp only [push_cast, simprocAttr]))
    (try simp only [hd, Bool.not_false, push_cast, simprocAttr])
    refine at_ret ?_; simp only [Try.results24, push_cast, simprocAttr]
    simp [rX, ixOf]
  | true =>
    have hr : writeD [d0, d1] nm xs = (Y, true) := by rw [hwr, hd]; rfl
    rw [hr]
    refine pc_enter Try.func24 rfl rfl fun w0 fb => go_on ?_; (try simp only [Try.ntmps24, push_cast, simprocAttr])
    refine at_call ?_
    (try simp only [push_cast, simprocAttr])
    refine rwc_v hV ?_
    (try simp only [push_cast, simprocAttr])
    (refine at_dropS [6] (by refine wk_ok ?_ ?_ ?_ ?_ <;> simp [dropS, dropT, hasN, delL, hdel, leL, leH, idsL, idsA, idsR, inH, hget, sameRow]) ?_; simp only [dropS, dropT, hasN, delL, hdel, idsA, idsL, hget, List.map_cons, List.map_nil, List.all_cons, List.all_nil, List.append_nil, Bool.not_false, Bool.not_true, Bool.and_true, if_true, if_false, simprocAttr])
    refine go_on ?_
    (try simp only [hv, Bool.not_true, push_cast, simprocAttr])
    (refine at_call ?_; (try simp only [push_cast, simprocAttr]); refine rwc_v (hB) (go_on ?_); (try simp only [push_cast, simprocAttr]))
    (try simp only [hxb, Bool.not_true, push_cast, simprocAttr])
    (refine at_call ?_; (try simp only [push_cast, simprocAttr]); refine rwc_v (hI) (go_on ?_); (try simp only [push_cast, simprocAttr]))
    (try simp only [hi', Bool.not_true, push_cast, simprocAttr])
    refine call_lendX [] (lr := []) rfl rfl (by simp [idsL, idsA]) (by simpa [rfA] using hX) ?_
    rintro rv lr' rows ⟨rfl, rfl, rfl⟩
    refine ⟨rfl, by simp [frB, baseOf], go_on ?_⟩
    simp only [backX, hR, rowZ_rf, rfA, nmB, hsL, baseOf, hpOf, List.map_cons, List.map_nil, List.nil_append, List.length_nil, push_cast, simprocAttr]
    (refine at_call ?_; simp only [bC, viewN, hget, tk, isC, List.map_cons, List.map_nil, List.length_map, List.length_cons, List.length_nil, Nat.reduceAdd, Nat.reduceEqDiff, if_true, if_false, reduceIte, simprocAttr]; refine rwc_v (hF) (go_on ?_); (try simp only [push_cast, simprocAttr]))
    (try simp only [show ltI 1 0 = false from rfl, show toIx 1 2 = some 1 from rfl, bC, push_cast, simprocAttr])
    refine at_chk (by omega) ?_
    (try simp only [bC, push_cast, simprocAttr])
    (refine at_callW [25001, 25002] (by refine wk_frz ?_ ?_ ?_ ?_ <;> simp [← List.map_append, List.length_append, eq_self, frwS, frwH, frwRow, frzT, hasN, delL, hdel, leF, leHF, rowF, frzB, idsL, idsA, idsR, inH, hget, sameRow, viewN, tk]) ?_; simp only [← List.map_append, List.length_append, eq_self, frwS, frwH, frwRow, frzT, hasN, delL, hdel, idsA, idsL, viewN, hget, tk, isC, List.map_cons, List.map_nil, List.all_cons, List.all_nil, List.append_nil, List.drop, List.getElem?_cons_zero, List.getElem?_cons_succ, Bool.not_false, Bool.not_true, Bool.and_true, if_true, if_false, Nat.zero_add, List.length_map, simprocAttr])
    (try simp only [push_cast, simprocAttr]); refine call_lend [25000] none (lr := [rowB [d0, ⟨d1.name, d1.safe, d1.fresh ++ xs⟩]]) (by simp [ndB]) (by first | rfl | simp [rowsOf, hget, rdR, rowS, sC, ndC, cmC]) (by simp [idsL, idsA]) (by simp [mvN]) (by simpa [rnA, ixOf] using hS) ?_
    rintro rv lr' rows ⟨L', g1, g2, rfl, rfl, rfl⟩
    have hlen := g1.length_eq
    simp only [List.length_cons, List.length_nil, Nat.reduceAdd] at hlen
    have hLY : L' = Y := by rw [hY]; exact wr_old hv hj hg g1 g2
    (refine ⟨by simp [shB, mvF, hlen], by simp [frB, baseOf], go_on ?_⟩; simp only [killA, killH, killRow, push_cast, simprocAttr])
    rw [hLY]
    have hYl : Y.length = 2 := by rw [← hLY]; exact hlen
    (try simp only [push_cast, simprocAttr])
    (refine at_call ?_; simp only [hYl, viewN, hget, tk, isC, List.map_cons, List.map_nil, List.length_map, List.length_cons, List.length_nil, Nat.reduceAdd, Nat.reduceEqDiff, if_true, if_false, reduceIte, simprocAttr]; refine rwc_v (hV2) (go_on ?_); (try simp only [push_cast, simprocAttr]))
    (try simp only [hd, Bool.not_true, push_cast, simprocAttr])
    (refine at_callW [25000] (by refine wk_frz ?_ ?_ ?_ ?_ <;> simp [hYl, frwS, frwH, frwRow, frzT, hasN, delL, hdel, leF, leHF, rowF, frzB, idsL, idsA, idsR, inH, hget, sameRow, viewN, tk]) ?_; simp only [hYl, frwS, frwH, frwRow, frzT, hasN, delL, hdel, idsA, idsL, viewN, hget, tk, isC, List.map_cons, List.map_nil, List.all_cons, List.all_nil, List.append_nil, List.drop, List.getElem?_cons_zero, List.getElem?_cons_succ, Bool.not_false, Bool.not_true, Bool.and_true, if_true, if_false, Nat.zero_add, List.length_map, simprocAttr])
    ((try simp only [push_cast, simprocAttr]); refine at_share2 (by simp [isC2, isC]) (by first | rfl | simp [ren]) (hC2) (go_on ?_); (try simp only [push_cast, simprocAttr]))
    refine at_ret ?_; simp only [Try.results24, push_cast, simprocAttr]
    simp [vX]
theorem DiskWrite_old30 (bs : List BD) (nm : Int) (xs : List Int) (hx : xs.length ≤ 2000000) (hv : diskB bs = true) (hxb : bytesB xs = true) (hi : inB nm 1 3 = true) (d : BD) (hj : bs[0]? = some d) (hg : getB bs nm = some d) (hix : ixB bs nm = 0) (hb : ∃ d0 d1 d2, bs = [d0, d1, d2]) : PC Try.prog 24 [blsA bs, iA nm, intsA xs] (vX (.tup [blsA (writeD bs nm xs).1, bA (writeD bs nm xs).2])) := by
  have hs := disk_sm hv
  have hn3 := disk_len hv
  have hV := DiskValid_pc bs hs
  have hB := bytesValid_pc xs (by omega)
  have hI := in_pc nm 1 3
  have hF := file_pc bs hs.n nm
  have hC := cloneDisk_pc bs hs
  have hi' : inR nm 1 3 = true := hi
  have hnm : 0 ≤ nm ∧ nm ≤ 3 := by simp only [inR, Bool.and_eq_true, decide_eq_true_eq] at hi'; omega
  have hwl := withB_len bs (wrB bs nm xs)
  have hnms := disk_names hv
  have hWs : SmD (wrB bs nm xs) := by
    unfold wrB
    cases hg : getB bs nm with
    | none => exact ⟨by simp, by simp only; omega⟩
    | some d =>
      have hm := (getB_name hg).2
      have hok := disk_okF hv hm
      simp only [okF, Bool.and_eq_true, decide_eq_true_eq] at hok
      exact ⟨(hs.d d hm).s, by simp only [List.length_append]; omega⟩
  have hws : SmB (withB bs (wrB bs nm xs)) := withB_sm hs (by omega) hWs
  obtain ⟨Y, hY⟩ : ∃ Y, Y = withB bs (wrB bs nm xs) := ⟨_, rfl⟩
  rw [← hY] at hws hwl
  have hwr : writeD bs nm xs = if diskB Y = true then (Y, true) else ([], false) := by unfold writeD; rw [hv, hxb, hi, ← hY]; rfl
  have hV2 := DiskValid_pc Y hws
  have hC2 := cloneDisk_d Y hws
  have emp : ∀ {q : PC Try.prog 24 [blsA bs, iA nm, intsA xs] (rX (.tup [.o 0 0, bA false]) [rowB []])}, PC Try.prog 24 [blsA bs, iA nm, intsA xs] (vX (.tup [blsA [], bA false])) := fun {q} => by
    have := q.frzX
    simp [viewN, hpOf, hget, isC, tk] at this
    exact this
  rw [hix] at hF
  obtain ⟨d0, d1, d2, rfl⟩ := hb
  obtain rfl : d0 = d := Option.some.inj hj
  have hfl : d0.fresh.length ≤ 400 := by
    have := disk_okF hv (getB_name hg).2
    simp only [okF, Bool.and_eq_true, decide_eq_true_eq] at this
    omega
  have hX := cloneDisk_at [d0, d1, d2] hs 0 d0 rfl
  have hR : rfRow (nmB [] 25000) (lnkR [d0, d1, d2] 0 d0 1 2) = ⟨55, 3, [[iA d0.name, .o 25001 d0.safe.length, .o 25002 d0.fresh.length], [iA d1.name, intsA d1.safe, intsA d1.fresh], [iA d2.name, intsA d2.safe, intsA d2.fresh]], false⟩ := by rw [lnk_rf _ (by simp)]; rfl
  have hS := sorted_pcl ([⟨d0.name, d0.safe, d0.fresh ++ xs⟩, d1, d2] : List BD) (by simp) fun d hd => by
    rcases mem_set_or (show d ∈ ([d0, d1, d2] : List BD).set 0 ⟨d0.name, d0.safe, d0.fresh ++ xs⟩ from hd) with hd | rfl
    · exact hnms d hd
    · exact hnms d0 (by simp)
  cases hd : diskB Y with
  | false =>
    have hr : writeD [d0, d1, d2] nm xs = ([], false) := by rw [hwr, hd]; rfl
    rw [hr]
    refine emp (q := ?_)
    refine pc_enter Try.func24 rfl rfl fun w0 fb => go_on ?_; (try simp only [Try.ntmps24, push_cast, simprocAttr])
    refine at_call ?_
    (try simp only [push_cast, simprocAttr])
    refine rwc_v hV ?_
    (try simp only [push_cast, simprocAttr])
    (refine at_dropS [6] (by refine wk_ok ?_ ?_ ?_ ?_ <;> simp [dropS, dropT, hasN, delL, hdel, leL, leH, idsL, idsA, idsR, inH, hget, sameRow]) ?_; simp only [dropS, dropT, hasN, delL, hdel, idsA, idsL, hget, List.map_cons, List.map_nil, List.all_cons, List.all_nil, List.append_nil, Bool.not_false, Bool.not_true, Bool.and_true, if_true, if_false, simprocAttr])
    refine go_on ?_
    (try simp only [hv, Bool.not_true, push_cast, simprocAttr])
    (refine at_call ?_; (try simp only [push_cast, simprocAttr]); refine rwc_v (hB) (go_on ?_); (try simp only [push_cast, simprocAttr]))
    (try simp only [hxb, Bool.not_true, push_cast, simprocAttr])
    (refine at_call ?_; (try simp only [push_cast, simprocAttr]); refine rwc_v (hI) (go_on ?_); (try simp only [push_cast, simprocAttr]))
    (try simp only [hi', Bool.not_true, push_cast, simprocAttr])
    refine call_lendX [] (lr := []) rfl rfl (by simp [idsL, idsA]) (by simpa [rfA] using hX) ?_
    rintro rv lr' rows ⟨rfl, rfl, rfl⟩
    refine ⟨rfl, by simp [frB, baseOf], go_on ?_⟩
    simp only [backX, hR, rowZ_rf, rfA, nmB, hsL, baseOf, hpOf, List.map_cons, List.map_nil, List.nil_append, List.length_nil, push_cast, simprocAttr]
    (refine at_call ?_; simp only [bC, viewN, hget, tk, isC, List.map_cons, List.map_nil, List.length_map, List.length_cons, List.length_nil, Nat.reduceAdd, Nat.reduceEqDiff, if_true, if_false, reduceIte, simprocAttr]; refine rwc_v (hF) (go_on ?_); (try simp only [push_cast, simprocAttr]))
    (try simp only [show ltI 0 0 = false from rfl, show toIx 0 3 = some 0 from rfl, bC, push_cast, simprocAttr])
    refine at_chk (by omega) ?_
    (try simp only [bC, push_cast, simprocAttr])
    (refine at_callW [25001, 25002] (by refine wk_frz ?_ ?_ ?_ ?_ <;> simp [← List.map_append, List.length_append, eq_self, frwS, frwH, frwRow, frzT, hasN, delL, hdel, leF, leHF, rowF, frzB, idsL, idsA, idsR, inH, hget, sameRow, viewN, tk]) ?_; simp only [← List.map_append, List.length_append, eq_self, frwS, frwH, frwRow, frzT, hasN, delL, hdel, idsA, idsL, viewN, hget, tk, isC, List.map_cons, List.map_nil, List.all_cons, List.all_nil, List.append_nil, List.drop, List.getElem?_cons_zero, List.getElem?_cons_succ, Bool.not_false, Bool.not_true, Bool.and_true, if_true, if_false, Nat.zero_add, List.length_map, simprocAttr])
    (try simp only [push_cast, simprocAttr]); refine call_lend [25000] none (lr := [rowB [⟨d0.name, d0.safe, d0.fresh ++ xs⟩, d1, d2]]) (by simp [ndB]) (by first | rfl | simp [rowsOf, hget, rdR, rowS, sC, ndC, cmC]) (by simp [idsL, idsA]) (by simp [mvN]) (by simpa [rnA, ixOf] using hS) ?_
    rintro rv lr' rows ⟨L', g1, g2, rfl, rfl, rfl⟩
    have hlen := g1.length_eq
    simp only [List.length_cons, List.length_nil, Nat.reduceAdd] at hlen
    have hLY : L' = Y := by rw [hY]; exact wr_old hv hj hg g1 g2
    (refine ⟨by simp [shB, mvF, hlen], by simp [frB, baseOf], go_on ?_⟩; simp only [killA, killH, killRow, push_cast, simprocAttr])
    rw [hLY]
    have hYl : Y.length = 3 := by rw [← hLY]; exact hlen
    (try simp only [push_cast, simprocAttr])
    (refine at_call ?_; simp only [hYl, viewN, hget, tk, isC, List.map_cons, List.map_nil, List.length_map, List.length_cons, List.length_nil, Nat.reduceAdd, Nat.reduceEqDiff, if_true, if_false, reduceIte, simprocAttr]; refine rwc_v (hV2) (go_on ?_); (try simp only [push_cast, simprocAttr]))
    (try simp only [hd, Bool.not_false, push_cast, simprocAttr])
    refine at_ret ?_; simp only [Try.results24, push_cast, simprocAttr]
    simp [rX, ixOf]
  | true =>
    have hr : writeD [d0, d1, d2] nm xs = (Y, true) := by rw [hwr, hd]; rfl
    rw [hr]
    refine pc_enter Try.func24 rfl rfl fun w0 fb => go_on ?_; (try simp only [Try.ntmps24, push_cast, simprocAttr])
    refine at_call ?_
    (try simp only [push_cast, simprocAttr])
    refine rwc_v hV ?_
    (try simp only [push_cast, simprocAttr])
    (refine at_dropS [6] (by refine wk_ok ?_ ?_ ?_ ?_ <;> simp [dropS, dropT, hasN, delL, hdel, leL, leH, idsL, idsA, idsR, inH, hget, sameRow]) ?_; simp only [dropS, dropT, hasN, delL, hdel, idsA, idsL, hget, List.map_cons, List.map_nil, List.all_cons, List.all_nil, List.append_nil, Bool.not_false, Bool.not_true, Bool.and_true, if_true, if_false, simprocAttr])
    refine go_on ?_
    (try simp only [hv, Bool.not_true, push_cast, simprocAttr])
    (refine at_call ?_; (try simp only [push_cast, simprocAttr]); refine rwc_v (hB) (go_on ?_); (try simp only [push_cast, simprocAttr]))
    (try simp only [hxb, Bool.not_true, push_cast, simprocAttr])
    (refine at_call ?_; (try simp only [push_cast, simprocAttr]); refine rwc_v (hI) (go_on ?_); (try simp only [push_cast, simprocAttr]))
    (try simp only [hi', Bool.not_true, push_cast, simprocAttr])
    refine call_lendX [] (lr := []) rfl rfl (by simp [idsL, idsA]) (by simpa [rfA] using hX) ?_
    rintro rv lr' rows ⟨rfl, rfl, rfl⟩
    refine ⟨rfl, by simp [frB, baseOf], go_on ?_⟩
    simp only [backX, hR, rowZ_rf, rfA, nmB, hsL, baseOf, hpOf, List.map_cons, List.map_nil, List.nil_append, List.length_nil, push_cast, simprocAttr]
    (refine at_call ?_; simp only [bC, viewN, hget, tk, isC, List.map_cons, List.map_nil, List.length_map, List.length_cons, List.length_nil, Nat.reduceAdd, Nat.reduceEqDiff, if_true, if_false, reduceIte, simprocAttr]; refine rwc_v (hF) (go_on ?_); (try simp only [push_cast, simprocAttr]))
    (try simp only [show ltI 0 0 = false from rfl, show toIx 0 3 = some 0 from rfl, bC, push_cast, simprocAttr])
    refine at_chk (by omega) ?_
    (try simp only [bC, push_cast, simprocAttr])
    (refine at_callW [25001, 25002] (by refine wk_frz ?_ ?_ ?_ ?_ <;> simp [← List.map_append, List.length_append, eq_self, frwS, frwH, frwRow, frzT, hasN, delL, hdel, leF, leHF, rowF, frzB, idsL, idsA, idsR, inH, hget, sameRow, viewN, tk]) ?_; simp only [← List.map_append, List.length_append, eq_self, frwS, frwH, frwRow, frzT, hasN, delL, hdel, idsA, idsL, viewN, hget, tk, isC, List.map_cons, List.map_nil, List.all_cons, List.all_nil, List.append_nil, List.drop, List.getElem?_cons_zero, List.getElem?_cons_succ, Bool.not_false, Bool.not_true, Bool.and_true, if_true, if_false, Nat.zero_add, List.length_map, simprocAttr])
    (try simp only [push_cast, simprocAttr]); refine call_lend [25000] none (lr := [rowB [⟨d0.name, d0.safe, d0.fresh ++ xs⟩, d1, d2]]) (by simp [ndB]) (by first | rfl | simp [rowsOf, hget, rdR, rowS, sC, ndC, cmC]) (by simp [idsL, idsA]) (by simp [mvN]) (by simpa [rnA, ixOf] using hS) ?_
    rintro rv lr' rows ⟨L', g1, g2, rfl, rfl, rfl⟩
    have hlen := g1.length_eq
    simp only [List.length_cons, List.length_nil, Nat.reduceAdd] at hlen
    have hLY : L' = Y := by rw [hY]; exact wr_old hv hj hg g1 g2
    (refine ⟨by simp [shB, mvF, hlen], by simp [frB, baseOf], go_on ?_⟩; simp only [killA, killH, killRow, push_cast, simprocAttr])
    rw [hLY]
    have hYl : Y.length = 3 := by rw [← hLY]; exact hlen
    (try simp only [push_cast, simprocAttr])
    (refine at_call ?_; simp only [hYl, viewN, hget, tk, isC, List.map_cons, List.map_nil, List.length_map, List.length_cons, List.length_nil, Nat.reduceAdd, Nat.reduceEqDiff, if_true, if_false, reduceIte, simprocAttr]; refine rwc_v (hV2) (go_on ?_); (try simp only [push_cast, simprocAttr]))
    (try simp only [hd, Bool.not_true, push_cast, simprocAttr])
    (refine at_callW [25000] (by refine wk_frz ?_ ?_ ?_ ?_ <;> simp [hYl, frwS, frwH, frwRow, frzT, hasN, delL, hdel, leF, leHF, rowF, frzB, idsL, idsA, idsR, inH, hget, sameRow, viewN, tk]) ?_; simp only [hYl, frwS, frwH, frwRow, frzT, hasN, delL, hdel, idsA, idsL, viewN, hget, tk, isC, List.map_cons, List.map_nil, List.all_cons, List.all_nil, List.append_nil, List.drop, List.getElem?_cons_zero, List.getElem?_cons_succ, Bool.not_false, Bool.not_true, Bool.and_true, if_true, if_false, Nat.zero_add, List.length_map, simprocAttr])
    ((try simp only [push_cast, simprocAttr]); refine at_share2 (by simp [isC2, isC]) (by first | rfl | simp [ren]) (hC2) (go_on ?_); (try simp only [push_cast, simprocAttr]))
    refine at_ret ?_; simp only [Try.results24, push_cast, simprocAttr]
    simp [vX]
theorem DiskWrite_old31 (bs : List BD) (nm : Int) (xs : List Int) (hx : xs.length ≤ 2000000) (hv : diskB bs = true) (hxb : bytesB xs = true) (hi : inB nm 1 3 = true) (d : BD) (hj : bs[1]? = some d) (hg : getB bs nm = some d) (hix : ixB bs nm = 1) (hb : ∃ d0 d1 d2, bs = [d0, d1, d2]) : PC Try.prog 24 [blsA bs, iA nm, intsA xs] (vX (.tup [blsA (writeD bs nm xs).1, bA (writeD bs nm xs).2])) := by
  have hs := disk_sm hv
  have hn3 := disk_len hv
  have hV := DiskValid_pc bs hs
  have hB := bytesValid_pc xs (by omega)
  have hI := in_pc nm 1 3
  have hF := file_pc bs hs.n nm
  have hC := cloneDisk_pc bs hs
  have hi' : inR nm 1 3 = true := hi
  have hnm : 0 ≤ nm ∧ nm ≤ 3 := by simp only [inR, Bool.and_eq_true, decide_eq_true_eq] at hi'; omega
  have hwl := withB_len bs (wrB bs nm xs)
  have hnms := disk_names hv
  have hWs : SmD (wrB bs nm xs) := by
    unfold wrB
    cases hg : getB bs nm with
    | none => exact ⟨by simp, by simp only; omega⟩
    | some d =>
      have hm := (getB_name hg).2
      have hok := disk_okF hv hm
      simp only [okF, Bool.and_eq_true, decide_eq_true_eq] at hok
      exact ⟨(hs.d d hm).s, by simp only [List.length_append]; omega⟩
  have hws : SmB (withB bs (wrB bs nm xs)) := withB_sm hs (by omega) hWs
  obtain ⟨Y, hY⟩ : ∃ Y, Y = withB bs (wrB bs nm xs) := ⟨_, rfl⟩
  rw [← hY] at hws hwl
  have hwr : writeD bs nm xs = if diskB Y = true then (Y, true) else ([], false) := by unfold writeD; rw [hv, hxb, hi, ← hY]; rfl
  have hV2 := DiskValid_pc Y hws
  have hC2 := cloneDisk_d Y hws
  have emp : ∀ {q : PC Try.prog 24 [blsA bs, iA nm, intsA xs] (rX (.tup [.o 0 0, bA false]) [rowB []])}, PC Try.prog 24 [blsA bs, iA nm, intsA xs] (vX (.tup [blsA [], bA false])) := fun {q} => by
    have := q.frzX
    simp [viewN, hpOf, hget, isC, tk] at this
    exact this
  rw [hix] at hF
  obtain ⟨d0, d1, d2, rfl⟩ := hb
  obtain rfl : d1 = d := Option.some.inj hj
  have hfl : d1.fresh.length ≤ 400 := by
    have := disk_okF hv (getB_name hg).2
    simp only [okF, Bool.and_eq_true, decide_eq_true_eq] at this
    omega
  have hX := cloneDisk_at [d0, d1, d2] hs 1 d1 rfl
  have hR : rfRow (nmB [] 25000) (lnkR [d0, d1, d2] 1 d1 1 2) = ⟨55, 3, [[iA d0.name, intsA d0.safe, intsA d0.fresh], [iA d1.name, .o 25001 d1.safe.length, .o 25002 d1.fresh.length], [iA d2.name, intsA d2.safe, intsA d2.fresh]], false⟩ := by rw [lnk_rf _ (by simp)]; rfl
  have hS := sorted_pcl ([d0, ⟨d1.name, d1.safe, d1.fresh ++ xs⟩, d2] : List BD) (by simp) fun d hd => by
    rcases mem_set_or (show d ∈ ([d0, d1, d2] : List BD).set 1 ⟨d1.name, d1.safe, d1.fresh ++ xs⟩ from hd) with hd | rfl
    · exact hnms d hd
    · exact hnms d1 (by simp)
  cases hd : diskB Y with
  | false =>
    have hr : writeD [d0, d1, d2] nm xs = ([], false) := by rw [hwr, hd]; rfl
    rw [hr]
    refine emp (q := ?_)
    refine pc_enter Try.func24 rfl rfl fun w0 fb => go_on ?_; (try simp only [Try.ntmps24, push_cast, simprocAttr])
    refine at_call ?_
    (try simp only [push_cast, simprocAttr])
    refine rwc_v hV ?_
    (try simp only [push_cast, simprocAttr])
    (refine at_dropS [6] (by refine wk_ok ?_ ?_ ?_ ?_ <;> simp [dropS, dropT, hasN, delL, hdel, leL, leH, idsL, idsA, idsR, inH, hget, sameRow]) ?_; simp only [dropS, dropT, hasN, delL, hdel, idsA, idsL, hget, List.map_cons, List.map_nil, List.all_cons, List.all_nil, List.append_nil, Bool.not_false, Bool.not_true, Bool.and_true, if_true, if_false, simprocAttr])
    refine go_on ?_
    (try simp only [hv, Bool.not_true, push_cast, simprocAttr])
    (refine at_call ?_; (try simp only [push_cast, simprocAttr]); refine rwc_v (hB) (go_on ?_); (try simp only [push_cast, simprocAttr]))
    (try simp only [hxb, Bool.not_true, push_cast, simprocAttr])
    (refine at_call ?_; (try simp only [push_cast, simprocAttr]); refine rwc_v (hI) (go_on ?_); (try simp only [push_cast, simprocAttr]))
    (try simp only [hi', Bool.not_true, push_cast, simprocAttr])
    refine call_lendX [] (lr := []) rfl rfl (by simp [idsL, idsA]) (by simpa [rfA] using hX) ?_
    rintro rv lr' rows ⟨rfl, rfl, rfl⟩
    refine ⟨rfl, by simp [frB, baseOf], go_on ?_⟩
    simp only [backX, hR, rowZ_rf, rfA, nmB, hsL, baseOf, hpOf, List.map_cons, List.map_nil, List.nil_append, List.length_nil, push_cast, simprocAttr]
    (refine at_call ?_; simp only [bC, viewN, hget, tk, isC, List.map_cons, List.map_nil, List.length_map, List.length_cons, List.length_nil, Nat.reduceAdd, Nat.reduceEqDiff, if_true, if_false, reduceIte, simprocAttr]; refine rwc_v (hF) (go_on ?_); (try simp only [push_cast, simprocAttr]))
    (try simp only [show ltI 1 0 = false from rfl, show toIx 1 3 = some 1 from rfl, bC, push_cast, simprocAttr])
    refine at_chk (by omega) ?_
    (try simp only [bC, push_cast, simprocAttr])
    (refine at_callW [25001, 25002] (by refine wk_frz ?_ ?_ ?_ ?_ <;> simp [← List.map_append, List.length_append, eq_self, frwS, frwH, frwRow, frzT, hasN, delL, hdel, leF, leHF, rowF, frzB, idsL, idsA, idsR, inH, hget, sameRow, viewN, tk]) ?_; simp only [← List.map_append, List.length_append, eq_self, frwS, frwH, frwRow, frzT, hasN, delL, hdel, idsA, idsL, viewN, hget, tk, isC, List.map_cons, List.map_nil, List.all_cons, List.all_nil, List.append_nil, List.drop, List.getElem?_cons_zero, List.getElem?_cons_succ, Bool.not_false, Bool.not_true, Bool.and_true, if_true, if_false, Nat.zero_add, List.length_map, simprocAttr])
    (try simp only [push_cast, simprocAttr]); refine call_lend [25000] none (lr := [rowB [d0, ⟨d1.name, d1.safe, d1.fresh ++ xs⟩, d2]]) (by simp [ndB]) (by first | rfl | simp [rowsOf, hget, rdR, rowS, sC, ndC, cmC]) (by simp [idsL, idsA]) (by simp [mvN]) (by simpa [rnA, ixOf] using hS) ?_
    rintro rv lr' rows ⟨L', g1, g2, rfl, rfl, rfl⟩
    have hlen := g1.length_eq
    simp only [List.length_cons, List.length_nil, Nat.reduceAdd] at hlen
    have hLY : L' = Y := by rw [hY]; exact wr_old hv hj hg g1 g2
    (refine ⟨by simp [shB, mvF, hlen], by simp [frB, baseOf], go_on ?_⟩; simp only [killA, killH, killRow, push_cast, simprocAttr])
    rw [hLY]
    have hYl : Y.length = 3 := by rw [← hLY]; exact hlen
    (try simp only [push_cast, simprocAttr])
    (refine at_call ?_; simp only [hYl, viewN, hget, tk, isC, List.map_cons, List.map_nil, List.length_map, List.length_cons, List.length_nil, Nat.reduceAdd, Nat.reduceEqDiff, if_true, if_false, reduceIte, simprocAttr]; refine rwc_v (hV2) (go_on ?_); (try simp only [push_cast, simprocAttr]))
    (try simp only [hd, Bool.not_false, push_cast, simprocAttr])
    refine at_ret ?_; simp only [Try.results24, push_cast, simprocAttr]
    simp [rX, ixOf]
  | true =>
    have hr : writeD [d0, d1, d2] nm xs = (Y, true) := by rw [hwr, hd]; rfl
    rw [hr]
    refine pc_enter Try.func24 rfl rfl fun w0 fb => go_on ?_; (try simp only [Try.ntmps24, push_cast, simprocAttr])
    refine at_call ?_
    (try simp only [push_cast, simprocAttr])
    refine rwc_v hV ?_
    (try simp only [push_cast, simprocAttr])
    (refine at_dropS [6] (by refine wk_ok ?_ ?_ ?_ ?_ <;> simp [dropS, dropT, hasN, delL, hdel, leL, leH, idsL, idsA, idsR, inH, hget, sameRow]) ?_; simp only [dropS, dropT, hasN, delL, hdel, idsA, idsL, hget, List.map_cons, List.map_nil, List.all_cons, List.all_nil, List.append_nil, Bool.not_false, Bool.not_true, Bool.and_true, if_true, if_false, simprocAttr])
    refine go_on ?_
    (try simp only [hv, Bool.not_true, push_cast, simprocAttr])
    (refine at_call ?_; (try simp only [push_cast, simprocAttr]); refine rwc_v (hB) (go_on ?_); (try simp only [push_cast, simprocAttr]))
    (try simp only [hxb, Bool.not_true, push_cast, simprocAttr])
    (refine at_call ?_; (try simp only [push_cast, simprocAttr]); refine rwc_v (hI) (go_on ?_); (try simp only [push_cast, simprocAttr]))
    (try simp only [hi', Bool.not_true, push_cast, simprocAttr])
    refine call_lendX [] (lr := []) rfl rfl (by simp [idsL, idsA]) (by simpa [rfA] using hX) ?_
    rintro rv lr' rows ⟨rfl, rfl, rfl⟩
    refine ⟨rfl, by simp [frB, baseOf], go_on ?_⟩
    simp only [backX, hR, rowZ_rf, rfA, nmB, hsL, baseOf, hpOf, List.map_cons, List.map_nil, List.nil_append, List.length_nil, push_cast, simprocAttr]
    (refine at_call ?_; simp only [bC, viewN, hget, tk, isC, List.map_cons, List.map_nil, List.length_map, List.length_cons, List.length_nil, Nat.reduceAdd, Nat.reduceEqDiff, if_true, if_false, reduceIte, simprocAttr]; refine rwc_v (hF) (go_on ?_); (try simp only [push_cast, simprocAttr]))
    (try simp only [show ltI 1 0 = false from rfl, show toIx 1 3 = some 1 from rfl, bC, push_cast, simprocAttr])
    refine at_chk (by omega) ?_
    (try simp only [bC, push_cast, simprocAttr])
    (refine at_callW [25001, 25002] (by refine wk_frz ?_ ?_ ?_ ?_ <;> simp [← List.map_append, List.length_append, eq_self, frwS, frwH, frwRow, frzT, hasN, delL, hdel, leF, leHF, rowF, frzB, idsL, idsA, idsR, inH, hget, sameRow, viewN, tk]) ?_; simp only [← List.map_append, List.length_append, eq_self, frwS, frwH, frwRow, frzT, hasN, delL, hdel, idsA, idsL, viewN, hget, tk, isC, List.map_cons, List.map_nil, List.all_cons, List.all_nil, List.append_nil, List.drop, List.getElem?_cons_zero, List.getElem?_cons_succ, Bool.not_false, Bool.not_true, Bool.and_true, if_true, if_false, Nat.zero_add, List.length_map, simprocAttr])
    (try simp only [push_cast, simprocAttr]); refine call_lend [25000] none (lr := [rowB [d0, ⟨d1.name, d1.safe, d1.fresh ++ xs⟩, d2]]) (by simp [ndB]) (by first | rfl | simp [rowsOf, hget, rdR, rowS, sC, ndC, cmC]) (by simp [idsL, idsA]) (by simp [mvN]) (by simpa [rnA, ixOf] using hS) ?_
    rintro rv lr' rows ⟨L', g1, g2, rfl, rfl, rfl⟩
    have hlen := g1.length_eq
    simp only [List.length_cons, List.length_nil, Nat.reduceAdd] at hlen
    have hLY : L' = Y := by rw [hY]; exact wr_old hv hj hg g1 g2
    (refine ⟨by simp [shB, mvF, hlen], by simp [frB, baseOf], go_on ?_⟩; simp only [killA, killH, killRow, push_cast, simprocAttr])
    rw [hLY]
    have hYl : Y.length = 3 := by rw [← hLY]; exact hlen
    (try simp only [push_cast, simprocAttr])
    (refine at_call ?_; simp only [hYl, viewN, hget, tk, isC, List.map_cons, List.map_nil, List.length_map, List.length_cons, List.length_nil, Nat.reduceAdd, Nat.reduceEqDiff, if_true, if_false, reduceIte, simprocAttr]; refine rwc_v (hV2) (go_on ?_); (try simp only [push_cast, simprocAttr]))
    (try simp only [hd, Bool.not_true, push_cast, simprocAttr])
    (refine at_callW [25000] (by refine wk_frz ?_ ?_ ?_ ?_ <;> simp [hYl, frwS, frwH, frwRow, frzT, hasN, delL, hdel, leF, leHF, rowF, frzB, idsL, idsA, idsR, inH, hget, sameRow, viewN, tk]) ?_; simp only [hYl, frwS, frwH, frwRow, frzT, hasN, delL, hdel, idsA, idsL, viewN, hget, tk, isC, List.map_cons, List.map_nil, List.all_cons, List.all_nil, List.append_nil, List.drop, List.getElem?_cons_zero, List.getElem?_cons_succ, Bool.not_false, Bool.not_true, Bool.and_true, if_true, if_false, Nat.zero_add, List.length_map, simprocAttr])
    ((try simp only [push_cast, simprocAttr]); refine at_share2 (by simp [isC2, isC]) (by first | rfl | simp [ren]) (hC2) (go_on ?_); (try simp only [push_cast, simprocAttr]))
    refine at_ret ?_; simp only [Try.results24, push_cast, simprocAttr]
    simp [vX]
theorem DiskWrite_old32 (bs : List BD) (nm : Int) (xs : List Int) (hx : xs.length ≤ 2000000) (hv : diskB bs = true) (hxb : bytesB xs = true) (hi : inB nm 1 3 = true) (d : BD) (hj : bs[2]? = some d) (hg : getB bs nm = some d) (hix : ixB bs nm = 2) (hb : ∃ d0 d1 d2, bs = [d0, d1, d2]) : PC Try.prog 24 [blsA bs, iA nm, intsA xs] (vX (.tup [blsA (writeD bs nm xs).1, bA (writeD bs nm xs).2])) := by
  have hs := disk_sm hv
  have hn3 := disk_len hv
  have hV := DiskValid_pc bs hs
  have hB := bytesValid_pc xs (by omega)
  have hI := in_pc nm 1 3
  have hF := file_pc bs hs.n nm
  have hC := cloneDisk_pc bs hs
  have hi' : inR nm 1 3 = true := hi
  have hnm : 0 ≤ nm ∧ nm ≤ 3 := by simp only [inR, Bool.and_eq_true, decide_eq_true_eq] at hi'; omega
  have hwl := withB_len bs (wrB bs nm xs)
  have hnms := disk_names hv
  have hWs : SmD (wrB bs nm xs) := by
    unfold wrB
    cases hg : getB bs nm with
    | none => exact ⟨by simp, by simp only; omega⟩
    | some d =>
      have hm := (getB_name hg).2
      have hok := disk_okF hv hm
      simp only [okF, Bool.and_eq_true, decide_eq_true_eq] at hok
      exact ⟨(hs.d d hm).s, by simp only [List.length_append]; omega⟩
  have hws : SmB (withB bs (wrB bs nm xs)) := withB_sm hs (by omega) hWs
  obtain ⟨Y, hY⟩ : ∃ Y, Y = withB bs (wrB bs nm xs) := ⟨_, rfl⟩
  rw [← hY] at hws hwl
  have hwr : writeD bs nm xs = if diskB Y = true then (Y, true) else ([], false) := by unfold writeD; rw [hv, hxb, hi, ← hY]; rfl
  have hV2 := DiskValid_pc Y hws
  have hC2 := cloneDisk_d Y hws
  have emp : ∀ {q : PC Try.prog 24 [blsA bs, iA nm, intsA xs] (rX (.tup [.o 0 0, bA false]) [rowB []])}, PC Try.prog 24 [blsA bs, iA nm, intsA xs] (vX (.tup [blsA [], bA false])) := fun {q} => by
    have := q.frzX
    simp [viewN, hpOf, hget, isC, tk] at this
    exact this
  rw [hix] at hF
  obtain ⟨d0, d1, d2, rfl⟩ := hb
  obtain rfl : d2 = d := Option.some.inj hj
  have hfl : d2.fresh.length ≤ 400 := by
    have := disk_okF hv (getB_name hg).2
    simp only [okF, Bool.and_eq_true, decide_eq_true_eq] at this
    omega
  have hX := cloneDisk_at [d0, d1, d2] hs 2 d2 rfl
  have hR : rfRow (nmB [] 25000) (lnkR [d0, d1, d2] 2 d2 1 2) = ⟨55, 3, [[iA d0.name, intsA d0.safe, intsA d0.fresh], [iA d1.name, intsA d1.safe, intsA d1.fresh], [iA d2.name, .o 25001 d2.safe.length, .o 25002 d2.fresh.length]], false⟩ := by rw [lnk_rf _ (by simp)]; rfl
  have hS := sorted_pcl ([d0, d1, ⟨d2.name, d2.safe, d2.fresh ++ xs⟩] : List BD) (by simp) fun d hd => by
    rcases mem_set_or (show d ∈ ([d0, d1, d2] : List BD).set 2 ⟨d2.name, d2.safe, d2.fresh ++ xs⟩ from hd) with hd | rfl
    · exact hnms d hd
    · exact hnms d2 (by simp)
  cases hd : diskB Y with
  | false =>
    have hr : writeD [d0, d1, d2] nm xs = ([], false) := by rw [hwr, hd]; rfl
    rw [hr]
    refine emp (q := ?_)
    refine pc_enter Try.func24 rfl rfl fun w0 fb => go_on ?_; (try simp only [Try.ntmps24, push_cast, simprocAttr])
    refine at_call ?_
    (try simp only [push_cast, simprocAttr])
    refine rwc_v hV ?_
    (try simp only [push_cast, simprocAttr])
    (refine at_dropS [6] (by refine wk_ok ?_ ?_ ?_ ?_ <;> simp [dropS, dropT, hasN, delL, hdel, leL, leH, idsL, idsA, idsR, inH, hget, sameRow]) ?_; simp only [dropS, dropT, hasN, delL, hdel, idsA, idsL, hget, List.map_cons, List.map_nil, List.all_cons, List.all_nil, List.append_nil, Bool.not_false, Bool.not_true, Bool.and_true, if_true, if_false, simprocAttr])
    refine go_on ?_
    (try simp only [hv, Bool.not_true, push_cast, simprocAttr])
    (refine at_call ?_; (try simp only [push_cast, simprocAttr]); refine rwc_v (hB) (go_on ?_); (try simp only [push_cast, simprocAttr]))
    (try simp only [hxb, Bool.not_true, push_cast, simprocAttr])
    (refine at_call ?_; (try simp only [push_cast, simprocAttr]); refine rwc_v (hI) (go_on ?_); (try simp only [push_cast, simprocAttr]))
    (try simp only [hi', Bool.not_true, push_cast, simprocAttr])
    refine call_lendX [] (lr := []) rfl rfl (by simp [idsL, idsA]) (by simpa [rfA] using hX) ?_
    rintro rv lr' rows ⟨rfl, rfl, rfl⟩
    refine ⟨rfl, by simp [frB, baseOf], go_on ?_⟩
    simp only [backX, hR, rowZ_rf, rfA, nmB, hsL, baseOf, hpOf, List.map_cons, List.map_nil, List.nil_append, List.length_nil, push_cast, simprocAttr]
    (refine at_call ?_; simp only [bC, viewN, hget, tk, isC, List.map_cons, List.map_nil, List.length_map, List.length_cons, List.length_nil, Nat.reduceAdd, Nat.reduceEqDiff, if_true, if_false, reduceIte, simprocAttr]; refine rwc_v (hF) (go_on ?_); (try simp only [push_cast, simprocAttr]))
    (try simp only [show ltI 2 0 = false from rfl, show toIx 2 3 = some 2 from rfl, bC, push_cast, simprocAttr])
    refine at_chk (by omega) ?_
    (try simp only [bC, push_cast, simprocAttr])
    (refine at_callW [25001, 25002] (by refine wk_frz ?_ ?_ ?_ ?_ <;> simp [← List.map_append, List.length_append, eq_self, frwS, frwH, frwRow, frzT, hasN, delL, hdel, leF, leHF, rowF, frzB, idsL, idsA, idsR, inH, hget, sameRow, viewN, tk]) ?_; simp only [← List.map_append, List.length_append, eq_self, frwS, frwH, frwRow, frzT, hasN, delL, hdel, idsA, idsL, viewN, hget, tk, isC, List.map_cons, List.map_nil, List.all_cons, List.all_nil, List.append_nil, List.drop, List.getElem?_cons_zero, List.getElem?_cons_succ, Bool.not_false, Bool.not_true, Bool.and_true, if_true, if_false, Nat.zero_add, List.length_map, simprocAttr])
    (try simp only [push_cast, simprocAttr]); refine call_lend [25000] none (lr := [rowB [d0, d1, ⟨d2.name, d2.safe, d2.fresh ++ xs⟩]]) (by simp [ndB]) (by first | rfl | simp [rowsOf, hget, rdR, rowS, sC, ndC, cmC]) (by simp [idsL, idsA]) (by simp [mvN]) (by simpa [rnA, ixOf] using hS) ?_
    rintro rv lr' rows ⟨L', g1, g2, rfl, rfl, rfl⟩
    have hlen := g1.length_eq
    simp only [List.length_cons, List.length_nil, Nat.reduceAdd] at hlen
    have hLY : L' = Y := by rw [hY]; exact wr_old hv hj hg g1 g2
    (refine ⟨by simp [shB, mvF, hlen], by simp [frB, baseOf], go_on ?_⟩; simp only [killA, killH, killRow, push_cast, simprocAttr])
    rw [hLY]
    have hYl : Y.length = 3 := by rw [← hLY]; exact hlen
    (try simp only [push_cast, simprocAttr])
    (refine at_call ?_; simp only [hYl, viewN, hget, tk, isC, List.map_cons, List.map_nil, List.length_map, List.length_cons, List.length_nil, Nat.reduceAdd, Nat.reduceEqDiff, if_true, if_false, reduceIte, simprocAttr]; refine rwc_v (hV2) (go_on ?_); (try simp only [push_cast, simprocAttr]))
    (try simp only [hd, Bool.not_false, push_cast, simprocAttr])
    refine at_ret ?_; simp only [Try.results24, push_cast, simprocAttr]
    simp [rX, ixOf]
  | true =>
    have hr : writeD [d0, d1, d2] nm xs = (Y, true) := by rw [hwr, hd]; rfl
    rw [hr]
    refine pc_enter Try.func24 rfl rfl fun w0 fb => go_on ?_; (try simp only [Try.ntmps24, push_cast, simprocAttr])
    refine at_call ?_
    (try simp only [push_cast, simprocAttr])
    refine rwc_v hV ?_
    (try simp only [push_cast, simprocAttr])
    (refine at_dropS [6] (by refine wk_ok ?_ ?_ ?_ ?_ <;> simp [dropS, dropT, hasN, delL, hdel, leL, leH, idsL, idsA, idsR, inH, hget, sameRow]) ?_; simp only [dropS, dropT, hasN, delL, hdel, idsA, idsL, hget, List.map_cons, List.map_nil, List.all_cons, List.all_nil, List.append_nil, Bool.not_false, Bool.not_true, Bool.and_true, if_true, if_false, simprocAttr])
    refine go_on ?_
    (try simp only [hv, Bool.not_true, push_cast, simprocAttr])
    (refine at_call ?_; (try simp only [push_cast, simprocAttr]); refine rwc_v (hB) (go_on ?_); (try simp only [push_cast, simprocAttr]))
    (try simp only [hxb, Bool.not_true, push_cast, simprocAttr])
    (refine at_call ?_; (try simp only [push_cast, simprocAttr]); refine rwc_v (hI) (go_on ?_); (try simp only [push_cast, simprocAttr]))
    (try simp only [hi', Bool.not_true, push_cast, simprocAttr])
    refine call_lendX [] (lr := []) rfl rfl (by simp [idsL, idsA]) (by simpa [rfA] using hX) ?_
    rintro rv lr' rows ⟨rfl, rfl, rfl⟩
    refine ⟨rfl, by simp [frB, baseOf], go_on ?_⟩
    simp only [backX, hR, rowZ_rf, rfA, nmB, hsL, baseOf, hpOf, List.map_cons, List.map_nil, List.nil_append, List.length_nil, push_cast, simprocAttr]
    (refine at_call ?_; simp only [bC, viewN, hget, tk, isC, List.map_cons, List.map_nil, List.length_map, List.length_cons, List.length_nil, Nat.reduceAdd, Nat.reduceEqDiff, if_true, if_false, reduceIte, simprocAttr]; refine rwc_v (hF) (go_on ?_); (try simp only [push_cast, simprocAttr]))
    (try simp only [show ltI 2 0 = false from rfl, show toIx 2 3 = some 2 from rfl, bC, push_cast, simprocAttr])
    refine at_chk (by omega) ?_
    (try simp only [bC, push_cast, simprocAttr])
    (refine at_callW [25001, 25002] (by refine wk_frz ?_ ?_ ?_ ?_ <;> simp [← List.map_append, List.length_append, eq_self, frwS, frwH, frwRow, frzT, hasN, delL, hdel, leF, leHF, rowF, frzB, idsL, idsA, idsR, inH, hget, sameRow, viewN, tk]) ?_; simp only [← List.map_append, List.length_append, eq_self, frwS, frwH, frwRow, frzT, hasN, delL, hdel, idsA, idsL, viewN, hget, tk, isC, List.map_cons, List.map_nil, List.all_cons, List.all_nil, List.append_nil, List.drop, List.getElem?_cons_zero, List.getElem?_cons_succ, Bool.not_false, Bool.not_true, Bool.and_true, if_true, if_false, Nat.zero_add, List.length_map, simprocAttr])
    (try simp only [push_cast, simprocAttr]); refine call_lend [25000] none (lr := [rowB [d0, d1, ⟨d2.name, d2.safe, d2.fresh ++ xs⟩]]) (by simp [ndB]) (by first | rfl | simp [rowsOf, hget, rdR, rowS, sC, ndC, cmC]) (by simp [idsL, idsA]) (by simp [mvN]) (by simpa [rnA, ixOf] using hS) ?_
    rintro rv lr' rows ⟨L', g1, g2, rfl, rfl, rfl⟩
    have hlen := g1.length_eq
    simp only [List.length_cons, List.length_nil, Nat.reduceAdd] at hlen
    have hLY : L' = Y := by rw [hY]; exact wr_old hv hj hg g1 g2
    (refine ⟨by simp [shB, mvF, hlen], by simp [frB, baseOf], go_on ?_⟩; simp only [killA, killH, killRow, push_cast, simprocAttr])
    rw [hLY]
    have hYl : Y.length = 3 := by rw [← hLY]; exact hlen
    (try simp only [push_cast, simprocAttr])
    (refine at_call ?_; simp only [hYl, viewN, hget, tk, isC, List.map_cons, List.map_nil, List.length_map, List.length_cons, List.length_nil, Nat.reduceAdd, Nat.reduceEqDiff, if_true, if_false, reduceIte, simprocAttr]; refine rwc_v (hV2) (go_on ?_); (try simp only [push_cast, simprocAttr]))
    (try simp only [hd, Bool.not_true, push_cast, simprocAttr])
    (refine at_callW [25000] (by refine wk_frz ?_ ?_ ?_ ?_ <;> simp [hYl, frwS, frwH, frwRow, frzT, hasN, delL, hdel, leF, leHF, rowF, frzB, idsL, idsA, idsR, inH, hget, sameRow, viewN, tk]) ?_; simp only [hYl, frwS, frwH, frwRow, frzT, hasN, delL, hdel, idsA, idsL, viewN, hget, tk, isC, List.map_cons, List.map_nil, List.all_cons, List.all_nil, List.append_nil, List.drop, List.getElem?_cons_zero, List.getElem?_cons_succ, Bool.not_false, Bool.not_true, Bool.and_true, if_true, if_false, Nat.zero_add, List.length_map, simprocAttr])
    ((try simp only [push_cast, simprocAttr]); refine at_share2 (by simp [isC2, isC]) (by first | rfl | simp [ren]) (hC2) (go_on ?_); (try simp only [push_cast, simprocAttr]))
    refine at_ret ?_; simp only [Try.results24, push_cast, simprocAttr]
    simp [vX]
end Go.Proofs.Ytepcabenjikhgaa
/-
  Walks: disks: impl.DiskWrite, as a whole.
-/
namespace Go.Proofs.Ytepcabenjikhgaa
open Go Go.RowKit Go.Proofs
theorem DiskWrite_d (bs : List BD) (hs : SmB bs) (nm : Int) (xs : List Int) (hx : xs.length ≤ 2000000) : PC Try.prog 24 [blsA bs, iA nm, intsA xs] (vX (.tup [blsA (writeD bs nm xs).1, bA (writeD bs nm xs).2])) := by
  cases h : (diskB bs && bytesB xs && inB nm 1 3) with
  | false =>
    have hr : writeD bs nm xs = ([], false) := by unfold writeD; rw [h]; rfl
    rw [hr]
    have := (DiskWrite_bad bs hs nm xs hx h).frzX
    simp [viewN, hpOf, hget, isC, tk] at this
    exact this
  | true =>
    simp only [Bool.and_eq_true] at h
    obtain ⟨⟨hv, hxb⟩, hi⟩ := h
    have hl := disk_len hv
    rcases ixB_cases bs nm with ⟨h1, h2⟩ | ⟨j, d, h1, h2, h3⟩
    · match bs, hl with
      | [], _ => exact DiskWrite_new0 _ nm xs hx hv hxb hi h2 rfl
      | [d0], _ => exact DiskWrite_new1 _ nm xs hx hv hxb hi h2 ⟨_, rfl⟩
      | [d0, d1], _ => exact DiskWrite_new2 _ nm xs hx hv hxb hi h2 ⟨_, _, rfl⟩
      | [d0, d1, d2], _ => exact DiskWrite_new3 _ nm xs hx hv hxb hi h2 ⟨_, _, _, rfl⟩
      | _ :: _ :: _ :: _ :: _, hl => simp at hl
    · match bs, hl, j with
      | [], _, _ => simp at h2
      | [d0], _, 0 => exact DiskWrite_old10 _ nm xs hx hv hxb hi d h2 h3 h1 ⟨_, rfl⟩
      | [d0], _, j + 1 => simp at h2
      | [d0, d1], _, 0 => exact DiskWrite_old20 _ nm xs hx hv hxb hi d h2 h3 h1 ⟨_, _, rfl⟩
      | [d0, d1], _, 1 => exact DiskWrite_old21 _ nm xs hx hv hxb hi d h2 h3 h1 ⟨_, _, rfl⟩
      | [d0, d1], _, j + 2 => simp at h2
      | [d0, d1, d2], _, 0 => exact DiskWrite_old30 _ nm xs hx hv hxb hi d h2 h3 h1 ⟨_, _, _, rfl⟩
      | [d0, d1, d2], _, 1 => exact DiskWrite_old31 _ nm xs hx hv hxb hi d h2 h3 h1 ⟨_, _, _, rfl⟩
      | [d0, d1, d2], _, 2 => exact DiskWrite_old32 _ nm xs hx hv hxb hi d h2 h3 h1 ⟨_, _, _, rfl⟩
      | [d0, d1, d2], _, j + 3 => simp at h2
      | _ :: _ :: _ :: _ :: _, hl, _ => simp at hl
end Go.Proofs.Ytepcabenjikhgaa
/-
  Opening a side that a law is handed: what it reads as, in the machine's words.
-/
namespace Go.Proofs.Ytepcabenjikhgaa
open Go Go.RowKit Go.Proofs
set_option maxRecDepth 100000
section
variable {H : Type} {enc : TypeId × Value → H} {W : World} {base : Nat} {sp : Nat → Bool} {held : Bool} {fuel : Nat} {cs : List Value} {x : DataW H × List MemPlace}
theorem choose_list {α : Type} {n : Nat} {p : Nat → α → Prop} (h : ∀ i, i < n → ∃ a, p i a) : ∃ l : List α, l.length = n ∧ ∀ (i : Nat) a, l[i]? = some a → p i a := by
  induction n with
  | zero => exact ⟨[], rfl, fun i a h => by simp at h⟩
  | succ n ih =>
    obtain ⟨l, h1, h2⟩ := ih fun i hi => h i (by omega)
    obtain ⟨a, ha⟩ := h n (by omega)
    refine ⟨l ++ [a], by simp [h1], fun i b hb => ?_⟩
    by_cases hi : i < l.length
    · rw [List.getElem?_append_left hi] at hb
      exact h2 i b hb
    · rw [List.getElem?_append_right (by omega)] at hb
      by_cases h0 : i - l.length = 0
      · rw [h0] at hb
        cases hb
        obtain rfl : i = n := by omega
        exact ha
      · have := (List.getElem?_eq_some_iff.1 hb).1
        simp at this
        omega
theorem cells_get {a : Addr} {n : Nat} {l : List Value} (h : W.cells? base a n = some l) : l.length = n ∧ ∀ j, j < n → W.cell? (a.add j) = l[j]? := by
  unfold World.cells? at h
  split at h
  · refine ⟨by have := mapM_some_length h; simpa using this, fun j hj => mapM_some_get h j j (by simp [hj])⟩
  · cases h
/-- A slice of structs of plain data. -/
theorem open_sl {α : Type} {K : α → List AV} {V : α → List Value} {Q : α → Prop} {t e sz : Nat} {lv : Nat → Prop} (ht : Try.prog.underlying t = some (.slice e)) (hz : Try.prog.cellsOf e = sz) (h0 : 0 < sz)
    (hel : ∀ (fuel : Nat) (cs : List Value) (x : DataW H × List MemPlace), DataW.trod enc Try.prog W 0 sp held fuel e cs = some x → ∃ a, cs = V a ∧ Q a)
    (hV : ∀ a, (V a).length = sz ∧ (V a).all Value.oneCell' = true ∧ K a = (V a).map AV.v) (hlv : ∀ b, b < W.heap.size → ¬ lv b)
    (h : DataW.trod enc Try.prog W 0 sp held fuel t cs = some x) :
    ∃ (l : List α) (v : Value), cs = [v] ∧ C lv 0 W (.sl sz (l.map K)) v ∧ l.length ≤ maxLen ∧ ∀ a ∈ l, Q a := by
  rcases DataW.trod_slice ht h with ⟨rfl, _⟩ | ⟨a, len, cap, elems, rest, n, rfl, rfl, _, _, hl, hm, hlen, hg, _, _⟩
  · refine ⟨[], _, rfl, C.sl [] (fun _ _ => undef) ⟨by simp, fun h => absurd h (by simp)⟩ (fun h => absurd h (by simp)) (by simp) (by omega) ?_ ?_ ?_, by simp, by simp⟩ <;> intro k e <;> simp
  · have hex : ∀ i, i < len → ∃ b, (∀ j, j < sz → W.cell? (a.add (i * sz + j)) = (V b)[j]?) ∧ Q b := by
      intro i hi
      have h1 := hg i hi
      rw [hz] at h1
      obtain ⟨y, hy⟩ : ∃ y, elems[i]? = some y := ⟨_, List.getElem?_eq_getElem (by omega)⟩
      rw [hy, Option.bind_eq_some_iff] at h1
      obtain ⟨cs', hcs, hy'⟩ := h1
      obtain ⟨b, rfl, hb⟩ := hel _ _ _ hy'
      refine ⟨b, fun j hj => ?_, hb⟩
      have h2 := (cells_get hcs).2 j hj
      rw [← h2]
      congr 1
      unfold Addr.add
      by_cases g1 : j = 0
      · subst g1; simp
      · by_cases g2 : i * sz = 0
        · simp [g2]
        · rw [if_neg (by omega), if_neg g1, if_neg g2]
          simp only [Nat.add_assoc]
    obtain ⟨l, hll, hlg⟩ := choose_list hex
    subst hll
    have hcell : ∀ (i : Nat) b j, l[i]? = some b → j < sz → W.cell? (a.add (i * sz + j)) = (V b)[j]? := fun i b j hb hj => (hlg i b hb).1 j hj
    have hQ : ∀ b ∈ l, Q b := fun b hb => by
      obtain ⟨i, hi⟩ := List.getElem?_of_mem hb
      exact (hlg i b hi).2
    have xget : ∀ (l : List α) (i : Nat) b j, l[i]? = some b → j < sz → (l.flatMap V)[i * sz + j]? = (V b)[j]? := by
      intro l
      induction l with
      | nil => intro i b j hb; simp at hb
      | cons c l ih =>
        intro i b j hb hj
        cases i with
        | zero =>
          cases hb
          rw [List.flatMap_cons, Nat.zero_mul, Nat.zero_add, List.getElem?_append_left (by rw [(hV c).1]; exact hj)]
        | succ i =>
          rw [List.flatMap_cons, List.getElem?_append_right (by rw [(hV c).1, Nat.succ_mul]; omega), (hV c).1, show (i + 1) * sz + j - sz = i * sz + j by rw [Nat.succ_mul]; omega]
          exact ih i b j hb hj
    have xlen : ∀ l : List α, (l.flatMap V).length = l.length * sz := by
      intro l
      induction l with
      | nil => simp
      | cons c l ih => rw [List.flatMap_cons, List.length_append, (hV c).1, ih, List.length_cons, Nat.succ_mul]; omega
    have hVj : ∀ b j, j < sz → ∃ u, (V b)[j]? = some u ∧ u.oneCell' = true ∧ (K b)[j]? = some (.v u) := by
      intro b j hj
      obtain ⟨u, hu⟩ : ∃ u, (V b)[j]? = some u := ⟨_, List.getElem?_eq_getElem (by rw [(hV b).1]; exact hj)⟩
      refine ⟨u, hu, ?_, ?_⟩
      · exact List.all_eq_true.1 (hV b).2.1 u (List.mem_of_getElem? hu)
      · rw [(hV b).2.2, List.getElem?_map, hu]; rfl
    have hKl : ∀ b, (K b).length = sz := fun b => by rw [(hV b).2.2, List.length_map, (hV b).1]
    refine ⟨l, _, rfl, ?_, by omega, hQ⟩
    rw [← List.length_map (f := K)]
    refine C.sl (l.flatMap V) (fun i j => ((l.flatMap V)[i * sz + j]?).getD undef) ⟨by rw [xlen, List.length_map], fun hp => ?_⟩ (fun hp ad had => ?_) (by rw [List.length_map]; exact hl) hm (fun k e he => ?_) (fun k e j he hj => ?_) (fun k e j c he hj => ?_)
    · rw [List.length_map] at hp
      obtain ⟨b0, hb0⟩ : ∃ b, l[0]? = some b := ⟨_, List.getElem?_eq_getElem hp⟩
      obtain ⟨u0, hu0, _⟩ := hVj b0 0 h0
      have hc0 := hcell 0 b0 0 hb0 h0
      rw [hu0, Nat.zero_mul, Nat.zero_add] at hc0
      have hs : a.spot = none := by simpa [Addr.add] using World.cell?_spot hc0
      obtain ⟨b, off, spt⟩ := a
      simp only at hs
      subst hs
      refine ⟨b, off, rfl, Nat.zero_le _, ?_, fun j u hj => ?_⟩
      · have hc1 := hc0
        rw [show (⟨b, off, none⟩ : Addr).add 0 = ⟨b, off, none⟩ from rfl] at hc1
        obtain ⟨e', m, hsh, _, _⟩ := World.shape?_of_cell? hc1
        by_cases hb : b < W.heap.size
        · exact hb
        · rw [World.shape?, Array.getElem?_eq_none (by simpa using hb)] at hsh
          cases hsh
      · have hj1 : j < l.length * sz := by have := (List.getElem?_eq_some_iff.1 hj).1; rw [xlen] at this; exact this
        have hq : j / sz < l.length := Nat.div_lt_of_lt_mul (by rw [Nat.mul_comm]; exact hj1)
        obtain ⟨b1, hb1⟩ : ∃ b, l[j / sz]? = some b := ⟨_, List.getElem?_eq_getElem hq⟩
        have hm1 : j % sz < sz := Nat.mod_lt _ h0
        have ej : j / sz * sz + j % sz = j := by rw [Nat.mul_comm]; exact Nat.div_add_mod j sz
        have h3 := hcell _ b1 _ hb1 hm1
        have h4 := xget l _ b1 _ hb1 hm1
        rw [ej] at h3 h4
        rw [← h4, hj] at h3
        rw [← Go.WideShapes.add_plain]
        exact h3
    · rw [List.length_map] at hp
      cases had
      obtain ⟨b0, hb0⟩ : ∃ b, l[0]? = some b := ⟨_, List.getElem?_eq_getElem hp⟩
      obtain ⟨u0, hu0, _⟩ := hVj b0 0 h0
      have hc0 := hcell 0 b0 0 hb0 h0
      rw [hu0, Nat.zero_mul, Nat.zero_add] at hc0
      obtain ⟨e', m, hsh, _, _⟩ := World.shape?_of_cell? hc0
      refine hlv _ ?_
      by_cases hb : a.block < W.heap.size
      · exact hb
      · rw [World.shape?, Array.getElem?_eq_none (by simpa [Addr.add] using hb)] at hsh
        cases hsh
    · rw [List.getElem?_map, Option.map_eq_some_iff] at he
      obtain ⟨b, _, rfl⟩ := he
      exact hKl b
    · rw [List.getElem?_map, Option.map_eq_some_iff] at he
      obtain ⟨b, hb, rfl⟩ := he
      rw [hKl] at hj
      obtain ⟨u, hu, ho, _⟩ := hVj b j hj
      rw [xget l k b j hb hj, hu]
      exact ⟨rfl, ho⟩
    · rw [List.getElem?_map, Option.map_eq_some_iff] at he
      obtain ⟨b, hb, rfl⟩ := he
      have hj2 : j < sz := by have := (List.getElem?_eq_some_iff.1 hj).1; rwa [hKl] at this
      obtain ⟨u, hu, ho, hk⟩ := hVj b j hj2
      rw [hk] at hj
      cases hj
      rw [xget l k b j hb hj2, hu]
      exact C.v
theorem res_bool {fb : Nat → Prop} {b : Bool} {base : Nat} {w' : World} {rows : List Row} {rv : AV} {u : Value} (hd : vB b rv rows) (hr : Res fb base w' rows rv u) : u = .bool b := by
  obtain ⟨rfl, rfl⟩ := hd
  obtain ⟨loc, _, hG, _⟩ := hr
  cases hG with
  | cl hc => cases hc; rfl
end
end Go.Proofs.Ytepcabenjikhgaa
/-
  Opening the bytes that a law is handed.
-/
namespace Go.Proofs.Ytepcabenjikhgaa
open Go Go.RowKit Go.Proofs
set_option maxRecDepth 100000
section
variable {H : Type} {enc : TypeId × Value → H} {W : World} {base : Nat} {sp : Nat → Bool} {held : Bool} {fuel : Nat} {cs : List Value} {x : DataW H × List MemPlace}
theorem open_byte (h : DataW.trod enc Try.prog W base sp held fuel 5 cs = some x) : ∃ n : Int, cs = [.int .u8 n] ∧ 0 ≤ n ∧ n ≤ 255 := by
  obtain ⟨n, rfl, _, hw⟩ := DataW.trod_int Try.underlying5 h
  refine ⟨n, rfl, ?_⟩
  simp [Lit.wf, IntKind.min, IntKind.max, IntKind.signed, IntKind.bits] at hw
  omega
theorem open_bytes {lv : Nat → Prop} {v : Value} (hlv : ∀ b, b < W.heap.size → ¬ lv b) (h : DataW.trod enc Try.prog W 0 sp held fuel 37 [v] = some x) :
    ∃ z : List Int, C lv 0 W (byA z) v ∧ BytesOk z := by
  obtain ⟨l, u, h1, h2, h3, h4⟩ := open_sl (V := fun n : Int => [.int .u8 n]) (K := byC) (Q := fun n => 0 ≤ n ∧ n ≤ 255) (sz := 1) Try.underlying37 (by kernel_rfl) (by omega) (fun _ _ _ h => open_byte h) (fun a => ⟨rfl, rfl, rfl⟩) hlv h
  cases h1
  exact ⟨l, h2, h3, h4⟩
end
end Go.Proofs.Ytepcabenjikhgaa
