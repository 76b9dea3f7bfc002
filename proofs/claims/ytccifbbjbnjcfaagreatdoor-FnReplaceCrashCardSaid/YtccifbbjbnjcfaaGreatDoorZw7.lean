/- A part of the proof of FnReplaceCrash: texts N18 N19 N20 N30 N31 U11 U13 U14 U15 U16 M41 M47 M48 N33 N37 U17 VFnReplace. -/
import Derived.Test.YtccifbbjbnjcfaaGreatDoorZw6
import Derived.Test.YtccifbbjbnjcfaaGreatDoorZw5
import Derived.Test.YtccifbbjbnjcfaaGreatDoorZw4
set_option linter.unusedSimpArgs false
set_option linter.unusedVariables false
/-
  Walks: disks: impl.DiskWrite, where there is no such file, or nothing is written.
-/
namespace Go.Proofs.YtccifbbjbnjcfaaGreatDoor
open Go Go.RowKit Go.Proofs
theorem disk_names {bs : List BD} (h : diskB bs = true) : ∀ d ∈ bs, 0 ≤ d.name ∧ d.name ≤ 3 := fun d hd => by
  have := disk_okF h hd
  simp only [okF, inB, Bool.and_eq_true, decide_eq_true_eq] at this
  omega
attribute [local irreducible] RWp AW run kPe pe Kt effA gd gu br retR RDp runD kPeD brW gW effD
set_option maxRecDepth 100000
theorem DiskWrite_bad (bs : List BD) (hs : SmB bs) (nm : Int) (xs : List Int) (hx : xs.length ≤ 2000000) (h : (diskB bs && bytesB xs && inB nm 1 3) = false) : PC Tryz.prog 48 [blsA bs, iA nm, intsA xs] (rX (.tup [.o 0 0, bA false]) [rowB []]) := by
  have hV := DiskValid_pc bs hs
  have hB := bytesValid_pc xs (by omega)
  have hI := in_pc nm 1 3
  have eI : inB nm 1 3 = inR nm 1 3 := rfl
  rw [eI] at h
  cases hv : diskB bs with
  | false =>
    refine pc_enter Tryz.func48 rfl rfl fun w0 fb => go_on ?_; (try simp only [Tryz.ntmps48, push_cast, simprocAttr])
    refine at_call ?_
    (try simp only [push_cast, simprocAttr])
    refine rwc_v hV ?_
    (try simp only [push_cast, simprocAttr])
    (refine at_dropS [6] (by refine wk_ok ?_ ?_ ?_ ?_ <;> simp [dropS, dropT, hasN, delL, hdel, leL, leH, idsL, idsA, idsR, inH, hget, sameRow]) ?_; simp only [dropS, dropT, hasN, delL, hdel, idsA, idsL, hget, List.map_cons, List.map_nil, List.all_cons, List.all_nil, List.append_nil, Bool.not_false, Bool.not_true, Bool.and_true, if_true, if_false, simprocAttr])
    refine go_on ?_
    (try simp only [hv, Bool.not_false, push_cast, simprocAttr])
    refine at_ret ?_; simp only [Tryz.results48, push_cast, simprocAttr]
    simp [rX, ixOf]
  | true =>
    cases hxb : bytesB xs with
    | false =>
      refine pc_enter Tryz.func48 rfl rfl fun w0 fb => go_on ?_; (try simp only [Tryz.ntmps48, push_cast, simprocAttr])
      refine at_call ?_
      (try simp only [push_cast, simprocAttr])
      refine rwc_v hV ?_
      (try simp only [push_cast, simprocAttr])
      (refine at_dropS [6] (by refine wk_ok ?_ ?_ ?_ ?_ <;> simp [dropS, dropT, hasN, delL, hdel, leL, leH, idsL, idsA, idsR, inH, hget, sameRow]) ?_; simp only [dropS, dropT, hasN, delL, hdel, idsA, idsL, hget, List.map_cons, List.map_nil, List.all_cons, List.all_nil, List.append_nil, Bool.not_false, Bool.not_true, Bool.and_true, if_true, if_false, simprocAttr])
      refine go_on ?_
      (try simp only [hv, Bool.not_true, push_cast, simprocAttr])
      (refine at_call ?_; (try simp only [push_cast, simprocAttr]); refine rwc_v (hB) (go_on ?_); (try simp only [push_cast, simprocAttr]))
      (try simp only [hxb, Bool.not_false, push_cast, simprocAttr])
      refine at_ret ?_; simp only [Tryz.results48, push_cast, simprocAttr]
      simp [rX, ixOf]
    | true =>
      have hi : inR nm 1 3 = false := by simpa [hv, hxb] using h
      refine pc_enter Tryz.func48 rfl rfl fun w0 fb => go_on ?_; (try simp only [Tryz.ntmps48, push_cast, simprocAttr])
      refine at_call ?_
      (try simp only [push_cast, simprocAttr])
      refine rwc_v hV ?_
      (try simp only [push_cast, simprocAttr])
      (refine at_dropS [6] (by refine wk_ok ?_ ?_ ?_ ?_ <;> simp [dropS, dropT, hasN, delL, hdel, leL, leH, idsL, idsA, idsR, inH, hget, sameRow]) ?_; simp only [dropS, dropT, hasN, delL, hdel, idsA, idsL, hget, List.map_cons, List.map_nil, List.all_cons, List.all_nil, List.append_nil, Bool.not_false, Bool.not_true, Bool.and_true, if_true, if_false, simprocAttr])
      refine go_on ?_
      (try simp only [hv, Bool.not_true, push_cast, simprocAttr])
      (refine at_call ?_; (try simp only [push_cast, simprocAttr]); refine rwc_v (hB) (go_on ?_); (try simp only [push_cast, simprocAttr]))
      (try simp only [hxb, Bool.not_true, push_cast, simprocAttr])
      (refine at_call ?_; (try simp only [push_cast, simprocAttr]); refine rwc_v (hI) (go_on ?_); (try simp only [push_cast, simprocAttr]))
      (try simp only [hi, Bool.not_false, push_cast, simprocAttr])
      refine at_ret ?_; simp only [Tryz.results48, push_cast, simprocAttr]
      simp [rX, ixOf]
theorem DiskWrite_new0 (bs : List BD) (nm : Int) (xs : List Int) (hx : xs.length ≤ 2000000) (hv : diskB bs = true) (hxb : bytesB xs = true) (hi : inB nm 1 3 = true) (hg : getB bs nm = none) (hb : bs = []) : PC Tryz.prog 48 [blsA bs, iA nm, intsA xs] (vX (.tup [blsA (writeD bs nm xs).1, bA (writeD bs nm xs).2])) := by
  have hs := disk_sm hv
  have hn3 := disk_len hv
  have hV := DiskValid_pc bs hs
  have hB := bytesValid_pc xs (by omega)
  have hI := in_pc nm 1 3
  have hF := file_pc bs hs.n nm
  have hC := cloneDisk_pc bs hs
  have hi' : inR nm 1 3 = true := hi
  have hnm : 0 ≤ nm ∧ nm ≤ 3 := by simp only [inR, Bool.and_eq_true, decide_eq_true_eq] at hi'; omega
  have hwl := withB_len bs (wrB bs nm xs)
  have hnms := disk_names hv
  have hWs : SmD (wrB bs nm xs) := by
    unfold wrB
    cases hg : getB bs nm with
    | none => exact ⟨by simp, by simp only; omega⟩
    | some d =>
      have hm := (getB_name hg).2
      have hok := disk_okF hv hm
      simp only [okF, Bool.and_eq_true, decide_eq_true_eq] at hok
      exact ⟨(hs.d d hm).s, by simp only [List.length_append]; omega⟩
  have hws : SmB (withB bs (wrB bs nm xs)) := withB_sm hs (by omega) hWs
  obtain ⟨Y, hY⟩ : ∃ Y, Y = withB bs (wrB bs nm xs) := ⟨_, rfl⟩
  rw [← hY] at hws hwl
  have hwr : writeD bs nm xs = if diskB Y = true then (Y, true) else ([], false) := by unfold writeD; rw [hv, hxb, hi, ← hY]; rfl
  have hV2 := DiskValid_pc Y hws
  have hC2 := cloneDisk_d Y hws
  have emp : ∀ {q : PC Tryz.prog 48 [blsA bs, iA nm, intsA xs] (rX (.tup [.o 0 0, bA false]) [rowB []])}, PC Tryz.prog 48 [blsA bs, iA nm, intsA xs] (vX (.tup [blsA [], bA false])) := fun {q} => by
    have := q.frzX
    simp [viewN, hpOf, hget, isC, tk] at this
    exact this
  have hix : ixB bs nm = -1 := by
    rcases ixB_cases bs nm with ⟨h1, _⟩ | ⟨j, d, _, _, h3⟩
    · exact h1
    · rw [hg] at h3; cases h3
  rw [hix] at hF
  subst hb
  have hS := sorted_pcl ([⟨nm, [], xs⟩] : List BD) (by simp) fun d hd => by
    rcases List.mem_append.1 (show d ∈ [] ++ [(⟨nm, [], xs⟩ : BD)] from hd) with hd | hd
    · exact hnms d hd
    · simp only [List.mem_singleton] at hd; subst hd; exact hnm
  cases hd : diskB Y with
  | false =>
    have hr : writeD [] nm xs = ([], false) := by rw [hwr, hd]; rfl
    rw [hr]
    refine emp (q := ?_)
    refine pc_enter Tryz.func48 rfl rfl fun w0 fb => go_on ?_; (try simp only [Tryz.ntmps48, push_cast, simprocAttr])
    refine at_call ?_
    (try simp only [push_cast, simprocAttr])
    refine rwc_v hV ?_
    (try simp only [push_cast, simprocAttr])
    (refine at_dropS [6] (by refine wk_ok ?_ ?_ ?_ ?_ <;> simp [dropS, dropT, hasN, delL, hdel, leL, leH, idsL, idsA, idsR, inH, hget, sameRow]) ?_; simp only [dropS, dropT, hasN, delL, hdel, idsA, idsL, hget, List.map_cons, List.map_nil, List.all_cons, List.all_nil, List.append_nil, Bool.not_false, Bool.not_true, Bool.and_true, if_true, if_false, simprocAttr])
    refine go_on ?_
    (try simp only [hv, Bool.not_true, push_cast, simprocAttr])
    (refine at_call ?_; (try simp only [push_cast, simprocAttr]); refine rwc_v (hB) (go_on ?_); (try simp only [push_cast, simprocAttr]))
    (try simp only [hxb, Bool.not_true, push_cast, simprocAttr])
    (refine at_call ?_; (try simp only [push_cast, simprocAttr]); refine rwc_v (hI) (go_on ?_); (try simp only [push_cast, simprocAttr]))
    (try simp only [hi', Bool.not_true, push_cast, simprocAttr])
    refine call_share (by simp [isC]) hC ?_
    rintro rv rows ⟨rfl, rfl⟩
    refine ⟨by simp [frB, baseOf], go_on ?_⟩
    (try simp only [bC, push_cast, simprocAttr])
    (refine at_call ?_; simp only [bC, viewN, hget, tk, isC, List.map_cons, List.map_nil, List.length_map, List.length_cons, List.length_nil, Nat.reduceAdd, Nat.reduceEqDiff, if_true, if_false, reduceIte, simprocAttr]; refine rwc_v (hF) (go_on ?_); (try simp only [push_cast, simprocAttr]))
    (try simp only [show ltI (-1) 0 = true from rfl, push_cast, simprocAttr])
    refine at_chk (by first | omega | simp) ?_
    (try simp only [bC, show IntKind.i64.wrap 0 = 0 from rfl, show IntKind.i64.wrap (1 - 1) = 0 from rfl, show toIx 0 1 = some 0 from rfl, Nat.zero_add, push_cast, simprocAttr])
    refine at_chk (by first | omega | simp) ?_
    (try simp only [bC, Nat.zero_add, push_cast, simprocAttr])
    (refine at_callN 25000 1 (by refine wk_nil ?_ ?_ ?_ ?_ <;> simp [nilH, nlCell, nlE_refl, leL, leN, rowN2, nlE, nlC, nlv, idsL, idsA, idsR, inH, hget]) ?_; simp only [nilR, nilH, nlCell, Nat.reduceEqDiff, if_true, if_false, List.map_cons, List.map_nil, simprocAttr])
    (refine at_callW [46] (by refine wk_frz ?_ ?_ ?_ ?_ <;> simp [frwS, frwH, frwRow, frzT, hasN, delL, hdel, leF, leHF, rowF, frzB, idsL, idsA, idsR, inH, hget, sameRow, viewN, tk]) ?_; simp only [frwS, frwH, frwRow, frzT, hasN, delL, hdel, idsA, idsL, viewN, hget, tk, isC, List.map_cons, List.map_nil, List.all_cons, List.all_nil, List.append_nil, List.drop, List.getElem?_cons_zero, List.getElem?_cons_succ, Bool.not_false, Bool.not_true, Bool.and_true, if_true, if_false, Nat.zero_add, List.length_map, simprocAttr])
    (try simp only [push_cast, simprocAttr]); refine call_lend [25000] none (lr := [rowB [⟨nm, [], xs⟩]]) (by simp [ndB]) (by first | rfl | simp [rowsOf, hget, rdR, rowS, rowN, rowC, sC, ndC, cmC]) (by simp [idsL, idsA]) (by simp [mvN]) (by simpa [rnA, ixOf] using hS) ?_
    rintro rv lr' rows ⟨L', g1, g2, rfl, rfl, rfl⟩
    have hlen := g1.length_eq
    simp only [List.length_cons, List.length_nil, Nat.reduceAdd] at hlen
    have hLY : L' = Y := by rw [hY]; exact wr_new hv hg g1 g2
    (refine ⟨by simp [shB, mvF, hlen], by simp [frB, baseOf], go_on ?_⟩; simp only [killA, killH, killRow, push_cast, simprocAttr])
    rw [hLY]
    have hYl : Y.length = 1 := by rw [← hLY]; exact hlen
    (try simp only [push_cast, simprocAttr])
    (refine at_call ?_; simp only [hYl, viewN, hget, tk, isC, List.map_cons, List.map_nil, List.length_map, List.length_cons, List.length_nil, Nat.reduceAdd, Nat.reduceEqDiff, if_true, if_false, reduceIte, simprocAttr]; refine rwc_v (hV2) (go_on ?_); (try simp only [push_cast, simprocAttr]))
    (try simp only [hd, Bool.not_false, push_cast, simprocAttr])
    refine at_ret ?_; simp only [Tryz.results48, push_cast, simprocAttr]
    simp [rX, ixOf]
  | true =>
    have hr : writeD [] nm xs = (Y, true) := by rw [hwr, hd]; rfl
    rw [hr]
    refine pc_enter Tryz.func48 rfl rfl fun w0 fb => go_on ?_; (try simp only [Tryz.ntmps48, push_cast, simprocAttr])
    refine at_call ?_
    (try simp only [push_cast, simprocAttr])
    refine rwc_v hV ?_
    (try simp only [push_cast, simprocAttr])
    (refine at_dropS [6] (by refine wk_ok ?_ ?_ ?_ ?_ <;> simp [dropS, dropT, hasN, delL, hdel, leL, leH, idsL, idsA, idsR, inH, hget, sameRow]) ?_; simp only [dropS, dropT, hasN, delL, hdel, idsA, idsL, hget, List.map_cons, List.map_nil, List.all_cons, List.all_nil, List.append_nil, Bool.not_false, Bool.not_true, Bool.and_true, if_true, if_false, simprocAttr])
    refine go_on ?_
    (try simp only [hv, Bool.not_true, push_cast, simprocAttr])
    (refine at_call ?_; (try simp only [push_cast, simprocAttr]); refine rwc_v (hB) (go_on ?_); (try simp only [push_cast, simprocAttr]))
    (try simp only [hxb, Bool.not_true, push_cast, simprocAttr])
    (refine at_call ?_; (try simp only [push_cast, simprocAttr]); refine rwc_v (hI) (go_on ?_); (try simp only [push_cast, simprocAttr]))
    (try simp only [hi', Bool.not_true, push_cast, simprocAttr])
    refine call_share (by simp [isC]) hC ?_
    rintro rv rows ⟨rfl, rfl⟩
    refine ⟨by simp [frB, baseOf], go_on ?_⟩
    (try simp only [bC, push_cast, simprocAttr])
    (refine at_call ?_; simp only [bC, viewN, hget, tk, isC, List.map_cons, List.map_nil, List.length_map, List.length_cons, List.length_nil, Nat.reduceAdd, Nat.reduceEqDiff, if_true, if_false, reduceIte, simprocAttr]; refine rwc_v (hF) (go_on ?_); (try simp only [push_cast, simprocAttr]))
    (try simp only [show ltI (-1) 0 = true from rfl, push_cast, simprocAttr])
    refine at_chk (by first | omega | simp) ?_
    (try simp only [bC, show IntKind.i64.wrap 0 = 0 from rfl, show IntKind.i64.wrap (1 - 1) = 0 from rfl, show toIx 0 1 = some 0 from rfl, Nat.zero_add, push_cast, simprocAttr])
    refine at_chk (by first | omega | simp) ?_
    (try simp only [bC, Nat.zero_add, push_cast, simprocAttr])
    (refine at_callN 25000 1 (by refine wk_nil ?_ ?_ ?_ ?_ <;> simp [nilH, nlCell, nlE_refl, leL, leN, rowN2, nlE, nlC, nlv, idsL, idsA, idsR, inH, hget]) ?_; simp only [nilR, nilH, nlCell, Nat.reduceEqDiff, if_true, if_false, List.map_cons, List.map_nil, simprocAttr])
    (refine at_callW [46] (by refine wk_frz ?_ ?_ ?_ ?_ <;> simp [frwS, frwH, frwRow, frzT, hasN, delL, hdel, leF, leHF, rowF, frzB, idsL, idsA, idsR, inH, hget, sameRow, viewN, tk]) ?_; simp only [frwS, frwH, frwRow, frzT, hasN, delL, hdel, idsA, idsL, viewN, hget, tk, isC, List.map_cons, List.map_nil, List.all_cons, List.all_nil, List.append_nil, List.drop, List.getElem?_cons_zero, List.getElem?_cons_succ, Bool.not_false, Bool.not_true, Bool.and_true, if_true, if_false, Nat.zero_add, List.length_map, simprocAttr])
    (try simp only [push_cast, simprocAttr]); refine call_lend [25000] none (lr := [rowB [⟨nm, [], xs⟩]]) (by simp [ndB]) (by first | rfl | simp [rowsOf, hget, rdR, rowS, rowN, rowC, sC, ndC, cmC]) (by simp [idsL, idsA]) (by simp [mvN]) (by simpa [rnA, ixOf] using hS) ?_
    rintro rv lr' rows ⟨L', g1, g2, rfl, rfl, rfl⟩
    have hlen := g1.length_eq
    simp only [List.length_cons, List.length_nil, Nat.reduceAdd] at hlen
    have hLY : L' = Y := by rw [hY]; exact wr_new hv hg g1 g2
    (refine ⟨by simp [shB, mvF, hlen], by simp [frB, baseOf], go_on ?_⟩; simp only [killA, killH, killRow, push_cast, simprocAttr])
    rw [hLY]
    have hYl : Y.length = 1 := by rw [← hLY]; exact hlen
    (try simp only [push_cast, simprocAttr])
    (refine at_call ?_; simp only [hYl, viewN, hget, tk, isC, List.map_cons, List.map_nil, List.length_map, List.length_cons, List.length_nil, Nat.reduceAdd, Nat.reduceEqDiff, if_true, if_false, reduceIte, simprocAttr]; refine rwc_v (hV2) (go_on ?_); (try simp only [push_cast, simprocAttr]))
    (try simp only [hd, Bool.not_true, push_cast, simprocAttr])
    (refine at_callW [25000] (by refine wk_frz ?_ ?_ ?_ ?_ <;> simp [hYl, frwS, frwH, frwRow, frzT, hasN, delL, hdel, leF, leHF, rowF, frzB, idsL, idsA, idsR, inH, hget, sameRow, viewN, tk]) ?_; simp only [hYl, frwS, frwH, frwRow, frzT, hasN, delL, hdel, idsA, idsL, viewN, hget, tk, isC, List.map_cons, List.map_nil, List.all_cons, List.all_nil, List.append_nil, List.drop, List.getElem?_cons_zero, List.getElem?_cons_succ, Bool.not_false, Bool.not_true, Bool.and_true, if_true, if_false, Nat.zero_add, List.length_map, simprocAttr])
    ((try simp only [push_cast, simprocAttr]); refine at_share2 (by simp [isC2, isC]) (by first | rfl | simp [ren]) (hC2) (go_on ?_); (try simp only [push_cast, simprocAttr]))
    refine at_ret ?_; simp only [Tryz.results48, push_cast, simprocAttr]
    simp [vX]
theorem DiskWrite_new1 (bs : List BD) (nm : Int) (xs : List Int) (hx : xs.length ≤ 2000000) (hv : diskB bs = true) (hxb : bytesB xs = true) (hi : inB nm 1 3 = true) (hg : getB bs nm = none) (hb : ∃ d0, bs = [d0]) : PC Tryz.prog 48 [blsA bs, iA nm, intsA xs] (vX (.tup [blsA (writeD bs nm xs).1, bA (writeD bs nm xs).2])) := by
  have hs := disk_sm hv
  have hn3 := disk_len hv
  have hV := DiskValid_pc bs hs
  have hB := bytesValid_pc xs (by omega)
  have hI := in_pc nm 1 3
  have hF := file_pc bs hs.n nm
  have hC := cloneDisk_pc bs hs
  have hi' : inR nm 1 3 = true := hi
  have hnm : 0 ≤ nm ∧ nm ≤ 3 := by simp only [inR, Bool.and_eq_true, decide_eq_true_eq] at hi'; omega
  have hwl := withB_len bs (wrB bs nm xs)
  have hnms := disk_names hv
  have hWs : SmD (wrB bs nm xs) := by
    unfold wrB
    cases hg : getB bs nm with
    | none => exact ⟨by simp, by simp only; omega⟩
    | some d =>
      have hm := (getB_name hg).2
      have hok := disk_okF hv hm
      simp only [okF, Bool.and_eq_true, decide_eq_true_eq] at hok
      exact ⟨(hs.d d hm).s, by simp only [List.length_append]; omega⟩
  have hws : SmB (withB bs (wrB bs nm xs)) := withB_sm hs (by omega) hWs
  obtain ⟨Y, hY⟩ : ∃ Y, Y = withB bs (wrB bs nm xs) := ⟨_, rfl⟩
  rw [← hY] at hws hwl
  have hwr : writeD bs nm xs = if diskB Y = true then (Y, true) else ([], false) := by unfold writeD; rw [hv, hxb, hi, ← hY]; rfl
  have hV2 := DiskValid_pc Y hws
  have hC2 := cloneDisk_d Y hws
  have emp : ∀ {q : PC Tryz.prog 48 [blsA bs, iA nm, intsA xs] (rX (.tup [.o 0 0, bA false]) [rowB []])}, PC Tryz.prog 48 [blsA bs, iA nm, intsA xs] (vX (.tup [blsA [], bA false])) := fun {q} => by
    have := q.frzX
    simp [viewN, hpOf, hget, isC, tk] at this
    exact this
  have hix : ixB bs nm = -1 := by
    rcases ixB_cases bs nm with ⟨h1, _⟩ | ⟨j, d, _, _, h3⟩
    · exact h1
    · rw [hg] at h3; cases h3
  rw [hix] at hF
  obtain ⟨d0, rfl⟩ := hb
  have hS := sorted_pcl ([d0, ⟨nm, [], xs⟩] : List BD) (by simp) fun d hd => by
    rcases List.mem_append.1 (show d ∈ [d0] ++ [(⟨nm, [], xs⟩ : BD)] from hd) with hd | hd
    · exact hnms d hd
    · simp only [List.mem_singleton] at hd; subst hd; exact hnm
  cases hd : diskB Y with
  | false =>
    have hr : writeD [d0] nm xs = ([], false) := by rw [hwr, hd]; rfl
    rw [hr]
    refine emp (q := ?_)
    refine pc_enter Tryz.func48 rfl rfl fun w0 fb => go_on ?_; (try simp only [Tryz.ntmps48, push_cast, simprocAttr])
    refine at_call ?_
    (try simp only [push_cast, simprocAttr])
    refine rwc_v hV ?_
    (try simp only [push_cast, simprocAttr])
    (refine at_dropS [6] (by refine wk_ok ?_ ?_ ?_ ?_ <;> simp [dropS, dropT, hasN, delL, hdel, leL, leH, idsL, idsA, idsR, inH, hget, sameRow]) ?_; simp only [dropS, dropT, hasN, delL, hdel, idsA, idsL, hget, List.map_cons, List.map_nil, List.all_cons, List.all_nil, List.append_nil, Bool.not_false, Bool.not_true, Bool.and_true, if_true, if_false, simprocAttr])
    refine go_on ?_
    (try simp only [hv, Bool.not_true, push_cast, simprocAttr])
    (refine at_call ?_; (try simp only [push_cast, simprocAttr]); refine rwc_v (hB) (go_on ?_); (try simp only [push_cast, simprocAttr]))
    (try simp only [hxb, Bool.not_true, push_cast, simprocAttr])
    (refine at_call ?_; (try simp only [push_cast, simprocAttr]); refine rwc_v (hI) (go_on ?_); (try simp only [push_cast, simprocAttr]))
    (try simp only [hi', Bool.not_true, push_cast, simprocAttr])
    refine call_share (by simp [isC]) hC ?_
    rintro rv rows ⟨rfl, rfl⟩
    refine ⟨by simp [frB, baseOf], go_on ?_⟩
    (try simp only [bC, push_cast, simprocAttr])
    (refine at_call ?_; simp only [bC, viewN, hget, tk, isC, List.map_cons, List.map_nil, List.length_map, List.length_cons, List.length_nil, Nat.reduceAdd, Nat.reduceEqDiff, if_true, if_false, reduceIte, simprocAttr]; refine rwc_v (hF) (go_on ?_); (try simp only [push_cast, simprocAttr]))
    (try simp only [show ltI (-1) 0 = true from rfl, push_cast, simprocAttr])
    refine at_chk (by first | omega | simp) ?_
    (try simp only [bC, show IntKind.i64.wrap 1 = 1 from rfl, show IntKind.i64.wrap (2 - 1) = 1 from rfl, show toIx 1 2 = some 1 from rfl, Nat.zero_add, push_cast, simprocAttr])
    refine at_chk (by first | omega | simp) ?_
    (try simp only [bC, Nat.zero_add, push_cast, simprocAttr])
    (refine at_callN 25000 1 (by refine wk_nil ?_ ?_ ?_ ?_ <;> simp [nilH, nlCell, nlE_refl, leL, leN, rowN2, nlE, nlC, nlv, idsL, idsA, idsR, inH, hget]) ?_; simp only [nilR, nilH, nlCell, Nat.reduceEqDiff, if_true, if_false, List.map_cons, List.map_nil, simprocAttr])
    (refine at_callW [46] (by refine wk_frz ?_ ?_ ?_ ?_ <;> simp [frwS, frwH, frwRow, frzT, hasN, delL, hdel, leF, leHF, rowF, frzB, idsL, idsA, idsR, inH, hget, sameRow, viewN, tk]) ?_; simp only [frwS, frwH, frwRow, frzT, hasN, delL, hdel, idsA, idsL, viewN, hget, tk, isC, List.map_cons, List.map_nil, List.all_cons, List.all_nil, List.append_nil, List.drop, List.getElem?_cons_zero, List.getElem?_cons_succ, Bool.not_false, Bool.not_true, Bool.and_true, if_true, if_false, Nat.zero_add, List.length_map, simprocAttr])
    (try simp only [push_cast, simprocAttr]); refine call_lend [25000] none (lr := [rowB [d0, ⟨nm, [], xs⟩]]) (by simp [ndB]) (by first | rfl | simp [rowsOf, hget, rdR, rowS, rowN, rowC, sC, ndC, cmC]) (by simp [idsL, idsA]) (by simp [mvN]) (by simpa [rnA, ixOf] using hS) ?_
    rintro rv lr' rows ⟨L', g1, g2, rfl, rfl, rfl⟩
    have hlen := g1.length_eq
    simp only [List.length_cons, List.length_nil, Nat.reduceAdd] at hlen
    have hLY : L' = Y := by rw [hY]; exact wr_new hv hg g1 g2
    (refine ⟨by simp [shB, mvF, hlen], by simp [frB, baseOf], go_on ?_⟩; simp only [killA, killH, killRow, push_cast, simprocAttr])
    rw [hLY]
    have hYl : Y.length = 2 := by rw [← hLY]; exact hlen
    (try simp only [push_cast, simprocAttr])
    (refine at_call ?_; simp only [hYl, viewN, hget, tk, isC, List.map_cons, List.map_nil, List.length_map, List.length_cons, List.length_nil, Nat.reduceAdd, Nat.reduceEqDiff, if_true, if_false, reduceIte, simprocAttr]; refine rwc_v (hV2) (go_on ?_); (try simp only [push_cast, simprocAttr]))
    (try simp only [hd, Bool.not_false, push_cast, simprocAttr])
    refine at_ret ?_; simp only [Tryz.results48, push_cast, simprocAttr]
    simp [rX, ixOf]
  | true =>
    have hr : writeD [d0] nm xs = (Y, true) := by rw [hwr, hd]; rfl
    rw [hr]
    refine pc_enter Tryz.func48 rfl rfl fun w0 fb => go_on ?_; (try simp only [Tryz.ntmps48, push_cast, simprocAttr])
    refine at_call ?_
    (try simp only [push_cast, simprocAttr])
    refine rwc_v hV ?_
    (try simp only [push_cast, simprocAttr])
    (refine at_dropS [6] (by refine wk_ok ?_ ?_ ?_ ?_ <;> simp [dropS, dropT, hasN, delL, hdel, leL, leH, idsL, idsA, idsR, inH, hget, sameRow]) ?_; simp only [dropS, dropT, hasN, delL, hdel, idsA, idsL, hget, List.map_cons, List.map_nil, List.all_cons, List.all_nil, List.append_nil, Bool.not_false, Bool.not_true, Bool.and_true, if_true, if_false, simprocAttr])
    refine go_on ?_
    (try simp only [hv, Bool.not_true, push_cast, simprocAttr])
    (refine at_call ?_; (try simp only [push_cast, simprocAttr]); refine rwc_v (hB) (go_on ?_); (try simp only [push_cast, simprocAttr]))
    (try simp only [hxb, Bool.not_true, push_cast, simprocAttr])
    (refine at_call ?_; (try simp only [push_cast, simprocAttr]); refine rwc_v (hI) (go_on ?_); (try simp only [push_cast, simprocAttr]))
    (try simp only [hi', Bool.not_true, push_cast, simprocAttr])
    refine call_share (by simp [isC]) hC ?_
    rintro rv rows ⟨rfl, rfl⟩
    refine ⟨by simp [frB, baseOf], go_on ?_⟩
    (try simp only [bC, push_cast, simprocAttr])
    (refine at_call ?_; simp only [bC, viewN, hget, tk, isC, List.map_cons, List.map_nil, List.length_map, List.length_cons, List.length_nil, Nat.reduceAdd, Nat.reduceEqDiff, if_true, if_false, reduceIte, simprocAttr]; refine rwc_v (hF) (go_on ?_); (try simp only [push_cast, simprocAttr]))
    (try simp only [show ltI (-1) 0 = true from rfl, push_cast, simprocAttr])
    refine at_chk (by first | omega | simp) ?_
    (try simp only [bC, show IntKind.i64.wrap 1 = 1 from rfl, show IntKind.i64.wrap (2 - 1) = 1 from rfl, show toIx 1 2 = some 1 from rfl, Nat.zero_add, push_cast, simprocAttr])
    refine at_chk (by first | omega | simp) ?_
    (try simp only [bC, Nat.zero_add, push_cast, simprocAttr])
    (refine at_callN 25000 1 (by refine wk_nil ?_ ?_ ?_ ?_ <;> simp [nilH, nlCell, nlE_refl, leL, leN, rowN2, nlE, nlC, nlv, idsL, idsA, idsR, inH, hget]) ?_; simp only [nilR, nilH, nlCell, Nat.reduceEqDiff, if_true, if_false, List.map_cons, List.map_nil, simprocAttr])
    (refine at_callW [46] (by refine wk_frz ?_ ?_ ?_ ?_ <;> simp [frwS, frwH, frwRow, frzT, hasN, delL, hdel, leF, leHF, rowF, frzB, idsL, idsA, idsR, inH, hget, sameRow, viewN, tk]) ?_; simp only [frwS, frwH, frwRow, frzT, hasN, delL, hdel, idsA, idsL, viewN, hget, tk, isC, List.map_cons, List.map_nil, List.all_cons, List.all_nil, List.append_nil, List.drop, List.getElem?_cons_zero, List.getElem?_cons_succ, Bool.not_false, Bool.not_true, Bool.and_true, if_true, if_false, Nat.zero_add, List.length_map, simprocAttr])
    (try simp only [push_cast, simprocAttr]); refine call_lend [25000] none (lr := [rowB [d0, ⟨nm, [], xs⟩]]) (by simp [ndB]) (by first | rfl | simp [rowsOf, hget, rdR, rowS, rowN, rowC, sC, ndC, cmC]) (by simp [idsL, idsA]) (by simp [mvN]) (by simpa [rnA, ixOf] using hS) ?_
    rintro rv lr' rows ⟨L', g1, g2, rfl, rfl, rfl⟩
    have hlen := g1.length_eq
    simp only [List.length_cons, List.length_nil, Nat.reduceAdd] at hlen
    have hLY : L' = Y := by rw [hY]; exact wr_new hv hg g1 g2
    (refine ⟨by simp [shB, mvF, hlen], by simp [frB, baseOf], go_on ?_⟩; simp only [killA, killH, killRow, push_cast, simprocAttr])
    rw [hLY]
    have hYl : Y.length = 2 := by rw [← hLY]; exact hlen
    (try simp only [push_cast, simprocAttr])
    (refine at_call ?_; simp only [hYl, viewN, hget, tk, isC, List.map_cons, List.map_nil, List.length_map, List.length_cons, List.length_nil, Nat.reduceAdd, Nat.reduceEqDiff, if_true, if_false, reduceIte, simprocAttr]; refine rwc_v (hV2) (go_on ?_); (try simp only [push_cast, simprocAttr]))
    (try simp only [hd, Bool.not_true, push_cast, simprocAttr])
    (refine at_callW [25000] (by refine wk_frz ?_ ?_ ?_ ?_ <;> simp [hYl, frwS, frwH, frwRow, frzT, hasN, delL, hdel, leF, leHF, rowF, frzB, idsL, idsA, idsR, inH, hget, sameRow, viewN, tk]) ?_; simp only [hYl, frwS, frwH, frwRow, frzT, hasN, delL, hdel, idsA, idsL, viewN, hget, tk, isC, List.map_cons, List.map_nil, List.all_cons, List.all_nil, List.append_nil, List.drop, List.getElem?_cons_zero, List.getElem?_cons_succ, Bool.not_false, Bool.not_true, Bool.and_true, if_true, if_false, Nat.zero_add, List.length_map, simprocAttr])
    ((try simp only [push_cast, simprocAttr]); refine at_share2 (by simp [isC2, isC]) (by first | rfl | simp [ren]) (hC2) (go_on ?_); (try simp only [push_cast, simprocAttr]))
    refine at_ret ?_; simp only [Tryz.results48, push_cast, simprocAttr]
    simp [vX]
theorem DiskWrite_new2 (bs : List BD) (nm : Int) (xs : List Int) (hx : xs.length ≤ 2000000) (hv : diskB bs = true) (hxb : bytesB xs = true) (hi : inB nm 1 3 = true) (hg : getB bs nm = none) (hb : ∃ d0 d1, bs = [d0, d1]) : PC Tryz.prog 48 [blsA bs, iA nm, intsA xs] (vX (.tup [blsA (writeD bs nm xs).1, bA (writeD bs nm xs).2])) := by
  have hs := disk_sm hv
  have hn3 := disk_len hv
  have hV := DiskValid_pc bs hs
  have hB := bytesValid_pc xs (by omega)
  have hI := in_pc nm 1 3
  have hF := file_pc bs hs.n nm
  have hC := cloneDisk_pc bs hs
  have hi' : inR nm 1 3 = true := hi
  have hnm : 0 ≤ nm ∧ nm ≤ 3 := by simp only [inR, Bool.and_eq_true, decide_eq_true_eq] at hi'; omega
  have hwl := withB_len bs (wrB bs nm xs)
  have hnms := disk_names hv
  have hWs : SmD (wrB bs nm xs) := by
    unfold wrB
    cases hg : getB bs nm with
    | none => exact ⟨by simp, by simp only; omega⟩
    | some d =>
      have hm := (getB_name hg).2
      have hok := disk_okF hv hm
      simp only [okF, Bool.and_eq_true, decide_eq_true_eq] at hok
      exact ⟨(hs.d d hm).s, by simp only [List.length_append]; omega⟩
  have hws : SmB (withB bs (wrB bs nm xs)) := withB_sm hs (by omega) hWs
  obtain ⟨Y, hY⟩ : ∃ Y, Y = withB bs (wrB bs nm xs) := ⟨_, rfl⟩
  rw [← hY] at hws hwl
  have hwr : writeD bs nm xs = if diskB Y = true then (Y, true) else ([], false) := by unfold writeD; rw [hv, hxb, hi, ← hY]; rfl
  have hV2 := DiskValid_pc Y hws
  have hC2 := cloneDisk_d Y hws
  have emp : ∀ {q : PC Tryz.prog 48 [blsA bs, iA nm, intsA xs] (rX (.tup [.o 0 0, bA false]) [rowB []])}, PC Tryz.prog 48 [blsA bs, iA nm, intsA xs] (vX (.tup [blsA [], bA false])) := fun {q} => by
    have := q.frzX
    simp [viewN, hpOf, hget, isC, tk] at this
    exact this
  have hix : ixB bs nm = -1 := by
    rcases ixB_cases bs nm with ⟨h1, _⟩ | ⟨j, d, _, _, h3⟩
    · exact h1
    · rw [hg] at h3; cases h3
  rw [hix] at hF
  obtain ⟨d0, d1, rfl⟩ := hb
  have hS := sorted_pcl ([d0, d1, ⟨nm, [], xs⟩] : List BD) (by simp) fun d hd => by
    rcases List.mem_append.1 (show d ∈ [d0, d1] ++ [(⟨nm, [], xs⟩ : BD)] from hd) with hd | hd
    · exact hnms d hd
    · simp only [List.mem_singleton] at hd; subst hd; exact hnm
  cases hd : diskB Y with
  | false =>
    have hr : writeD [d0, d1] nm xs = ([], false) := by rw [hwr, hd]; rfl
    rw [hr]
    refine emp (q := ?_)
    refine pc_enter Tryz.func48 rfl rfl fun w0 fb => go_on ?_; (try simp only [Tryz.ntmps48, push_cast, simprocAttr])
    refine at_call ?_
    (try simp only [push_cast, simprocAttr])
    refine rwc_v hV ?_
    (try simp only [push_cast, simprocAttr])
    (refine at_dropS [6] (by refine wk_ok ?_ ?_ ?_ ?_ <;> simp [dropS, dropT, hasN, delL, hdel, leL, leH, idsL, idsA, idsR, inH, hget, sameRow]) ?_; simp only [dropS, dropT, hasN, delL, hdel, idsA, idsL, hget, List.map_cons, List.map_nil, List.all_cons, List.all_nil, List.append_nil, Bool.not_false, Bool.not_true, Bool.and_true, if_true, if_false, simprocAttr])
    refine go_on ?_
    (try simp only [hv, Bool.not_true, push_cast, simprocAttr])
    (refine at_call ?_; (try simp only [push_cast, simprocAttr]); refine rwc_v (hB) (go_on ?_); (try simp only [push_cast, simprocAttr]))
    (try simp only [hxb, Bool.not_true, push_cast, simprocAttr])
    (refine at_call ?_; (try simp only [push_cast, simprocAttr]); refine rwc_v (hI) (go_on ?_); (try simp only [push_cast, simprocAttr]))
    (try simp only [hi', Bool.not_true, push_cast, simprocAttr])
    refine call_share (by simp [isC]) hC ?_
    rintro rv rows ⟨rfl, rfl⟩
    refine ⟨by simp [frB, baseOf], go_on ?_⟩
    (try simp only [bC, push_cast, simprocAttr])
    (refine at_call ?_; simp only [bC, viewN, hget, tk, isC, List.map_cons, List.map_nil, List.length_map, List.length_cons, List.length_nil, Nat.reduceAdd, Nat.reduceEqDiff, if_true, if_false, reduceIte, simprocAttr]; refine rwc_v (hF) (go_on ?_); (try simp only [push_cast, simprocAttr]))
    (try simp only [show ltI (-1) 0 = true from rfl, push_cast, simprocAttr])
    refine at_chk (by first | omega | simp) ?_
    (try simp only [bC, show IntKind.i64.wrap 2 = 2 from rfl, show IntKind.i64.wrap (3 - 1) = 2 from rfl, show toIx 2 3 = some 2 from rfl, Nat.zero_add, push_cast, simprocAttr])
    refine at_chk (by first | omega | simp) ?_
    (try simp only [bC, Nat.zero_add, push_cast, simprocAttr])
    (refine at_callN 25000 1 (by refine wk_nil ?_ ?_ ?_ ?_ <;> simp [nilH, nlCell, nlE_refl, leL, leN, rowN2, nlE, nlC, nlv, idsL, idsA, idsR, inH, hget]) ?_; simp only [nilR, nilH, nlCell, Nat.reduceEqDiff, if_true, if_false, List.map_cons, List.map_nil, simprocAttr])
    (refine at_callW [46] (by refine wk_frz ?_ ?_ ?_ ?_ <;> simp [frwS, frwH, frwRow, frzT, hasN, delL, hdel, leF, leHF, rowF, frzB, idsL, idsA, idsR, inH, hget, sameRow, viewN, tk]) ?_; simp only [frwS, frwH, frwRow, frzT, hasN, delL, hdel, idsA, idsL, viewN, hget, tk, isC, List.map_cons, List.map_nil, List.all_cons, List.all_nil, List.append_nil, List.drop, List.getElem?_cons_zero, List.getElem?_cons_succ, Bool.not_false, Bool.not_true, Bool.and_true, if_true, if_false, Nat.zero_add, List.length_map, simprocAttr])
    (try simp only [push_cast, simprocAttr]); refine call_lend [25000] none (lr := [rowB [d0, d1, ⟨nm, [], xs⟩]]) (by simp [ndB]) (by first | rfl | simp [rowsOf, hget, rdR, rowS, rowN, rowC, sC, ndC, cmC]) (by simp [idsL, idsA]) (by simp [mvN]) (by simpa [rnA, ixOf] using hS) ?_
    rintro rv lr' rows ⟨L', g1, g2, rfl, rfl, rfl⟩
    have hlen := g1.length_eq
    simp only [List.length_cons, List.length_nil, Nat.reduceAdd] at hlen
    have hLY : L' = Y := by rw [hY]; exact wr_new hv hg g1 g2
    (refine ⟨by simp [shB, mvF, hlen], by simp [frB, baseOf], go_on ?_⟩; simp only [killA, killH, killRow, push_cast, simprocAttr])
    rw [hLY]
    have hYl : Y.length = 3 := by rw [← hLY]; exact hlen
    (try simp only [push_cast, simprocAttr])
    (refine at_call ?_; simp only [hYl, viewN, hget, tk, isC, List.map_cons, List.map_nil, List.length_map, List.length_cons, List.length_nil, Nat.reduceAdd, Nat.reduceEqDiff, if_true, if_false, reduceIte, simprocAttr]; refine rwc_v (hV2) (go_on ?_); (try simp only [push_cast, simprocAttr]))
    (try simp only [hd, Bool.not_false, push_cast, simprocAttr])
    refine at_ret ?_; simp only [Tryz.results48, push_cast, simprocAttr]
    simp [rX, ixOf]
  | true =>
    have hr : writeD [d0, d1] nm xs = (Y, true) := by rw [hwr, hd]; rfl
    rw [hr]
    refine pc_enter Tryz.func48 rfl rfl fun w0 fb => go_on ?_; (try simp only [Tryz.ntmps48, push_cast, simprocAttr])
    refine at_call ?_
    (try simp only [push_cast, simprocAttr])
    refine rwc_v hV ?_
    (try simp only [push_cast, simprocAttr])
    (refine at_dropS [6] (by refine wk_ok ?_ ?_ ?_ ?_ <;> simp [dropS, dropT, hasN, delL, hdel, leL, leH, idsL, idsA, idsR, inH, hget, sameRow]) ?_; simp only [dropS, dropT, hasN, delL, hdel, idsA, idsL, hget, List.map_cons, List.map_nil, List.all_cons, List.all_nil, List.append_nil, Bool.not_false, Bool.not_true, Bool.and_true, if_true, if_false, simprocAttr])
    refine go_on ?_
    (try simp only [hv, Bool.not_true, push_cast, simprocAttr])
    (refine at_call ?_; (try simp only [push_cast, simprocAttr]); refine rwc_v (hB) (go_on ?_); (try simp only [push_cast, simprocAttr]))
    (try simp only [hxb, Bool.not_true, push_cast, simprocAttr])
    (refine at_call ?_; (try simp only [push_cast, simprocAttr]); refine rwc_v (hI) (go_on ?_); (try simp only [push_cast, simprocAttr]))
    (try simp only [hi', Bool.not_true, push_cast, simprocAttr])
    refine call_share (by simp [isC]) hC ?_
    rintro rv rows ⟨rfl, rfl⟩
    refine ⟨by simp [frB, baseOf], go_on ?_⟩
    (try simp only [bC, push_cast, simprocAttr])
    (refine at_call ?_; simp only [bC, viewN, hget, tk, isC, List.map_cons, List.map_nil, List.length_map, List.length_cons, List.length_nil, Nat.reduceAdd, Nat.reduceEqDiff, if_true, if_false, reduceIte, simprocAttr]; refine rwc_v (hF) (go_on ?_); (try simp only [push_cast, simprocAttr]))
    (try simp only [show ltI (-1) 0 = true from rfl, push_cast, simprocAttr])
    refine at_chk (by first | omega | simp) ?_
    (try simp only [bC, show IntKind.i64.wrap 2 = 2 from rfl, show IntKind.i64.wrap (3 - 1) = 2 from rfl, show toIx 2 3 = some 2 from rfl, Nat.zero_add, push_cast, simprocAttr])
    refine at_chk (by first | omega | simp) ?_
    (try simp only [bC, Nat.zero_add, push_cast, simprocAttr])
    (refine at_callN 25000 1 (by refine wk_nil ?_ ?_ ?_ ?_ <;> simp [nilH, nlCell, nlE_refl, leL, leN, rowN2, nlE, nlC, nlv, idsL, idsA, idsR, inH, hget]) ?_; simp only [nilR, nilH, nlCell, Nat.reduceEqDiff, if_true, if_false, List.map_cons, List.map_nil, simprocAttr])
    (refine at_callW [46] (by refine wk_frz ?_ ?_ ?_ ?_ <;> simp [frwS, frwH, frwRow, frzT, hasN, delL, hdel, leF, leHF, rowF, frzB, idsL, idsA, idsR, inH, hget, sameRow, viewN, tk]) ?_; simp only [frwS, frwH, frwRow, frzT, hasN, delL, hdel, idsA, idsL, viewN, hget, tk, isC, List.map_cons, List.map_nil, List.all_cons, List.all_nil, List.append_nil, List.drop, List.getElem?_cons_zero, List.getElem?_cons_succ, Bool.not_false, Bool.not_true, Bool.and_true, if_true, if_false, Nat.zero_add, List.length_map, simprocAttr])
    (try simp only [push_cast, simprocAttr]); refine call_lend [25000] none (lr := [rowB [d0, d1, ⟨nm, [], xs⟩]]) (by simp [ndB]) (by first | rfl | simp [rowsOf, hget, rdR, rowS, rowN, rowC, sC, ndC, cmC]) (by simp [idsL, idsA]) (by simp [mvN]) (by simpa [rnA, ixOf] using hS) ?_
    rintro rv lr' rows ⟨L', g1, g2, rfl, rfl, rfl⟩
    have hlen := g1.length_eq
    simp only [List.length_cons, List.length_nil, Nat.reduceAdd] at hlen
    have hLY : L' = Y := by rw [hY]; exact wr_new hv hg g1 g2
    (refine ⟨by simp [shB, mvF, hlen], by simp [frB, baseOf], go_on ?_⟩; simp only [killA, killH, killRow, push_cast, simprocAttr])
    rw [hLY]
    have hYl : Y.length = 3 := by rw [← hLY]; exact hlen
    (try simp only [push_cast, simprocAttr])
    (refine at_call ?_; simp only [hYl, viewN, hget, tk, isC, List.map_cons, List.map_nil, List.length_map, List.length_cons, List.length_nil, Nat.reduceAdd, Nat.reduceEqDiff, if_true, if_false, reduceIte, simprocAttr]; refine rwc_v (hV2) (go_on ?_); (try simp only [push_cast, simprocAttr]))
    (try simp only [hd, Bool.not_true, push_cast, simprocAttr])
    (refine at_callW [25000] (by refine wk_frz ?_ ?_ ?_ ?_ <;> simp [hYl, frwS, frwH, frwRow, frzT, hasN, delL, hdel, leF, leHF, rowF, frzB, idsL, idsA, idsR, inH, hget, sameRow, viewN, tk]) ?_; simp only [hYl, frwS, frwH, frwRow, frzT, hasN, delL, hdel, idsA, idsL, viewN, hget, tk, isC, List.map_cons, List.map_nil, List.all_cons, List.all_nil, List.append_nil, List.drop, List.getElem?_cons_zero, List.getElem?_cons_succ, Bool.not_false, Bool.not_true, Bool.and_true, if_true, if_false, Nat.zero_add, List.length_map, simprocAttr])
    ((try simp only [push_cast, simprocAttr]); refine at_share2 (by simp [isC2, isC]) (by first | rfl | simp [ren]) (hC2) (go_on ?_); (try simp only [push_cast, simprocAttr]))
    refine at_ret ?_; simp only [Tryz.results48, push_cast, simprocAttr]
    simp [vX]
theorem DiskWrite_new3 (bs : List BD) (nm : Int) (xs : List Int) (hx : xs.length ≤ 2000000) (hv : diskB bs = true) (hxb : bytesB xs = true) (hi : inB nm 1 3 = true) (hg : getB bs nm = none) (hb : ∃ d0 d1 d2, bs = [d0, d1, d2]) : PC Tryz.prog 48 [blsA bs, iA nm, intsA xs] (vX (.tup [blsA (writeD bs nm xs).1, bA (writeD bs nm xs).2])) := by
  have hs := disk_sm hv
  have hn3 := disk_len hv
  have hV := DiskValid_pc bs hs
  have hB := bytesValid_pc xs (by omega)
  have hI := in_pc nm 1 3
  have hF := file_pc bs hs.n nm
  have hC := cloneDisk_pc bs hs
  have hi' : inR nm 1 3 = true := hi
  have hnm : 0 ≤ nm ∧ nm ≤ 3 := by simp only [inR, Bool.and_eq_true, decide_eq_true_eq] at hi'; omega
  have hwl := withB_len bs (wrB bs nm xs)
  have hnms := disk_names hv
  have hWs : SmD (wrB bs nm xs) := by
    unfold wrB
    cases hg : getB bs nm with
    | none => exact ⟨by simp, by simp only; omega⟩
    | some d =>
      have hm := (getB_name hg).2
      have hok := disk_okF hv hm
      simp only [okF, Bool.and_eq_true, decide_eq_true_eq] at hok
      exact ⟨(hs.d d hm).s, by simp only [List.length_append]; omega⟩
  have hws : SmB (withB bs (wrB bs nm xs)) := withB_sm hs (by omega) hWs
  obtain ⟨Y, hY⟩ : ∃ Y, Y = withB bs (wrB bs nm xs) := ⟨_, rfl⟩
  rw [← hY] at hws hwl
  have hwr : writeD bs nm xs = if diskB Y = true then (Y, true) else ([], false) := by unfold writeD; rw [hv, hxb, hi, ← hY]; rfl
  have hV2 := DiskValid_pc Y hws
  have hC2 := cloneDisk_d Y hws
  have emp : ∀ {q : PC Tryz.prog 48 [blsA bs, iA nm, intsA xs] (rX (.tup [.o 0 0, bA false]) [rowB []])}, PC Tryz.prog 48 [blsA bs, iA nm, intsA xs] (vX (.tup [blsA [], bA false])) := fun {q} => by
    have := q.frzX
    simp [viewN, hpOf, hget, isC, tk] at this
    exact this
  have hix : ixB bs nm = -1 := by
    rcases ixB_cases bs nm with ⟨h1, _⟩ | ⟨j, d, _, _, h3⟩
    · exact h1
    · rw [hg] at h3; cases h3
  rw [hix] at hF
  obtain ⟨d0, d1, d2, rfl⟩ := hb
  have hS := sorted_pcl ([d0, d1, d2, ⟨nm, [], xs⟩] : List BD) (by simp) fun d hd => by
    rcases List.mem_append.1 (show d ∈ [d0, d1, d2] ++ [(⟨nm, [], xs⟩ : BD)] from hd) with hd | hd
    · exact hnms d hd
    · simp only [List.mem_singleton] at hd; subst hd; exact hnm
  cases hd : diskB Y with
  | false =>
    have hr : writeD [d0, d1, d2] nm xs = ([], false) := by rw [hwr, hd]; rfl
    rw [hr]
    refine emp (q := ?_)
    refine pc_enter Tryz.func48 rfl rfl fun w0 fb => go_on ?_; (try simp only [Tryz.ntmps48, push_cast, simprocAttr])
    refine at_call ?_
    (try simp only [push_cast, simprocAttr])
    refine rwc_v hV ?_
    (try simp only [push_cast, simprocAttr])
    (refine at_dropS [6] (by refine wk_ok ?_ ?_ ?_ ?_ <;> simp [dropS, dropT, hasN, delL, hdel, leL, leH, idsL, idsA, idsR, inH, hget, sameRow]) ?_; simp only [dropS, dropT, hasN, delL, hdel, idsA, idsL, hget, List.map_cons, List.map_nil, List.all_cons, List.all_nil, List.append_nil, Bool.not_false, Bool.not_true, Bool.and_true, if_true, if_false, simprocAttr])
    refine go_on ?_
    (try simp only [hv, Bool.not_true, push_cast, simprocAttr])
    (refine at_call ?_; (try simp only [push_cast, simprocAttr]); refine rwc_v (hB) (go_on ?_); (try simp only [push_cast, simprocAttr]))
    (try simp only [hxb, Bool.not_true, push_cast, simprocAttr])
    (refine at_call ?_; (try simp only [push_cast, simprocAttr]); refine rwc_v (hI) (go_on ?_); (try simp only [push_cast, simprocAttr]))
    (try simp only [hi', Bool.not_true, push_cast, simprocAttr])
    refine call_share (by simp [isC]) hC ?_
    rintro rv rows ⟨rfl, rfl⟩
    refine ⟨by simp [frB, baseOf], go_on ?_⟩
    (try simp only [bC, push_cast, simprocAttr])
    (refine at_call ?_; simp only [bC, viewN, hget, tk, isC, List.map_cons, List.map_nil, List.length_map, List.length_cons, List.length_nil, Nat.reduceAdd, Nat.reduceEqDiff, if_true, if_false, reduceIte, simprocAttr]; refine rwc_v (hF) (go_on ?_); (try simp only [push_cast, simprocAttr]))
    (try simp only [show ltI (-1) 0 = true from rfl, push_cast, simprocAttr])
    refine at_chk (by first | omega | simp) ?_
    (try simp only [bC, show IntKind.i64.wrap 3 = 3 from rfl, show IntKind.i64.wrap (4 - 1) = 3 from rfl, show toIx 3 4 = some 3 from rfl, Nat.zero_add, push_cast, simprocAttr])
    refine at_chk (by first | omega | simp) ?_
    (try simp only [bC, Nat.zero_add, push_cast, simprocAttr])
    (refine at_callN 25000 1 (by refine wk_nil ?_ ?_ ?_ ?_ <;> simp [nilH, nlCell, nlE_refl, leL, leN, rowN2, nlE, nlC, nlv, idsL, idsA, idsR, inH, hget]) ?_; simp only [nilR, nilH, nlCell, Nat.reduceEqDiff, if_true, if_false, List.map_cons, List.map_nil, simprocAttr])
    (refine at_callW [46] (by refine wk_frz ?_ ?_ ?_ ?_ <;> simp [frwS, frwH, frwRow, frzT, hasN, delL, hdel, leF, leHF, rowF, frzB, idsL, idsA, idsR, inH, hget, sameRow, viewN, tk]) ?_; simp only [frwS, frwH, frwRow, frzT, hasN, delL, hdel, idsA, idsL, viewN, hget, tk, isC, List.map_cons, List.map_nil, List.all_cons, List.all_nil, List.append_nil, List.drop, List.getElem?_cons_zero, List.getElem?_cons_succ, Bool.not_false, Bool.not_true, Bool.and_true, if_true, if_false, Nat.zero_add, List.length_map, simprocAttr])
    (try simp only [push_cast, simprocAttr]); refine call_lend [25000] none (lr := [rowB [d0, d1, d2, ⟨nm, [], xs⟩]]) (by simp [ndB]) (by first | rfl | simp [rowsOf, hget, rdR, rowS, rowN, rowC, sC, ndC, cmC]) (by simp [idsL, idsA]) (by simp [mvN]) (by simpa [rnA, ixOf] using hS) ?_
    rintro rv lr' rows ⟨L', g1, g2, rfl, rfl, rfl⟩
    have hlen := g1.length_eq
    simp only [List.length_cons, List.length_nil, Nat.reduceAdd] at hlen
    have hLY : L' = Y := by rw [hY]; exact wr_new hv hg g1 g2
    (refine ⟨by simp [shB, mvF, hlen], by simp [frB, baseOf], go_on ?_⟩; simp only [killA, killH, killRow, push_cast, simprocAttr])
    rw [hLY]
    have hYl : Y.length = 4 := by rw [← hLY]; exact hlen
    (try simp only [push_cast, simprocAttr])
    (refine at_call ?_; simp only [hYl, viewN, hget, tk, isC, List.map_cons, List.map_nil, List.length_map, List.length_cons, List.length_nil, Nat.reduceAdd, Nat.reduceEqDiff, if_true, if_false, reduceIte, simprocAttr]; refine rwc_v (hV2) (go_on ?_); (try simp only [push_cast, simprocAttr]))
    (try simp only [hd, Bool.not_false, push_cast, simprocAttr])
    refine at_ret ?_; simp only [Tryz.results48, push_cast, simprocAttr]
    simp [rX, ixOf]
  | true =>
    have hr : writeD [d0, d1, d2] nm xs = (Y, true) := by rw [hwr, hd]; rfl
    rw [hr]
    refine pc_enter Tryz.func48 rfl rfl fun w0 fb => go_on ?_; (try simp only [Tryz.ntmps48, push_cast, simprocAttr])
    refine at_call ?_
    (try simp only [push_cast, simprocAttr])
    refine rwc_v hV ?_
    (try simp only [push_cast, simprocAttr])
    (refine at_dropS [6] (by refine wk_ok ?_ ?_ ?_ ?_ <;> simp [dropS, dropT, hasN, delL, hdel, leL, leH, idsL, idsA, idsR, inH, hget, sameRow]) ?_; simp only [dropS, dropT, hasN, delL, hdel, idsA, idsL, hget, List.map_cons, List.map_nil, List.all_cons, List.all_nil, List.append_nil, Bool.not_false, Bool.not_true, Bool.and_true, if_true, if_false, simprocAttr])
    refine go_on ?_
    (try simp only [hv, Bool.not_true, push_cast, simprocAttr])
    (refine at_call ?_; (try simp only [push_cast, simprocAttr]); refine rwc_v (hB) (go_on ?_); (try simp only [push_cast, simprocAttr]))
    (try simp only [hxb, Bool.not_true, push_cast, simprocAttr])
    (refine at_call ?_; (try simp only [push_cast, simprocAttr]); refine rwc_v (hI) (go_on ?_); (try simp only [push_cast, simprocAttr]))
    (try simp only [hi', Bool.not_true, push_cast, simprocAttr])
    refine call_share (by simp [isC]) hC ?_
    rintro rv rows ⟨rfl, rfl⟩
    refine ⟨by simp [frB, baseOf], go_on ?_⟩
    (try simp only [bC, push_cast, simprocAttr])
    (refine at_call ?_; simp only [bC, viewN, hget, tk, isC, List.map_cons, List.map_nil, List.length_map, List.length_cons, List.length_nil, Nat.reduceAdd, Nat.reduceEqDiff, if_true, if_false, reduceIte, simprocAttr]; refine rwc_v (hF) (go_on ?_); (try simp only [push_cast, simprocAttr]))
    (try simp only [show ltI (-1) 0 = true from rfl, push_cast, simprocAttr])
    refine at_chk (by first | omega | simp) ?_
    (try simp only [bC, show IntKind.i64.wrap 3 = 3 from rfl, show IntKind.i64.wrap (4 - 1) = 3 from rfl, show toIx 3 4 = some 3 from rfl, Nat.zero_add, push_cast, simprocAttr])
    refine at_chk (by first | omega | simp) ?_
    (try simp only [bC, Nat.zero_add, push_cast, simprocAttr])
    (refine at_callN 25000 1 (by refine wk_nil ?_ ?_ ?_ ?_ <;> simp [nilH, nlCell, nlE_refl, leL, leN, rowN2, nlE, nlC, nlv, idsL, idsA, idsR, inH, hget]) ?_; simp only [nilR, nilH, nlCell, Nat.reduceEqDiff, if_true, if_false, List.map_cons, List.map_nil, simprocAttr])
    (refine at_callW [46] (by refine wk_frz ?_ ?_ ?_ ?_ <;> simp [frwS, frwH, frwRow, frzT, hasN, delL, hdel, leF, leHF, rowF, frzB, idsL, idsA, idsR, inH, hget, sameRow, viewN, tk]) ?_; simp only [frwS, frwH, frwRow, frzT, hasN, delL, hdel, idsA, idsL, viewN, hget, tk, isC, List.map_cons, List.map_nil, List.all_cons, List.all_nil, List.append_nil, List.drop, List.getElem?_cons_zero, List.getElem?_cons_succ, Bool.not_false, Bool.not_true, Bool.and_true, if_true, if_false, Nat.zero_add, List.length_map, simprocAttr])
    (try simp only [push_cast, simprocAttr]); refine call_lend [25000] none (lr := [rowB [d0, d1, d2, ⟨nm, [], xs⟩]]) (by simp [ndB]) (by first | rfl | simp [rowsOf, hget, rdR, rowS, rowN, rowC, sC, ndC, cmC]) (by simp [idsL, idsA]) (by simp [mvN]) (by simpa [rnA, ixOf] using hS) ?_
    rintro rv lr' rows ⟨L', g1, g2, rfl, rfl, rfl⟩
    have hlen := g1.length_eq
    simp only [List.length_cons, List.length_nil, Nat.reduceAdd] at hlen
    have hLY : L' = Y := by rw [hY]; exact wr_new hv hg g1 g2
    (refine ⟨by simp [shB, mvF, hlen], by simp [frB, baseOf], go_on ?_⟩; simp only [killA, killH, killRow, push_cast, simprocAttr])
    rw [hLY]
    have hYl : Y.length = 4 := by rw [← hLY]; exact hlen
    (try simp only [push_cast, simprocAttr])
    (refine at_call ?_; simp only [hYl, viewN, hget, tk, isC, List.map_cons, List.map_nil, List.length_map, List.length_cons, List.length_nil, Nat.reduceAdd, Nat.reduceEqDiff, if_true, if_false, reduceIte, simprocAttr]; refine rwc_v (hV2) (go_on ?_); (try simp only [push_cast, simprocAttr]))
    (try simp only [hd, Bool.not_true, push_cast, simprocAttr])
    (refine at_callW [25000] (by refine wk_frz ?_ ?_ ?_ ?_ <;> simp [hYl, frwS, frwH, frwRow, frzT, hasN, delL, hdel, leF, leHF, rowF, frzB, idsL, idsA, idsR, inH, hget, sameRow, viewN, tk]) ?_; simp only [hYl, frwS, frwH, frwRow, frzT, hasN, delL, hdel, idsA, idsL, viewN, hget, tk, isC, List.map_cons, List.map_nil, List.all_cons, List.all_nil, List.append_nil, List.drop, List.getElem?_cons_zero, List.getElem?_cons_succ, Bool.not_false, Bool.not_true, Bool.and_true, if_true, if_false, Nat.zero_add, List.length_map, simprocAttr])
    ((try simp only [push_cast, simprocAttr]); refine at_share2 (by simp [isC2, isC]) (by first | rfl | simp [ren]) (hC2) (go_on ?_); (try simp only [push_cast, simprocAttr]))
    refine at_ret ?_; simp only [Tryz.results48, push_cast, simprocAttr]
    simp [vX]
end Go.Proofs.YtccifbbjbnjcfaaGreatDoor
/-
  Walks: disks: impl.DiskWrite, where the file is there.
-/
namespace Go.Proofs.YtccifbbjbnjcfaaGreatDoor
open Go Go.RowKit Go.Proofs
attribute [local irreducible] RWp AW run kPe pe Kt effA gd gu br retR RDp runD kPeD brW gW effD
set_option maxRecDepth 100000
theorem DiskWrite_old10 (bs : List BD) (nm : Int) (xs : List Int) (hx : xs.length ≤ 2000000) (hv : diskB bs = true) (hxb : bytesB xs = true) (hi : inB nm 1 3 = true) (d : BD) (hj : bs[0]? = some d) (hg : getB bs nm = some d) (hix : ixB bs nm = 0) (hb : ∃ d0, bs = [d0]) : PC Tryz.prog 48 [blsA bs, iA nm, intsA xs] (vX (.tup [blsA (writeD bs nm xs).1, bA (writeD bs nm xs).2])) := by
  have hs := disk_sm hv
  have hn3 := disk_len hv
  have hV := DiskValid_pc bs hs
  have hB := bytesValid_pc xs (by omega)
  have hI := in_pc nm 1 3
  have hF := file_pc bs hs.n nm
  have hC := cloneDisk_pc bs hs
  have hi' : inR nm 1 3 = true := hi
  have hnm : 0 ≤ nm ∧ nm ≤ 3 := by simp only [inR, Bool.and_eq_true, decide_eq_true_eq] at hi'; omega
  have hwl := withB_len bs (wrB bs nm xs)
  have hnms := disk_names hv
  have hWs : SmD (wrB bs nm xs) := by
    unfold wrB
    cases hg : getB bs nm with
    | none => exact ⟨by simp, by simp only; omega⟩
    | some d =>
      have hm := (getB_name hg).2
      have hok := disk_okF hv hm
      simp only [okF, Bool.and_eq_true, decide_eq_true_eq] at hok
      exact ⟨(hs.d d hm).s, by simp only [List.length_append]; omega⟩
  have hws : SmB (withB bs (wrB bs nm xs)) := withB_sm hs (by omega) hWs
  obtain ⟨Y, hY⟩ : ∃ Y, Y = withB bs (wrB bs nm xs) := ⟨_, rfl⟩
  rw [← hY] at hws hwl
  have hwr : writeD bs nm xs = if diskB Y = true then (Y, true) else ([], false) := by unfold writeD; rw [hv, hxb, hi, ← hY]; rfl
  have hV2 := DiskValid_pc Y hws
  have hC2 := cloneDisk_d Y hws
  have emp : ∀ {q : PC Tryz.prog 48 [blsA bs, iA nm, intsA xs] (rX (.tup [.o 0 0, bA false]) [rowB []])}, PC Tryz.prog 48 [blsA bs, iA nm, intsA xs] (vX (.tup [blsA [], bA false])) := fun {q} => by
    have := q.frzX
    simp [viewN, hpOf, hget, isC, tk] at this
    exact this
  rw [hix] at hF
  obtain ⟨d0, rfl⟩ := hb
  obtain rfl : d0 = d := Option.some.inj hj
  have hfl : d0.fresh.length ≤ 400 := by
    have := disk_okF hv (getB_name hg).2
    simp only [okF, Bool.and_eq_true, decide_eq_true_eq] at this
    omega
  have hX := cloneDisk_at [d0] hs 0 d0 rfl
  have hR : rfRow (nmB [] 25000) (lnkR [d0] 0 d0 1 2) = ⟨79, 3, [[iA d0.name, .o 25001 d0.safe.length, .o 25002 d0.fresh.length]], false⟩ := by rw [lnk_rf _ (by simp)]; rfl
  have hS := sorted_pcl ([⟨d0.name, d0.safe, d0.fresh ++ xs⟩] : List BD) (by simp) fun d hd => by
    rcases mem_set_or (show d ∈ ([d0] : List BD).set 0 ⟨d0.name, d0.safe, d0.fresh ++ xs⟩ from hd) with hd | rfl
    · exact hnms d hd
    · exact hnms d0 (by simp)
  cases hd : diskB Y with
  | false =>
    have hr : writeD [d0] nm xs = ([], false) := by rw [hwr, hd]; rfl
    rw [hr]
    refine emp (q := ?_)
    refine pc_enter Tryz.func48 rfl rfl fun w0 fb => go_on ?_; (try simp only [Tryz.ntmps48, push_cast, simprocAttr])
    refine at_call ?_
    (try simp only [push_cast, simprocAttr])
    refine rwc_v hV ?_
    (try simp only [push_cast, simprocAttr])
    (refine at_dropS [6] (by refine wk_ok ?_ ?_ ?_ ?_ <;> simp [dropS, dropT, hasN, delL, hdel, leL, leH, idsL, idsA, idsR, inH, hget, sameRow]) ?_; simp only [dropS, dropT, hasN, delL, hdel, idsA, idsL, hget, List.map_cons, List.map_nil, List.all_cons, List.all_nil, List.append_nil, Bool.not_false, Bool.not_true, Bool.and_true, if_true, if_false, simprocAttr])
    refine go_on ?_
    (try simp only [hv, Bool.not_true, push_cast, simprocAttr])
    (refine at_call ?_; (try simp only [push_cast, simprocAttr]); refine rwc_v (hB) (go_on ?_); (try simp only [push_cast, simprocAttr]))
    (try simp only [hxb, Bool.not_true, push_cast, simprocAttr])
    (refine at_call ?_; (try simp only [push_cast, simprocAttr]); refine rwc_v (hI) (go_on ?_); (try simp only [push_cast, simprocAttr]))
    (try simp only [hi', Bool.not_true, push_cast, simprocAttr])
    refine call_lendX [] (lr := []) rfl rfl (by simp [idsL, idsA]) (by simpa [rfA] using hX) ?_
    rintro rv lr' rows ⟨rfl, rfl, rfl⟩
    refine ⟨rfl, by simp [frB, baseOf], go_on ?_⟩
    simp only [backX, hR, rowZ_rf, rfA, nmB, hsL, baseOf, hpOf, List.map_cons, List.map_nil, List.nil_append, List.length_nil, push_cast, simprocAttr]
    (refine at_call ?_; simp only [bC, viewN, hget, tk, isC, List.map_cons, List.map_nil, List.length_map, List.length_cons, List.length_nil, Nat.reduceAdd, Nat.reduceEqDiff, if_true, if_false, reduceIte, simprocAttr]; refine rwc_v (hF) (go_on ?_); (try simp only [push_cast, simprocAttr]))
    (try simp only [show ltI 0 0 = false from rfl, show toIx 0 1 = some 0 from rfl, bC, push_cast, simprocAttr])
    refine at_chk (by omega) ?_
    (try simp only [bC, push_cast, simprocAttr])
    (refine at_callW [25001, 25002] (by refine wk_frz ?_ ?_ ?_ ?_ <;> simp [← List.map_append, List.length_append, eq_self, frwS, frwH, frwRow, frzT, hasN, delL, hdel, leF, leHF, rowF, frzB, idsL, idsA, idsR, inH, hget, sameRow, viewN, tk]) ?_; simp only [← List.map_append, List.length_append, eq_self, frwS, frwH, frwRow, frzT, hasN, delL, hdel, idsA, idsL, viewN, hget, tk, isC, List.map_cons, List.map_nil, List.all_cons, List.all_nil, List.append_nil, List.drop, List.getElem?_cons_zero, List.getElem?_cons_succ, Bool.not_false, Bool.not_true, Bool.and_true, if_true, if_false, Nat.zero_add, List.length_map, simprocAttr])
    (try simp only [push_cast, simprocAttr]); refine call_lend [25000] none (lr := [rowB [⟨d0.name, d0.safe, d0.fresh ++ xs⟩]]) (by simp [ndB]) (by first | rfl | simp [rowsOf, hget, rdR, rowS, rowN, rowC, sC, ndC, cmC]) (by simp [idsL, idsA]) (by simp [mvN]) (by simpa [rnA, ixOf] using hS) ?_
    rintro rv lr' rows ⟨L', g1, g2, rfl, rfl, rfl⟩
    have hlen := g1.length_eq
    simp only [List.length_cons, List.length_nil, Nat.reduceAdd] at hlen
    have hLY : L' = Y := by rw [hY]; exact wr_old hv hj hg g1 g2
    (refine ⟨by simp [shB, mvF, hlen], by simp [frB, baseOf], go_on ?_⟩; simp only [killA, killH, killRow, push_cast, simprocAttr])
    rw [hLY]
    have hYl : Y.length = 1 := by rw [← hLY]; exact hlen
    (try simp only [push_cast, simprocAttr])
    (refine at_call ?_; simp only [hYl, viewN, hget, tk, isC, List.map_cons, List.map_nil, List.length_map, List.length_cons, List.length_nil, Nat.reduceAdd, Nat.reduceEqDiff, if_true, if_false, reduceIte, simprocAttr]; refine rwc_v (hV2) (go_on ?_); (try simp only [push_cast, simprocAttr]))
    (try simp only [hd, Bool.not_false, push_cast, simprocAttr])
    refine at_ret ?_; simp only [Tryz.results48, push_cast, simprocAttr]
    simp [rX, ixOf]
  | true =>
    have hr : writeD [d0] nm xs = (Y, true) := by rw [hwr, hd]; rfl
    rw [hr]
    refine pc_enter Tryz.func48 rfl rfl fun w0 fb => go_on ?_; (try simp only [Tryz.ntmps48, push_cast, simprocAttr])
    refine at_call ?_
    (try simp only [push_cast, simprocAttr])
    refine rwc_v hV ?_
    (try simp only [push_cast, simprocAttr])
    (refine at_dropS [6] (by refine wk_ok ?_ ?_ ?_ ?_ <;> simp [dropS, dropT, hasN, delL, hdel, leL, leH, idsL, idsA, idsR, inH, hget, sameRow]) ?_; simp only [dropS, dropT, hasN, delL, hdel, idsA, idsL, hget, List.map_cons, List.map_nil, List.all_cons, List.all_nil, List.append_nil, Bool.not_false, Bool.not_true, Bool.and_true, if_true, if_false, simprocAttr])
    refine go_on ?_
    (try simp only [hv, Bool.not_true, push_cast, simprocAttr])
    (refine at_call ?_; (try simp only [push_cast, simprocAttr]); refine rwc_v (hB) (go_on ?_); (try simp only [push_cast, simprocAttr]))
    (try simp only [hxb, Bool.not_true, push_cast, simprocAttr])
    (refine at_call ?_; (try simp only [push_cast, simprocAttr]); refine rwc_v (hI) (go_on ?_); (try simp only [push_cast, simprocAttr]))
    (try simp only [hi', Bool.not_true, push_cast, simprocAttr])
    refine call_lendX [] (lr := []) rfl rfl (by simp [idsL, idsA]) (by simpa [rfA] using hX) ?_
    rintro rv lr' rows ⟨rfl, rfl, rfl⟩
    refine ⟨rfl, by simp [frB, baseOf], go_on ?_⟩
    simp only [backX, hR, rowZ_rf, rfA, nmB, hsL, baseOf, hpOf, List.map_cons, List.map_nil, List.nil_append, List.length_nil, push_cast, simprocAttr]
    (refine at_call ?_; simp only [bC, viewN, hget, tk, isC, List.map_cons, List.map_nil, List.length_map, List.length_cons, List.length_nil, Nat.reduceAdd, Nat.reduceEqDiff, if_true, if_false, reduceIte, simprocAttr]; refine rwc_v (hF) (go_on ?_); (try simp only [push_cast, simprocAttr]))
    (try simp only [show ltI 0 0 = false from rfl, show toIx 0 1 = some 0 from rfl, bC, push_cast, simprocAttr])
    refine at_chk (by omega) ?_
    (try simp only [bC, push_cast, simprocAttr])
    (refine at_callW [25001, 25002] (by refine wk_frz ?_ ?_ ?_ ?_ <;> simp [← List.map_append, List.length_append, eq_self, frwS, frwH, frwRow, frzT, hasN, delL, hdel, leF, leHF, rowF, frzB, idsL, idsA, idsR, inH, hget, sameRow, viewN, tk]) ?_; simp only [← List.map_append, List.length_append, eq_self, frwS, frwH, frwRow, frzT, hasN, delL, hdel, idsA, idsL, viewN, hget, tk, isC, List.map_cons, List.map_nil, List.all_cons, List.all_nil, List.append_nil, List.drop, List.getElem?_cons_zero, List.getElem?_cons_succ, Bool.not_false, Bool.not_true, Bool.and_true, if_true, if_false, Nat.zero_add, List.length_map, simprocAttr])
    (try simp only [push_cast, simprocAttr]); refine call_lend [25000] none (lr := [rowB [⟨d0.name, d0.safe, d0.fresh ++ xs⟩]]) (by simp [ndB]) (by first | rfl | simp [rowsOf, hget, rdR, rowS, rowN, rowC, sC, ndC, cmC]) (by simp [idsL, idsA]) (by simp [mvN]) (by simpa [rnA, ixOf] using hS) ?_
    rintro rv lr' rows ⟨L', g1, g2, rfl, rfl, rfl⟩
    have hlen := g1.length_eq
    simp only [List.length_cons, List.length_nil, Nat.reduceAdd] at hlen
    have hLY : L' = Y := by rw [hY]; exact wr_old hv hj hg g1 g2
    (refine ⟨by simp [shB, mvF, hlen], by simp [frB, baseOf], go_on ?_⟩; simp only [killA, killH, killRow, push_cast, simprocAttr])
    rw [hLY]
    have hYl : Y.length = 1 := by rw [← hLY]; exact hlen
    (try simp only [push_cast, simprocAttr])
    (refine at_call ?_; simp only [hYl, viewN, hget, tk, isC, List.map_cons, List.map_nil, List.length_map, List.length_cons, List.length_nil, Nat.reduceAdd, Nat.reduceEqDiff, if_true, if_false, reduceIte, simprocAttr]; refine rwc_v (hV2) (go_on ?_); (try simp only [push_cast, simprocAttr]))
    (try simp only [hd, Bool.not_true, push_cast, simprocAttr])
    (refine at_callW [25000] (by refine wk_frz ?_ ?_ ?_ ?_ <;> simp [hYl, frwS, frwH, frwRow, frzT, hasN, delL, hdel, leF, leHF, rowF, frzB, idsL, idsA, idsR, inH, hget, sameRow, viewN, tk]) ?_; simp only [hYl, frwS, frwH, frwRow, frzT, hasN, delL, hdel, idsA, idsL, viewN, hget, tk, isC, List.map_cons, List.map_nil, List.all_cons, List.all_nil, List.append_nil, List.drop, List.getElem?_cons_zero, List.getElem?_cons_succ, Bool.not_false, Bool.not_true, Bool.and_true, if_true, if_false, Nat.zero_add, List.length_map, simprocAttr])
    ((try simp only [push_cast, simprocAttr]); refine at_share2 (by simp [isC2, isC]) (by first | rfl | simp [ren]) (hC2) (go_on ?_); (try simp only [push_cast, simprocAttr]))
    refine at_ret ?_; simp only [Tryz.results48, push_cast, simprocAttr]
    simp [vX]
theorem DiskWrite_old20 (bs : List BD) (nm : Int) (xs : List Int) (hx : xs.length ≤ 2000000) (hv : diskB bs = true) (hxb : bytesB xs = true) (hi : inB nm 1 3 = true) (d : BD) (hj : bs[0]? = some d) (hg : getB bs nm = some d) (hix : ixB bs nm = 0) (hb : ∃ d0 d1, bs = [d0, d1]) : PC Tryz.prog 48 [blsA bs, iA nm, intsA xs] (vX (.tup [blsA (writeD bs nm xs).1, bA (writeD bs nm xs).2])) := by
  have hs := disk_sm hv
  have hn3 := disk_len hv
  have hV := DiskValid_pc bs hs
  have hB := bytesValid_pc xs (by omega)
  have hI := in_pc nm 1 3
  have hF := file_pc bs hs.n nm
  have hC := cloneDisk_pc bs hs
  have hi' : inR nm 1 3 = true := hi
  have hnm : 0 ≤ nm ∧ nm ≤ 3 := by simp only [inR, Bool.and_eq_true, decide_eq_true_eq] at hi'; omega
  have hwl := withB_len bs (wrB bs nm xs)
  have hnms := disk_names hv
  have hWs : SmD (wrB bs nm xs) := by
    unfold wrB
    cases hg : getB bs nm with
    | none => exact ⟨by simp, by simp only; omega⟩
    | some d =>
      have hm := (getB_name hg).2
      have hok := disk_okF hv hm
      simp only [okF, Bool.and_eq_true, decide_eq_true_eq] at hok
      exact ⟨(hs.d d hm).s, by simp only [List.length_append]; omega⟩
  have hws : SmB (withB bs (wrB bs nm xs)) := withB_sm hs (by omega) hWs
  obtain ⟨Y, hY⟩ : ∃ Y, Y = withB bs (wrB bs nm xs) := ⟨_, rfl⟩
  rw [← hY] at hws hwl
  have hwr : writeD bs nm xs = if diskB Y = true then (Y, true) else ([], false) := by unfold writeD; rw [hv, hxb, hi, ← hY]; rfl
  have hV2 := DiskValid_pc Y hws
  have hC2 := cloneDisk_d Y hws
  have emp : ∀ {q : PC Tryz.prog 48 [blsA bs, iA nm, intsA xs] (rX (.tup [.o 0 0, bA false]) [rowB []])}, PC Tryz.prog 48 [blsA bs, iA nm, intsA xs] (vX (.tup [blsA [], bA false])) := fun {q} => by
    have := q.frzX
    simp [viewN, hpOf, hget, isC, tk] at this
    exact this
  rw [hix] at hF
  obtain ⟨d0, d1, rfl⟩ := hb
  obtain rfl : d0 = d := Option.some.inj hj
  have hfl : d0.fresh.length ≤ 400 := by
    have := disk_okF hv (getB_name hg).2
    simp only [okF, Bool.and_eq_true, decide_eq_true_eq] at this
    omega
  have hX := cloneDisk_at [d0, d1] hs 0 d0 rfl
  have hR : rfRow (nmB [] 25000) (lnkR [d0, d1] 0 d0 1 2) = ⟨79, 3, [[iA d0.name, .o 25001 d0.safe.length, .o 25002 d0.fresh.length], [iA d1.name, intsA d1.safe, intsA d1.fresh]], false⟩ := by rw [lnk_rf _ (by simp)]; rfl
  have hS := sorted_pcl ([⟨d0.name, d0.safe, d0.fresh ++ xs⟩, d1] : List BD) (by simp) fun d hd => by
    rcases mem_set_or (show d ∈ ([d0, d1] : List BD).set 0 ⟨d0.name, d0.safe, d0.fresh ++ xs⟩ from hd) with hd | rfl
    · exact hnms d hd
    · exact hnms d0 (by simp)
  cases hd : diskB Y with
  | false =>
    have hr : writeD [d0, d1] nm xs = ([], false) := by rw [hwr, hd]; rfl
    rw [hr]
    refine emp (q := ?_)
    refine pc_enter Tryz.func48 rfl rfl fun w0 fb => go_on ?_; (try simp only [Tryz.ntmps48, push_cast, simprocAttr])
    refine at_call ?_
    (try simp only [push_cast, simprocAttr])
    refine rwc_v hV ?_
    (try simp only [push_cast, simprocAttr])
    (refine at_dropS [6] (by refine wk_ok ?_ ?_ ?_ ?_ <;> simp [dropS, dropT, hasN, delL, hdel, leL, leH, idsL, idsA, idsR, inH, hget, sameRow]) ?_; simp only [dropS, dropT, hasN, delL, hdel, idsA, idsL, hget, List.map_cons, List.map_nil, List.all_cons, List.all_nil, List.append_nil, Bool.not_false, Bool.not_true, Bool.and_true, if_true, if_false, simprocAttr])
    refine go_on ?_
    (try simp only [hv, Bool.not_true, push_cast, simprocAttr])
    (refine at_call ?_; (try simp only [push_cast, simprocAttr]); refine rwc_v (hB) (go_on ?_); (try simp only [push_cast, simprocAttr]))
    (try simp only [hxb, Bool.not_true, push_cast, simprocAttr])
    (refine at_call ?_; (try simp only [push_cast, simprocAttr]); refine rwc_v (hI) (go_on ?_); (try simp only [push_cast, simprocAttr]))
    (try simp only [hi', Bool.not_true, push_cast, simprocAttr])
    refine call_lendX [] (lr := []) rfl rfl (by simp [idsL, idsA]) (by simpa [rfA] using hX) ?_
    rintro rv lr' rows ⟨rfl, rfl, rfl⟩
    refine ⟨rfl, by simp [frB, baseOf], go_on ?_⟩
    simp only [backX, hR, rowZ_rf, rfA, nmB, hsL, baseOf, hpOf, List.map_cons, List.map_nil, List.nil_append, List.length_nil, push_cast, simprocAttr]
    (refine at_call ?_; simp only [bC, viewN, hget, tk, isC, List.map_cons, List.map_nil, List.length_map, List.length_cons, List.length_nil, Nat.reduceAdd, Nat.reduceEqDiff, if_true, if_false, reduceIte, simprocAttr]; refine rwc_v (hF) (go_on ?_); (try simp only [push_cast, simprocAttr]))
    (try simp only [show ltI 0 0 = false from rfl, show toIx 0 2 = some 0 from rfl, bC, push_cast, simprocAttr])
    refine at_chk (by omega) ?_
    (try simp only [bC, push_cast, simprocAttr])
    (refine at_callW [25001, 25002] (by refine wk_frz ?_ ?_ ?_ ?_ <;> simp [← List.map_append, List.length_append, eq_self, frwS, frwH, frwRow, frzT, hasN, delL, hdel, leF, leHF, rowF, frzB, idsL, idsA, idsR, inH, hget, sameRow, viewN, tk]) ?_; simp only [← List.map_append, List.length_append, eq_self, frwS, frwH, frwRow, frzT, hasN, delL, hdel, idsA, idsL, viewN, hget, tk, isC, List.map_cons, List.map_nil, List.all_cons, List.all_nil, List.append_nil, List.drop, List.getElem?_cons_zero, List.getElem?_cons_succ, Bool.not_false, Bool.not_true, Bool.and_true, if_true, if_false, Nat.zero_add, List.length_map, simprocAttr])
    (try simp only [push_cast, simprocAttr]); refine call_lend [25000] none (lr := [rowB [⟨d0.name, d0.safe, d0.fresh ++ xs⟩, d1]]) (by simp [ndB]) (by first | rfl | simp [rowsOf, hget, rdR, rowS, rowN, rowC, sC, ndC, cmC]) (by simp [idsL, idsA]) (by simp [mvN]) (by simpa [rnA, ixOf] using hS) ?_
    rintro rv lr' rows ⟨L', g1, g2, rfl, rfl, rfl⟩
    have hlen := g1.length_eq
    simp only [List.length_cons, List.length_nil, Nat.reduceAdd] at hlen
    have hLY : L' = Y := by rw [hY]; exact wr_old hv hj hg g1 g2
    (refine ⟨by simp [shB, mvF, hlen], by simp [frB, baseOf], go_on ?_⟩; simp only [killA, killH, killRow, push_cast, simprocAttr])
    rw [hLY]
    have hYl : Y.length = 2 := by rw [← hLY]; exact hlen
    (try simp only [push_cast, simprocAttr])
    (refine at_call ?_; simp only [hYl, viewN, hget, tk, isC, List.map_cons, List.map_nil, List.length_map, List.length_cons, List.length_nil, Nat.reduceAdd, Nat.reduceEqDiff, if_true, if_false, reduceIte, simprocAttr]; refine rwc_v (hV2) (go_on ?_); (try simp only [push_cast, simprocAttr]))
    (try simp only [hd, Bool.not_false, push_cast, simprocAttr])
    refine at_ret ?_; simp only [Tryz.results48, push_cast, simprocAttr]
    simp [rX, ixOf]
  | true =>
    have hr : writeD [d0, d1] nm xs = (Y, true) := by rw [hwr, hd]; rfl
    rw [hr]
    refine pc_enter Tryz.func48 rfl rfl fun w0 fb => go_on ?_; (try simp only [Tryz.ntmps48, push_cast, simprocAttr])
    refine at_call ?_
    (try simp only [push_cast, simprocAttr])
    refine rwc_v hV ?_
    (try simp only [push_cast, simprocAttr])
    (refine at_dropS [6] (by refine wk_ok ?_ ?_ ?_ ?_ <;> simp [dropS, dropT, hasN, delL, hdel, leL, leH, idsL, idsA, idsR, inH, hget, sameRow]) ?_; simp only [dropS, dropT, hasN, delL, hdel, idsA, idsL, hget, List.map_cons, List.map_nil, List.all_cons, List.all_nil, List.append_nil, Bool.not_false, Bool.not_true, Bool.and_true, if_true, if_false, simprocAttr])
    refine go_on ?_
    (try simp only [hv, Bool.not_true, push_cast, simprocAttr])
    (refine at_call ?_; (try simp only [push_cast, simprocAttr]); refine rwc_v (hB) (go_on ?_); (try simp only [push_cast, simprocAttr]))
    (try simp only [hxb, Bool.not_true, push_cast, simprocAttr])
    (refine at_call ?_; (try simp only [push_cast, simprocAttr]); refine rwc_v (hI) (go_on ?_); (try simp only [push_cast, simprocAttr]))
    (try simp only [hi', Bool.not_true, push_cast, simprocAttr])
    refine call_lendX [] (lr := []) rfl rfl (by simp [idsL, idsA]) (by simpa [rfA] using hX) ?_
    rintro rv lr' rows ⟨rfl, rfl, rfl⟩
    refine ⟨rfl, by simp [frB, baseOf], go_on ?_⟩
    simp only [backX, hR, rowZ_rf, rfA, nmB, hsL, baseOf, hpOf, List.map_cons, List.map_nil, List.nil_append, List.length_nil, push_cast, simprocAttr]
    (refine at_call ?_; simp only [bC, viewN, hget, tk, isC, List.map_cons, List.map_nil, List.length_map, List.length_cons, List.length_nil, Nat.reduceAdd, Nat.reduceEqDiff, if_true, if_false, reduceIte, simprocAttr]; refine rwc_v (hF) (go_on ?_); (try simp only [push_cast, simprocAttr]))
    (try simp only [show ltI 0 0 = false from rfl, show toIx 0 2 = some 0 from rfl, bC, push_cast, simprocAttr])
    refine at_chk (by omega) ?_
    (try simp only [bC, push_cast, simprocAttr])
    (refine at_callW [25001, 25002] (by refine wk_frz ?_ ?_ ?_ ?_ <;> simp [← List.map_append, List.length_append, eq_self, frwS, frwH, frwRow, frzT, hasN, delL, hdel, leF, leHF, rowF, frzB, idsL, idsA, idsR, inH, hget, sameRow, viewN, tk]) ?_; simp only [← List.map_append, List.length_append, eq_self, frwS, frwH, frwRow, frzT, hasN, delL, hdel, idsA, idsL, viewN, hget, tk, isC, List.map_cons, List.map_nil, List.all_cons, List.all_nil, List.append_nil, List.drop, List.getElem?_cons_zero, List.getElem?_cons_succ, Bool.not_false, Bool.not_true, Bool.and_true, if_true, if_false, Nat.zero_add, List.length_map, simprocAttr])
    (try simp only [push_cast, simprocAttr]); refine call_lend [25000] none (lr := [rowB [⟨d0.name, d0.safe, d0.fresh ++ xs⟩, d1]]) (by simp [ndB]) (by first | rfl | simp [rowsOf, hget, rdR, rowS, rowN, rowC, sC, ndC, cmC]) (by simp [idsL, idsA]) (by simp [mvN]) (by simpa [rnA, ixOf] using hS) ?_
    rintro rv lr' rows ⟨L', g1, g2, rfl, rfl, rfl⟩
    have hlen := g1.length_eq
    simp only [List.length_cons, List.length_nil, Nat.reduceAdd] at hlen
    have hLY : L' = Y := by rw [hY]; exact wr_old hv hj hg g1 g2
    (refine ⟨by simp [shB, mvF, hlen], by simp [frB, baseOf], go_on ?_⟩; simp only [killA, killH, killRow, push_cast, simprocAttr])
    rw [hLY]
    have hYl : Y.length = 2 := by rw [← hLY]; exact hlen
    (try simp only [push_cast, simprocAttr])
    (refine at_call ?_; simp only [hYl, viewN, hget, tk, isC, List.map_cons, List.map_nil, List.length_map, List.length_cons, List.length_nil, Nat.reduceAdd, Nat.reduceEqDiff, if_true, if_false, reduceIte, simprocAttr]; refine rwc_v (hV2) (go_on ?_); (try simp only [push_cast, simprocAttr]))
    (try simp only [hd, Bool.not_true, push_cast, simprocAttr])
    (refine at_callW [25000] (by refine wk_frz ?_ ?_ ?_ ?_ <;> simp [hYl, frwS, frwH, frwRow, frzT, hasN, delL, hdel, leF, leHF, rowF, frzB, idsL, idsA, idsR, inH, hget, sameRow, viewN, tk]) ?_; simp only [hYl, frwS, frwH, frwRow, frzT, hasN, delL, hdel, idsA, idsL, viewN, hget, tk, isC, List.map_cons, List.map_nil, List.all_cons, List.all_nil, List.append_nil, List.drop, List.getElem?_cons_zero, List.getElem?_cons_succ, Bool.not_false, Bool.not_true, Bool.and_true, if_true, if_false, Nat.zero_add, List.length_map, simprocAttr])
    ((try simp only [push_cast, simprocAttr]); refine at_share2 (by simp [isC2, isC]) (by first | rfl | simp [ren]) (hC2) (go_on ?_); (try simp only [push_cast, simprocAttr]))
    refine at_ret ?_; simp only [Tryz.results48, push_cast, simprocAttr]
    simp [vX]
theorem DiskWrite_old21 (bs : List BD) (nm : Int) (xs : List Int) (hx : xs.length ≤ 2000000) (hv : diskB bs = true) (hxb : bytesB xs = true) (hi : inB nm 1 3 = true) (d : BD) (hj : bs[1]? = some d) (hg : getB bs nm = some d) (hix : ixB bs nm = 1) (hb : ∃ d0 d1, bs = [d0, d1]) : PC Tryz.prog 48 [blsA bs, iA nm, intsA xs] (vX (.tup [blsA (writeD bs nm xs).1, bA (writeD bs nm xs).2])) := by
  have hs := disk_sm hv
  have hn3 := disk_len hv
  have hV := DiskValid_pc bs hs
  have hB := bytesValid_pc xs (by omega)
  have hI := in_pc nm 1 3
  have hF := file_pc bs hs.n nm
  have hC := cloneDisk_pc bs hs
  have hi' : inR nm 1 3 = true := hi
  have hnm : 0 ≤ nm ∧ nm ≤ 3 := by simp only [inR, Bool.and_eq_true, decide_eq_true_eq] at hi'; omega
  have hwl := withB_len bs (wrB bs nm xs)
  have hnms := disk_names hv
  have hWs : SmD (wrB bs nm xs) := by
    unfold wrB
    cases hg : getB bs nm with
    | none => exact ⟨by simp, by simp only; omega⟩
    | some d =>
      have hm := (getB_name hg).2
      have hok := disk_okF hv hm
      simp only [okF, Bool.and_eq_true, decide_eq_true_eq] at hok
      exact ⟨(hs.d d hm).s, by simp only [List.length_append]; omega⟩
  have hws : SmB (withB bs (wrB bs nm xs)) := withB_sm hs (by omega) hWs
  obtain ⟨Y, hY⟩ : ∃ Y, Y = withB bs (wrB bs nm xs) := ⟨_, rfl⟩
  rw [← hY] at hws hwl
  have hwr : writeD bs nm xs = if diskB Y = true then (Y, true) else ([], false) := by unfold writeD; rw [hv, hxb, hi, ← hY]; rfl
  have hV2 := DiskValid_pc Y hws
  have hC2 := cloneDisk_d Y hws
  have emp : ∀ {q : PC Tryz.prog 48 [blsA bs, iA nm, intsA xs] (rX (.tup [.o 0 0, bA false]) [rowB []])}, PC Tryz.prog 48 [blsA bs, iA nm, intsA xs] (vX (.tup [blsA [], bA false])) := fun {q} => by
    have := q.frzX
    simp [viewN, hpOf, hget, isC, tk] at this
    exact this
  rw [hix] at hF
  obtain ⟨d0, d1, rfl⟩ := hb
  obtain rfl : d1 = d := Option.some.inj hj
  have hfl : d1.fresh.length ≤ 400 := by
    have := disk_okF hv (getB_name hg).2
    simp only [okF, Bool.and_eq_true, decide_eq_true_eq] at this
    omega
  have hX := cloneDisk_at [d0, d1] hs 1 d1 rfl
  have hR : rfRow (nmB [] 25000) (lnkR [d0, d1] 1 d1 1 2) = ⟨79, 3, [[iA d0.name, intsA d0.safe, intsA d0.fresh], [iA d1.name, .o 25001 d1.safe.length, .o 25002 d1.fresh.length]], false⟩ := by rw [lnk_rf _ (by simp)]; rfl
  have hS := sorted_pcl ([d0, ⟨d1.name, d1.safe, d1.fresh ++ xs⟩] : List BD) (by simp) fun d hd => by
    rcases mem_set_or (show d ∈ ([d0, d1] : List BD).set 1 ⟨d1.name, d1.safe, d1.fresh ++ xs⟩ from hd) with hd | rfl
    · exact hnms d hd
    · exact hnms d1 (by simp)
  cases hd : diskB Y with
  | false =>
    have hr : writeD [d0, d1] nm xs = ([], false) := by rw [hwr, hd]; rfl
    rw [hr]
    refine emp (q := ?_)
    refine pc_enter Tryz.func48 rfl rfl fun w0 fb => go_on ?_; (try simp only [Tryz.ntmps48, push_cast, simprocAttr])
    refine at_call ?_
    (try simp only [push_cast, simprocAttr])
    refine rwc_v hV ?_
    (try simp only [push_cast, simprocAttr])
    (refine at_dropS [6] (by refine wk_ok ?_ ?_ ?_ ?_ <;> simp [dropS, dropT, hasN, delL, hdel, leL, leH, idsL, idsA, idsR, inH, hget, sameRow]) ?_; simp only [dropS, dropT, hasN, delL, hdel, idsA, idsL, hget, List.map_cons, List.map_nil, List.all_cons, List.all_nil, List.append_nil, Bool.not_false, Bool.not_true, Bool.and_true, if_true, if_false, simprocAttr])
    refine go_on ?_
    (try simp only [hv, Bool.not_true, push_cast, simprocAttr])
    (refine at_call ?_; (try simp only [push_cast, simprocAttr]); refine rwc_v (hB) (go_on ?_); (try simp only [push_cast, simprocAttr]))
    (try simp only [hxb, Bool.not_true, push_cast, simprocAttr])
    (refine at_call ?_; (try simp only [push_cast, simprocAttr]); refine rwc_v (hI) (go_on ?_); (try simp only [push_cast, simprocAttr]))
    (try simp only [hi', Bool.not_true, push_cast, simprocAttr])
    refine call_lendX [] (lr := []) rfl rfl (by simp [idsL, idsA]) (by simpa [rfA] using hX) ?_
    rintro rv lr' rows ⟨rfl, rfl, rfl⟩
    refine ⟨rfl, by simp [frB, baseOf], go_on ?_⟩
    simp only [backX, hR, rowZ_rf, rfA, nmB, hsL, baseOf, hpOf, List.map_cons, List.map_nil, List.nil_append, List.length_nil, push_cast, simprocAttr]
    (refine at_call ?_; simp only [bC, viewN, hget, tk, isC, List.map_cons, List.map_nil, List.length_map, List.length_cons, List.length_nil, Nat.reduceAdd, Nat.reduceEqDiff, if_true, if_false, reduceIte, simprocAttr]; refine rwc_v (hF) (go_on ?_); (try simp only [push_cast, simprocAttr]))
    (try simp only [show ltI 1 0 = false from rfl, show toIx 1 2 = some 1 from rfl, bC, push_cast, simprocAttr])
    refine at_chk (by omega) ?_
    (try simp only [bC, push_cast, simprocAttr])
    (refine at_callW [25001, 25002] (by refine wk_frz ?_ ?_ ?_ ?_ <;> simp [← List.map_append, List.length_append, eq_self, frwS, frwH, frwRow, frzT, hasN, delL, hdel, leF, leHF, rowF, frzB, idsL, idsA, idsR, inH, hget, sameRow, viewN, tk]) ?_; simp only [← List.map_append, List.length_append, eq_self, frwS, frwH, frwRow, frzT, hasN, delL, hdel, idsA, idsL, viewN, hget, tk, isC, List.map_cons, List.map_nil, List.all_cons, List.all_nil, List.append_nil, List.drop, List.getElem?_cons_zero, List.getElem?_cons_succ, Bool.not_false, Bool.not_true, Bool.and_true, if_true, if_false, Nat.zero_add, List.length_map, simprocAttr])
    (try simp only [push_cast, simprocAttr]); refine call_lend [25000] none (lr := [rowB [d0, ⟨d1.name, d1.safe, d1.fresh ++ xs⟩]]) (by simp [ndB]) (by first | rfl | simp [rowsOf, hget, rdR, rowS, rowN, rowC, sC, ndC, cmC]) (by simp [idsL, idsA]) (by simp [mvN]) (by simpa [rnA, ixOf] using hS) ?_
    rintro rv lr' rows ⟨L', g1, g2, rfl, rfl, rfl⟩
    have hlen := g1.length_eq
    simp only [List.length_cons, List.length_nil, Nat.reduceAdd] at hlen
    have hLY : L' = Y := by rw [hY]; exact wr_old hv hj hg g1 g2
    (refine ⟨by simp [shB, mvF, hlen], by simp [frB, baseOf], go_on ?_⟩; simp only [killA, killH, killRow, push_cast, simprocAttr])
    rw [hLY]
    have hYl : Y.length = 2 := by rw [← hLY]; exact hlen
    (try simp only [push_cast, simprocAttr])
    (refine at_call ?_; simp only [hYl, viewN, hget, tk, isC, List.map_cons, List.map_nil, List.length_map, List.length_cons, List.length_nil, Nat.reduceAdd, Nat.reduceEqDiff, if_true, if_false, reduceIte, simprocAttr]; refine rwc_v (hV2) (go_on ?_); (try simp only [push_cast, simprocAttr]))
    (try simp only [hd, Bool.not_false, push_cast, simprocAttr])
    refine at_ret ?_; simp only [Tryz.results48, push_cast, simprocAttr]
    simp [rX, ixOf]
  | true =>
    have hr : writeD [d0, d1] nm xs = (Y, true) := by rw [hwr, hd]; rfl
    rw [hr]
    refine pc_enter Tryz.func48 rfl rfl fun w0 fb => go_on ?_; (try simp only [Tryz.ntmps48, push_cast, simprocAttr])
    refine at_call ?_
    (try simp only [push_cast, simprocAttr])
    refine rwc_v hV ?_
    (try simp only [push_cast, simprocAttr])
    (refine at_dropS [6] (by refine wk_ok ?_ ?_ ?_ ?_ <;> simp [dropS, dropT, hasN, delL, hdel, leL, leH, idsL, idsA, idsR, inH, hget, sameRow]) ?_; simp only [dropS, dropT, hasN, delL, hdel, idsA, idsL, hget, List.map_cons, List.map_nil, List.all_cons, List.all_nil, List.append_nil, Bool.not_false, Bool.not_true, Bool.and_true, if_true, if_false, simprocAttr])
    refine go_on ?_
    (try simp only [hv, Bool.not_true, push_cast, simprocAttr])
    (refine at_call ?_; (try simp only [push_cast, simprocAttr]); refine rwc_v (hB) (go_on ?_); (try simp only [push_cast, simprocAttr]))
    (try simp only [hxb, Bool.not_true, push_cast, simprocAttr])
    (refine at_call ?_; (try simp only [push_cast, simprocAttr]); refine rwc_v (hI) (go_on ?_); (try simp only [push_cast, simprocAttr]))
    (try simp only [hi', Bool.not_true, push_cast, simprocAttr])
    refine call_lendX [] (lr := []) rfl rfl (by simp [idsL, idsA]) (by simpa [rfA] using hX) ?_
    rintro rv lr' rows ⟨rfl, rfl, rfl⟩
    refine ⟨rfl, by simp [frB, baseOf], go_on ?_⟩
    simp only [backX, hR, rowZ_rf, rfA, nmB, hsL, baseOf, hpOf, List.map_cons, List.map_nil, List.nil_append, List.length_nil, push_cast, simprocAttr]
    (refine at_call ?_; simp only [bC, viewN, hget, tk, isC, List.map_cons, List.map_nil, List.length_map, List.length_cons, List.length_nil, Nat.reduceAdd, Nat.reduceEqDiff, if_true, if_false, reduceIte, simprocAttr]; refine rwc_v (hF) (go_on ?_); (try simp only [push_cast, simprocAttr]))
    (try simp only [show ltI 1 0 = false from rfl, show toIx 1 2 = some 1 from rfl, bC, push_cast, simprocAttr])
    refine at_chk (by omega) ?_
    (try simp only [bC, push_cast, simprocAttr])
    (refine at_callW [25001, 25002] (by refine wk_frz ?_ ?_ ?_ ?_ <;> simp [← List.map_append, List.length_append, eq_self, frwS, frwH, frwRow, frzT, hasN, delL, hdel, leF, leHF, rowF, frzB, idsL, idsA, idsR, inH, hget, sameRow, viewN, tk]) ?_; simp only [← List.map_append, List.length_append, eq_self, frwS, frwH, frwRow, frzT, hasN, delL, hdel, idsA, idsL, viewN, hget, tk, isC, List.map_cons, List.map_nil, List.all_cons, List.all_nil, List.append_nil, List.drop, List.getElem?_cons_zero, List.getElem?_cons_succ, Bool.not_false, Bool.not_true, Bool.and_true, if_true, if_false, Nat.zero_add, List.length_map, simprocAttr])
    (try simp only [push_cast, simprocAttr]); refine call_lend [25000] none (lr := [rowB [d0, ⟨d1.name, d1.safe, d1.fresh ++ xs⟩]]) (by simp [ndB]) (by first | rfl | simp [rowsOf, hget, rdR, rowS, rowN, rowC, sC, ndC, cmC]) (by simp [idsL, idsA]) (by simp [mvN]) (by simpa [rnA, ixOf] using hS) ?_
    rintro rv lr' rows ⟨L', g1, g2, rfl, rfl, rfl⟩
    have hlen := g1.length_eq
    simp only [List.length_cons, List.length_nil, Nat.reduceAdd] at hlen
    have hLY : L' = Y := by rw [hY]; exact wr_old hv hj hg g1 g2
    (refine ⟨by simp [shB, mvF, hlen], by simp [frB, baseOf], go_on ?_⟩; simp only [killA, killH, killRow, push_cast, simprocAttr])
    rw [hLY]
    have hYl : Y.length = 2 := by rw [← hLY]; exact hlen
    (try simp only [push_cast, simprocAttr])
    (refine at_call ?_; simp only [hYl, viewN, hget, tk, isC, List.map_cons, List.map_nil, List.length_map, List.length_cons, List.length_nil, Nat.reduceAdd, Nat.reduceEqDiff, if_true, if_false, reduceIte, simprocAttr]; refine rwc_v (hV2) (go_on ?_); (try simp only [push_cast, simprocAttr]))
    (try simp only [hd, Bool.not_true, push_cast, simprocAttr])
    (refine at_callW [25000] (by refine wk_frz ?_ ?_ ?_ ?_ <;> simp [hYl, frwS, frwH, frwRow, frzT, hasN, delL, hdel, leF, leHF, rowF, frzB, idsL, idsA, idsR, inH, hget, sameRow, viewN, tk]) ?_; simp only [hYl, frwS, frwH, frwRow, frzT, hasN, delL, hdel, idsA, idsL, viewN, hget, tk, isC, List.map_cons, List.map_nil, List.all_cons, List.all_nil, List.append_nil, List.drop, List.getElem?_cons_zero, List.getElem?_cons_succ, Bool.not_false, Bool.not_true, Bool.and_true, if_true, if_false, Nat.zero_add, List.length_map, simprocAttr])
    ((try simp only [push_cast, simprocAttr]); refine at_share2 (by simp [isC2, isC]) (by first | rfl | simp [ren]) (hC2) (go_on ?_); (try simp only [push_cast, simprocAttr]))
    refine at_ret ?_; simp only [Tryz.results48, push_cast, simprocAttr]
    simp [vX]
theorem DiskWrite_old30 (bs : List BD) (nm : Int) (xs : List Int) (hx : xs.length ≤ 2000000) (hv : diskB bs = true) (hxb : bytesB xs = true) (hi : inB nm 1 3 = true) (d : BD) (hj : bs[0]? = some d) (hg : getB bs nm = some d) (hix : ixB bs nm = 0) (hb : ∃ d0 d1 d2, bs = [d0, d1, d2]) : PC Tryz.prog 48 [blsA bs, iA nm, intsA xs] (vX (.tup [blsA (writeD bs nm xs).1, bA (writeD bs nm xs).2])) := by
  have hs := disk_sm hv
  have hn3 := disk_len hv
  have hV := DiskValid_pc bs hs
  have hB := bytesValid_pc xs (by omega)
  have hI := in_pc nm 1 3
  have hF := file_pc bs hs.n nm
  have hC := cloneDisk_pc bs hs
  have hi' : inR nm 1 3 = true := hi
  have hnm : 0 ≤ nm ∧ nm ≤ 3 := by simp only [inR, Bool.and_eq_true, decide_eq_true_eq] at hi'; omega
  have hwl := withB_len bs (wrB bs nm xs)
  have hnms := disk_names hv
  have hWs : SmD (wrB bs nm xs) := by
    unfold wrB
    cases hg : getB bs nm with
    | none => exact ⟨by simp, by simp only; omega⟩
    | some d =>
      have hm := (getB_name hg).2
      have hok := disk_okF hv hm
      simp only [okF, Bool.and_eq_true, decide_eq_true_eq] at hok
      exact ⟨(hs.d d hm).s, by simp only [List.length_append]; omega⟩
  have hws : SmB (withB bs (wrB bs nm xs)) := withB_sm hs (by omega) hWs
  obtain ⟨Y, hY⟩ : ∃ Y, Y = withB bs (wrB bs nm xs) := ⟨_, rfl⟩
  rw [← hY] at hws hwl
  have hwr : writeD bs nm xs = if diskB Y = true then (Y, true) else ([], false) := by unfold writeD; rw [hv, hxb, hi, ← hY]; rfl
  have hV2 := DiskValid_pc Y hws
  have hC2 := cloneDisk_d Y hws
  have emp : ∀ {q : PC Tryz.prog 48 [blsA bs, iA nm, intsA xs] (rX (.tup [.o 0 0, bA false]) [rowB []])}, PC Tryz.prog 48 [blsA bs, iA nm, intsA xs] (vX (.tup [blsA [], bA false])) := fun {q} => by
    have := q.frzX
    simp [viewN, hpOf, hget, isC, tk] at this
    exact this
  rw [hix] at hF
  obtain ⟨d0, d1, d2, rfl⟩ := hb
  obtain rfl : d0 = d := Option.some.inj hj
  have hfl : d0.fresh.length ≤ 400 := by
    have := disk_okF hv (getB_name hg).2
    simp only [okF, Bool.and_eq_true, decide_eq_true_eq] at this
    omega
  have hX := cloneDisk_at [d0, d1, d2] hs 0 d0 rfl
  have hR : rfRow (nmB [] 25000) (lnkR [d0, d1, d2] 0 d0 1 2) = ⟨79, 3, [[iA d0.name, .o 25001 d0.safe.length, .o 25002 d0.fresh.length], [iA d1.name, intsA d1.safe, intsA d1.fresh], [iA d2.name, intsA d2.safe, intsA d2.fresh]], false⟩ := by rw [lnk_rf _ (by simp)]; rfl
  have hS := sorted_pcl ([⟨d0.name, d0.safe, d0.fresh ++ xs⟩, d1, d2] : List BD) (by simp) fun d hd => by
    rcases mem_set_or (show d ∈ ([d0, d1, d2] : List BD).set 0 ⟨d0.name, d0.safe, d0.fresh ++ xs⟩ from hd) with hd | rfl
    · exact hnms d hd
    · exact hnms d0 (by simp)
  cases hd : diskB Y with
  | false =>
    have hr : writeD [d0, d1, d2] nm xs = ([], false) := by rw [hwr, hd]; rfl
    rw [hr]
    refine emp (q := ?_)
    refine pc_enter Tryz.func48 rfl rfl fun w0 fb => go_on ?_; (try simp only [Tryz.ntmps48, push_cast, simprocAttr])
    refine at_call ?_
    (try simp only [push_cast, simprocAttr])
    refine rwc_v hV ?_
    (try simp only [push_cast, simprocAttr])
    (refine at_dropS [6] (by refine wk_ok ?_ ?_ ?_ ?_ <;> simp [dropS, dropT, hasN, delL, hdel, leL, leH, idsL, idsA, idsR, inH, hget, sameRow]) ?_; simp only [dropS, dropT, hasN, delL, hdel, idsA, idsL, hget, List.map_cons, List.map_nil, List.all_cons, List.all_nil, List.append_nil, Bool.not_false, Bool.not_true, Bool.and_true, if_true, if_false, simprocAttr])
    refine go_on ?_
    (try simp only [hv, Bool.not_true, push_cast, simprocAttr])
    (refine at_call ?_; (try simp only [push_cast, simprocAttr]); refine rwc_v (hB) (go_on ?_); (try simp only [push_cast, simprocAttr]))
    (try simp only [hxb, Bool.not_true, push_cast, simprocAttr])
    (refine at_call ?_; (try simp only [push_cast, simprocAttr]); refine rwc_v (hI) (go_on ?_); (try simp only [push_cast, simprocAttr]))
    (try simp only [hi', Bool.not_true, push_cast, simprocAttr])
    refine call_lendX [] (lr := []) rfl rfl (by simp [idsL, idsA]) (by simpa [rfA] using hX) ?_
    rintro rv lr' rows ⟨rfl, rfl, rfl⟩
    refine ⟨rfl, by simp [frB, baseOf], go_on ?_⟩
    simp only [backX, hR, rowZ_rf, rfA, nmB, hsL, baseOf, hpOf, List.map_cons, List.map_nil, List.nil_append, List.length_nil, push_cast, simprocAttr]
    (refine at_call ?_; simp only [bC, viewN, hget, tk, isC, List.map_cons, List.map_nil, List.length_map, List.length_cons, List.length_nil, Nat.reduceAdd, Nat.reduceEqDiff, if_true, if_false, reduceIte, simprocAttr]; refine rwc_v (hF) (go_on ?_); (try simp only [push_cast, simprocAttr]))
    (try simp only [show ltI 0 0 = false from rfl, show toIx 0 3 = some 0 from rfl, bC, push_cast, simprocAttr])
    refine at_chk (by omega) ?_
    (try simp only [bC, push_cast, simprocAttr])
    (refine at_callW [25001, 25002] (by refine wk_frz ?_ ?_ ?_ ?_ <;> simp [← List.map_append, List.length_append, eq_self, frwS, frwH, frwRow, frzT, hasN, delL, hdel, leF, leHF, rowF, frzB, idsL, idsA, idsR, inH, hget, sameRow, viewN, tk]) ?_; simp only [← List.map_append, List.length_append, eq_self, frwS, frwH, frwRow, frzT, hasN, delL, hdel, idsA, idsL, viewN, hget, tk, isC, List.map_cons, List.map_nil, List.all_cons, List.all_nil, List.append_nil, List.drop, List.getElem?_cons_zero, List.getElem?_cons_succ, Bool.not_false, Bool.not_true, Bool.and_true, if_true, if_false, Nat.zero_add, List.length_map, simprocAttr])
    (try simp only [push_cast, simprocAttr]); refine call_lend [25000] none (lr := [rowB [⟨d0.name, d0.safe, d0.fresh ++ xs⟩, d1, d2]]) (by simp [ndB]) (by first | rfl | simp [rowsOf, hget, rdR, rowS, rowN, rowC, sC, ndC, cmC]) (by simp [idsL, idsA]) (by simp [mvN]) (by simpa [rnA, ixOf] using hS) ?_
    rintro rv lr' rows ⟨L', g1, g2, rfl, rfl, rfl⟩
    have hlen := g1.length_eq
    simp only [List.length_cons, List.length_nil, Nat.reduceAdd] at hlen
    have hLY : L' = Y := by rw [hY]; exact wr_old hv hj hg g1 g2
    (refine ⟨by simp [shB, mvF, hlen], by simp [frB, baseOf], go_on ?_⟩; simp only [killA, killH, killRow, push_cast, simprocAttr])
    rw [hLY]
    have hYl : Y.length = 3 := by rw [← hLY]; exact hlen
    (try simp only [push_cast, simprocAttr])
    (refine at_call ?_; simp only [hYl, viewN, hget, tk, isC, List.map_cons, List.map_nil, List.length_map, List.length_cons, List.length_nil, Nat.reduceAdd, Nat.reduceEqDiff, if_true, if_false, reduceIte, simprocAttr]; refine rwc_v (hV2) (go_on ?_); (try simp only [push_cast, simprocAttr]))
    (try simp only [hd, Bool.not_false, push_cast, simprocAttr])
    refine at_ret ?_; simp only [Tryz.results48, push_cast, simprocAttr]
    simp [rX, ixOf]
  | true =>
    have hr : writeD [d0, d1, d2] nm xs = (Y, true) := by rw [hwr, hd]; rfl
    rw [hr]
    refine pc_enter Tryz.func48 rfl rfl fun w0 fb => go_on ?_; (try simp only [Tryz.ntmps48, push_cast, simprocAttr])
    refine at_call ?_
    (try simp only [push_cast, simprocAttr])
    refine rwc_v hV ?_
    (try simp only [push_cast, simprocAttr])
    (refine at_dropS [6] (by refine wk_ok ?_ ?_ ?_ ?_ <;> simp [dropS, dropT, hasN, delL, hdel, leL, leH, idsL, idsA, idsR, inH, hget, sameRow]) ?_; simp only [dropS, dropT, hasN, delL, hdel, idsA, idsL, hget, List.map_cons, List.map_nil, List.all_cons, List.all_nil, List.append_nil, Bool.not_false, Bool.not_true, Bool.and_true, if_true, if_false, simprocAttr])
    refine go_on ?_
    (try simp only [hv, Bool.not_true, push_cast, simprocAttr])
    (refine at_call ?_; (try simp only [push_cast, simprocAttr]); refine rwc_v (hB) (go_on ?_); (try simp only [push_cast, simprocAttr]))
    (try simp only [hxb, Bool.not_true, push_cast, simprocAttr])
    (refine at_call ?_; (try simp only [push_cast, simprocAttr]); refine rwc_v (hI) (go_on ?_); (try simp only [push_cast, simprocAttr]))
    (try simp only [hi', Bool.not_true, push_cast, simprocAttr])
    refine call_lendX [] (lr := []) rfl rfl (by simp [idsL, idsA]) (by simpa [rfA] using hX) ?_
    rintro rv lr' rows ⟨rfl, rfl, rfl⟩
    refine ⟨rfl, by simp [frB, baseOf], go_on ?_⟩
    simp only [backX, hR, rowZ_rf, rfA, nmB, hsL, baseOf, hpOf, List.map_cons, List.map_nil, List.nil_append, List.length_nil, push_cast, simprocAttr]
    (refine at_call ?_; simp only [bC, viewN, hget, tk, isC, List.map_cons, List.map_nil, List.length_map, List.length_cons, List.length_nil, Nat.reduceAdd, Nat.reduceEqDiff, if_true, if_false, reduceIte, simprocAttr]; refine rwc_v (hF) (go_on ?_); (try simp only [push_cast, simprocAttr]))
    (try simp only [show ltI 0 0 = false from rfl, show toIx 0 3 = some 0 from rfl, bC, push_cast, simprocAttr])
    refine at_chk (by omega) ?_
    (try simp only [bC, push_cast, simprocAttr])
    (refine at_callW [25001, 25002] (by refine wk_frz ?_ ?_ ?_ ?_ <;> simp [← List.map_append, List.length_append, eq_self, frwS, frwH, frwRow, frzT, hasN, delL, hdel, leF, leHF, rowF, frzB, idsL, idsA, idsR, inH, hget, sameRow, viewN, tk]) ?_; simp only [← List.map_append, List.length_append, eq_self, frwS, frwH, frwRow, frzT, hasN, delL, hdel, idsA, idsL, viewN, hget, tk, isC, List.map_cons, List.map_nil, List.all_cons, List.all_nil, List.append_nil, List.drop, List.getElem?_cons_zero, List.getElem?_cons_succ, Bool.not_false, Bool.not_true, Bool.and_true, if_true, if_false, Nat.zero_add, List.length_map, simprocAttr])
    (try simp only [push_cast, simprocAttr]); refine call_lend [25000] none (lr := [rowB [⟨d0.name, d0.safe, d0.fresh ++ xs⟩, d1, d2]]) (by simp [ndB]) (by first | rfl | simp [rowsOf, hget, rdR, rowS, rowN, rowC, sC, ndC, cmC]) (by simp [idsL, idsA]) (by simp [mvN]) (by simpa [rnA, ixOf] using hS) ?_
    rintro rv lr' rows ⟨L', g1, g2, rfl, rfl, rfl⟩
    have hlen := g1.length_eq
    simp only [List.length_cons, List.length_nil, Nat.reduceAdd] at hlen
    have hLY : L' = Y := by rw [hY]; exact wr_old hv hj hg g1 g2
    (refine ⟨by simp [shB, mvF, hlen], by simp [frB, baseOf], go_on ?_⟩; simp only [killA, killH, killRow, push_cast, simprocAttr])
    rw [hLY]
    have hYl : Y.length = 3 := by rw [← hLY]; exact hlen
    (try simp only [push_cast, simprocAttr])
    (refine at_call ?_; simp only [hYl, viewN, hget, tk, isC, List.map_cons, List.map_nil, List.length_map, List.length_cons, List.length_nil, Nat.reduceAdd, Nat.reduceEqDiff, if_true, if_false, reduceIte, simprocAttr]; refine rwc_v (hV2) (go_on ?_); (try simp only [push_cast, simprocAttr]))
    (try simp only [hd, Bool.not_true, push_cast, simprocAttr])
    (refine at_callW [25000] (by refine wk_frz ?_ ?_ ?_ ?_ <;> simp [hYl, frwS, frwH, frwRow, frzT, hasN, delL, hdel, leF, leHF, rowF, frzB, idsL, idsA, idsR, inH, hget, sameRow, viewN, tk]) ?_; simp only [hYl, frwS, frwH, frwRow, frzT, hasN, delL, hdel, idsA, idsL, viewN, hget, tk, isC, List.map_cons, List.map_nil, List.all_cons, List.all_nil, List.append_nil, List.drop, List.getElem?_cons_zero, List.getElem?_cons_succ, Bool.not_false, Bool.not_true, Bool.and_true, if_true, if_false, Nat.zero_add, List.length_map, simprocAttr])
    ((try simp only [push_cast, simprocAttr]); refine at_share2 (by simp [isC2, isC]) (by first | rfl | simp [ren]) (hC2) (go_on ?_); (try simp only [push_cast, simprocAttr]))
    refine at_ret ?_; simp only [Tryz.results48, push_cast, simprocAttr]
    simp [vX]
theorem DiskWrite_old31 (bs : List BD) (nm : Int) (xs : List Int) (hx : xs.length ≤ 2000000) (hv : diskB bs = true) (hxb : bytesB xs = true) (hi : inB nm 1 3 = true) (d : BD) (hj : bs[1]? = some d) (hg : getB bs nm = some d) (hix : ixB bs nm = 1) (hb : ∃ d0 d1 d2, bs = [d0, d1, d2]) : PC Tryz.prog 48 [blsA bs, iA nm, intsA xs] (vX (.tup [blsA (writeD bs nm xs).1, bA (writeD bs nm xs).2])) := by
  have hs := disk_sm hv
  have hn3 := disk_len hv
  have hV := DiskValid_pc bs hs
  have hB := bytesValid_pc xs (by omega)
  have hI := in_pc nm 1 3
  have hF := file_pc bs hs.n nm
  have hC := cloneDisk_pc bs hs
  have hi' : inR nm 1 3 = true := hi
  have hnm : 0 ≤ nm ∧ nm ≤ 3 := by simp only [inR, Bool.and_eq_true, decide_eq_true_eq] at hi'; omega
  have hwl := withB_len bs (wrB bs nm xs)
  have hnms := disk_names hv
  have hWs : SmD (wrB bs nm xs) := by
    unfold wrB
    cases hg : getB bs nm with
    | none => exact ⟨by simp, by simp only; omega⟩
    | some d =>
      have hm := (getB_name hg).2
      have hok := disk_okF hv hm
      simp only [okF, Bool.and_eq_true, decide_eq_true_eq] at hok
      exact ⟨(hs.d d hm).s, by simp only [List.length_append]; omega⟩
  have hws : SmB (withB bs (wrB bs nm xs)) := withB_sm hs (by omega) hWs
  obtain ⟨Y, hY⟩ : ∃ Y, Y = withB bs (wrB bs nm xs) := ⟨_, rfl⟩
  rw [← hY] at hws hwl
  have hwr : writeD bs nm xs = if diskB Y = true then (Y, true) else ([], false) := by unfold writeD; rw [hv, hxb, hi, ← hY]; rfl
  have hV2 := DiskValid_pc Y hws
  have hC2 := cloneDisk_d Y hws
  have emp : ∀ {q : PC Tryz.prog 48 [blsA bs, iA nm, intsA xs] (rX (.tup [.o 0 0, bA false]) [rowB []])}, PC Tryz.prog 48 [blsA bs, iA nm, intsA xs] (vX (.tup [blsA [], bA false])) := fun {q} => by
    have := q.frzX
    simp [viewN, hpOf, hget, isC, tk] at this
    exact this
  rw [hix] at hF
  obtain ⟨d0, d1, d2, rfl⟩ := hb
  obtain rfl : d1 = d := Option.some.inj hj
  have hfl : d1.fresh.length ≤ 400 := by
    have := disk_okF hv (getB_name hg).2
    simp only [okF, Bool.and_eq_true, decide_eq_true_eq] at this
    omega
  have hX := cloneDisk_at [d0, d1, d2] hs 1 d1 rfl
  have hR : rfRow (nmB [] 25000) (lnkR [d0, d1, d2] 1 d1 1 2) = ⟨79, 3, [[iA d0.name, intsA d0.safe, intsA d0.fresh], [iA d1.name, .o 25001 d1.safe.length, .o 25002 d1.fresh.length], [iA d2.name, intsA d2.safe, intsA d2.fresh]], false⟩ := by rw [lnk_rf _ (by simp)]; rfl
  have hS := sorted_pcl ([d0, ⟨d1.name, d1.safe, d1.fresh ++ xs⟩, d2] : List BD) (by simp) fun d hd => by
    rcases mem_set_or (show d ∈ ([d0, d1, d2] : List BD).set 1 ⟨d1.name, d1.safe, d1.fresh ++ xs⟩ from hd) with hd | rfl
    · exact hnms d hd
    · exact hnms d1 (by simp)
  cases hd : diskB Y with
  | false =>
    have hr : writeD [d0, d1, d2] nm xs = ([], false) := by rw [hwr, hd]; rfl
    rw [hr]
    refine emp (q := ?_)
    refine pc_enter Tryz.func48 rfl rfl fun w0 fb => go_on ?_; (try simp only [Tryz.ntmps48, push_cast, simprocAttr])
    refine at_call ?_
    (try simp only [push_cast, simprocAttr])
    refine rwc_v hV ?_
    (try simp only [push_cast, simprocAttr])
    (refine at_dropS [6] (by refine wk_ok ?_ ?_ ?_ ?_ <;> simp [dropS, dropT, hasN, delL, hdel, leL, leH, idsL, idsA, idsR, inH, hget, sameRow]) ?_; simp only [dropS, dropT, hasN, delL, hdel, idsA, idsL, hget, List.map_cons, List.map_nil, List.all_cons, List.all_nil, List.append_nil, Bool.not_false, Bool.not_true, Bool.and_true, if_true, if_false, simprocAttr])
    refine go_on ?_
    (try simp only [hv, Bool.not_true, push_cast, simprocAttr])
    (refine at_call ?_; (try simp only [push_cast, simprocAttr]); refine rwc_v (hB) (go_on ?_); (try simp only [push_cast, simprocAttr]))
    (try simp only [hxb, Bool.not_true, push_cast, simprocAttr])
    (refine at_call ?_; (try simp only [push_cast, simprocAttr]); refine rwc_v (hI) (go_on ?_); (try simp only [push_cast, simprocAttr]))
    (try simp only [hi', Bool.not_true, push_cast, simprocAttr])
    refine call_lendX [] (lr := []) rfl rfl (by simp [idsL, idsA]) (by simpa [rfA] using hX) ?_
    rintro rv lr' rows ⟨rfl, rfl, rfl⟩
    refine ⟨rfl, by simp [frB, baseOf], go_on ?_⟩
    simp only [backX, hR, rowZ_rf, rfA, nmB, hsL, baseOf, hpOf, List.map_cons, List.map_nil, List.nil_append, List.length_nil, push_cast, simprocAttr]
    (refine at_call ?_; simp only [bC, viewN, hget, tk, isC, List.map_cons, List.map_nil, List.length_map, List.length_cons, List.length_nil, Nat.reduceAdd, Nat.reduceEqDiff, if_true, if_false, reduceIte, simprocAttr]; refine rwc_v (hF) (go_on ?_); (try simp only [push_cast, simprocAttr]))
    (try simp only [show ltI 1 0 = false from rfl, show toIx 1 3 = some 1 from rfl, bC, push_cast, simprocAttr])
    refine at_chk (by omega) ?_
    (try simp only [bC, push_cast, simprocAttr])
    (refine at_callW [25001, 25002] (by refine wk_frz ?_ ?_ ?_ ?_ <;> simp [← List.map_append, List.length_append, eq_self, frwS, frwH, frwRow, frzT, hasN, delL, hdel, leF, leHF, rowF, frzB, idsL, idsA, idsR, inH, hget, sameRow, viewN, tk]) ?_; simp only [← List.map_append, List.length_append, eq_self, frwS, frwH, frwRow, frzT, hasN, delL, hdel, idsA, idsL, viewN, hget, tk, isC, List.map_cons, List.map_nil, List.all_cons, List.all_nil, List.append_nil, List.drop, List.getElem?_cons_zero, List.getElem?_cons_succ, Bool.not_false, Bool.not_true, Bool.and_true, if_true, if_false, Nat.zero_add, List.length_map, simprocAttr])
    (try simp only [push_cast, simprocAttr]); refine call_lend [25000] none (lr := [rowB [d0, ⟨d1.name, d1.safe, d1.fresh ++ xs⟩, d2]]) (by simp [ndB]) (by first | rfl | simp [rowsOf, hget, rdR, rowS, rowN, rowC, sC, ndC, cmC]) (by simp [idsL, idsA]) (by simp [mvN]) (by simpa [rnA, ixOf] using hS) ?_
    rintro rv lr' rows ⟨L', g1, g2, rfl, rfl, rfl⟩
    have hlen := g1.length_eq
    simp only [List.length_cons, List.length_nil, Nat.reduceAdd] at hlen
    have hLY : L' = Y := by rw [hY]; exact wr_old hv hj hg g1 g2
    (refine ⟨by simp [shB, mvF, hlen], by simp [frB, baseOf], go_on ?_⟩; simp only [killA, killH, killRow, push_cast, simprocAttr])
    rw [hLY]
    have hYl : Y.length = 3 := by rw [← hLY]; exact hlen
    (try simp only [push_cast, simprocAttr])
    (refine at_call ?_; simp only [hYl, viewN, hget, tk, isC, List.map_cons, List.map_nil, List.length_map, List.length_cons, List.length_nil, Nat.reduceAdd, Nat.reduceEqDiff, if_true, if_false, reduceIte, simprocAttr]; refine rwc_v (hV2) (go_on ?_); (try simp only [push_cast, simprocAttr]))
    (try simp only [hd, Bool.not_false, push_cast, simprocAttr])
    refine at_ret ?_; simp only [Tryz.results48, push_cast, simprocAttr]
    simp [rX, ixOf]
  | true =>
    have hr : writeD [d0, d1, d2] nm xs = (Y, true) := by rw [hwr, hd]; rfl
    rw [hr]
    refine pc_enter Tryz.func48 rfl rfl fun w0 fb => go_on ?_; (try simp only [Tryz.ntmps48, push_cast, simprocAttr])
    refine at_call ?_
    (try simp only [push_cast, simprocAttr])
    refine rwc_v hV ?_
    (try simp only [push_cast, simprocAttr])
    (refine at_dropS [6] (by refine wk_ok ?_ ?_ ?_ ?_ <;> simp [dropS, dropT, hasN, delL, hdel, leL, leH, idsL, idsA, idsR, inH, hget, sameRow]) ?_; simp only [dropS, dropT, hasN, delL, hdel, idsA, idsL, hget, List.map_cons, List.map_nil, List.all_cons, List.all_nil, List.append_nil, Bool.not_false, Bool.not_true, Bool.and_true, if_true, if_false, simprocAttr])
    refine go_on ?_
    (try simp only [hv, Bool.not_true, push_cast, simprocAttr])
    (refine at_call ?_; (try simp only [push_cast, simprocAttr]); refine rwc_v (hB) (go_on ?_); (try simp only [push_cast, simprocAttr]))
    (try simp only [hxb, Bool.not_true, push_cast, simprocAttr])
    (refine at_call ?_; (try simp only [push_cast, simprocAttr]); refine rwc_v (hI) (go_on ?_); (try simp only [push_cast, simprocAttr]))
    (try simp only [hi', Bool.not_true, push_cast, simprocAttr])
    refine call_lendX [] (lr := []) rfl rfl (by simp [idsL, idsA]) (by simpa [rfA] using hX) ?_
    rintro rv lr' rows ⟨rfl, rfl, rfl⟩
    refine ⟨rfl, by simp [frB, baseOf], go_on ?_⟩
    simp only [backX, hR, rowZ_rf, rfA, nmB, hsL, baseOf, hpOf, List.map_cons, List.map_nil, List.nil_append, List.length_nil, push_cast, simprocAttr]
    (refine at_call ?_; simp only [bC, viewN, hget, tk, isC, List.map_cons, List.map_nil, List.length_map, List.length_cons, List.length_nil, Nat.reduceAdd, Nat.reduceEqDiff, if_true, if_false, reduceIte, simprocAttr]; refine rwc_v (hF) (go_on ?_); (try simp only [push_cast, simprocAttr]))
    (try simp only [show ltI 1 0 = false from rfl, show toIx 1 3 = some 1 from rfl, bC, push_cast, simprocAttr])
    refine at_chk (by omega) ?_
    (try simp only [bC, push_cast, simprocAttr])
    (refine at_callW [25001, 25002] (by refine wk_frz ?_ ?_ ?_ ?_ <;> simp [← List.map_append, List.length_append, eq_self, frwS, frwH, frwRow, frzT, hasN, delL, hdel, leF, leHF, rowF, frzB, idsL, idsA, idsR, inH, hget, sameRow, viewN, tk]) ?_; simp only [← List.map_append, List.length_append, eq_self, frwS, frwH, frwRow, frzT, hasN, delL, hdel, idsA, idsL, viewN, hget, tk, isC, List.map_cons, List.map_nil, List.all_cons, List.all_nil, List.append_nil, List.drop, List.getElem?_cons_zero, List.getElem?_cons_succ, Bool.not_false, Bool.not_true, Bool.and_true, if_true, if_false, Nat.zero_add, List.length_map, simprocAttr])
    (try simp only [push_cast, simprocAttr]); refine call_lend [25000] none (lr := [rowB [d0, ⟨d1.name, d1.safe, d1.fresh ++ xs⟩, d2]]) (by simp [ndB]) (by first | rfl | simp [rowsOf, hget, rdR, rowS, rowN, rowC, sC, ndC, cmC]) (by simp [idsL, idsA]) (by simp [mvN]) (by simpa [rnA, ixOf] using hS) ?_
    rintro rv lr' rows ⟨L', g1, g2, rfl, rfl, rfl⟩
    have hlen := g1.length_eq
    simp only [List.length_cons, List.length_nil, Nat.reduceAdd] at hlen
    have hLY : L' = Y := by rw [hY]; exact wr_old hv hj hg g1 g2
    (refine ⟨by simp [shB, mvF, hlen], by simp [frB, baseOf], go_on ?_⟩; simp only [killA, killH, killRow, push_cast, simprocAttr])
    rw [hLY]
    have hYl : Y.length = 3 := by rw [← hLY]; exact hlen
    (try simp only [push_cast, simprocAttr])
    (refine at_call ?_; simp only [hYl, viewN, hget, tk, isC, List.map_cons, List.map_nil, List.length_map, List.length_cons, List.length_nil, Nat.reduceAdd, Nat.reduceEqDiff, if_true, if_false, reduceIte, simprocAttr]; refine rwc_v (hV2) (go_on ?_); (try simp only [push_cast, simprocAttr]))
    (try simp only [hd, Bool.not_true, push_cast, simprocAttr])
    (refine at_callW [25000] (by refine wk_frz ?_ ?_ ?_ ?_ <;> simp [hYl, frwS, frwH, frwRow, frzT, hasN, delL, hdel, leF, leHF, rowF, frzB, idsL, idsA, idsR, inH, hget, sameRow, viewN, tk]) ?_; simp only [hYl, frwS, frwH, frwRow, frzT, hasN, delL, hdel, idsA, idsL, viewN, hget, tk, isC, List.map_cons, List.map_nil, List.all_cons, List.all_nil, List.append_nil, List.drop, List.getElem?_cons_zero, List.getElem?_cons_succ, Bool.not_false, Bool.not_true, Bool.and_true, if_true, if_false, Nat.zero_add, List.length_map, simprocAttr])
    ((try simp only [push_cast, simprocAttr]); refine at_share2 (by simp [isC2, isC]) (by first | rfl | simp [ren]) (hC2) (go_on ?_); (try simp only [push_cast, simprocAttr]))
    refine at_ret ?_; simp only [Tryz.results48, push_cast, simprocAttr]
    simp [vX]
theorem DiskWrite_old32 (bs : List BD) (nm : Int) (xs : List Int) (hx : xs.length ≤ 2000000) (hv : diskB bs = true) (hxb : bytesB xs = true) (hi : inB nm 1 3 = true) (d : BD) (hj : bs[2]? = some d) (hg : getB bs nm = some d) (hix : ixB bs nm = 2) (hb : ∃ d0 d1 d2, bs = [d0, d1, d2]) : PC Tryz.prog 48 [blsA bs, iA nm, intsA xs] (vX (.tup [blsA (writeD bs nm xs).1, bA (writeD bs nm xs).2])) := by
  have hs := disk_sm hv
  have hn3 := disk_len hv
  have hV := DiskValid_pc bs hs
  have hB := bytesValid_pc xs (by omega)
  have hI := in_pc nm 1 3
  have hF := file_pc bs hs.n nm
  have hC := cloneDisk_pc bs hs
  have hi' : inR nm 1 3 = true := hi
  have hnm : 0 ≤ nm ∧ nm ≤ 3 := by simp only [inR, Bool.and_eq_true, decide_eq_true_eq] at hi'; omega
  have hwl := withB_len bs (wrB bs nm xs)
  have hnms := disk_names hv
  have hWs : SmD (wrB bs nm xs) := by
    unfold wrB
    cases hg : getB bs nm with
    | none => exact ⟨by simp, by simp only; omega⟩
    | some d =>
      have hm := (getB_name hg).2
      have hok := disk_okF hv hm
      simp only [okF, Bool.and_eq_true, decide_eq_true_eq] at hok
      exact ⟨(hs.d d hm).s, by simp only [List.length_append]; omega⟩
  have hws : SmB (withB bs (wrB bs nm xs)) := withB_sm hs (by omega) hWs
  obtain ⟨Y, hY⟩ : ∃ Y, Y = withB bs (wrB bs nm xs) := ⟨_, rfl⟩
  rw [← hY] at hws hwl
  have hwr : writeD bs nm xs = if diskB Y = true then (Y, true) else ([], false) := by unfold writeD; rw [hv, hxb, hi, ← hY]; rfl
  have hV2 := DiskValid_pc Y hws
  have hC2 := cloneDisk_d Y hws
  have emp : ∀ {q : PC Tryz.prog 48 [blsA bs, iA nm, intsA xs] (rX (.tup [.o 0 0, bA false]) [rowB []])}, PC Tryz.prog 48 [blsA bs, iA nm, intsA xs] (vX (.tup [blsA [], bA false])) := fun {q} => by
    have := q.frzX
    simp [viewN, hpOf, hget, isC, tk] at this
    exact this
  rw [hix] at hF
  obtain ⟨d0, d1, d2, rfl⟩ := hb
  obtain rfl : d2 = d := Option.some.inj hj
  have hfl : d2.fresh.length ≤ 400 := by
    have := disk_okF hv (getB_name hg).2
    simp only [okF, Bool.and_eq_true, decide_eq_true_eq] at this
    omega
  have hX := cloneDisk_at [d0, d1, d2] hs 2 d2 rfl
  have hR : rfRow (nmB [] 25000) (lnkR [d0, d1, d2] 2 d2 1 2) = ⟨79, 3, [[iA d0.name, intsA d0.safe, intsA d0.fresh], [iA d1.name, intsA d1.safe, intsA d1.fresh], [iA d2.name, .o 25001 d2.safe.length, .o 25002 d2.fresh.length]], false⟩ := by rw [lnk_rf _ (by simp)]; rfl
  have hS := sorted_pcl ([d0, d1, ⟨d2.name, d2.safe, d2.fresh ++ xs⟩] : List BD) (by simp) fun d hd => by
    rcases mem_set_or (show d ∈ ([d0, d1, d2] : List BD).set 2 ⟨d2.name, d2.safe, d2.fresh ++ xs⟩ from hd) with hd | rfl
    · exact hnms d hd
    · exact hnms d2 (by simp)
  cases hd : diskB Y with
  | false =>
    have hr : writeD [d0, d1, d2] nm xs = ([], false) := by rw [hwr, hd]; rfl
    rw [hr]
    refine emp (q := ?_)
    refine pc_enter Tryz.func48 rfl rfl fun w0 fb => go_on ?_; (try simp only [Tryz.ntmps48, push_cast, simprocAttr])
    refine at_call ?_
    (try simp only [push_cast, simprocAttr])
    refine rwc_v hV ?_
    (try simp only [push_cast, simprocAttr])
    (refine at_dropS [6] (by refine wk_ok ?_ ?_ ?_ ?_ <;> simp [dropS, dropT, hasN, delL, hdel, leL, leH, idsL, idsA, idsR, inH, hget, sameRow]) ?_; simp only [dropS, dropT, hasN, delL, hdel, idsA, idsL, hget, List.map_cons, List.map_nil, List.all_cons, List.all_nil, List.append_nil, Bool.not_false, Bool.not_true, Bool.and_true, if_true, if_false, simprocAttr])
    refine go_on ?_
    (try simp only [hv, Bool.not_true, push_cast, simprocAttr])
    (refine at_call ?_; (try simp only [push_cast, simprocAttr]); refine rwc_v (hB) (go_on ?_); (try simp only [push_cast, simprocAttr]))
    (try simp only [hxb, Bool.not_true, push_cast, simprocAttr])
    (refine at_call ?_; (try simp only [push_cast, simprocAttr]); refine rwc_v (hI) (go_on ?_); (try simp only [push_cast, simprocAttr]))
    (try simp only [hi', Bool.not_true, push_cast, simprocAttr])
    refine call_lendX [] (lr := []) rfl rfl (by simp [idsL, idsA]) (by simpa [rfA] using hX) ?_
    rintro rv lr' rows ⟨rfl, rfl, rfl⟩
    refine ⟨rfl, by simp [frB, baseOf], go_on ?_⟩
    simp only [backX, hR, rowZ_rf, rfA, nmB, hsL, baseOf, hpOf, List.map_cons, List.map_nil, List.nil_append, List.length_nil, push_cast, simprocAttr]
    (refine at_call ?_; simp only [bC, viewN, hget, tk, isC, List.map_cons, List.map_nil, List.length_map, List.length_cons, List.length_nil, Nat.reduceAdd, Nat.reduceEqDiff, if_true, if_false, reduceIte, simprocAttr]; refine rwc_v (hF) (go_on ?_); (try simp only [push_cast, simprocAttr]))
    (try simp only [show ltI 2 0 = false from rfl, show toIx 2 3 = some 2 from rfl, bC, push_cast, simprocAttr])
    refine at_chk (by omega) ?_
    (try simp only [bC, push_cast, simprocAttr])
    (refine at_callW [25001, 25002] (by refine wk_frz ?_ ?_ ?_ ?_ <;> simp [← List.map_append, List.length_append, eq_self, frwS, frwH, frwRow, frzT, hasN, delL, hdel, leF, leHF, rowF, frzB, idsL, idsA, idsR, inH, hget, sameRow, viewN, tk]) ?_; simp only [← List.map_append, List.length_append, eq_self, frwS, frwH, frwRow, frzT, hasN, delL, hdel, idsA, idsL, viewN, hget, tk, isC, List.map_cons, List.map_nil, List.all_cons, List.all_nil, List.append_nil, List.drop, List.getElem?_cons_zero, List.getElem?_cons_succ, Bool.not_false, Bool.not_true, Bool.and_true, if_true, if_false, Nat.zero_add, List.length_map, simprocAttr])
    (try simp only [push_cast, simprocAttr]); refine call_lend [25000] none (lr := [rowB [d0, d1, ⟨d2.name, d2.safe, d2.fresh ++ xs⟩]]) (by simp [ndB]) (by first | rfl | simp [rowsOf, hget, rdR, rowS, rowN, rowC, sC, ndC, cmC]) (by simp [idsL, idsA]) (by simp [mvN]) (by simpa [rnA, ixOf] using hS) ?_
    rintro rv lr' rows ⟨L', g1, g2, rfl, rfl, rfl⟩
    have hlen := g1.length_eq
    simp only [List.length_cons, List.length_nil, Nat.reduceAdd] at hlen
    have hLY : L' = Y := by rw [hY]; exact wr_old hv hj hg g1 g2
    (refine ⟨by simp [shB, mvF, hlen], by simp [frB, baseOf], go_on ?_⟩; simp only [killA, killH, killRow, push_cast, simprocAttr])
    rw [hLY]
    have hYl : Y.length = 3 := by rw [← hLY]; exact hlen
    (try simp only [push_cast, simprocAttr])
    (refine at_call ?_; simp only [hYl, viewN, hget, tk, isC, List.map_cons, List.map_nil, List.length_map, List.length_cons, List.length_nil, Nat.reduceAdd, Nat.reduceEqDiff, if_true, if_false, reduceIte, simprocAttr]; refine rwc_v (hV2) (go_on ?_); (try simp only [push_cast, simprocAttr]))
    (try simp only [hd, Bool.not_false, push_cast, simprocAttr])
    refine at_ret ?_; simp only [Tryz.results48, push_cast, simprocAttr]
    simp [rX, ixOf]
  | true =>
    have hr : writeD [d0, d1, d2] nm xs = (Y, true) := by rw [hwr, hd]; rfl
    rw [hr]
    refine pc_enter Tryz.func48 rfl rfl fun w0 fb => go_on ?_; (try simp only [Tryz.ntmps48, push_cast, simprocAttr])
    refine at_call ?_
    (try simp only [push_cast, simprocAttr])
    refine rwc_v hV ?_
    (try simp only [push_cast, simprocAttr])
    (refine at_dropS [6] (by refine wk_ok ?_ ?_ ?_ ?_ <;> simp [dropS, dropT, hasN, delL, hdel, leL, leH, idsL, idsA, idsR, inH, hget, sameRow]) ?_; simp only [dropS, dropT, hasN, delL, hdel, idsA, idsL, hget, List.map_cons, List.map_nil, List.all_cons, List.all_nil, List.append_nil, Bool.not_false, Bool.not_true, Bool.and_true, if_true, if_false, simprocAttr])
    refine go_on ?_
    (try simp only [hv, Bool.not_true, push_cast, simprocAttr])
    (refine at_call ?_; (try simp only [push_cast, simprocAttr]); refine rwc_v (hB) (go_on ?_); (try simp only [push_cast, simprocAttr]))
    (try simp only [hxb, Bool.not_true, push_cast, simprocAttr])
    (refine at_call ?_; (try simp only [push_cast, simprocAttr]); refine rwc_v (hI) (go_on ?_); (try simp only [push_cast, simprocAttr]))
    (try simp only [hi', Bool.not_true, push_cast, simprocAttr])
    refine call_lendX [] (lr := []) rfl rfl (by simp [idsL, idsA]) (by simpa [rfA] using hX) ?_
    rintro rv lr' rows ⟨rfl, rfl, rfl⟩
    refine ⟨rfl, by simp [frB, baseOf], go_on ?_⟩
    simp only [backX, hR, rowZ_rf, rfA, nmB, hsL, baseOf, hpOf, List.map_cons, List.map_nil, List.nil_append, List.length_nil, push_cast, simprocAttr]
    (refine at_call ?_; simp only [bC, viewN, hget, tk, isC, List.map_cons, List.map_nil, List.length_map, List.length_cons, List.length_nil, Nat.reduceAdd, Nat.reduceEqDiff, if_true, if_false, reduceIte, simprocAttr]; refine rwc_v (hF) (go_on ?_); (try simp only [push_cast, simprocAttr]))
    (try simp only [show ltI 2 0 = false from rfl, show toIx 2 3 = some 2 from rfl, bC, push_cast, simprocAttr])
    refine at_chk (by omega) ?_
    (try simp only [bC, push_cast, simprocAttr])
    (refine at_callW [25001, 25002] (by refine wk_frz ?_ ?_ ?_ ?_ <;> simp [← List.map_append, List.length_append, eq_self, frwS, frwH, frwRow, frzT, hasN, delL, hdel, leF, leHF, rowF, frzB, idsL, idsA, idsR, inH, hget, sameRow, viewN, tk]) ?_; simp only [← List.map_append, List.length_append, eq_self, frwS, frwH, frwRow, frzT, hasN, delL, hdel, idsA, idsL, viewN, hget, tk, isC, List.map_cons, List.map_nil, List.all_cons, List.all_nil, List.append_nil, List.drop, List.getElem?_cons_zero, List.getElem?_cons_succ, Bool.not_false, Bool.not_true, Bool.and_true, if_true, if_false, Nat.zero_add, List.length_map, simprocAttr])
    (try simp only [push_cast, simprocAttr]); refine call_lend [25000] none (lr := [rowB [d0, d1, ⟨d2.name, d2.safe, d2.fresh ++ xs⟩]]) (by simp [ndB]) (by first | rfl | simp [rowsOf, hget, rdR, rowS, rowN, rowC, sC, ndC, cmC]) (by simp [idsL, idsA]) (by simp [mvN]) (by simpa [rnA, ixOf] using hS) ?_
    rintro rv lr' rows ⟨L', g1, g2, rfl, rfl, rfl⟩
    have hlen := g1.length_eq
    simp only [List.length_cons, List.length_nil, Nat.reduceAdd] at hlen
    have hLY : L' = Y := by rw [hY]; exact wr_old hv hj hg g1 g2
    (refine ⟨by simp [shB, mvF, hlen], by simp [frB, baseOf], go_on ?_⟩; simp only [killA, killH, killRow, push_cast, simprocAttr])
    rw [hLY]
    have hYl : Y.length = 3 := by rw [← hLY]; exact hlen
    (try simp only [push_cast, simprocAttr])
    (refine at_call ?_; simp only [hYl, viewN, hget, tk, isC, List.map_cons, List.map_nil, List.length_map, List.length_cons, List.length_nil, Nat.reduceAdd, Nat.reduceEqDiff, if_true, if_false, reduceIte, simprocAttr]; refine rwc_v (hV2) (go_on ?_); (try simp only [push_cast, simprocAttr]))
    (try simp only [hd, Bool.not_true, push_cast, simprocAttr])
    (refine at_callW [25000] (by refine wk_frz ?_ ?_ ?_ ?_ <;> simp [hYl, frwS, frwH, frwRow, frzT, hasN, delL, hdel, leF, leHF, rowF, frzB, idsL, idsA, idsR, inH, hget, sameRow, viewN, tk]) ?_; simp only [hYl, frwS, frwH, frwRow, frzT, hasN, delL, hdel, idsA, idsL, viewN, hget, tk, isC, List.map_cons, List.map_nil, List.all_cons, List.all_nil, List.append_nil, List.drop, List.getElem?_cons_zero, List.getElem?_cons_succ, Bool.not_false, Bool.not_true, Bool.and_true, if_true, if_false, Nat.zero_add, List.length_map, simprocAttr])
    ((try simp only [push_cast, simprocAttr]); refine at_share2 (by simp [isC2, isC]) (by first | rfl | simp [ren]) (hC2) (go_on ?_); (try simp only [push_cast, simprocAttr]))
    refine at_ret ?_; simp only [Tryz.results48, push_cast, simprocAttr]
    simp [vX]
end Go.Proofs.YtccifbbjbnjcfaaGreatDoor
/-
  Walks: disks: impl.DiskWrite, as a whole.
-/
namespace Go.Proofs.YtccifbbjbnjcfaaGreatDoor
open Go Go.RowKit Go.Proofs
theorem DiskWrite_d (bs : List BD) (hs : SmB bs) (nm : Int) (xs : List Int) (hx : xs.length ≤ 2000000) : PC Tryz.prog 48 [blsA bs, iA nm, intsA xs] (vX (.tup [blsA (writeD bs nm xs).1, bA (writeD bs nm xs).2])) := by
  cases h : (diskB bs && bytesB xs && inB nm 1 3) with
  | false =>
    have hr : writeD bs nm xs = ([], false) := by unfold writeD; rw [h]; rfl
    rw [hr]
    have := (DiskWrite_bad bs hs nm xs hx h).frzX
    simp [viewN, hpOf, hget, isC, tk] at this
    exact this
  | true =>
    simp only [Bool.and_eq_true] at h
    obtain ⟨⟨hv, hxb⟩, hi⟩ := h
    have hl := disk_len hv
    rcases ixB_cases bs nm with ⟨h1, h2⟩ | ⟨j, d, h1, h2, h3⟩
    · match bs, hl with
      | [], _ => exact DiskWrite_new0 _ nm xs hx hv hxb hi h2 rfl
      | [d0], _ => exact DiskWrite_new1 _ nm xs hx hv hxb hi h2 ⟨_, rfl⟩
      | [d0, d1], _ => exact DiskWrite_new2 _ nm xs hx hv hxb hi h2 ⟨_, _, rfl⟩
      | [d0, d1, d2], _ => exact DiskWrite_new3 _ nm xs hx hv hxb hi h2 ⟨_, _, _, rfl⟩
      | _ :: _ :: _ :: _ :: _, hl => simp at hl
    · match bs, hl, j with
      | [], _, _ => simp at h2
      | [d0], _, 0 => exact DiskWrite_old10 _ nm xs hx hv hxb hi d h2 h3 h1 ⟨_, rfl⟩
      | [d0], _, j + 1 => simp at h2
      | [d0, d1], _, 0 => exact DiskWrite_old20 _ nm xs hx hv hxb hi d h2 h3 h1 ⟨_, _, rfl⟩
      | [d0, d1], _, 1 => exact DiskWrite_old21 _ nm xs hx hv hxb hi d h2 h3 h1 ⟨_, _, rfl⟩
      | [d0, d1], _, j + 2 => simp at h2
      | [d0, d1, d2], _, 0 => exact DiskWrite_old30 _ nm xs hx hv hxb hi d h2 h3 h1 ⟨_, _, _, rfl⟩
      | [d0, d1, d2], _, 1 => exact DiskWrite_old31 _ nm xs hx hv hxb hi d h2 h3 h1 ⟨_, _, _, rfl⟩
      | [d0, d1, d2], _, 2 => exact DiskWrite_old32 _ nm xs hx hv hxb hi d h2 h3 h1 ⟨_, _, _, rfl⟩
      | [d0, d1, d2], _, j + 3 => simp at h2
      | _ :: _ :: _ :: _ :: _, hl, _ => simp at hl
end Go.Proofs.YtccifbbjbnjcfaaGreatDoor
/-
  Walks: slices.SortFunc at files whose lists are set aside: contracts with a lent row.
-/
namespace Go.Proofs.YtccifbbjbnjcfaaGreatDoor
open Go Go.RowKit Go.Proofs
open Go.Sort (grow SWO PermIn SortedIn)
set_option maxRecDepth 100000
set_option maxHeartbeats 1000000
attribute [local irreducible] RWp AW run kPe pe Kt effA gd gu br retR RDp runD kPeD brW gW effD
end Go.Proofs.YtccifbbjbnjcfaaGreatDoor
/-
  Walks: memory set aside, handed to calls: read as data; marked.
-/
namespace Go.Proofs.YtccifbbjbnjcfaaGreatDoor
open Go Go.RowKit Go.Proofs
section
variable {P : Program} {Q : Exit → Act → World → Prop} {w0 w1 : World} {lent1 : Lent} {s : AS} {loc : Loc} {a : Act} {w : World}
theorem OT.nil_or {w : World} {X : Nat → Prop} {u : Value} {bs : List BD} {us : UU} (h : OT w X u bs us) : (u = .slice none 0 0 ∧ bs = []) ∨ ∃ g c, u = .slice (some ⟨g, 0, none⟩) bs.length c := by
  rcases h.row.2 with ⟨h1, h2⟩ | ⟨g, cap, cur, h1, _⟩
  · exact .inl ⟨h1, List.eq_nil_of_length_eq_zero h2⟩
  · exact .inr ⟨g, cap, h1⟩
theorem OT.some {w : World} {X : Nat → Prop} {u : Value} {bs : List BD} {us : UU} (h : OT w X u bs us) (hb : 0 < bs.length) : ∃ g c, u = .slice (some ⟨g, 0, none⟩) bs.length c := by
  rcases h.nil_or with ⟨_, rfl⟩ | h
  · simp at hb
  · exact h
end
/-! ### Plain: disks are small -/
theorem tot_cap : ∀ {l : List BD} {c : Nat}, (∀ d ∈ l, tot1 d ≤ c) → tot l ≤ l.length * c
  | [], _, _ => by simp [tot]
  | d :: l, c, h => by
    have h1 := h d (by simp)
    have h2 := tot_cap (l := l) (c := c) fun x hx => h x (by simp [hx])
    simp only [tot, List.length_cons, Nat.add_mul, Nat.one_mul]; omega
theorem disk_tot {bs : List BD} (h : diskB bs = true ∨ bs = []) : SmB bs ∧ tot bs ≤ 1203 := by
  rcases h with h | rfl
  · refine ⟨disk_sm h, ?_⟩
    have h1 := disk_len h
    have h2 := tot_cap (l := bs) (c := 401) fun d hd => by
      have := disk_okF h hd
      simp only [okF, Bool.and_eq_true, decide_eq_true_eq] at this
      unfold tot1; omega
    have h3 : bs.length * 401 ≤ 3 * 401 := Nat.mul_le_mul_right _ h1
    omega
  · exact ⟨⟨by simp, fun d hd => by simp at hd⟩, by simp [tot]⟩
theorem SzB.sm {bs : List BD} (h : SzB bs) : SmB bs := ⟨by have := h.n; omega, fun d hd => ⟨by have := (h.d d hd).1; omega, by have := (h.d d hd).2; omega⟩⟩
section
variable {Q : Exit → Act → World → Prop} {w0 w1 : World} {lent1 : Lent} {s : AS}
end
attribute [local irreducible] RWp AW run kPe pe Kt effA gd gu br retR RDp runD kPeD brW gW effD
set_option maxRecDepth 100000
end Go.Proofs.YtccifbbjbnjcfaaGreatDoor
/-
  Walks: BookAdd, read as data.
-/
namespace Go.Proofs.YtccifbbjbnjcfaaGreatDoor
open Go Go.RowKit Go.Proofs
theorem writeD_disk2 {bs : List BD} {nm : Int} {xs : List Int} {Y : List BD} {ok : Bool} (h : (Y, ok) = writeD bs nm xs) : diskB Y = true ∨ Y = [] := by
  unfold writeD at h
  split at h
  · rename_i hc
    cases h
    simp only [Bool.and_eq_true] at hc
    exact .inl hc.2
  · cases h; exact .inr rfl
theorem bookO_some {bs : List BD} {b : Bk} (h : bookO bs = some b) : (readD bs 1).2 = true ∧ bookL (readD bs 1).1 = some b ∧ diskB bs = true ∧ (bookB b).2 = true ∧ SmL b.log := by
  unfold bookO at h
  split at h
  · rename_i hr
    obtain ⟨h1, h2, _⟩ := bookL_spec h
    refine ⟨hr, h, (readD_true hr).1, h1, ?_⟩
    unfold bookB at h1
    split at h1
    · rename_i hc
      rw [Bool.and_eq_true] at hc
      exact lV_sm hc.1
    · cases h1
  · cases h
attribute [local irreducible] RWp AW run kPe pe Kt effA gd gu br retR RDp runD kPeD brW gW effD
set_option maxRecDepth 100000
end Go.Proofs.YtccifbbjbnjcfaaGreatDoor
/-
  Walks: BookSteps, read as data.
-/
namespace Go.Proofs.YtccifbbjbnjcfaaGreatDoor
open Go Go.RowKit Go.Proofs
def dC (l : List BD) : List AV := [blsA l]
abbrev dssA (l : List (List BD)) : AV := .sl 1 (l.map dC)
def rowD (l : List (List BD)) : Row := ⟨29, 1, l.map dC, true⟩
theorem stepsP_f {bs : List BD} {b : Bk} (h : ((bookB b).2 && diskB bs) = false) : stepsP bs b = ([], false) := by unfold stepsP; rw [h]; rfl
theorem stepsP_w {bs : List BD} {b : Bk} (h : ((bookB b).2 && diskB bs) = true) (hw : (writeD (bs.filter fun x => decide (x.name ≠ 2)) 2 (bookB b).1).2 = false) : stepsP bs b = ([], false) := by
  unfold stepsP; rw [h]; simp only [if_true]; rw [hw]; rfl
theorem stepsP_t {bs : List BD} {b : Bk} (h : ((bookB b).2 && diskB bs) = true) (hw : (writeD (bs.filter fun x => decide (x.name ≠ 2)) 2 (bookB b).1).2 = true) :
    stepsP bs b = ([(writeD (bs.filter fun x => decide (x.name ≠ 2)) 2 (bookB b).1).1, (syncP (writeD (bs.filter fun x => decide (x.name ≠ 2)) 2 (bookB b).1).1 2).1, (renD (syncP (writeD (bs.filter fun x => decide (x.name ≠ 2)) 2 (bookB b).1).1 2).1 2 1).1], true) := by
  unfold stepsP; rw [h]; simp only [if_true]; rw [hw]; rfl
theorem fmB_le : ∀ l : List Cm, (l.flatMap fun c => frameB (cmdB c)).length ≤ l.length * 18
  | [] => by simp
  | c :: l => by
    have h1 := frameB_le c
    have h2 := fmB_le l
    rw [List.flatMap_cons, List.length_append, List.length_cons, Nat.add_mul]; omega
theorem bookB_400 (b : Bk) (hv : (bookB b).2 = true) : (bookB b).1.length ≤ 400 := by
  unfold bookB at hv ⊢
  split at hv
  · rename_i hc
    rw [if_pos hc]
    rw [Bool.and_eq_true] at hc
    have h1 := lV_n hc.1
    have h2 := fmB_le b.log
    have h3 : (frameB [b.ep]).length ≤ 3 := by
      unfold frameB
      split
      · simp
      · simp
    simp only [logB, hc.1, if_true, List.length_append]
    have h4 := Nat.mul_le_mul_right 18 h1
    omega
  · cases hv
theorem bookB_le (b : Bk) (hv : (bookB b).2 = true) : (bookB b).1.length ≤ 2000000 := by have := bookB_400 b hv; omega
attribute [local irreducible] RWp AW run kPe pe Kt effA gd gu br retR RDp runD kPeD brW gW effD
set_option maxRecDepth 100000
theorem BookSteps1_pc (d : BD) : PC Tryz.prog 63 [blobA d] (vB (decide (d.name = 2))) := by
  unfold blobA bC
  refine pc_enter Tryz.func63 rfl rfl fun w0 fb => go_on ?_; (try simp only [Tryz.ntmps63, push_cast, simprocAttr])
  refine at_ret ?_; simp only [Tryz.results63, push_cast, simprocAttr]
  simp [vX, eqI_d]
theorem BookSteps_d (bs : List BD) (hs : SmB bs) (b : Bk) (hb : SmL b.log) : PC Tryz.prog 20 [blsA bs, bkA b] (vX (.tup [dssA (stepsP bs b).1, bA (stepsP bs b).2])) := by
  have hBB := BookBytes_d b hb
  have hV := DiskValid_pc bs hs
  have hC := cloneDisk_pc bs hs
  have hn := hs.n
  have hDel := DeleteFuncB_pcl bs (by omega) 63 [] rfl (fun d => decide (d.name = 2)) (fun d _ => BookSteps1_pc d)
  have hfe : (bs.filter fun n => !decide (n.name = 2)) = bs.filter fun x => decide (x.name ≠ 2) := by
    apply List.filter_congr; intro x _; simp
  rw [hfe] at hDel
  have hsf : SmB (bs.filter fun x => decide (x.name ≠ 2)) := smB_filter hs _
  have emp : ∀ {q : PC Tryz.prog 20 [blsA bs, bkA b] (rX (.tup [.o 0 0, bA false]) [rowD []])}, PC Tryz.prog 20 [blsA bs, bkA b] (vX (.tup [dssA [], bA false])) := fun {q} => by
    have := q.frzX
    simp [viewN, hpOf, hget, isC, tk] at this
    exact this
  obtain ⟨⟨y, okb⟩, hy⟩ : ∃ y, y = bookB b := ⟨_, rfl⟩
  rw [← hy] at hBB
  unfold bkA bkC at hBB emp ⊢
  cases okb with
  | false =>
    rw [stepsP_f (by rw [← hy]; rfl)]
    refine emp (q := ?_)
    refine pc_enter Tryz.func20 rfl rfl fun w0 fb => go_on ?_; (try simp only [Tryz.ntmps20, push_cast, simprocAttr])
    (try simp only [push_cast, simprocAttr])
    refine at_share2 (by simp [isC2, isC]) (by first | rfl | simp [ren]) hBB ?_
    simp only [push_cast, simprocAttr]
    (refine at_dropS [4] (by refine wk_ok ?_ ?_ ?_ ?_ <;> simp [dropS, dropT, hasN, delL, hdel, leL, leH, idsL, idsA, idsR, inH, hget, sameRow]) ?_; simp only [dropS, dropT, hasN, delL, hdel, idsA, idsL, hget, List.map_cons, List.map_nil, List.all_cons, List.all_nil, List.append_nil, Bool.not_false, Bool.not_true, Bool.and_true, if_true, if_false, simprocAttr])
    refine go_on ?_
    (try simp only [Bool.not_false, push_cast, simprocAttr])
    refine at_ret ?_; simp only [Tryz.results20, push_cast, simprocAttr]
    simp [rX, ixOf, rowD]
  | true =>
    cases hv : diskB bs with
    | false =>
      rw [stepsP_f (by rw [← hy, hv]; rfl)]
      refine emp (q := ?_)
      refine pc_enter Tryz.func20 rfl rfl fun w0 fb => go_on ?_; (try simp only [Tryz.ntmps20, push_cast, simprocAttr])
      (try simp only [push_cast, simprocAttr])
      refine at_share2 (by simp [isC2, isC]) (by first | rfl | simp [ren]) hBB ?_
      simp only [push_cast, simprocAttr]
      (refine at_dropS [4] (by refine wk_ok ?_ ?_ ?_ ?_ <;> simp [dropS, dropT, hasN, delL, hdel, leL, leH, idsL, idsA, idsR, inH, hget, sameRow]) ?_; simp only [dropS, dropT, hasN, delL, hdel, idsA, idsL, hget, List.map_cons, List.map_nil, List.all_cons, List.all_nil, List.append_nil, Bool.not_false, Bool.not_true, Bool.and_true, if_true, if_false, simprocAttr])
      refine go_on ?_
      (try simp only [Bool.not_true, push_cast, simprocAttr])
      (refine at_call ?_; (try simp only [push_cast, simprocAttr]); refine rwc_v (hV) (go_on ?_); (try simp only [push_cast, simprocAttr]))
      (try simp only [hv, Bool.not_false, push_cast, simprocAttr])
      refine at_ret ?_; simp only [Tryz.results20, push_cast, simprocAttr]
      simp [rX, ixOf, rowD]
    | true =>
      have hcn : ((bookB b).2 && diskB bs) = true := by rw [← hy, hv]; rfl
      have hyl : y.length ≤ 2000000 := by have := bookB_le b (by rw [← hy]); rw [← hy] at this; exact this
      obtain ⟨f, hf⟩ : ∃ f, f = bs.filter fun x => decide (x.name ≠ 2) := ⟨_, rfl⟩
      rw [← hf] at hDel hsf
      have hW := DiskWrite_d f hsf 2 y hyl
      obtain ⟨⟨wd, ok⟩, hwd⟩ : ∃ w, w = writeD f 2 y := ⟨_, rfl⟩
      rw [← hwd] at hW
      simp only at hW
      cases ok with
      | false =>
        rw [stepsP_w hcn (by rw [← hf, ← hy, ← hwd])]
        refine emp (q := ?_)
        refine pc_enter Tryz.func20 rfl rfl fun w0 fb => go_on ?_; (try simp only [Tryz.ntmps20, push_cast, simprocAttr])
        (try simp only [push_cast, simprocAttr])
        refine at_share2 (by simp [isC2, isC]) (by first | rfl | simp [ren]) hBB ?_
        simp only [push_cast, simprocAttr]
        (refine at_dropS [4] (by refine wk_ok ?_ ?_ ?_ ?_ <;> simp [dropS, dropT, hasN, delL, hdel, leL, leH, idsL, idsA, idsR, inH, hget, sameRow]) ?_; simp only [dropS, dropT, hasN, delL, hdel, idsA, idsL, hget, List.map_cons, List.map_nil, List.all_cons, List.all_nil, List.append_nil, Bool.not_false, Bool.not_true, Bool.and_true, if_true, if_false, simprocAttr])
        refine go_on ?_
        (try simp only [Bool.not_true, push_cast, simprocAttr])
        (refine at_call ?_; (try simp only [push_cast, simprocAttr]); refine rwc_v (hV) (go_on ?_); (try simp only [push_cast, simprocAttr]))
        (try simp only [hv, Bool.not_true, push_cast, simprocAttr])
        refine call_share (by simp [isC]) hC ?_
        rintro rv rows ⟨rfl, rfl⟩
        refine ⟨by simp [frB, baseOf], go_on ?_⟩
        (try simp only [push_cast, simprocAttr])
        refine call_lend [28000] (some 0) (lr := [rowB bs]) (by simp [ndB]) (by simp [rowsOf, hget]) (by simp [idsL, idsA]) (by simp [mvN]) (by simpa [rnA, ixOf] using hDel) ?_
        rintro rv lr' rows ⟨rfl, rfl, rfl⟩
        refine ⟨by simp [shB, mvF], by simp [frB], go_on ?_⟩
        (try simp only [killA, killH, killRow, push_cast, simprocAttr])
        (refine at_callW [28000] (by refine wk_frz ?_ ?_ ?_ ?_ <;> simp [frwS, frwH, frwRow, frzT, hasN, delL, hdel, leF, leHF, rowF, frzB, idsL, idsA, idsR, inH, hget, sameRow, viewN, tk]) ?_; simp only [frwS, frwH, frwRow, frzT, hasN, delL, hdel, idsA, idsL, viewN, hget, tk, isC, List.map_cons, List.map_nil, List.all_cons, List.all_nil, List.append_nil, List.drop, List.getElem?_cons_zero, List.getElem?_cons_succ, Bool.not_false, Bool.not_true, Bool.and_true, if_true, if_false, Nat.zero_add, List.length_map, simprocAttr])
        ((try simp only [push_cast, simprocAttr]); refine at_share2 (by simp [isC2, isC]) (by first | rfl | simp [ren]) (hW) (go_on ?_); (try simp only [push_cast, simprocAttr]))
        (try simp only [Bool.not_false, push_cast, simprocAttr])
        refine at_ret ?_; simp only [Tryz.results20, push_cast, simprocAttr]
        simp [rX, ixOf, rowD]
      | true =>
        have hwv : diskB wd = true ∨ wd = [] := writeD_disk2 hwd
        have hSy := (DiskSync_o wd (disk_tot hwv).1 2).db
        have hsv := syncP_disk (bs := wd) (nm := 2) (Y := (syncP wd 2).1) (ok := (syncP wd 2).2) rfl
        have hRn := DiskRename_d (syncP wd 2).1 (disk_tot hsv).1 2 1
        rw [stepsP_t hcn (by rw [← hf, ← hy, ← hwd]), ← hf, ← hy, ← hwd]
        have key : PC Tryz.prog 20 [blsA bs, .agg [iA b.ep, cmA b.log]] (rX (.tup [.o 0 3, bA true]) [rowD [wd, (syncP wd 2).1, (renD (syncP wd 2).1 2 1).1]]) := by
          refine pc_enter Tryz.func20 rfl rfl fun w0 fb => go_on ?_; (try simp only [Tryz.ntmps20, push_cast, simprocAttr])
          ((try simp only [push_cast, simprocAttr]); refine at_share2 (by simp [isC2, isC]) (by first | rfl | simp [ren]) (hBB) (go_on ?_); (try simp only [push_cast, simprocAttr]))
          (try simp only [Bool.not_true, push_cast, simprocAttr])
          (refine at_call ?_; (try simp only [push_cast, simprocAttr]); refine rwc_v (hV) (go_on ?_); (try simp only [push_cast, simprocAttr]))
          (try simp only [hv, Bool.not_true, push_cast, simprocAttr])
          refine call_share (by simp [isC]) hC ?_
          rintro rv rows ⟨rfl, rfl⟩
          refine ⟨by simp [frB, baseOf], go_on ?_⟩
          (try simp only [push_cast, simprocAttr])
          refine call_lend [28000] (some 0) (lr := [rowB bs]) (by simp [ndB]) (by simp [rowsOf, hget]) (by simp [idsL, idsA]) (by simp [mvN]) (by simpa [rnA, ixOf] using hDel) ?_
          rintro rv lr' rows ⟨rfl, rfl, rfl⟩
          refine ⟨by simp [shB, mvF], by simp [frB], go_on ?_⟩
          (try simp only [killA, killH, killRow, push_cast, simprocAttr])
          (refine at_callW [28000] (by refine wk_frz ?_ ?_ ?_ ?_ <;> simp [frwS, frwH, frwRow, frzT, hasN, delL, hdel, leF, leHF, rowF, frzB, idsL, idsA, idsR, inH, hget, sameRow, viewN, tk]) ?_; simp only [frwS, frwH, frwRow, frzT, hasN, delL, hdel, idsA, idsL, viewN, hget, tk, isC, List.map_cons, List.map_nil, List.all_cons, List.all_nil, List.append_nil, List.drop, List.getElem?_cons_zero, List.getElem?_cons_succ, Bool.not_false, Bool.not_true, Bool.and_true, if_true, if_false, Nat.zero_add, List.length_map, simprocAttr])
          ((try simp only [push_cast, simprocAttr]); refine at_share2 (by simp [isC2, isC]) (by first | rfl | simp [ren]) (hW) (go_on ?_); (try simp only [push_cast, simprocAttr]))
          (try simp only [Bool.not_true, push_cast, simprocAttr])
          ((try simp only [push_cast, simprocAttr]); refine at_share2 (by simp [isC2, isC]) (by first | rfl | simp [ren]) (hSy) (go_on ?_); (try simp only [push_cast, simprocAttr]))
          ((try simp only [push_cast, simprocAttr]); refine at_share2 (by simp [isC2, isC]) (by first | rfl | simp [ren]) (hRn) (go_on ?_); (try simp only [push_cast, simprocAttr]))
          refine at_ret ?_; simp only [Tryz.results20, push_cast, simprocAttr]
          simp [rX, ixOf, rowD, dC]
        have := key.frzX
        simp [viewN, hpOf, hget, isC, tk, rowD, dC] at this
        exact this
theorem specBookSteps_d (bs : List BD) (hs : SmB bs) (b : Bk) (hb : SmL b.log) : PC Tryz.prog 18 [blsA bs, bkA b] (vX (.tup [dssA (stepsP bs b).1, bA (stepsP bs b).2])) := by
  have hBB := specBookBytes_d b hb
  have hV := specDiskValid_pc bs hs
  have hn := hs.n
  have hWo := l31Without_d bs hs 2
  have hsf : SmB (bs.filter fun x => decide (x.name ≠ 2)) := smB_filter hs _
  have emp : ∀ {q : PC Tryz.prog 18 [blsA bs, bkA b] (rX (.tup [.o 0 0, bA false]) [rowD []])}, PC Tryz.prog 18 [blsA bs, bkA b] (vX (.tup [dssA [], bA false])) := fun {q} => by
    have := q.frzX
    simp [viewN, hpOf, hget, isC, tk] at this
    exact this
  obtain ⟨⟨y, okb⟩, hy⟩ : ∃ y, y = bookB b := ⟨_, rfl⟩
  rw [← hy] at hBB
  unfold bkA bkC at hBB emp ⊢
  cases okb with
  | false =>
    rw [stepsP_f (by rw [← hy]; rfl)]
    refine emp (q := ?_)
    refine pc_enter Tryz.func18 rfl rfl fun w0 fb => go_on ?_; (try simp only [Tryz.ntmps18, push_cast, simprocAttr])
    ((try simp only [push_cast, simprocAttr]); refine at_share2 (by simp [isC2, isC]) (by first | rfl | simp [ren]) (hBB) (go_on ?_); (try simp only [push_cast, simprocAttr]))
    (try simp only [Bool.not_false, push_cast, simprocAttr])
    refine at_ret ?_; simp only [Tryz.results18, push_cast, simprocAttr]
    simp [rX, ixOf, rowD]
  | true =>
    cases hv : diskB bs with
    | false =>
      rw [stepsP_f (by rw [← hy, hv]; rfl)]
      refine emp (q := ?_)
      refine pc_enter Tryz.func18 rfl rfl fun w0 fb => go_on ?_; (try simp only [Tryz.ntmps18, push_cast, simprocAttr])
      ((try simp only [push_cast, simprocAttr]); refine at_share2 (by simp [isC2, isC]) (by first | rfl | simp [ren]) (hBB) (go_on ?_); (try simp only [push_cast, simprocAttr]))
      (try simp only [Bool.not_true, push_cast, simprocAttr])
      (refine at_call ?_; (try simp only [push_cast, simprocAttr]); refine rwc_v (hV) (go_on ?_); (try simp only [push_cast, simprocAttr]))
      (try simp only [hv, Bool.not_false, push_cast, simprocAttr])
      refine at_ret ?_; simp only [Tryz.results18, push_cast, simprocAttr]
      simp [rX, ixOf, rowD]
    | true =>
      have hcn : ((bookB b).2 && diskB bs) = true := by rw [← hy, hv]; rfl
      have hyl : y.length ≤ 2000000 := by have := bookB_le b (by rw [← hy]); rw [← hy] at this; exact this
      obtain ⟨f, hf⟩ : ∃ f, f = bs.filter fun x => decide (x.name ≠ 2) := ⟨_, rfl⟩
      rw [← hf] at hWo hsf
      have hW := specDiskWrite_d f hsf 2 y hyl (fun d hd => by
        rw [hf] at hd
        have := disk_okF hv (List.mem_filter.1 hd).1
        simp only [okF, Bool.and_eq_true, decide_eq_true_eq] at this
        omega)
      obtain ⟨⟨wd, ok⟩, hwd⟩ : ∃ w, w = writeD f 2 y := ⟨_, rfl⟩
      rw [← hwd] at hW
      simp only at hW
      cases ok with
      | false =>
        rw [stepsP_w hcn (by rw [← hf, ← hy, ← hwd])]
        refine emp (q := ?_)
        refine pc_enter Tryz.func18 rfl rfl fun w0 fb => go_on ?_; (try simp only [Tryz.ntmps18, push_cast, simprocAttr])
        ((try simp only [push_cast, simprocAttr]); refine at_share2 (by simp [isC2, isC]) (by first | rfl | simp [ren]) (hBB) (go_on ?_); (try simp only [push_cast, simprocAttr]))
        (try simp only [Bool.not_true, push_cast, simprocAttr])
        (refine at_call ?_; (try simp only [push_cast, simprocAttr]); refine rwc_v (hV) (go_on ?_); (try simp only [push_cast, simprocAttr]))
        (try simp only [hv, Bool.not_true, push_cast, simprocAttr])
        ((try simp only [push_cast, simprocAttr]); refine at_share2 (by simp [isC2, isC]) (by first | rfl | simp [ren]) (hWo) (go_on ?_); (try simp only [push_cast, simprocAttr]))
        ((try simp only [push_cast, simprocAttr]); refine at_share2 (by simp [isC2, isC]) (by first | rfl | simp [ren]) (hW) (go_on ?_); (try simp only [push_cast, simprocAttr]))
        (try simp only [Bool.not_false, push_cast, simprocAttr])
        refine at_ret ?_; simp only [Tryz.results18, push_cast, simprocAttr]
        simp [rX, ixOf, rowD]
      | true =>
        have hwv : diskB wd = true ∨ wd = [] := writeD_disk2 hwd
        have hSy := specDiskSync_d wd (disk_tot hwv).1 2
        have hsv := syncP_disk (bs := wd) (nm := 2) (Y := (syncP wd 2).1) (ok := (syncP wd 2).2) rfl
        have hRn := specDiskRename_d (syncP wd 2).1 (disk_tot hsv).1 2 1
        rw [stepsP_t hcn (by rw [← hf, ← hy, ← hwd]), ← hf, ← hy, ← hwd]
        have key : PC Tryz.prog 18 [blsA bs, .agg [iA b.ep, cmA b.log]] (rX (.tup [.o 0 3, bA true]) [rowD [wd, (syncP wd 2).1, (renD (syncP wd 2).1 2 1).1]]) := by
          refine pc_enter Tryz.func18 rfl rfl fun w0 fb => go_on ?_; (try simp only [Tryz.ntmps18, push_cast, simprocAttr])
          ((try simp only [push_cast, simprocAttr]); refine at_share2 (by simp [isC2, isC]) (by first | rfl | simp [ren]) (hBB) (go_on ?_); (try simp only [push_cast, simprocAttr]))
          (try simp only [Bool.not_true, push_cast, simprocAttr])
          (refine at_call ?_; (try simp only [push_cast, simprocAttr]); refine rwc_v (hV) (go_on ?_); (try simp only [push_cast, simprocAttr]))
          (try simp only [hv, Bool.not_true, push_cast, simprocAttr])
          ((try simp only [push_cast, simprocAttr]); refine at_share2 (by simp [isC2, isC]) (by first | rfl | simp [ren]) (hWo) (go_on ?_); (try simp only [push_cast, simprocAttr]))
          ((try simp only [push_cast, simprocAttr]); refine at_share2 (by simp [isC2, isC]) (by first | rfl | simp [ren]) (hW) (go_on ?_); (try simp only [push_cast, simprocAttr]))
          (try simp only [Bool.not_true, push_cast, simprocAttr])
          ((try simp only [push_cast, simprocAttr]); refine at_share2 (by simp [isC2, isC]) (by first | rfl | simp [ren]) (hSy) (go_on ?_); (try simp only [push_cast, simprocAttr]))
          ((try simp only [push_cast, simprocAttr]); refine at_share2 (by simp [isC2, isC]) (by first | rfl | simp [ren]) (hRn) (go_on ?_); (try simp only [push_cast, simprocAttr]))
          refine at_chk trivial ?_
          refine at_ret ?_; simp only [Tryz.results18, push_cast, simprocAttr]
          simp [rX, ixOf, rowD, dC]
        have := key.frzX
        simp [viewN, hpOf, hget, isC, tk, rowD, dC] at this
        exact this
end Go.Proofs.YtccifbbjbnjcfaaGreatDoor
/-
  Walks: books: the draws.
-/
namespace Go.Proofs.YtccifbbjbnjcfaaGreatDoor
open Go Go.RowKit Go.Proofs
theorem LogS.sm {l : List Cm} (h : LogS l) : SmL l := ⟨by have := h.n; omega, fun c hc => by have := h.p c hc; omega⟩
def bokD (z : List Int) (p c : Nat) (rv : AV) (lr' rows : List Row) : Prop := ∃ b : Bk, LogS b.log ∧ rv = bkA b ∧ RdD z p c lr' ∧ rows = []
def damD (z : List Int) (p c n : Nat) (rv : AV) (lr' rows : List Row) : Prop := ∃ (l : List Int) (u : Nat), l.length ≤ n ∧ rv = .o 1 l.length ∧ lr' = [rdR z u, rowZ l] ∧ p ≤ u ∧ u ≤ p + c ∧ rows = []
def dssD (z : List Int) (p c : Nat) (rv : AV) (lr' rows : List Row) : Prop := ∃ l : List BD, SmB l ∧ rv = blsA l ∧ RdD z p c lr' ∧ rows = []
attribute [local irreducible] RWp AW run kPe pe Kt effA gd gu br retR RDp runD kPeD brW gW effD
set_option maxRecDepth 100000
theorem l91Damage_pcl (z : List Int) (p : Nat) (l : List Int) (hl : l.length ≤ 1000000) (hr : RdOk z (p + 3)) : PCL Tryz.prog 107 [rdR z p, rowZ l] (mvF (some 1)) [.p 0 0 0, .o 1 l.length] (damD z p 3 (l.length + 1)) := by
  have fin : ∀ (l2 : List Int) (r : Nat), l2.length ≤ l.length + 1 → p ≤ r → r ≤ p + 3 → damD z p 3 (l.length + 1) (.o 1 l2.length) [rdR z r, rowZ l2] [] := fun l2 r h1 h2 h3 => ⟨l2, r, h1, rfl, rfl, h2, h3, rfl⟩
  refine pcl_enter Tryz.func107 rfl rfl (by simp) fun w0 fb loc => go_on ?_; simp only [Tryz.ntmps107, hpL, nmL, mvF, renL, decide_true, decide_false, push_cast, simprocAttr]
  by_cases h0 : l = []
  · subst h0
    have hfin := fin [] p (by omega) (by omega) (by omega)
    unfold rowZ at hfin
    (try simp only [List.length_nil, show eqI 0 0 = true from rfl, push_cast, simprocAttr])
    (refine at_retL ?_; simp only [Tryz.results107, retL, push_cast, simprocAttr]; simpa [show List.range 1 = [0] from rfl, show List.range 2 = [0, 1] from rfl, show List.range 3 = [0, 1, 2] from rfl, nmL, mvF, ndB, ixOf, rowsOf, hget, rdR, rowS, rowN, rowC] using  hfin)
  · have hl0 : 0 < l.length := List.length_pos_iff.2 h0
    have i0 : eqI (l.length : Int) 0 = false := eqI_f (by omega)
    (try simp only [i0, push_cast, simprocAttr])
    (try simp only [push_cast, simprocAttr]); refine call_lend [500000] none (lr := [rdR z p]) (by simp [ndB]) (by first | rfl | simp [rowsOf, hget, rdR, rowS, rowN, rowC, sC, ndC, cmC]) (by simp [idsL, idsA]) (by simp [mvN]) (by simpa [rnA, ixOf] using pick_pcl z p l.length (hr.le (by omega)) (by omega)) ?_
    rintro rv lr' rows ⟨k, rfl, hk, rfl, rfl⟩
    have hk := hk hl0
    (refine ⟨by simp [shB, mvF, rdR, rowS, rowN, rowC], by simp [frB, baseOf], go_on ?_⟩; simp only [killA, killH, killRow, push_cast, simprocAttr])
    (try simp only [push_cast, simprocAttr]); refine call_lend [500000] none (lr := [rdR z (p + 1)]) (by simp [ndB]) (by first | rfl | simp [rowsOf, hget, rdR, rowS, rowN, rowC, sC, ndC, cmC]) (by simp [idsL, idsA]) (by simp [mvN]) (by simpa [rnA, ixOf] using pick_pcl z (p + 1) 5 (hr.le (by omega)) (by omega)) ?_
    rintro rv lr' rows ⟨m5, rfl, hm5, rfl, rfl⟩
    (refine ⟨by simp [shB, mvF, rdR, rowS, rowN, rowC], by simp [frB, baseOf], go_on ?_⟩; simp only [killA, killH, killRow, push_cast, simprocAttr])
    obtain ⟨e, he⟩ := get_of_lt hk
    have i2 := ix_n he
    have i3 := map_get inC he
    simp only [inC] at i3
    refine at_b (fun hb => ?_) (fun hb => ?_)
    · have c1 : 0 ≤ (k : Int) ∧ (k : Int) ≤ l.length := by omega
      (try simp only [hb, c1, and_self, if_true, push_cast, simprocAttr])
      have hfin := fin (l.take k) (p + 1 + 1) (by rw [List.length_take]; omega) (by omega) (by omega)
      rw [List.length_take, Nat.min_eq_left (by omega)] at hfin
      unfold rowZ at hfin
      rw [List.map_take] at hfin
      refine ret_wk (wk_trunc 600001 k (by simp only [hget]; rfl) (by simp; omega) (by simp [rdR])) ?_
      refine at_retL ?_
      simp only [Tryz.results107, retL, okT, hset, Nat.le_refl, push_cast, decide_true, simprocAttr]
      simpa [show List.range 2 = [0, 1] from rfl, nmL, mvF, ndB, ixOf, rowsOf, hget, rdR] using hfin
    · (try simp only [hb, push_cast, simprocAttr])
      refine at_b (fun hc => ?_) (fun hc => ?_)
      · (try simp only [hc, push_cast, simprocAttr])
        (try simp only [push_cast, simprocAttr]); refine call_lend [500000] none (lr := [rdR z (p + 1 + 1)]) (by simp [ndB]) (by first | rfl | simp [rowsOf, hget, rdR, rowS, rowN, rowC, sC, ndC, cmC]) (by simp [idsL, idsA]) (by simp [mvN]) (by simpa [rnA, ixOf] using pick_pcl z (p + 1 + 1) 258 (hr.le (by omega)) (by omega)) ?_
        rintro rv lr' rows ⟨m, rfl, hm, rfl, rfl⟩
        have w1 : IntKind.i64.wrap ((m : Int) - 1) = (m : Int) - 1 := wr _ (by have := hm (by omega); omega)
        have hset : (l.map inC).set k [iA ((m : Int) - 1)] = (l.set k ((m : Int) - 1)).map inC := by rw [List.map_set]; rfl
        have hfin := fin (l.set k ((m : Int) - 1)) (p + 1 + 1 + 1) (by simp) (by omega) (by omega)
        rw [List.length_set] at hfin
        unfold rowZ at hfin
        (refine ⟨by simp [shB, mvF, rdR, rowS, rowN, rowC], by simp [frB, baseOf], go_on ?_⟩; simp only [i2, i3, w1, hset, killA, killH, killRow, push_cast, simprocAttr])
        (refine at_retL ?_; simp only [Tryz.results107, retL, push_cast, simprocAttr]; simpa [show List.range 1 = [0] from rfl, show List.range 2 = [0, 1] from rfl, show List.range 3 = [0, 1, 2] from rfl, nmL, mvF, ndB, ixOf, rowsOf, hget, rdR, rowS, rowN, rowC] using  hfin)
      · (try simp only [hc, push_cast, simprocAttr])
        refine at_b (fun hd => ?_) (fun hd => ?_)
        · (try simp only [hd, push_cast, simprocAttr])
          (try simp only [push_cast, simprocAttr]); refine call_lend [500000] none (lr := [rdR z (p + 1 + 1)]) (by simp [ndB]) (by first | rfl | simp [rowsOf, hget, rdR, rowS, rowN, rowC, sC, ndC, cmC]) (by simp [idsL, idsA]) (by simp [mvN]) (by simpa [rnA, ixOf] using pick_pcl z (p + 1 + 1) 20 (hr.le (by omega)) (by omega)) ?_
          rintro rv lr' rows ⟨m, rfl, hm, rfl, rfl⟩
          have hfin := fin (l ++ [(m : Int)]) (p + 1 + 1 + 1) (by simp) (by omega) (by omega)
          rw [List.length_append] at hfin
          unfold rowZ at hfin
          simp only [List.length_cons, List.length_nil, List.map_append, List.map_cons, List.map_nil, inC] at hfin
          (refine ⟨by simp [shB, mvF, rdR, rowS, rowN, rowC], by simp [frB, baseOf], go_on ?_⟩; simp only [killA, killH, killRow, push_cast, simprocAttr])
          refine at_chk (by omega) ?_
          (try simp only [push_cast, simprocAttr])
          (refine at_retL ?_; simp only [Tryz.results107, retL, push_cast, simprocAttr]; simpa [show List.range 1 = [0] from rfl, show List.range 2 = [0, 1] from rfl, show List.range 3 = [0, 1, 2] from rfl, nmL, mvF, ndB, ixOf, rowsOf, hget, rdR, rowS, rowN, rowC] using  hfin)
        · have hfin := fin l (p + 1 + 1) (by omega) (by omega) (by omega)
          unfold rowZ at hfin
          (try simp only [hd, push_cast, simprocAttr])
          (refine at_retL ?_; simp only [Tryz.results107, retL, push_cast, simprocAttr]; simpa [show List.range 1 = [0] from rfl, show List.range 2 = [0, 1] from rfl, show List.range 3 = [0, 1, 2] from rfl, nmL, mvF, ndB, ixOf, rowsOf, hget, rdR, rowS, rowN, rowC] using  hfin)
end Go.Proofs.YtccifbbjbnjcfaaGreatDoor
/-
  Walks: books: the draws, joined.
-/
namespace Go.Proofs.YtccifbbjbnjcfaaGreatDoor
open Go Go.RowKit Go.Proofs
theorem tV_nil : tV [] = true := by kernel_rfl
attribute [local irreducible] RWp AW run kPe pe Kt effA gd gu br retR RDp runD kPeD brW gW effD
set_option maxRecDepth 100000
theorem l91Log0_pcl (z : List Int) (p n : Nat) (hn : n ≤ 60) (hr : RdOk z (p + 20 * n)) : PCL Tryz.prog 109 [rdR z p] (mvF none) [.p 0 0 0, .sl 3 [], iA n] (log2D z p (20 * n)) := l91Log_pcl z p n [] tV_nil hn hr
def bokoD (z : List Int) (p c : Nat) (rv : AV) (lr' rows : List Row) : Prop := ∃ b : Bk, LogS b.log ∧ rv = .agg [iA b.ep, .o 1 b.log.length] ∧ RdD z p c lr' ∧ rows = [rowC b.log]
theorem l92Book_pcl0 (z : List Int) (p : Nat) (hr : RdOk z (p + 1400)) : PCL Tryz.prog 69 [rdR z p] (mvF none) [.p 0 0 0] (bokoD z p 1400) := by
  have fin : ∀ (e : Int) (l : List Cm) (r : Nat), LogS l → p ≤ r → r ≤ p + 1400 → bokoD z p 1400 (.agg [iA e, .o 1 l.length]) [rdR z r] [⟨35, 5, l.map cmC, true⟩] := fun e l r h1 h2 h3 => ⟨⟨e, l⟩, h1, rfl, ⟨r, rfl, h2, h3⟩, rfl⟩
  refine pcl_enter Tryz.func69 rfl rfl (by simp) fun w0 fb loc => go_on ?_; simp only [Tryz.ntmps69, hpL, nmL, mvF, renL, decide_true, decide_false, push_cast, simprocAttr]
  (try simp only [push_cast, simprocAttr]); refine call_lend [500000] none (lr := [rdR z p]) (by simp [ndB]) (by first | rfl | simp [rowsOf, hget, rdR, rowS, rowN, rowC, sC, ndC, cmC]) (by simp [idsL, idsA]) (by simp [mvN]) (by simpa [rnA, ixOf] using pick_pcl z p 5 (hr.le (by omega)) (by omega)) ?_
  rintro rv lr' rows ⟨m5, rfl, hm5, rfl, rfl⟩
  (refine ⟨by simp [shB, mvF, rdR, rowS, rowN, rowC], by simp [frB, baseOf], go_on ?_⟩; simp only [killA, killH, killRow, push_cast, simprocAttr])
  (try simp only [push_cast, simprocAttr]); refine call_lend [500000] none (lr := [rdR z (p + 1)]) (by simp [ndB]) (by first | rfl | simp [rowsOf, hget, rdR, rowS, rowN, rowC, sC, ndC, cmC]) (by simp [idsL, idsA]) (by simp [mvN]) (by simpa [rnA, ixOf] using pick_pcl z (p + 1) 8 (hr.le (by omega)) (by omega)) ?_
  rintro rv lr' rows ⟨m8, rfl, hm8, rfl, rfl⟩
  have hm8 := hm8 (by omega)
  (refine ⟨by simp [shB, mvF, rdR, rowS, rowN, rowC], by simp [frB, baseOf], go_on ?_⟩; simp only [killA, killH, killRow, push_cast, simprocAttr])
  (refine at_callW [7] (by refine wk_frz ?_ ?_ ?_ ?_ <;> simp [rdR, frwS, frwH, frwRow, frzT, hasN, delL, hdel, leF, leHF, rowF, frzB, idsL, idsA, idsR, inH, hget, sameRow, viewN, tk]) ?_; simp only [rdR, frwS, frwH, frwRow, frzT, hasN, delL, hdel, idsA, idsL, viewN, hget, tk, isC, List.map_cons, List.map_nil, List.all_cons, List.all_nil, List.append_nil, List.drop, List.getElem?_cons_zero, List.getElem?_cons_succ, Bool.not_false, Bool.not_true, Bool.and_true, if_true, if_false, Nat.zero_add, List.length_map, simprocAttr])
  (try simp only [push_cast, simprocAttr]); refine call_lend [500000] none (lr := [rdR z (p + 1 + 1)]) (by simp [ndB]) (by first | rfl | simp [rowsOf, hget, rdR, rowS, rowN, rowC, sC, ndC, cmC]) (by simp [idsL, idsA]) (by simp [mvN]) (by simpa [rnA, ixOf] using l91Log0_pcl z (p + 1 + 1) m8 (by omega) (hr.le (by omega))) ?_
  rintro rv lr' rows ⟨l, hl, hl2, rfl, ⟨u, rfl, g1, g2⟩, rfl⟩
  (refine ⟨by simp [shB, mvF, rdR, rowS, rowN, rowC], by simp [frB, baseOf], go_on ?_⟩; simp only [killA, killH, killRow, push_cast, simprocAttr])
  (try simp only [push_cast, simprocAttr]); refine call_lend [500000] none (lr := [rdR z u]) (by simp [ndB]) (by first | rfl | simp [rowsOf, hget, rdR, rowS, rowN, rowC, sC, ndC, cmC]) (by simp [idsL, idsA]) (by simp [mvN]) (by simpa [rnA, ixOf] using pick_pcl z u 24 (hr.le (by omega)) (by omega)) ?_
  rintro rv lr' rows ⟨m24, rfl, hm24, rfl, rfl⟩
  (refine ⟨by simp [shB, mvF, rdR, rowS, rowN, rowC], by simp [frB, baseOf], go_on ?_⟩; simp only [killA, killH, killRow, push_cast, simprocAttr])
  refine at_b (fun hb => ?_) (fun hb => ?_)
  · (try simp only [hb, push_cast, simprocAttr])
    (try simp only [push_cast, simprocAttr]); refine call_lend [500000] none (lr := [rdR z (u + 1)]) (by simp [ndB]) (by first | rfl | simp [rowsOf, hget, rdR, rowS, rowN, rowC, sC, ndC, cmC]) (by simp [idsL, idsA]) (by simp [mvN]) (by simpa [rnA, ixOf] using pick_pcl z (u + 1) 3 (hr.le (by omega)) (by omega)) ?_
    rintro rv lr' rows ⟨m3, rfl, hm3, rfl, rfl⟩
    have hm3 := hm3 (by omega)
    obtain ⟨v, g1, g2⟩ : ∃ v : Int, toIx (m3 : Int) 3 = some m3 ∧ ([[iA (-1)], [iA 99], [iA 100]] : List (List AV))[m3]? = some [iA v] := by
      rcases (show m3 = 0 ∨ m3 = 1 ∨ m3 = 2 by omega) with rfl | rfl | rfl
      · exact ⟨-1, rfl, rfl⟩
      · exact ⟨99, rfl, rfl⟩
      · exact ⟨100, rfl, rfl⟩
    have hfin := fin v l (u + 1 + 1) hl (by omega) (by omega)
    (refine ⟨by simp [shB, mvF, rdR, rowS, rowN, rowC], by simp [frB, baseOf], go_on ?_⟩; simp only [g1, g2, killA, killH, killRow, push_cast, simprocAttr])
    (refine at_retL ?_; simp only [Tryz.results69, retL, push_cast, simprocAttr]; simpa [show List.range 1 = [0] from rfl, show List.range 2 = [0, 1] from rfl, show List.range 3 = [0, 1, 2] from rfl, nmL, mvF, ndB, ixOf, rowsOf, hget, rdR, rowS, rowN, rowC] using  hfin)
  · (try simp only [hb, push_cast, simprocAttr])
    refine at_b (fun hc => ?_) (fun hc => ?_)
    · have hfin := fin m5 (l ++ [⟨[], ⟨0, 0⟩, ⟨0, 0⟩⟩]) (u + 1) ⟨by simp; omega, fun c h => by
        rcases List.mem_append.1 h with h | h
        · exact hl.p c h
        · simp only [List.mem_singleton] at h; subst h; simp⟩ (by omega) (by omega)
      rw [List.length_append] at hfin
      simp only [List.length_cons, List.length_nil, List.map_append, List.map_cons, List.map_nil, cmC] at hfin
      (try simp only [hc, push_cast, simprocAttr])
      refine at_chk (by omega) ?_
      (try simp only [push_cast, simprocAttr])
      (refine at_retL ?_; simp only [Tryz.results69, retL, push_cast, simprocAttr]; simpa [show List.range 1 = [0] from rfl, show List.range 2 = [0, 1] from rfl, show List.range 3 = [0, 1, 2] from rfl, nmL, mvF, ndB, ixOf, rowsOf, hget, rdR, rowS, rowN, rowC] using  hfin)
    · (try simp only [hc, push_cast, simprocAttr])
      refine at_b (fun hd => ?_) (fun hd => ?_)
      · (try simp only [hd, push_cast, simprocAttr])
        (refine at_callW [33] (by refine wk_frz ?_ ?_ ?_ ?_ <;> simp [rdR, cmC, frwS, frwH, frwRow, frzT, hasN, delL, hdel, leF, leHF, rowF, frzB, idsL, idsA, idsR, inH, hget, sameRow, viewN, tk]) ?_; simp only [rdR, cmC, frwS, frwH, frwRow, frzT, hasN, delL, hdel, idsA, idsL, viewN, hget, tk, isC, List.map_cons, List.map_nil, List.all_cons, List.all_nil, List.append_nil, List.drop, List.getElem?_cons_zero, List.getElem?_cons_succ, Bool.not_false, Bool.not_true, Bool.and_true, if_true, if_false, Nat.zero_add, List.length_map, simprocAttr])
        (try simp only [push_cast, simprocAttr]); refine call_lend [500000] none (lr := [rdR z (u + 1)]) (by simp [ndB]) (by first | rfl | simp [rowsOf, hget, rdR, rowS, rowN, rowC, sC, ndC, cmC]) (by simp [idsL, idsA]) (by simp [mvN]) (by simpa [rnA, ixOf] using l91Log0_pcl z (u + 1) 60 (by omega) (hr.le (by omega))) ?_
        rintro rv lr' rows ⟨l2, hl3, hl4, rfl, ⟨v, rfl, g3, g4⟩, rfl⟩
        have hfin := fin m5 l2 v hl3 (by omega) (by omega)
        (refine ⟨by simp [shB, mvF, rdR, rowS, rowN, rowC], by simp [frB, baseOf], go_on ?_⟩; simp only [killA, killH, killRow, push_cast, simprocAttr])
        (refine at_retL ?_; simp only [Tryz.results69, retL, push_cast, simprocAttr]; simpa [show List.range 1 = [0] from rfl, show List.range 2 = [0, 1] from rfl, show List.range 3 = [0, 1, 2] from rfl, nmL, mvF, ndB, ixOf, rowsOf, hget, rdR, rowS, rowN, rowC] using  hfin)
      · have hfin := fin m5 l (u + 1) hl (by omega) (by omega)
        (try simp only [hd, push_cast, simprocAttr])
        (refine at_retL ?_; simp only [Tryz.results69, retL, push_cast, simprocAttr]; simpa [show List.range 1 = [0] from rfl, show List.range 2 = [0, 1] from rfl, show List.range 3 = [0, 1, 2] from rfl, nmL, mvF, ndB, ixOf, rowsOf, hget, rdR, rowS, rowN, rowC] using  hfin)
theorem l92Book_pcl (z : List Int) (p : Nat) (hr : RdOk z (p + 1400)) : PCL Tryz.prog 69 [rdR z p] (mvF none) [.p 0 0 0] (bokD z p 1400) := by
  refine (l92Book_pcl0 z p hr).frz ?_
  rintro rv lr' rows ⟨b, h1, rfl, ⟨u, rfl, h2, h3⟩, rfl⟩
  exact ⟨by simp [idsA, idsL], b, h1, by simp [viewN, hpOf, hget, isC, tk, bkC], ⟨u, rfl, h2, h3⟩, rfl⟩
end Go.Proofs.YtccifbbjbnjcfaaGreatDoor
/-
  Walks: books: the draws: a shelf; DrawBookSteps, DrawBookAdd.
-/
namespace Go.Proofs.YtccifbbjbnjcfaaGreatDoor
open Go Go.RowKit Go.Proofs
def dsuD (z : List Int) (p c : Nat) (rv : AV) (lr' rows : List Row) : Prop := ∃ l : List BD, SmB l ∧ RdD z p c lr' ∧ ((rv = blsA l ∧ rows = []) ∨ (rv = .o 1 l.length ∧ rows = [rowB l]))
theorem sm2 {l : List BD} (h : l.length ≤ 2) (hd : ∀ d ∈ l, d.safe.length ≤ 401 ∧ d.fresh.length ≤ 401) : SmB l := ⟨by omega, fun d hm => ⟨by have := (hd d hm).1; omega, by have := (hd d hm).2; omega⟩⟩
attribute [local irreducible] RWp AW run kPe pe Kt effA gd gu br retR RDp runD kPeD brW gW effD
set_option maxRecDepth 100000
theorem l92Shelf_pcl0 (z : List Int) (p : Nat) (hr : RdOk z (p + 2100)) : PCL Tryz.prog 68 [rdR z p] (mvF none) [.p 0 0 0] (dsuD z p 2100) := by
  have fin : ∀ (l : List BD) (r : Nat), l.length ≤ 2 → (∀ d ∈ l, d.safe.length ≤ 401 ∧ d.fresh.length ≤ 401) → p ≤ r → r ≤ p + 2100 → dsuD z p 2100 (.o 1 l.length) [rdR z r] [⟨79, 3, l.map bC, true⟩] := fun l r h1 h2 h3 h4 => ⟨l, sm2 h1 h2, ⟨r, rfl, h3, h4⟩, .inr ⟨rfl, rfl⟩⟩
  refine pcl_enter Tryz.func68 rfl rfl (by simp) fun w0 fb loc => go_on ?_; simp only [Tryz.ntmps68, hpL, nmL, mvF, renL, decide_true, decide_false, push_cast, simprocAttr]
  (try simp only [push_cast, simprocAttr]); refine call_lend [500000] none (lr := [rdR z p]) (by simp [ndB]) (by first | rfl | simp [rowsOf, hget, rdR, rowS, rowN, rowC, sC, ndC, cmC]) (by simp [idsL, idsA]) (by simp [mvN]) (by simpa [rnA, ixOf] using pick_pcl z p 12 (hr.le (by omega)) (by omega)) ?_
  rintro rv lr' rows ⟨m12, rfl, hm12, rfl, rfl⟩
  (refine ⟨by simp [shB, mvF, rdR, rowS, rowN, rowC], by simp [frB, baseOf], go_on ?_⟩; simp only [killA, killH, killRow, push_cast, simprocAttr])
  refine at_b (fun hb => ?_) (fun hb => ?_)
  · (try simp only [hb, push_cast, simprocAttr])
    (try simp only [push_cast, simprocAttr]); refine call_lend [500000] none (lr := [rdR z (p + 1)]) (by simp [ndB]) (by first | rfl | simp [rowsOf, hget, rdR, rowS, rowN, rowC, sC, ndC, cmC]) (by simp [idsL, idsA]) (by simp [mvN]) (by simpa [rnA, ixOf] using l92Disk_pcl z (p + 1) (hr.le (by omega))) ?_
    rintro rv lr' rows ⟨l, hl, rfl, ⟨u, rfl, g1, g2⟩, rfl⟩
    have hfin : dsuD z p 2100 (blsA l) [rdR z u] [] := ⟨l, hl.sm, ⟨u, rfl, by omega, by omega⟩, .inl ⟨rfl, rfl⟩⟩
    (refine ⟨by simp [shB, mvF, rdR, rowS, rowN, rowC], by simp [frB, baseOf], go_on ?_⟩; simp only [killA, killH, killRow, push_cast, simprocAttr])
    (refine at_retL ?_; simp only [Tryz.results68, retL, push_cast, simprocAttr]; simpa [show List.range 1 = [0] from rfl, show List.range 2 = [0, 1] from rfl, show List.range 3 = [0, 1, 2] from rfl, nmL, mvF, ndB, ixOf, rowsOf, hget, rdR, rowS, rowN, rowC] using  hfin)
  · (try simp only [hb, push_cast, simprocAttr])
    (try simp only [push_cast, simprocAttr]); refine call_lend [500000] none (lr := [rdR z (p + 1)]) (by simp [ndB]) (by first | rfl | simp [rowsOf, hget, rdR, rowS, rowN, rowC, sC, ndC, cmC]) (by simp [idsL, idsA]) (by simp [mvN]) (by simpa [rnA, ixOf] using l92Book_pcl z (p + 1) (hr.le (by omega))) ?_
    rintro rv lr' rows ⟨b, hl, rfl, ⟨u, rfl, g1, g2⟩, rfl⟩
    have hBB := specBookBytes_pc b hl.sm
    have h4 := bookB_400 b
    obtain ⟨⟨y, okb⟩, hy⟩ : ∃ y, y = bookB b := ⟨_, rfl⟩
    rw [← hy] at hBB h4
    unfold bkA bkC at hBB
    unfold bkA bkC
    (refine ⟨by simp [shB, mvF, rdR, rowS, rowN, rowC], by simp [frB, baseOf], go_on ?_⟩; simp only [killA, killH, killRow, push_cast, simprocAttr])
    (refine at_call ?_; (try simp only [push_cast, simprocAttr]); refine rwc_r (hBB) (by simp [flatV, flatL]) (flat_i _) (by simp [frB, baseOf]) (go_on ?_); (try simp only [push_cast, simprocAttr]))
    cases okb with
    | false =>
      (try simp only [push_cast, simprocAttr])
      (try simp only [push_cast, simprocAttr]); refine call_lend [500000] none (lr := [rdR z u]) (by simp [ndB]) (by first | rfl | simp [rowsOf, hget, rdR, rowS, rowN, rowC, sC, ndC, cmC]) (by simp [idsL, idsA]) (by simp [mvN]) (by simpa [rnA, ixOf] using pick_pcl z u 4 (hr.le (by omega)) (by omega)) ?_
      rintro rv lr' rows ⟨m4, rfl, hm4, rfl, rfl⟩
      (refine ⟨by simp [shB, mvF, rdR, rowS, rowN, rowC], by simp [frB, baseOf], go_on ?_⟩; simp only [killA, killH, killRow, push_cast, simprocAttr])
      refine at_b (fun hc => ?_) (fun hc => ?_)
      · (try simp only [hc, push_cast, simprocAttr])
        (refine at_callW [31] (by refine wk_frz ?_ ?_ ?_ ?_ <;> simp [rdR, inC, frwS, frwH, frwRow, frzT, hasN, delL, hdel, leF, leHF, rowF, frzB, idsL, idsA, idsR, inH, hget, sameRow, viewN, tk]) ?_; simp only [rdR, inC, frwS, frwH, frwRow, frzT, hasN, delL, hdel, idsA, idsL, viewN, hget, tk, isC, List.map_cons, List.map_nil, List.all_cons, List.all_nil, List.append_nil, List.drop, List.getElem?_cons_zero, List.getElem?_cons_succ, Bool.not_false, Bool.not_true, Bool.and_true, if_true, if_false, Nat.zero_add, List.length_map, simprocAttr])
        (try simp only [push_cast, simprocAttr]); refine call_lend [500000] none (lr := [rdR z (u + 1)]) (by simp [ndB]) (by first | rfl | simp [rowsOf, hget, rdR, rowS, rowN, rowC, sC, ndC, cmC]) (by simp [idsL, idsA]) (by simp [mvN]) (by simpa [rnA, ixOf] using l92Bytes_pcl z (u + 1) (hr.le (by omega))) ?_
        rintro rv lr' rows ⟨f, hf, rfl, ⟨v, rfl, g3, g4⟩, rfl⟩
        have hfin := fin [⟨2, [], f⟩] v (by simp) (by simp; omega) (by omega) (by omega)
        simp only [List.length_cons, List.length_nil, List.map_cons, List.map_nil, bC, show intsA [] = AV.sl 1 [] from rfl] at hfin
        (refine ⟨by simp [shB, mvF, rdR, rowS, rowN, rowC], by simp [frB, baseOf], go_on ?_⟩; simp only [killA, killH, killRow, push_cast, simprocAttr])
        refine at_chk (by first | trivial | omega | simp) ?_
        (try simp only [push_cast, simprocAttr])
        (refine at_retL ?_; simp only [Tryz.results68, retL, push_cast, simprocAttr]; simpa [show List.range 1 = [0] from rfl, show List.range 2 = [0, 1] from rfl, show List.range 3 = [0, 1, 2] from rfl, nmL, mvF, ndB, ixOf, rowsOf, hget, rdR, rowS, rowN, rowC] using  hfin)
      · have hfin := fin [] (u + 1) (by simp) (by simp) (by omega) (by omega)
        simp only [List.length_cons, List.length_nil, List.map_cons, List.map_nil, bC, show intsA [] = AV.sl 1 [] from rfl] at hfin
        (try simp only [hc, push_cast, simprocAttr])
        (refine at_retL ?_; simp only [Tryz.results68, retL, push_cast, simprocAttr]; simpa [show List.range 1 = [0] from rfl, show List.range 2 = [0, 1] from rfl, show List.range 3 = [0, 1, 2] from rfl, nmL, mvF, ndB, ixOf, rowsOf, hget, rdR, rowS, rowN, rowC] using  hfin)
    | true =>
      have h4 := h4 rfl
      simp only at h4
      (try simp only [push_cast, simprocAttr])
      refine call_lend [500000, 16000] (some 1) (lr := [rdR z u, rowZ y]) (by simp [ndB]) (by simp [rowsOf, hget, rdR]) (by simp [idsL, idsA]) (by simp [mvN]) (by simpa [rnA, ixOf] using l91Damage_pcl z u y (by omega) (hr.le (by omega))) ?_
      rintro rv lr' rows ⟨x, v, hx, rfl, rfl, g3, g4, rfl⟩
      (refine ⟨by simp [shB, mvF, rdR, rowS, rowN, rowC], by simp [frB, baseOf], ?_⟩; simp only [rdR, killA, killH, killRow, push_cast, simprocAttr]); (refine at_frzS [16000] (by refine wk_frz ?_ ?_ ?_ ?_ <;> simp [frzS, frzT, hasN, delL, hdel, leF, leHF, frzB, idsL, idsA, idsR, inH, hget, sameRow, viewN, tk]) ?_; simp only [frzS, frzT, hasN, delL, hdel, idsA, idsL, viewN, hget, List.map_cons, List.map_nil, List.all_cons, List.all_nil, List.append_nil, List.drop, List.getElem?_cons_zero, List.getElem?_cons_succ, Bool.not_false, Bool.not_true, Bool.and_true, if_true, if_false, simprocAttr]); (refine go_on ?_; (try simp only [rdR, push_cast, simprocAttr]))
      refine at_chk trivial ?_
      (refine at_callW [23] (by refine wk_frz ?_ ?_ ?_ ?_ <;> simp [rdR, inC, frwS, frwH, frwRow, frzT, hasN, delL, hdel, leF, leHF, rowF, frzB, idsL, idsA, idsR, inH, hget, sameRow, viewN, tk]) ?_; simp only [rdR, inC, frwS, frwH, frwRow, frzT, hasN, delL, hdel, idsA, idsL, viewN, hget, tk, isC, List.map_cons, List.map_nil, List.all_cons, List.all_nil, List.append_nil, List.drop, List.getElem?_cons_zero, List.getElem?_cons_succ, Bool.not_false, Bool.not_true, Bool.and_true, if_true, if_false, Nat.zero_add, List.length_map, simprocAttr])
      (try simp only [push_cast, simprocAttr]); refine call_lend [500000] none (lr := [rdR z v]) (by simp [ndB]) (by first | rfl | simp [rowsOf, hget, rdR, rowS, rowN, rowC, sC, ndC, cmC]) (by simp [idsL, idsA]) (by simp [mvN]) (by simpa [rnA, ixOf] using pick_pcl z v 4 (hr.le (by omega)) (by omega)) ?_
      rintro rv lr' rows ⟨m4, rfl, hm4, rfl, rfl⟩
      (refine ⟨by simp [shB, mvF, rdR, rowS, rowN, rowC], by simp [frB, baseOf], go_on ?_⟩; simp only [killA, killH, killRow, push_cast, simprocAttr])
      refine at_b (fun hc => ?_) (fun hc => ?_)
      · (try simp only [hc, push_cast, simprocAttr])
        (refine at_callW [31] (by refine wk_frz ?_ ?_ ?_ ?_ <;> simp [rdR, inC, frwS, frwH, frwRow, frzT, hasN, delL, hdel, leF, leHF, rowF, frzB, idsL, idsA, idsR, inH, hget, sameRow, viewN, tk]) ?_; simp only [rdR, inC, frwS, frwH, frwRow, frzT, hasN, delL, hdel, idsA, idsL, viewN, hget, tk, isC, List.map_cons, List.map_nil, List.all_cons, List.all_nil, List.append_nil, List.drop, List.getElem?_cons_zero, List.getElem?_cons_succ, Bool.not_false, Bool.not_true, Bool.and_true, if_true, if_false, Nat.zero_add, List.length_map, simprocAttr])
        (try simp only [push_cast, simprocAttr]); refine call_lend [500000] none (lr := [rdR z (v + 1)]) (by simp [ndB]) (by first | rfl | simp [rowsOf, hget, rdR, rowS, rowN, rowC, sC, ndC, cmC]) (by simp [idsL, idsA]) (by simp [mvN]) (by simpa [rnA, ixOf] using l92Bytes_pcl z (v + 1) (hr.le (by omega))) ?_
        rintro rv lr' rows ⟨f, hf, rfl, ⟨w, rfl, g5, g6⟩, rfl⟩
        have hfin := fin [⟨1, x, []⟩, ⟨2, [], f⟩] w (by simp) (by simp; omega) (by omega) (by omega)
        simp only [List.length_cons, List.length_nil, List.map_cons, List.map_nil, bC, show intsA [] = AV.sl 1 [] from rfl] at hfin
        (refine ⟨by simp [shB, mvF, rdR, rowS, rowN, rowC], by simp [frB, baseOf], go_on ?_⟩; simp only [killA, killH, killRow, push_cast, simprocAttr])
        refine at_chk (by first | trivial | omega | simp) ?_
        (try simp only [push_cast, simprocAttr])
        (refine at_retL ?_; simp only [Tryz.results68, retL, push_cast, simprocAttr]; simpa [show List.range 1 = [0] from rfl, show List.range 2 = [0, 1] from rfl, show List.range 3 = [0, 1, 2] from rfl, nmL, mvF, ndB, ixOf, rowsOf, hget, rdR, rowS, rowN, rowC] using  hfin)
      · have hfin := fin [⟨1, x, []⟩] (v + 1) (by simp) (by simp; omega) (by omega) (by omega)
        simp only [List.length_cons, List.length_nil, List.map_cons, List.map_nil, bC, show intsA [] = AV.sl 1 [] from rfl] at hfin
        (try simp only [hc, push_cast, simprocAttr])
        (refine at_retL ?_; simp only [Tryz.results68, retL, push_cast, simprocAttr]; simpa [show List.range 1 = [0] from rfl, show List.range 2 = [0, 1] from rfl, show List.range 3 = [0, 1, 2] from rfl, nmL, mvF, ndB, ixOf, rowsOf, hget, rdR, rowS, rowN, rowC] using  hfin)
theorem l92Shelf_pcl (z : List Int) (p : Nat) (hr : RdOk z (p + 2100)) : PCL Tryz.prog 68 [rdR z p] (mvF none) [.p 0 0 0] (dssD z p 2100) := by
  refine (l92Shelf_pcl0 z p hr).frz ?_
  rintro rv lr' rows ⟨l, h1, ⟨u, rfl, h2, h3⟩, ⟨rfl, rfl⟩ | ⟨rfl, rfl⟩⟩
  · exact ⟨by simp [idsA, idsL, bC], l, h1, by simp [viewN, hpOf, hget, isC, tk], ⟨u, rfl, h2, h3⟩, rfl⟩
  · exact ⟨by simp [idsA, idsL], l, h1, by simp [viewN, hpOf, hget, isC, tk], ⟨u, rfl, h2, h3⟩, rfl⟩
def dbsX (rv : AV) (rows : List Row) : Prop := ∃ (l : List BD) (b : Bk), SmB l ∧ SmL b.log ∧ rv = .tup [blsA l, bkA b] ∧ rows = []
theorem DrawBookSteps_pc (z : List Int) (hz : BytesOk z) : PC Tryz.prog 26 [byA z] dbsX := by
  have hr : RdOk (z.take 2000) (0 + 4000) := ⟨hz.tk, by rw [List.length_take]; omega, by omega⟩
  refine pc_enter Tryz.func26 rfl rfl fun w0 fb => go_on ?_; (try simp only [Tryz.ntmps26, push_cast, simprocAttr])
  refine call_share (by simp [isC]) (l6Open_pc z hz) ?_
  rintro rv rows ⟨rfl, rfl⟩
  refine ⟨by simp [frB, baseOf], go_on ?_⟩
  (try simp only [push_cast, simprocAttr])
  obtain ⟨y, hy⟩ : ∃ y, y = z.take 2000 := ⟨_, rfl⟩
  rw [← hy] at hr ⊢
  (try simp only [push_cast, simprocAttr]); refine call_lend [8000] none (lr := [rdR y 0]) (by simp [ndB]) (by first | rfl | simp [rowsOf, hget, rdR, rowS, rowN, rowC, sC, ndC, cmC]) (by simp [idsL, idsA]) (by simp [mvN]) (by simpa [rnA, ixOf] using l92Shelf_pcl y 0 (hr.le (by omega))) ?_
  rintro rv lr' rows ⟨l, hl, rfl, ⟨u, rfl, g1, g2⟩, rfl⟩
  (refine ⟨by simp [shB, mvF, rdR, rowS, rowN, rowC], by simp [frB, baseOf], go_on ?_⟩; simp only [killA, killH, killRow, push_cast, simprocAttr])
  (try simp only [push_cast, simprocAttr]); refine call_lend [8000] none (lr := [rdR y u]) (by simp [ndB]) (by first | rfl | simp [rowsOf, hget, rdR, rowS, rowN, rowC, sC, ndC, cmC]) (by simp [idsL, idsA]) (by simp [mvN]) (by simpa [rnA, ixOf] using l92Book_pcl y u (hr.le (by omega))) ?_
  rintro rv lr' rows ⟨b, hb, rfl, ⟨v, rfl, g3, g4⟩, rfl⟩
  unfold bkA bkC
  (refine ⟨by simp [shB, mvF, rdR, rowS, rowN, rowC], by simp [frB, baseOf], go_on ?_⟩; simp only [killA, killH, killRow, push_cast, simprocAttr])
  refine at_ret ?_; simp only [Tryz.results26, push_cast, simprocAttr]
  exact ⟨l, b, hl, hb.sm, rfl, rfl⟩
end Go.Proofs.YtccifbbjbnjcfaaGreatDoor
/-
  The abstract machine: a drawn region whose last operation waits for all others: the others in any order, then the last.
-/
namespace Go.Proofs.YtccifbbjbnjcfaaGreatDoor
open Go Go.RowKit
section
variable {P : Program} {w0 : World} {lent : Lent} {Q : Exit → Act → World → Prop}
end
end Go.Proofs.YtccifbbjbnjcfaaGreatDoor
/-
  The abstract machine: a drawn region whose last two operations wait for all others: the others in any order, then the last two.
-/
namespace Go.Proofs.YtccifbbjbnjcfaaGreatDoor
open Go Go.RowKit
section
variable {P : Program} {w0 : World} {lent : Lent} {Q : Exit → Act → World → Prop}
end
end Go.Proofs.YtccifbbjbnjcfaaGreatDoor
/-
  The abstract machine: a drawn region whose last three operations wait for all others, but the third last for all but the first (a move).
-/
namespace Go.Proofs.YtccifbbjbnjcfaaGreatDoor
open Go Go.RowKit
section
variable {P : Program} {w0 : World} {lent : Lent} {Q : Exit → Act → World → Prop}
end
end Go.Proofs.YtccifbbjbnjcfaaGreatDoor
/-
  Walks: the reference's DiskCrash.
-/
namespace Go.Proofs.YtccifbbjbnjcfaaGreatDoor
open Go Go.RowKit Go.Proofs
attribute [local irreducible] RWp AW run kPe pe Kt effA gd gu br retR RDp runD kPeD brW gW effD
set_option maxRecDepth 100000
end Go.Proofs.YtccifbbjbnjcfaaGreatDoor
/-
  Walks: DiskCrash, set aside.
-/
namespace Go.Proofs.YtccifbbjbnjcfaaGreatDoor
open Go Go.RowKit Go.Proofs
def crU (keep : List Int) (bs : List BD) (i : Nat) : List BD := (bs.map (crF keep)).take i ++ bs.drop i
theorem crU_len (keep : List Int) (bs : List BD) (i : Nat) (h : i ≤ bs.length) : (crU keep bs i).length = bs.length := by simp [crU]; omega
theorem crU_at {keep : List Int} {i : Nat} {bs : List BD} {d : BD} (hd : bs[i]? = some d) : (crU keep bs i)[i]? = some d := by
  have := lt_of_some hd
  unfold crU
  rw [List.getElem?_append_right (by simp; omega), List.length_take, List.length_map, Nat.min_eq_left (by omega), Nat.sub_self, List.getElem?_drop, Nat.add_zero]
  exact hd
theorem crU_set {keep : List Int} {i : Nat} {bs : List BD} {d : BD} (hd : bs[i]? = some d) : (crU keep bs i).set i (crF keep d) = crU keep bs (i + 1) := up_set (by rw [List.getElem?_map, hd]; rfl) (lt_of_some hd)
theorem crU_0 (keep : List Int) (bs : List BD) : crU keep bs 0 = bs := by simp [crU]
theorem crU_n (keep : List Int) (bs : List BD) : crU keep bs bs.length = bs.map (crF keep) := by
  unfold crU
  rw [List.drop_length, List.append_nil, List.take_of_length_le (by simp)]
/-- Between two files: one of them read as data. -/
structure CJ (keep : List Int) (bs : List BD) (w00 : World) (x : Nat) (us : UU) (w2 : World) (lent2 : Lent) : Prop where
  le : x ≤ bs.length
  ch : Ch w00 w2 lent2
  len : us.length = bs.length
  apart : (flU us).Pairwise fun a b => ∀ g, a.ownBlock = some g → b.ownBlock ≠ some g
  inn : ∀ (i : Nat) d q, (crU keep bs x)[i]? = some d → us[i]? = some q → i ≠ x → OwI w2 lent2.fb q.1 d.safe ∧ OwI w2 lent2.fb q.2 d.fresh
  pin : x < bs.length → lent2.pin 500003 = some none
def cjH (keep : List Int) (bs : List BD) (x : Nat) (us : UU) : Hp := match bs[x]? with
  | some d => [(500000, ⟨79, 3, (esT (crU keep bs x) us).set x [iA d.name, intsA d.safe, intsA d.fresh], true⟩), (500003, rowZ [])]
  | none => [(500000, rowT (crU keep bs x) us)]
theorem crash_free {keep : List Int} {bs : List BD} {us : UU} {w00 w1 w : World} {lent1 : Lent} {t : List AV} {loc : Loc} {a : Act} {x : Nat} (hx : x ≤ bs.length) (hR : Rel w1 lent1 ⟨t, [(500000, rowT (crU keep bs x) us)]⟩ loc a w) (hgh : Gh w lent1.fb (crU keep bs x) us) (hch : Ch w00 w1 lent1) :
    ∃ w3 lent3 loc3, CJ keep bs w00 x us w3 lent3 ∧ Rel w3 lent3 ⟨t.map (clS 500000), cjH keep bs x us⟩ loc3 a w := by
  have hl : us.length = bs.length := by rw [hgh.len, crU_len keep bs x hx]
  cases hb : bs[x]? with
  | none =>
    have hnx : bs.length ≤ x := by
      rcases Nat.lt_or_ge x bs.length with h | h
      · rw [List.getElem?_eq_getElem h] at hb; cases hb
      · exact h
    refine ⟨w1, lent1, loc, ⟨hx, hch, hl, hgh.apart, fun i d q h1 h2 _ => ?_, fun h => by omega⟩, ?_⟩
    · have := hgh.inn i d q h1 h2
      exact ⟨this.1.same (fun b h => (hR.fbk h).symm) fun _ h => h, this.2.same (fun b h => (hR.fbk h).symm) fun _ h => h⟩
    · have := hR.cls 500000
      unfold cjH
      rw [hb]
      exact this
  | some d =>
    have hd := crU_at (keep := keep) hb
    obtain ⟨q, hq⟩ := hgh.at hd
    have hqi := hgh.inn x d q hd hq
    obtain ⟨lent4, loc4, hR4, hfb4, hkp4, hch4, hpin⟩ := hR.free (R := 500000) (E0 := esT (crU keep bs x) us) rfl (by decide) esT_c (esT_at hd hq) hqi.1 hqi.2
    refine ⟨w, lent4, loc4, ⟨hx, hch4 _ _ hch, hl, hgh.apart, fun i e r k1 k2 hne => ?_, fun _ => hpin⟩, ?_⟩
    · have := hgh.inn i e r k1 k2
      have n1 := fun v (hv : v = r.1 ∨ v = r.2) => apart_ne hgh.apart k2 hq hne hv (v' := q.1) (.inl rfl)
      have n2 := fun v (hv : v = r.1 ∨ v = r.2) => apart_ne hgh.apart k2 hq hne hv (v' := q.2) (.inr rfl)
      rw [hfb4]
      exact ⟨⟨this.1.1, fun g hg => ⟨this.1.2 g hg, n1 _ (.inl rfl) g hg, n2 _ (.inl rfl) g hg⟩⟩, ⟨this.2.1, fun g hg => ⟨this.2.2 g hg, n1 _ (.inr rfl) g hg, n2 _ (.inr rfl) g hg⟩⟩⟩
    · unfold cjH
      rw [hb]
      exact hR4
attribute [local irreducible] RWp AW run kPe pe Kt effA gd gu br retR RDp runD kPeD brW gW effD
set_option maxRecDepth 100000
theorem crashNo_pc (n : Int) : PC Tryz.prog 73 [iA n] (vB (!inR n 0 400)) := by
  refine pc_enter Tryz.func73 rfl rfl fun w0 fb => go_on ?_; (try simp only [Tryz.ntmps73, push_cast, simprocAttr])
  (refine at_call ?_; (try simp only [push_cast, simprocAttr]); refine rwc_v (in_pc n 0 400) (go_on ?_); (try simp only [push_cast, simprocAttr]))
  refine at_ret ?_; simp only [Tryz.results73, push_cast, simprocAttr]
  simp [vX]
theorem DiskCrash_o (bs : List BD) (hs : SmB bs) (keep : List Int) (hk : keep.length ≤ 2000000) : PO Tryz.prog 29 [blsA bs, intsA keep] (otB (crashP bs keep).1 (crashP bs keep).2) := by
  have hV := DiskValid_pc bs hs
  have hn := hs.n
  have hCF := ContainsFuncI_pc keep (by omega) 73 [] rfl (fun n => !inR n 0 400) (fun n _ => crashNo_pc n)
  have hany : (keep.any fun n => !inR n 0 400) = !(keep.all fun n => inR n 0 400) := by simp [List.not_all_eq_any_not]
  rw [hany] at hCF
  refine po_enter Tryz.func29 rfl rfl fun w0 => go_on ?_; (try simp only [Tryz.ntmps29, push_cast, simprocAttr])
  refine at_call ?_
  (try simp only [push_cast, simprocAttr])
  refine rwc_v hV ?_
  (try simp only [push_cast, simprocAttr])
  (refine at_dropS [4] (by refine wk_ok ?_ ?_ ?_ ?_ <;> simp [dropS, dropT, hasN, delL, hdel, leL, leH, idsL, idsA, idsR, inH, hget, sameRow]) ?_; simp only [dropS, dropT, hasN, delL, hdel, idsA, idsL, hget, List.map_cons, List.map_nil, List.all_cons, List.all_nil, List.append_nil, Bool.not_false, Bool.not_true, Bool.and_true, if_true, if_false, simprocAttr])
  refine go_on ?_
  cases hb : (diskB bs && okK keep) with
  | false =>
    rw [crashP_bad hb]
    cases hv : diskB bs with
    | false =>
      (try simp only [hv, Bool.not_false, push_cast, simprocAttr])
      (refine at_retO (Ch.refl w0) (l := [.o 4 0, bA false]) (by simp only [Tryz.results29, push_cast, simprocAttr]) ?_)
      exact fun loc a w v hR hG => ownNil (Ch.refl w0) rfl hR hG
    | true =>
      by_cases h3 : keep.length ≤ 3
      · have e1 : ltI 3 (keep.length : Int) = false := ltI_f (by omega)
        have hall : (keep.all fun n => inR n 0 400) = false := by simpa [hv, okK, h3] using hb
        (try simp only [hv, Bool.not_true, e1, push_cast, simprocAttr])
        (refine at_call ?_; (try simp only [push_cast, simprocAttr]); refine rwc_v (hCF) (go_on ?_); (try simp only [push_cast, simprocAttr]))
        (try simp only [hall, Bool.not_false, push_cast, simprocAttr])
        (refine at_retO (Ch.refl w0) (l := [.o 4 0, bA false]) (by simp only [Tryz.results29, push_cast, simprocAttr]) ?_)
        exact fun loc a w v hR hG => ownNil (Ch.refl w0) rfl hR hG
      · have e1 : ltI 3 (keep.length : Int) = true := ltI_t (by omega)
        (try simp only [hv, Bool.not_true, e1, push_cast, simprocAttr])
        (refine at_retO (Ch.refl w0) (l := [.o 4 0, bA false]) (by simp only [Tryz.results29, push_cast, simprocAttr]) ?_)
        exact fun loc a w v hR hG => ownNil (Ch.refl w0) rfl hR hG
  | true =>
    rw [crashP_ok hb]
    rw [Bool.and_eq_true] at hb
    obtain ⟨hv, hkk⟩ := hb
    unfold okK at hkk
    rw [Bool.and_eq_true, decide_eq_true_eq] at hkk
    obtain ⟨h3, hall⟩ := hkk
    have hn3 := disk_len hv
    have e1 : ltI 3 (keep.length : Int) = false := ltI_f (by omega)
    (try simp only [hv, Bool.not_true, e1, push_cast, simprocAttr])
    (refine at_call ?_; (try simp only [push_cast, simprocAttr]); refine rwc_v (hCF) (go_on ?_); (try simp only [push_cast, simprocAttr]))
    (try simp only [hall, Bool.not_true, push_cast, simprocAttr])
    refine call_PO rfl [blsA bs] ⟨ga_c rfl, trivial⟩ (cloneDisk_o bs hs) ?_
    rintro w2 lent2 X x hN ⟨u, us, rfl, hO⟩
    refine AW.re rfl fun loc a w hR => ?_
    obtain ⟨lent3, loc3, hR3, hgh, hch3, _, hkp3, _⟩ := hR.adopt' 23 rfl hO hN.xfb
    have c3 := hch3 _ _ (hN.ch _ _ (Ch.refl w0))
    refine ⟨w, lent3, _, loc3, hR3, ?_⟩
    clear hR hR3 hO hN hkp3 hch3
    simp only [AS.put, setA, cl0, isC, List.map_cons, List.map_nil, List.set_cons_succ, List.set_cons_zero, if_true, if_false, simprocAttr]
    refine go_on ?_
    (try simp only [push_cast, simprocAttr])
    refine at_loopR (X := Nat × UU) (fun x => [(26, iA x.1)]) (fun x => cjH keep bs x.1 x.2) (fun x w lent => CJ keep bs w0 x.1 x.2 w lent) (fun x => bs.length - x.1) rfl (fun loc a w1 hR => ?_) ?_
    · obtain ⟨w3, lent3, loc3, h1, h2⟩ := crash_free (keep := keep) (x := 0) (us := us) (w00 := w0) (Nat.zero_le _) (by rw [crU_0]; exact hR) (by rw [crU_0]; exact hgh.same (fun b h => hR.fbk h) fun _ h => h) c3
      refine from_wk (0, us) h1 (wk_t ?_) loc3 a w1 h2
      simp [leL, clS, isC, upA, hvA, dsts, dstO, setA_0, setA_1, setA_8, List.append, List.cons_append, List.nil_append]
    · rintro ⟨k, us⟩ w2 lent2 hJ
      have h1 := hJ.le
      have hlen := hJ.len
      dsimp only at h1 hlen
      simp only [upA, hvA, dsts, dstO, setA_0, setA_1, setA_8, List.append, List.cons_append, List.nil_append]
      by_cases hlt : k < bs.length
      · obtain ⟨d, hd⟩ := get_of_lt hlt
        have hmj : cjH keep bs k us = [(500000, ⟨79, 3, (esT (crU keep bs k) us).set k [iA d.name, intsA d.safe, intsA d.fresh], true⟩), (500003, rowZ [])] := by unfold cjH; rw [hd]
        rw [hmj]
        have hpin := hJ.pin hlt
        have hcd := crU_at (keep := keep) hd
        have hlenU := crU_len keep bs k h1
        have hel : (esT (crU keep bs k) us).length = bs.length := by rw [esT_len (by rw [hlen, hlenU]), hlenU]
        have i1 := ix_n hd
        have i3 : ∀ z, ((esT (crU keep bs k) us).set k z)[k]? = some z := fun z => by rw [List.getElem?_set_self (by omega)]
        have i0 : ltI (k : Int) bs.length = true := ltI_t (by omega)
        have hok := disk_okF hv (mem_of_get hd)
        simp only [okF, inB, Bool.and_eq_true, decide_eq_true_eq] at hok
        obtain ⟨K, hK⟩ : ∃ K, K = keepN keep d := ⟨_, rfl⟩
        have hKl : (K : Int) ≤ d.fresh.length := by
          rw [hK]; unfold keepN
          split <;> omega
        have w1 := wr ((k : Int) + 1) (by omega)
        have hC := Concat_pc [d.safe, d.fresh.take K] (by simp) (by simp; omega)
        simp only [List.map_cons, List.map_nil, szC, List.flatten_cons, List.flatten_nil, List.append_nil] at hC
        rw [show intsA (List.take K d.fresh) = .sl 1 (List.take K (List.map inC d.fresh)) from by rw [← List.map_take]] at hC
        refine go_on ?_
        (try simp only [i0, i1, i3, push_cast, simprocAttr])
        by_cases hle : d.name ≤ keep.length
        · have e2 : leI d.name keep.length = true := by simpa [leI] using hle
          have w2 : IntKind.i64.wrap (d.name - 1) = d.name - 1 := wr _ (by omega)
          obtain ⟨kv, hkv⟩ : ∃ kv, keep[(d.name - 1).toNat]? = some kv := ⟨keep[(d.name - 1).toNat]'(by omega), List.getElem?_eq_getElem _⟩
          have i5 : toIx (d.name - 1) keep.length = some (d.name - 1).toNat := by unfold toIx; rw [if_pos (by omega)]
          have i4 := map_get inC hkv
          simp only [inC] at i4
          have hmin : (if (d.fresh.length : Int) < kv then (d.fresh.length : Int) else kv) = (K : Int) := by
            have := List.all_eq_true.1 hall kv (mem_of_get hkv)
            simp only [inR, Bool.and_eq_true, decide_eq_true_eq] at this
            rw [hK, keepN, if_pos hle, hkv, Option.getD_some]
            split <;> omega
          (try simp only [e2, push_cast, simprocAttr])
          refine at_draw rfl (by kernel_rfl) ?_; simp only [push_cast, simprocAttr]
          (try simp only [i5, i4, w2, push_cast, simprocAttr])
          rw [hmin]
          refine at_done (by kernel_rfl) (by kernel_rfl) (go_on ?_)
          (try simp only [push_cast, simprocAttr])
          refine at_draw rfl (by kernel_rfl) ?_; simp only [push_cast, simprocAttr]
          (try simp only [i1, i3, List.set_set, hKl, if_true, push_cast, simprocAttr])
          (refine at_callD (by simp [clB, idsL, idsA, hget]) ?_; (try simp only [push_cast, simprocAttr]); refine rcd_r hC (by simp [flatV, flatL]) (flat_i _) (by simp [frB, baseOf]) ?_; (try simp only [push_cast, simprocAttr]))
          (try simp only [i1, i3, List.set_set, push_cast, simprocAttr])
          refine at_done (by kernel_rfl) (by kernel_rfl) (go_on_n 5 ?_)
          (try simp only [i1, i3, List.set_set, push_cast, simprocAttr])
          rw [run_0]
          refine at_more ?_
          refine aw_storeN 500003 hpin rfl (h' := [(500000, ⟨79, 3, (esT (crU keep bs k) us).set k [iA d.name, .o 56000 (d.safe ++ List.take K d.fresh).length, .o 500003 0], false⟩), (500003, rowZ []), (8, ⟨79, 3, [[iA d.name, intsA d.safe, intsA d.fresh]], true⟩), (54, ⟨62, 1, [[intsA d.safe], [.sl 1 (List.take K (List.map inC d.fresh))]], true⟩), (56000, rowZ (d.safe ++ List.take K d.fresh))]) (by simp only [i3, List.set_set, push_cast, simprocAttr]) ?_
          refine go_on ?_
          (try simp only [w1, push_cast, simprocAttr])
          refine at_fin fun loc a w hR => ?_
          obtain ⟨u1, u2, lent6, loc6, hR6, o1, o2, hap, n1, n2, hsub, hkp, hch6, _, _, _, _, hl6⟩ := hR.unlink (R := 500000) (x := .o 56000 (d.safe ++ List.take K d.fresh).length) (y := .o 500003 ([] : List Int).length) (nm := d.name) rfl rfl rfl (.o rfl) (.o rfl) (by simp [idsA]) (by simp [idsA]) (by simp [idsA])
            (fun u1 u2 => (esT (crU keep bs k) us).set k [iA d.name, .v u1, .v u2]) (fun u1 u2 => set_rel esT_c (by omega))
          have hcr : (⟨d.name, d.safe ++ List.take K d.fresh, []⟩ : BD) = crF keep d := by rw [hK]; rfl
          rw [esT_set2 (d := ⟨d.name, d.safe ++ List.take K d.fresh, []⟩) (p := (u1, u2)) (by rw [hlen, hlenU]) (by rw [hlenU]; exact hlt), hcr, crU_set hd] at hR6
          have hG2 := Gh.set (d := ⟨d.name, d.safe ++ List.take K d.fresh, []⟩) (by rw [hlen, hlenU]) (by rw [hlenU]; exact hlt) hJ.inn hJ.apart hkp hsub o1 o2 hap n1 n2
          rw [hcr, crU_set hd] at hG2
          obtain ⟨w3, lent3, loc3, j1, j2⟩ := crash_free (keep := keep) (x := k + 1) (us := us.set k (u1, u2)) (w00 := w0) hlt hR6 hG2 (hch6 _ _ hJ.ch)
          refine from_wk2 j2 (k + 1, us.set k (u1, u2)) j1 (by dsimp only; omega) (wk_t ?_)
          simp [leL, clS, isC, upA, hvA, dsts, dstO, setA_0, setA_1, setA_8, List.append, List.cons_append, List.nil_append]
        · have e2 : leI d.name keep.length = false := by simpa [leI] using hle
          have hK0 : K = 0 := by rw [hK]; unfold keepN; rw [if_neg hle]
          have hKl0 : (0 : Int) ≤ d.fresh.length := by omega
          rw [show AV.sl 1 (List.take K (List.map inC d.fresh)) = .sl 1 [] from by rw [hK0]; rfl] at hC
          (try simp only [e2, push_cast, simprocAttr])
          refine at_draw rfl (by kernel_rfl) ?_; simp only [push_cast, simprocAttr]
          (try simp only [i1, i3, List.set_set, hKl0, if_true, push_cast, simprocAttr])
          (refine at_callD (by simp [clB, idsL, idsA, hget]) ?_; (try simp only [push_cast, simprocAttr]); refine rcd_r hC (by simp [flatV, flatL]) (flat_i _) (by simp [frB, baseOf]) ?_; (try simp only [push_cast, simprocAttr]))
          (try simp only [i1, i3, List.set_set, push_cast, simprocAttr])
          refine at_done (by kernel_rfl) (by kernel_rfl) (go_on_n 5 ?_)
          (try simp only [i1, i3, List.set_set, push_cast, simprocAttr])
          rw [run_0]
          refine at_more ?_
          refine aw_storeN 500003 hpin rfl (h' := [(500000, ⟨79, 3, (esT (crU keep bs k) us).set k [iA d.name, .o 56000 (d.safe ++ List.take K d.fresh).length, .o 500003 0], false⟩), (500003, rowZ []), (8, ⟨79, 3, [[iA d.name, intsA d.safe, intsA d.fresh]], true⟩), (54, ⟨62, 1, [[intsA d.safe], [.sl 1 []]], true⟩), (56000, rowZ (d.safe ++ List.take K d.fresh))]) (by simp only [i3, List.set_set, push_cast, simprocAttr]) ?_
          refine go_on ?_
          (try simp only [w1, push_cast, simprocAttr])
          refine at_fin fun loc a w hR => ?_
          obtain ⟨u1, u2, lent6, loc6, hR6, o1, o2, hap, n1, n2, hsub, hkp, hch6, _, _, _, _, hl6⟩ := hR.unlink (R := 500000) (x := .o 56000 (d.safe ++ List.take K d.fresh).length) (y := .o 500003 ([] : List Int).length) (nm := d.name) rfl rfl rfl (.o rfl) (.o rfl) (by simp [idsA]) (by simp [idsA]) (by simp [idsA])
            (fun u1 u2 => (esT (crU keep bs k) us).set k [iA d.name, .v u1, .v u2]) (fun u1 u2 => set_rel esT_c (by omega))
          have hcr : (⟨d.name, d.safe ++ List.take K d.fresh, []⟩ : BD) = crF keep d := by rw [hK]; rfl
          rw [esT_set2 (d := ⟨d.name, d.safe ++ List.take K d.fresh, []⟩) (p := (u1, u2)) (by rw [hlen, hlenU]) (by rw [hlenU]; exact hlt), hcr, crU_set hd] at hR6
          have hG2 := Gh.set (d := ⟨d.name, d.safe ++ List.take K d.fresh, []⟩) (by rw [hlen, hlenU]) (by rw [hlenU]; exact hlt) hJ.inn hJ.apart hkp hsub o1 o2 hap n1 n2
          rw [hcr, crU_set hd] at hG2
          obtain ⟨w3, lent3, loc3, j1, j2⟩ := crash_free (keep := keep) (x := k + 1) (us := us.set k (u1, u2)) (w00 := w0) hlt hR6 hG2 (hch6 _ _ hJ.ch)
          refine from_wk2 j2 (k + 1, us.set k (u1, u2)) j1 (by dsimp only; omega) (wk_t ?_)
          simp [leL, clS, isC, upA, hvA, dsts, dstO, setA_0, setA_1, setA_8, List.append, List.cons_append, List.nil_append]
      · obtain rfl : k = bs.length := by omega
        have hmj : cjH keep bs bs.length us = [(500000, rowT (bs.map (crF keep)) us)] := by
          unfold cjH
          rw [List.getElem?_eq_none (Nat.le_refl _), crU_n]
        rw [hmj]
        have hgh : Gh w2 lent2.fb (bs.map (crF keep)) us := ⟨by rw [List.length_map]; exact hlen, fun i d q k1 k2 => hJ.inn i d q (by rw [crU_n]; exact k1) k2 (by have := lt_of_some k1; rw [List.length_map] at this; dsimp only; omega), hJ.apart⟩
        have hch := hJ.ch
        have i0 : ltI (bs.length : Int) bs.length = false := ltI_f (by omega)
        refine go_on ?_
        (try simp only [i0, push_cast, simprocAttr])
        (refine at_retO hch (l := [.o 500000 bs.length, bA true]) (by simp only [Tryz.results29, push_cast, simprocAttr]) ?_)
        intro loc a w v hR hG
        obtain ⟨v0, hv0, hv1⟩ := hG.tupOB
        refine ⟨_, hv1, v0, us, rfl, ?_⟩
        exact hR.toOT hch (R := 500000) rfl hgh (by rw [hv0, List.length_map])
end Go.Proofs.YtccifbbjbnjcfaaGreatDoor
/-
  Walks: sameBook; small facts about books.
-/
namespace Go.Proofs.YtccifbbjbnjcfaaGreatDoor
open Go Go.RowKit Go.Proofs
theorem book_n {bs : List BD} {b : Bk} (h : bookO bs = some b) : b.log.length ≤ 20 := by
  obtain ⟨_, _, _, h4, _⟩ := bookO_some h
  unfold bookB at h4
  split at h4
  · rename_i hc
    rw [Bool.and_eq_true] at hc
    exact lV_n hc.1
  · cases h4
attribute [local irreducible] RWp AW run kPe pe Kt effA gd gu br retR RDp runD kPeD brW gW effD
set_option maxRecDepth 100000
theorem sameBook_pc (a b : Bk) (hl : a.log.length < 4294967281) : PC Tryz.prog 30 [bkA a, bkA b] (vB (decide (a = b))) := by
  have hS := sameLog_pc a.log b.log hl
  have e : decide (a = b) = (eqI a.ep b.ep && decide (a.log = b.log)) := by
    rw [Bool.eq_iff_iff, eqI_d]
    obtain ⟨ae, al⟩ := a
    obtain ⟨be, bl⟩ := b
    simp
  rw [e]
  unfold bkA bkC
  cases he : eqI a.ep b.ep with
  | false =>
    refine pc_enter Tryz.func30 rfl rfl fun w0 fb => go_on ?_; (try simp only [Tryz.ntmps30, push_cast, simprocAttr])
    (try simp only [he, push_cast, simprocAttr])
    refine at_ret ?_; simp only [Tryz.results30, push_cast, simprocAttr]
    simp [vX]
  | true =>
    refine pc_enter Tryz.func30 rfl rfl fun w0 fb => go_on ?_; (try simp only [Tryz.ntmps30, push_cast, simprocAttr])
    (try simp only [he, push_cast, simprocAttr])
    (refine at_call ?_; (try simp only [push_cast, simprocAttr]); refine rwc_v (hS) (go_on ?_); (try simp only [push_cast, simprocAttr]))
    refine at_ret ?_; simp only [Tryz.results30, push_cast, simprocAttr]
    simp [vX]
end Go.Proofs.YtccifbbjbnjcfaaGreatDoor
/-
  Walks: FnReplace.
-/
namespace Go.Proofs.YtccifbbjbnjcfaaGreatDoor
open Go Go.RowKit Go.Proofs
theorem stepsP_no {bs : List BD} {b : Bk} (h : (stepsP bs b).2 = false) : stepsP bs b = ([], false) := by
  cases h1 : ((bookB b).2 && diskB bs) with
  | false => exact stepsP_f h1
  | true =>
    cases h2 : (writeD (bs.filter fun x => decide (x.name ≠ 2)) 2 (bookB b).1).2 with
    | false => exact stepsP_w h1 h2
    | true => rw [stepsP_t h1 h2] at h; cases h
attribute [local irreducible] RWp AW run kPe pe Kt effA gd gu br retR RDp runD kPeD brW gW effD
set_option maxRecDepth 100000
end Go.Proofs.YtccifbbjbnjcfaaGreatDoor
