/- A part of the proof of FnExactBookAdd: texts N18 N19 N20 N30 N31 U11 N34 N35 N36 U12 U13 U14 U15 U16 M41 M47 M48 N33 N37 U17 U18 VFnExactBookAdd. -/
import Derived.Test.YtccifbbjbnjcfaaGreatDoorZv6
import Derived.Test.YtccifbbjbnjcfaaGreatDoorZv5
import Derived.Test.YtccifbbjbnjcfaaGreatDoorZv4
import Derived.Test.YtccifbbjbnjcfaaGreatDoorZv3
set_option linter.unusedSimpArgs false
set_option linter.unusedVariables false
/-
  Walks: disks: impl.DiskWrite, where there is no such file, or nothing is written.
-/
namespace Go.Proofs.YtccifbbjbnjcfaaGreatDoor
open Go Go.RowKit Go.Proofs
theorem disk_names {bs : List BD} (h : diskB bs = true) : ∀ d ∈ bs, 0 ≤ d.name ∧ d.name ≤ 3 := fun d hd => by
  have := disk_okF h hd
  simp only [okF, inB, Bool.and_eq_true, decide_eq_true_eq] at this
  omega
attribute [local irreducible] RWp AW run kPe pe Kt effA gd gu br retR RDp runD kPeD brW gW effD
set_option maxRecDepth 100000
theorem DiskWrite_bad (bs : List BD) (hs : SmB bs) (nm : Int) (xs : List Int) (hx : xs.length ≤ 2000000) (h : (diskB bs && bytesB xs && inB nm 1 3) = false) : PC Tryz.prog 48 [blsA bs, iA nm, intsA xs] (rX (.tup [.o 0 0, bA false]) [rowB []]) := by
  have hV := DiskValid_pc bs hs
  have hB := bytesValid_pc xs (by omega)
  have hI := in_pc nm 1 3
  have eI : inB nm 1 3 = inR nm 1 3 := rfl
  rw [eI] at h
  cases hv : diskB bs with
  | false =>
    refine pc_enter Tryz.func48 rfl rfl fun w0 fb => go_on ?_; (try simp only [Tryz.ntmps48, push_cast, simprocAttr])
    refine at_call ?_
    (try simp only [push_cast, simprocAttr])
    refine rwc_v hV ?_
    (try simp only [push_cast, simprocAttr])
    (refine at_dropS [6] (by refine wk_ok ?_ ?_ ?_ ?_ <;> simp [dropS, dropT, hasN, delL, hdel, leL, leH, idsL, idsA, idsR, inH, hget, sameRow]) ?_; simp only [dropS, dropT, hasN, delL, hdel, idsA, idsL, hget, List.map_cons, List.map_nil, List.all_cons, List.all_nil, List.append_nil, Bool.not_false, Bool.not_true, Bool.and_true, if_true, if_false, simprocAttr])
    refine go_on ?_
    (try simp only [hv, Bool.not_false, push_cast, simprocAttr])
    refine at_ret ?_; simp only [Tryz.results48, push_cast, simprocAttr]
    simp [rX, ixOf]
  | true =>
    cases hxb : bytesB xs with
    | false =>
      refine pc_enter Tryz.func48 rfl rfl fun w0 fb => go_on ?_; (try simp only [Tryz.ntmps48, push_cast, simprocAttr])
      refine at_call ?_
      (try simp only [push_cast, simprocAttr])
      refine rwc_v hV ?_
      (try simp only [push_cast, simprocAttr])
      (refine at_dropS [6] (by refine wk_ok ?_ ?_ ?_ ?_ <;> simp [dropS, dropT, hasN, delL, hdel, leL, leH, idsL, idsA, idsR, inH, hget, sameRow]) ?_; simp only [dropS, dropT, hasN, delL, hdel, idsA, idsL, hget, List.map_cons, List.map_nil, List.all_cons, List.all_nil, List.append_nil, Bool.not_false, Bool.not_true, Bool.and_true, if_true, if_false, simprocAttr])
      refine go_on ?_
      (try simp only [hv, Bool.not_true, push_cast, simprocAttr])
      (refine at_call ?_; (try simp only [push_cast, simprocAttr]); refine rwc_v (hB) (go_on ?_); (try simp only [push_cast, simprocAttr]))
      (try simp only [hxb, Bool.not_false, push_cast, simprocAttr])
      refine at_ret ?_; simp only [Tryz.results48, push_cast, simprocAttr]
      simp [rX, ixOf]
    | true =>
      have hi : inR nm 1 3 = false := by simpa [hv, hxb] using h
      refine pc_enter Tryz.func48 rfl rfl fun w0 fb => go_on ?_; (try simp only [Tryz.ntmps48, push_cast, simprocAttr])
      refine at_call ?_
      (try simp only [push_cast, simprocAttr])
      refine rwc_v hV ?_
      (try simp only [push_cast, simprocAttr])
      (refine at_dropS [6] (by refine wk_ok ?_ ?_ ?_ ?_ <;> simp [dropS, dropT, hasN, delL, hdel, leL, leH, idsL, idsA, idsR, inH, hget, sameRow]) ?_; simp only [dropS, dropT, hasN, delL, hdel, idsA, idsL, hget, List.map_cons, List.map_nil, List.all_cons, List.all_nil, List.append_nil, Bool.not_false, Bool.not_true, Bool.and_true, if_true, if_false, simprocAttr])
      refine go_on ?_
      (try simp only [hv, Bool.not_true, push_cast, simprocAttr])
      (refine at_call ?_; (try simp only [push_cast, simprocAttr]); refine rwc_v (hB) (go_on ?_); (try simp only [push_cast, simprocAttr]))
      (try simp only [hxb, Bool.not_true, push_cast, simprocAttr])
      (refine at_call ?_; (try simp only [push_cast, simprocAttr]); refine rwc_v (hI) (go_on ?_); (try simp only [push_cast, simprocAttr]))
      (try simp only [hi, Bool.not_false, push_cast, simprocAttr])
      refine at_ret ?_; simp only [Tryz.results48, push_cast, simprocAttr]
      simp [rX, ixOf]
theorem DiskWrite_new0 (bs : List BD) (nm : Int) (xs : List Int) (hx : xs.length ≤ 2000000) (hv : diskB bs = true) (hxb : bytesB xs = true) (hi : inB nm 1 3 = true) (hg : getB bs nm = none) (hb : bs = []) : PC Tryz.prog 48 [blsA bs, iA nm, intsA xs] (vX (.tup [blsA (writeD bs nm xs).1, bA (writeD bs nm xs).2])) := by
  have hs := disk_sm hv
  have hn3 := disk_len hv
  have hV := DiskValid_pc bs hs
  have hB := bytesValid_pc xs (by omega)
  have hI := in_pc nm 1 3
  have hF := file_pc bs hs.n nm
  have hC := cloneDisk_pc bs hs
  have hi' : inR nm 1 3 = true := hi
  have hnm : 0 ≤ nm ∧ nm ≤ 3 := by simp only [inR, Bool.and_eq_true, decide_eq_true_eq] at hi'; omega
  have hwl := withB_len bs (wrB bs nm xs)
  have hnms := disk_names hv
  have hWs : SmD (wrB bs nm xs) := by
    unfold wrB
    cases hg : getB bs nm with
    | none => exact ⟨by simp, by simp only; omega⟩
    | some d =>
      have hm := (getB_name hg).2
      have hok := disk_okF hv hm
      simp only [okF, Bool.and_eq_true, decide_eq_true_eq] at hok
      exact ⟨(hs.d d hm).s, by simp only [List.length_append]; omega⟩
  have hws : SmB (withB bs (wrB bs nm xs)) := withB_sm hs (by omega) hWs
  obtain ⟨Y, hY⟩ : ∃ Y, Y = withB bs (wrB bs nm xs) := ⟨_, rfl⟩
  rw [← hY] at hws hwl
  have hwr : writeD bs nm xs = if diskB Y = true then (Y, true) else ([], false) := by unfold writeD; rw [hv, hxb, hi, ← hY]; rfl
  have hV2 := DiskValid_pc Y hws
  have hC2 := cloneDisk_d Y hws
  have emp : ∀ {q : PC Tryz.prog 48 [blsA bs, iA nm, intsA xs] (rX (.tup [.o 0 0, bA false]) [rowB []])}, PC Tryz.prog 48 [blsA bs, iA nm, intsA xs] (vX (.tup [blsA [], bA false])) := fun {q} => by
    have := q.frzX
    simp [viewN, hpOf, hget, isC, tk] at this
    exact this
  have hix : ixB bs nm = -1 := by
    rcases ixB_cases bs nm with ⟨h1, _⟩ | ⟨j, d, _, _, h3⟩
    · exact h1
    · rw [hg] at h3; cases h3
  rw [hix] at hF
  subst hb
  have hS := sorted_pcl ([⟨nm, [], xs⟩] : List BD) (by simp) fun d hd => by
    rcases List.mem_append.1 (show d ∈ [] ++ [(⟨nm, [], xs⟩ : BD)] from hd) with hd | hd
    · exact hnms d hd
    · simp only [List.mem_singleton] at hd; subst hd; exact hnm
  cases hd : diskB Y with
  | false =>
    have hr : writeD [] nm xs = ([], false) := by rw [hwr, hd]; rfl
    rw [hr]
    refine emp (q := ?_)
    refine pc_enter Tryz.func48 rfl rfl fun w0 fb => go_on ?_; (try simp only [Tryz.ntmps48, push_cast, simprocAttr])
    refine at_call ?_
    (try simp only [push_cast, simprocAttr])
    refine rwc_v hV ?_
    (try simp only [push_cast, simprocAttr])
    (refine at_dropS [6] (by refine wk_ok ?_ ?_ ?_ ?_ <;> simp [dropS, dropT, hasN, delL, hdel, leL, leH, idsL, idsA, idsR, inH, hget, sameRow]) ?_; simp only [dropS, dropT, hasN, delL, hdel, idsA, idsL, hget, List.map_cons, List.map_nil, List.all_cons, List.all_nil, List.append_nil, Bool.not_false, Bool.not_true, Bool.and_true, if_true, if_false, simprocAttr])
    refine go_on ?_
    (try simp only [hv, Bool.not_true, push_cast, simprocAttr])
    (refine at_call ?_; (try simp only [push_cast, simprocAttr]); refine rwc_v (hB) (go_on ?_); (try simp only [push_cast, simprocAttr]))
    (try simp only [hxb, Bool.not_true, push_cast, simprocAttr])
    (refine at_call ?_; (try simp only [push_cast, simprocAttr]); refine rwc_v (hI) (go_on ?_); (try simp only [push_cast, simprocAttr]))
    (try simp only [hi', Bool.not_true, push_cast, simprocAttr])
    refine call_share (by simp [isC]) hC ?_
    rintro rv rows ⟨rfl, rfl⟩
    refine ⟨by simp [frB, baseOf], go_on ?_⟩
    (try simp only [bC, push_cast, simprocAttr])
    (refine at_call ?_; simp only [bC, viewN, hget, tk, isC, List.map_cons, List.map_nil, List.length_map, List.length_cons, List.length_nil, Nat.reduceAdd, Nat.reduceEqDiff, if_true, if_false, reduceIte, simprocAttr]; refine rwc_v (hF) (go_on ?_); (try simp only [push_cast, simprocAttr]))
    (try simp only [show ltI (-1) 0 = true from rfl, push_cast, simprocAttr])
    refine at_chk (by first | omega | simp) ?_
    (try simp only [bC, show IntKind.i64.wrap 0 = 0 from rfl, show IntKind.i64.wrap (1 - 1) = 0 from rfl, show toIx 0 1 = some 0 from rfl, Nat.zero_add, push_cast, simprocAttr])
    refine at_chk (by first | omega | simp) ?_
    (try simp only [bC, Nat.zero_add, push_cast, simprocAttr])
    (refine at_callN 25000 1 (by refine wk_nil ?_ ?_ ?_ ?_ <;> simp [nilH, nlCell, nlE_refl, leL, leN, rowN2, nlE, nlC, nlv, idsL, idsA, idsR, inH, hget]) ?_; simp only [nilR, nilH, nlCell, Nat.reduceEqDiff, if_true, if_false, List.map_cons, List.map_nil, simprocAttr])
    (refine at_callW [46] (by refine wk_frz ?_ ?_ ?_ ?_ <;> simp [frwS, frwH, frwRow, frzT, hasN, delL, hdel, leF, leHF, rowF, frzB, idsL, idsA, idsR, inH, hget, sameRow, viewN, tk]) ?_; simp only [frwS, frwH, frwRow, frzT, hasN, delL, hdel, idsA, idsL, viewN, hget, tk, isC, List.map_cons, List.map_nil, List.all_cons, List.all_nil, List.append_nil, List.drop, List.getElem?_cons_zero, List.getElem?_cons_succ, Bool.not_false, Bool.not_true, Bool.and_true, if_true, if_false, Nat.zero_add, List.length_map, simprocAttr])
    (try simp only [push_cast, simprocAttr]); refine call_lend [25000] none (lr := [rowB [⟨nm, [], xs⟩]]) (by simp [ndB]) (by first | rfl | simp [rowsOf, hget, rdR, rowS, rowN, rowC, sC, ndC, cmC]) (by simp [idsL, idsA]) (by simp [mvN]) (by simpa [rnA, ixOf] using hS) ?_
    rintro rv lr' rows ⟨L', g1, g2, rfl, rfl, rfl⟩
    have hlen := g1.length_eq
    simp only [List.length_cons, List.length_nil, Nat.reduceAdd] at hlen
    have hLY : L' = Y := by rw [hY]; exact wr_new hv hg g1 g2
    (refine ⟨by simp [shB, mvF, hlen], by simp [frB, baseOf], go_on ?_⟩; simp only [killA, killH, killRow, push_cast, simprocAttr])
    rw [hLY]
    have hYl : Y.length = 1 := by rw [← hLY]; exact hlen
    (try simp only [push_cast, simprocAttr])
    (refine at_call ?_; simp only [hYl, viewN, hget, tk, isC, List.map_cons, List.map_nil, List.length_map, List.length_cons, List.length_nil, Nat.reduceAdd, Nat.reduceEqDiff, if_true, if_false, reduceIte, simprocAttr]; refine rwc_v (hV2) (go_on ?_); (try simp only [push_cast, simprocAttr]))
    (try simp only [hd, Bool.not_false, push_cast, simprocAttr])
    refine at_ret ?_; simp only [Tryz.results48, push_cast, simprocAttr]
    simp [rX, ixOf]
  | true =>
    have hr : writeD [] nm xs = (Y, true) := by rw [hwr, hd]; rfl
    rw [hr]
    refine pc_enter Tryz.func48 rfl rfl fun w0 fb => go_on ?_; (try simp only [Tryz.ntmps48, push_cast, simprocAttr])
    refine at_call ?_
    (try simp only [push_cast, simprocAttr])
    refine rwc_v hV ?_
    (try simp only [push_cast, simprocAttr])
    (refine at_dropS [6] (by refine wk_ok ?_ ?_ ?_ ?_ <;> simp [dropS, dropT, hasN, delL, hdel, leL, leH, idsL, idsA, idsR, inH, hget, sameRow]) ?_; simp only [dropS, dropT, hasN, delL, hdel, idsA, idsL, hget, List.map_cons, List.map_nil, List.all_cons, List.all_nil, List.append_nil, Bool.not_false, Bool.not_true, Bool.and_true, if_true, if_false, simprocAttr])
    refine go_on ?_
    (try simp only [hv, Bool.not_true, push_cast, simprocAttr])
    (refine at_call ?_; (try simp only [push_cast, simprocAttr]); refine rwc_v (hB) (go_on ?_); (try simp only [push_cast, simprocAttr]))
    (try simp only [hxb, Bool.not_true, push_cast, simprocAttr])
    (refine at_call ?_; (try simp only [push_cast, simprocAttr]); refine rwc_v (hI) (go_on ?_); (try simp only [push_cast, simprocAttr]))
    (try simp only [hi', Bool.not_true, push_cast, simprocAttr])
    refine call_share (by simp [isC]) hC ?_
    rintro rv rows ⟨rfl, rfl⟩
    refine ⟨by simp [frB, baseOf], go_on ?_⟩
    (try simp only [bC, push_cast, simprocAttr])
    (refine at_call ?_; simp only [bC, viewN, hget, tk, isC, List.map_cons, List.map_nil, List.length_map, List.length_cons, List.length_nil, Nat.reduceAdd, Nat.reduceEqDiff, if_true, if_false, reduceIte, simprocAttr]; refine rwc_v (hF) (go_on ?_); (try simp only [push_cast, simprocAttr]))
    (try simp only [show ltI (-1) 0 = true from rfl, push_cast, simprocAttr])
    refine at_chk (by first | omega | simp) ?_
    (try simp only [bC, show IntKind.i64.wrap 0 = 0 from rfl, show IntKind.i64.wrap (1 - 1) = 0 from rfl, show toIx 0 1 = some 0 from rfl, Nat.zero_add, push_cast, simprocAttr])
    refine at_chk (by first | omega | simp) ?_
    (try simp only [bC, Nat.zero_add, push_cast, simprocAttr])
    (refine at_callN 25000 1 (by refine wk_nil ?_ ?_ ?_ ?_ <;> simp [nilH, nlCell, nlE_refl, leL, leN, rowN2, nlE, nlC, nlv, idsL, idsA, idsR, inH, hget]) ?_; simp only [nilR, nilH, nlCell, Nat.reduceEqDiff, if_true, if_false, List.map_cons, List.map_nil, simprocAttr])
    (refine at_callW [46] (by refine wk_frz ?_ ?_ ?_ ?_ <;> simp [frwS, frwH, frwRow, frzT, hasN, delL, hdel, leF, leHF, rowF, frzB, idsL, idsA, idsR, inH, hget, sameRow, viewN, tk]) ?_; simp only [frwS, frwH, frwRow, frzT, hasN, delL, hdel, idsA, idsL, viewN, hget, tk, isC, List.map_cons, List.map_nil, List.all_cons, List.all_nil, List.append_nil, List.drop, List.getElem?_cons_zero, List.getElem?_cons_succ, Bool.not_false, Bool.not_true, Bool.and_true, if_true, if_false, Nat.zero_add, List.length_map, simprocAttr])
    (try simp only [push_cast, simprocAttr]); refine call_lend [25000] none (lr := [rowB [⟨nm, [], xs⟩]]) (by simp [ndB]) (by first | rfl | simp [rowsOf, hget, rdR, rowS, rowN, rowC, sC, ndC, cmC]) (by simp [idsL, idsA]) (by simp [mvN]) (by simpa [rnA, ixOf] using hS) ?_
    rintro rv lr' rows ⟨L', g1, g2, rfl, rfl, rfl⟩
    have hlen := g1.length_eq
    simp only [List.length_cons, List.length_nil, Nat.reduceAdd] at hlen
    have hLY : L' = Y := by rw [hY]; exact wr_new hv hg g1 g2
    (refine ⟨by simp [shB, mvF, hlen], by simp [frB, baseOf], go_on ?_⟩; simp only [killA, killH, killRow, push_cast, simprocAttr])
    rw [hLY]
    have hYl : Y.length = 1 := by rw [← hLY]; exact hlen
    (try simp only [push_cast, simprocAttr])
    (refine at_call ?_; simp only [hYl, viewN, hget, tk, isC, List.map_cons, List.map_nil, List.length_map, List.length_cons, List.length_nil, Nat.reduceAdd, Nat.reduceEqDiff, if_true, if_false, reduceIte, simprocAttr]; refine rwc_v (hV2) (go_on ?_); (try simp only [push_cast, simprocAttr]))
    (try simp only [hd, Bool.not_true, push_cast, simprocAttr])
    (refine at_callW [25000] (by refine wk_frz ?_ ?_ ?_ ?_ <;> simp [hYl, frwS, frwH, frwRow, frzT, hasN, delL, hdel, leF, leHF, rowF, frzB, idsL, idsA, idsR, inH, hget, sameRow, viewN, tk]) ?_; simp only [hYl, frwS, frwH, frwRow, frzT, hasN, delL, hdel, idsA, idsL, viewN, hget, tk, isC, List.map_cons, List.map_nil, List.all_cons, List.all_nil, List.append_nil, List.drop, List.getElem?_cons_zero, List.getElem?_cons_succ, Bool.not_false, Bool.not_true, Bool.and_true, if_true, if_false, Nat.zero_add, List.length_map, simprocAttr])
    ((try simp only [push_cast, simprocAttr]); refine at_share2 (by simp [isC2, isC]) (by first | rfl | simp [ren]) (hC2) (go_on ?_); (try simp only [push_cast, simprocAttr]))
    refine at_ret ?_; simp only [Tryz.results48, push_cast, simprocAttr]
    simp [vX]
theorem DiskWrite_new1 (bs : List BD) (nm : Int) (xs : List Int) (hx : xs.length ≤ 2000000) (hv : diskB bs = true) (hxb : bytesB xs = true) (hi : inB nm 1 3 = true) (hg : getB bs nm = none) (hb : ∃ d0, bs = [d0]) : PC Tryz.prog 48 [blsA bs, iA nm, intsA xs] (vX (.tup [blsA (writeD bs nm xs).1, bA (writeD bs nm xs).2])) := by
  have hs := disk_sm hv
  have hn3 := disk_len hv
  have hV := DiskValid_pc bs hs
  have hB := bytesValid_pc xs (by omega)
  have hI := in_pc nm 1 3
  have hF := file_pc bs hs.n nm
  have hC := cloneDisk_pc bs hs
  have hi' : inR nm 1 3 = true := hi
  have hnm : 0 ≤ nm ∧ nm ≤ 3 := by simp only [inR, Bool.and_eq_true, decide_eq_true_eq] at hi'; omega
  have hwl := withB_len bs (wrB bs nm xs)
  have hnms := disk_names hv
  have hWs : SmD (wrB bs nm xs) := by
    unfold wrB
    cases hg : getB bs nm with
    | none => exact ⟨by simp, by simp only; omega⟩
    | some d =>
      have hm := (getB_name hg).2
      have hok := disk_okF hv hm
      simp only [okF, Bool.and_eq_true, decide_eq_true_eq] at hok
      exact ⟨(hs.d d hm).s, by simp only [List.length_append]; omega⟩
  have hws : SmB (withB bs (wrB bs nm xs)) := withB_sm hs (by omega) hWs
  obtain ⟨Y, hY⟩ : ∃ Y, Y = withB bs (wrB bs nm xs) := ⟨_, rfl⟩
  rw [← hY] at hws hwl
  have hwr : writeD bs nm xs = if diskB Y = true then (Y, true) else ([], false) := by unfold writeD; rw [hv, hxb, hi, ← hY]; rfl
  have hV2 := DiskValid_pc Y hws
  have hC2 := cloneDisk_d Y hws
  have emp : ∀ {q : PC Tryz.prog 48 [blsA bs, iA nm, intsA xs] (rX (.tup [.o 0 0, bA false]) [rowB []])}, PC Tryz.prog 48 [blsA bs, iA nm, intsA xs] (vX (.tup [blsA [], bA false])) := fun {q} => by
    have := q.frzX
    simp [viewN, hpOf, hget, isC, tk] at this
    exact this
  have hix : ixB bs nm = -1 := by
    rcases ixB_cases bs nm with ⟨h1, _⟩ | ⟨j, d, _, _, h3⟩
    · exact h1
    · rw [hg] at h3; cases h3
  rw [hix] at hF
  obtain ⟨d0, rfl⟩ := hb
  have hS := sorted_pcl ([d0, ⟨nm, [], xs⟩] : List BD) (by simp) fun d hd => by
    rcases List.mem_append.1 (show d ∈ [d0] ++ [(⟨nm, [], xs⟩ : BD)] from hd) with hd | hd
    · exact hnms d hd
    · simp only [List.mem_singleton] at hd; subst hd; exact hnm
  cases hd : diskB Y with
  | false =>
    have hr : writeD [d0] nm xs = ([], false) := by rw [hwr, hd]; rfl
    rw [hr]
    refine emp (q := ?_)
    refine pc_enter Tryz.func48 rfl rfl fun w0 fb => go_on ?_; (try simp only [Tryz.ntmps48, push_cast, simprocAttr])
    refine at_call ?_
    (try simp only [push_cast, simprocAttr])
    refine rwc_v hV ?_
    (try simp only [push_cast, simprocAttr])
    (refine at_dropS [6] (by refine wk_ok ?_ ?_ ?_ ?_ <;> simp [dropS, dropT, hasN, delL, hdel, leL, leH, idsL, idsA, idsR, inH, hget, sameRow]) ?_; simp only [dropS, dropT, hasN, delL, hdel, idsA, idsL, hget, List.map_cons, List.map_nil, List.all_cons, List.all_nil, List.append_nil, Bool.not_false, Bool.not_true, Bool.and_true, if_true, if_false, simprocAttr])
    refine go_on ?_
    (try simp only [hv, Bool.not_true, push_cast, simprocAttr])
    (refine at_call ?_; (try simp only [push_cast, simprocAttr]); refine rwc_v (hB) (go_on ?_); (try simp only [push_cast, simprocAttr]))
    (try simp only [hxb, Bool.not_true, push_cast, simprocAttr])
    (refine at_call ?_; (try simp only [push_cast, simprocAttr]); refine rwc_v (hI) (go_on ?_); (try simp only [push_cast, simprocAttr]))
    (try simp only [hi', Bool.not_true, push_cast, simprocAttr])
    refine call_share (by simp [isC]) hC ?_
    rintro rv rows ⟨rfl, rfl⟩
    refine ⟨by simp [frB, baseOf], go_on ?_⟩
    (try simp only [bC, push_cast, simprocAttr])
    (refine at_call ?_; simp only [bC, viewN, hget, tk, isC, List.map_cons, List.map_nil, List.length_map, List.length_cons, List.length_nil, Nat.reduceAdd, Nat.reduceEqDiff, if_true, if_false, reduceIte, simprocAttr]; refine rwc_v (hF) (go_on ?_); (try simp only [push_cast, simprocAttr]))
    (try simp only [show ltI (-1) 0 = true from rfl, push_cast, simprocAttr])
    refine at_chk (by first | omega | simp) ?_
    (try simp only [bC, show IntKind.i64.wrap 1 = 1 from rfl, show IntKind.i64.wrap (2 - 1) = 1 from rfl, show toIx 1 2 = some 1 from rfl, Nat.zero_add, push_cast, simprocAttr])
    refine at_chk (by first | omega | simp) ?_
    (try simp only [bC, Nat.zero_add, push_cast, simprocAttr])
    (refine at_callN 25000 1 (by refine wk_nil ?_ ?_ ?_ ?_ <;> simp [nilH, nlCell, nlE_refl, leL, leN, rowN2, nlE, nlC, nlv, idsL, idsA, idsR, inH, hget]) ?_; simp only [nilR, nilH, nlCell, Nat.reduceEqDiff, if_true, if_false, List.map_cons, List.map_nil, simprocAttr])
    (refine at_callW [46] (by refine wk_frz ?_ ?_ ?_ ?_ <;> simp [frwS, frwH, frwRow, frzT, hasN, delL, hdel, leF, leHF, rowF, frzB, idsL, idsA, idsR, inH, hget, sameRow, viewN, tk]) ?_; simp only [frwS, frwH, frwRow, frzT, hasN, delL, hdel, idsA, idsL, viewN, hget, tk, isC, List.map_cons, List.map_nil, List.all_cons, List.all_nil, List.append_nil, List.drop, List.getElem?_cons_zero, List.getElem?_cons_succ, Bool.not_false, Bool.not_true, Bool.and_true, if_true, if_false, Nat.zero_add, List.length_map, simprocAttr])
    (try simp only [push_cast, simprocAttr]); refine call_lend [25000] none (lr := [rowB [d0, ⟨nm, [], xs⟩]]) (by simp [ndB]) (by first | rfl | simp [rowsOf, hget, rdR, rowS, rowN, rowC, sC, ndC, cmC]) (by simp [idsL, idsA]) (by simp [mvN]) (by simpa [rnA, ixOf] using hS) ?_
    rintro rv lr' rows ⟨L', g1, g2, rfl, rfl, rfl⟩
    have hlen := g1.length_eq
    simp only [List.length_cons, List.length_nil, Nat.reduceAdd] at hlen
    have hLY : L' = Y := by rw [hY]; exact wr_new hv hg g1 g2
    (refine ⟨by simp [shB, mvF, hlen], by simp [frB, baseOf], go_on ?_⟩; simp only [killA, killH, killRow, push_cast, simprocAttr])
    rw [hLY]
    have hYl : Y.length = 2 := by rw [← hLY]; exact hlen
    (try simp only [push_cast, simprocAttr])
    (refine at_call ?_; simp only [hYl, viewN, hget, tk, isC, List.map_cons, List.map_nil, List.length_map, List.length_cons, List.length_nil, Nat.reduceAdd, Nat.reduceEqDiff, if_true, if_false, reduceIte, simprocAttr]; refine rwc_v (hV2) (go_on ?_); (try simp only [push_cast, simprocAttr]))
    (try simp only [hd, Bool.not_false, push_cast, simprocAttr])
    refine at_ret ?_; simp only [Tryz.results48, push_cast, simprocAttr]
    simp [rX, ixOf]
  | true =>
    have hr : writeD [d0] nm xs = (Y, true) := by rw [hwr, hd]; rfl
    rw [hr]
    refine pc_enter Tryz.func48 rfl rfl fun w0 fb => go_on ?_; (try simp only [Tryz.ntmps48, push_cast, simprocAttr])
    refine at_call ?_
    (try simp only [push_cast, simprocAttr])
    refine rwc_v hV ?_
    (try simp only [push_cast, simprocAttr])
    (refine at_dropS [6] (by refine wk_ok ?_ ?_ ?_ ?_ <;> simp [dropS, dropT, hasN, delL, hdel, leL, leH, idsL, idsA, idsR, inH, hget, sameRow]) ?_; simp only [dropS, dropT, hasN, delL, hdel, idsA, idsL, hget, List.map_cons, List.map_nil, List.all_cons, List.all_nil, List.append_nil, Bool.not_false, Bool.not_true, Bool.and_true, if_true, if_false, simprocAttr])
    refine go_on ?_
    (try simp only [hv, Bool.not_true, push_cast, simprocAttr])
    (refine at_call ?_; (try simp only [push_cast, simprocAttr]); refine rwc_v (hB) (go_on ?_); (try simp only [push_cast, simprocAttr]))
    (try simp only [hxb, Bool.not_true, push_cast, simprocAttr])
    (refine at_call ?_; (try simp only [push_cast, simprocAttr]); refine rwc_v (hI) (go_on ?_); (try simp only [push_cast, simprocAttr]))
    (try simp only [hi', Bool.not_true, push_cast, simprocAttr])
    refine call_share (by simp [isC]) hC ?_
    rintro rv rows ⟨rfl, rfl⟩
    refine ⟨by simp [frB, baseOf], go_on ?_⟩
    (try simp only [bC, push_cast, simprocAttr])
    (refine at_call ?_; simp only [bC, viewN, hget, tk, isC, List.map_cons, List.map_nil, List.length_map, List.length_cons, List.length_nil, Nat.reduceAdd, Nat.reduceEqDiff, if_true, if_false, reduceIte, simprocAttr]; refine rwc_v (hF) (go_on ?_); (try simp only [push_cast, simprocAttr]))
    (try simp only [show ltI (-1) 0 = true from rfl, push_cast, simprocAttr])
    refine at_chk (by first | omega | simp) ?_
    (try simp only [bC, show IntKind.i64.wrap 1 = 1 from rfl, show IntKind.i64.wrap (2 - 1) = 1 from rfl, show toIx 1 2 = some 1 from rfl, Nat.zero_add, push_cast, simprocAttr])
    refine at_chk (by first | omega | simp) ?_
    (try simp only [bC, Nat.zero_add, push_cast, simprocAttr])
    (refine at_callN 25000 1 (by refine wk_nil ?_ ?_ ?_ ?_ <;> simp [nilH, nlCell, nlE_refl, leL, leN, rowN2, nlE, nlC, nlv, idsL, idsA, idsR, inH, hget]) ?_; simp only [nilR, nilH, nlCell, Nat.reduceEqDiff, if_true, if_false, List.map_cons, List.map_nil, simprocAttr])
    (refine at_callW [46] (by refine wk_frz ?_ ?_ ?_ ?_ <;> simp [frwS, frwH, frwRow, frzT, hasN, delL, hdel, leF, leHF, rowF, frzB, idsL, idsA, idsR, inH, hget, sameRow, viewN, tk]) ?_; simp only [frwS, frwH, frwRow, frzT, hasN, delL, hdel, idsA, idsL, viewN, hget, tk, isC, List.map_cons, List.map_nil, List.all_cons, List.all_nil, List.append_nil, List.drop, List.getElem?_cons_zero, List.getElem?_cons_succ, Bool.not_false, Bool.not_true, Bool.and_true, if_true, if_false, Nat.zero_add, List.length_map, simprocAttr])
    (try simp only [push_cast, simprocAttr]); refine call_lend [25000] none (lr := [rowB [d0, ⟨nm, [], xs⟩]]) (by simp [ndB]) (by first | rfl | simp [rowsOf, hget, rdR, rowS, rowN, rowC, sC, ndC, cmC]) (by simp [idsL, idsA]) (by simp [mvN]) (by simpa [rnA, ixOf] using hS) ?_
    rintro rv lr' rows ⟨L', g1, g2, rfl, rfl, rfl⟩
    have hlen := g1.length_eq
    simp only [List.length_cons, List.length_nil, Nat.reduceAdd] at hlen
    have hLY : L' = Y := by rw [hY]; exact wr_new hv hg g1 g2
    (refine ⟨by simp [shB, mvF, hlen], by simp [frB, baseOf], go_on ?_⟩; simp only [killA, killH, killRow, push_cast, simprocAttr])
    rw [hLY]
    have hYl : Y.length = 2 := by rw [← hLY]; exact hlen
    (try simp only [push_cast, simprocAttr])
    (refine at_call ?_; simp only [hYl, viewN, hget, tk, isC, List.map_cons, List.map_nil, List.length_map, List.length_cons, List.length_nil, Nat.reduceAdd, Nat.reduceEqDiff, if_true, if_false, reduceIte, simprocAttr]; refine rwc_v (hV2) (go_on ?_); (try simp only [push_cast, simprocAttr]))
    (try simp only [hd, Bool.not_true, push_cast, simprocAttr])
    (refine at_callW [25000] (by refine wk_frz ?_ ?_ ?_ ?_ <;> simp [hYl, frwS, frwH, frwRow, frzT, hasN, delL, hdel, leF, leHF, rowF, frzB, idsL, idsA, idsR, inH, hget, sameRow, viewN, tk]) ?_; simp only [hYl, frwS, frwH, frwRow, frzT, hasN, delL, hdel, idsA, idsL, viewN, hget, tk, isC, List.map_cons, List.map_nil, List.all_cons, List.all_nil, List.append_nil, List.drop, List.getElem?_cons_zero, List.getElem?_cons_succ, Bool.not_false, Bool.not_true, Bool.and_true, if_true, if_false, Nat.zero_add, List.length_map, simprocAttr])
    ((try simp only [push_cast, simprocAttr]); refine at_share2 (by simp [isC2, isC]) (by first | rfl | simp [ren]) (hC2) (go_on ?_); (try simp only [push_cast, simprocAttr]))
    refine at_ret ?_; simp only [Tryz.results48, push_cast, simprocAttr]
    simp [vX]
theorem DiskWrite_new2 (bs : List BD) (nm : Int) (xs : List Int) (hx : xs.length ≤ 2000000) (hv : diskB bs = true) (hxb : bytesB xs = true) (hi : inB nm 1 3 = true) (hg : getB bs nm = none) (hb : ∃ d0 d1, bs = [d0, d1]) : PC Tryz.prog 48 [blsA bs, iA nm, intsA xs] (vX (.tup [blsA (writeD bs nm xs).1, bA (writeD bs nm xs).2])) := by
  have hs := disk_sm hv
  have hn3 := disk_len hv
  have hV := DiskValid_pc bs hs
  have hB := bytesValid_pc xs (by omega)
  have hI := in_pc nm 1 3
  have hF := file_pc bs hs.n nm
  have hC := cloneDisk_pc bs hs
  have hi' : inR nm 1 3 = true := hi
  have hnm : 0 ≤ nm ∧ nm ≤ 3 := by simp only [inR, Bool.and_eq_true, decide_eq_true_eq] at hi'; omega
  have hwl := withB_len bs (wrB bs nm xs)
  have hnms := disk_names hv
  have hWs : SmD (wrB bs nm xs) := by
    unfold wrB
    cases hg : getB bs nm with
    | none => exact ⟨by simp, by simp only; omega⟩
    | some d =>
      have hm := (getB_name hg).2
      have hok := disk_okF hv hm
      simp only [okF, Bool.and_eq_true, decide_eq_true_eq] at hok
      exact ⟨(hs.d d hm).s, by simp only [List.length_append]; omega⟩
  have hws : SmB (withB bs (wrB bs nm xs)) := withB_sm hs (by omega) hWs
  obtain ⟨Y, hY⟩ : ∃ Y, Y = withB bs (wrB bs nm xs) := ⟨_, rfl⟩
  rw [← hY] at hws hwl
  have hwr : writeD bs nm xs = if diskB Y = true then (Y, true) else ([], false) := by unfold writeD; rw [hv, hxb, hi, ← hY]; rfl
  have hV2 := DiskValid_pc Y hws
  have hC2 := cloneDisk_d Y hws
  have emp : ∀ {q : PC Tryz.prog 48 [blsA bs, iA nm, intsA xs] (rX (.tup [.o 0 0, bA false]) [rowB []])}, PC Tryz.prog 48 [blsA bs, iA nm, intsA xs] (vX (.tup [blsA [], bA false])) := fun {q} => by
    have := q.frzX
    simp [viewN, hpOf, hget, isC, tk] at this
    exact this
  have hix : ixB bs nm = -1 := by
    rcases ixB_cases bs nm with ⟨h1, _⟩ | ⟨j, d, _, _, h3⟩
    · exact h1
    · rw [hg] at h3; cases h3
  rw [hix] at hF
  obtain ⟨d0, d1, rfl⟩ := hb
  have hS := sorted_pcl ([d0, d1, ⟨nm, [], xs⟩] : List BD) (by simp) fun d hd => by
    rcases List.mem_append.1 (show d ∈ [d0, d1] ++ [(⟨nm, [], xs⟩ : BD)] from hd) with hd | hd
    · exact hnms d hd
    · simp only [List.mem_singleton] at hd; subst hd; exact hnm
  cases hd : diskB Y with
  | false =>
    have hr : writeD [d0, d1] nm xs = ([], false) := by rw [hwr, hd]; rfl
    rw [hr]
    refine emp (q := ?_)
    refine pc_enter Tryz.func48 rfl rfl fun w0 fb => go_on ?_; (try simp only [Tryz.ntmps48, push_cast, simprocAttr])
    refine at_call ?_
    (try simp only [push_cast, simprocAttr])
    refine rwc_v hV ?_
    (try simp only [push_cast, simprocAttr])
    (refine at_dropS [6] (by refine wk_ok ?_ ?_ ?_ ?_ <;> simp [dropS, dropT, hasN, delL, hdel, leL, leH, idsL, idsA, idsR, inH, hget, sameRow]) ?_; simp only [dropS, dropT, hasN, delL, hdel, idsA, idsL, hget, List.map_cons, List.map_nil, List.all_cons, List.all_nil, List.append_nil, Bool.not_false, Bool.not_true, Bool.and_true, if_true, if_false, simprocAttr])
    refine go_on ?_
    (try simp only [hv, Bool.not_true, push_cast, simprocAttr])
    (refine at_call ?_; (try simp only [push_cast, simprocAttr]); refine rwc_v (hB) (go_on ?_); (try simp only [push_cast, simprocAttr]))
    (try simp only [hxb, Bool.not_true, push_cast, simprocAttr])
    (refine at_call ?_; (try simp only [push_cast, simprocAttr]); refine rwc_v (hI) (go_on ?_); (try simp only [push_cast, simprocAttr]))
    (try simp only [hi', Bool.not_true, push_cast, simprocAttr])
    refine call_share (by simp [isC]) hC ?_
    rintro rv rows ⟨rfl, rfl⟩
    refine ⟨by simp [frB, baseOf], go_on ?_⟩
    (try simp only [bC, push_cast, simprocAttr])
    (refine at_call ?_; simp only [bC, viewN, hget, tk, isC, List.map_cons, List.map_nil, List.length_map, List.length_cons, List.length_nil, Nat.reduceAdd, Nat.reduceEqDiff, if_true, if_false, reduceIte, simprocAttr]; refine rwc_v (hF) (go_on ?_); (try simp only [push_cast, simprocAttr]))
    (try simp only [show ltI (-1) 0 = true from rfl, push_cast, simprocAttr])
    refine at_chk (by first | omega | simp) ?_
    (try simp only [bC, show IntKind.i64.wrap 2 = 2 from rfl, show IntKind.i64.wrap (3 - 1) = 2 from rfl, show toIx 2 3 = some 2 from rfl, Nat.zero_add, push_cast, simprocAttr])
    refine at_chk (by first | omega | simp) ?_
    (try simp only [bC, Nat.zero_add, push_cast, simprocAttr])
    (refine at_callN 25000 1 (by refine wk_nil ?_ ?_ ?_ ?_ <;> simp [nilH, nlCell, nlE_refl, leL, leN, rowN2, nlE, nlC, nlv, idsL, idsA, idsR, inH, hget]) ?_; simp only [nilR, nilH, nlCell, Nat.reduceEqDiff, if_true, if_false, List.map_cons, List.map_nil, simprocAttr])
    (refine at_callW [46] (by refine wk_frz ?_ ?_ ?_ ?_ <;> simp [frwS, frwH, frwRow, frzT, hasN, delL, hdel, leF, leHF, rowF, frzB, idsL, idsA, idsR, inH, hget, sameRow, viewN, tk]) ?_; simp only [frwS, frwH, frwRow, frzT, hasN, delL, hdel, idsA, idsL, viewN, hget, tk, isC, List.map_cons, List.map_nil, List.all_cons, List.all_nil, List.append_nil, List.drop, List.getElem?_cons_zero, List.getElem?_cons_succ, Bool.not_false, Bool.not_true, Bool.and_true, if_true, if_false, Nat.zero_add, List.length_map, simprocAttr])
    (try simp only [push_cast, simprocAttr]); refine call_lend [25000] none (lr := [rowB [d0, d1, ⟨nm, [], xs⟩]]) (by simp [ndB]) (by first | rfl | simp [rowsOf, hget, rdR, rowS, rowN, rowC, sC, ndC, cmC]) (by simp [idsL, idsA]) (by simp [mvN]) (by simpa [rnA, ixOf] using hS) ?_
    rintro rv lr' rows ⟨L', g1, g2, rfl, rfl, rfl⟩
    have hlen := g1.length_eq
    simp only [List.length_cons, List.length_nil, Nat.reduceAdd] at hlen
    have hLY : L' = Y := by rw [hY]; exact wr_new hv hg g1 g2
    (refine ⟨by simp [shB, mvF, hlen], by simp [frB, baseOf], go_on ?_⟩; simp only [killA, killH, killRow, push_cast, simprocAttr])
    rw [hLY]
    have hYl : Y.length = 3 := by rw [← hLY]; exact hlen
    (try simp only [push_cast, simprocAttr])
    (refine at_call ?_; simp only [hYl, viewN, hget, tk, isC, List.map_cons, List.map_nil, List.length_map, List.length_cons, List.length_nil, Nat.reduceAdd, Nat.reduceEqDiff, if_true, if_false, reduceIte, simprocAttr]; refine rwc_v (hV2) (go_on ?_); (try simp only [push_cast, simprocAttr]))
    (try simp only [hd, Bool.not_false, push_cast, simprocAttr])
    refine at_ret ?_; simp only [Tryz.results48, push_cast, simprocAttr]
    simp [rX, ixOf]
  | true =>
    have hr : writeD [d0, d1] nm xs = (Y, true) := by rw [hwr, hd]; rfl
    rw [hr]
    refine pc_enter Tryz.func48 rfl rfl fun w0 fb => go_on ?_; (try simp only [Tryz.ntmps48, push_cast, simprocAttr])
    refine at_call ?_
    (try simp only [push_cast, simprocAttr])
    refine rwc_v hV ?_
    (try simp only [push_cast, simprocAttr])
    (refine at_dropS [6] (by refine wk_ok ?_ ?_ ?_ ?_ <;> simp [dropS, dropT, hasN, delL, hdel, leL, leH, idsL, idsA, idsR, inH, hget, sameRow]) ?_; simp only [dropS, dropT, hasN, delL, hdel, idsA, idsL, hget, List.map_cons, List.map_nil, List.all_cons, List.all_nil, List.append_nil, Bool.not_false, Bool.not_true, Bool.and_true, if_true, if_false, simprocAttr])
    refine go_on ?_
    (try simp only [hv, Bool.not_true, push_cast, simprocAttr])
    (refine at_call ?_; (try simp only [push_cast, simprocAttr]); refine rwc_v (hB) (go_on ?_); (try simp only [push_cast, simprocAttr]))
    (try simp only [hxb, Bool.not_true, push_cast, simprocAttr])
    (refine at_call ?_; (try simp only [push_cast, simprocAttr]); refine rwc_v (hI) (go_on ?_); (try simp only [push_cast, simprocAttr]))
    (try simp only [hi', Bool.not_true, push_cast, simprocAttr])
    refine call_share (by simp [isC]) hC ?_
    rintro rv rows ⟨rfl, rfl⟩
    refine ⟨by simp [frB, baseOf], go_on ?_⟩
    (try simp only [bC, push_cast, simprocAttr])
    (refine at_call ?_; simp only [bC, viewN, hget, tk, isC, List.map_cons, List.map_nil, List.length_map, List.length_cons, List.length_nil, Nat.reduceAdd, Nat.reduceEqDiff, if_true, if_false, reduceIte, simprocAttr]; refine rwc_v (hF) (go_on ?_); (try simp only [push_cast, simprocAttr]))
    (try simp only [show ltI (-1) 0 = true from rfl, push_cast, simprocAttr])
    refine at_chk (by first | omega | simp) ?_
    (try simp only [bC, show IntKind.i64.wrap 2 = 2 from rfl, show IntKind.i64.wrap (3 - 1) = 2 from rfl, show toIx 2 3 = some 2 from rfl, Nat.zero_add, push_cast, simprocAttr])
    refine at_chk (by first | omega | simp) ?_
    (try simp only [bC, Nat.zero_add, push_cast, simprocAttr])
    (refine at_callN 25000 1 (by refine wk_nil ?_ ?_ ?_ ?_ <;> simp [nilH, nlCell, nlE_refl, leL, leN, rowN2, nlE, nlC, nlv, idsL, idsA, idsR, inH, hget]) ?_; simp only [nilR, nilH, nlCell, Nat.reduceEqDiff, if_true, if_false, List.map_cons, List.map_nil, simprocAttr])
    (refine at_callW [46] (by refine wk_frz ?_ ?_ ?_ ?_ <;> simp [frwS, frwH, frwRow, frzT, hasN, delL, hdel, leF, leHF, rowF, frzB, idsL, idsA, idsR, inH, hget, sameRow, viewN, tk]) ?_; simp only [frwS, frwH, frwRow, frzT, hasN, delL, hdel, idsA, idsL, viewN, hget, tk, isC, List.map_cons, List.map_nil, List.all_cons, List.all_nil, List.append_nil, List.drop, List.getElem?_cons_zero, List.getElem?_cons_succ, Bool.not_false, Bool.not_true, Bool.and_true, if_true, if_false, Nat.zero_add, List.length_map, simprocAttr])
    (try simp only [push_cast, simprocAttr]); refine call_lend [25000] none (lr := [rowB [d0, d1, ⟨nm, [], xs⟩]]) (by simp [ndB]) (by first | rfl | simp [rowsOf, hget, rdR, rowS, rowN, rowC, sC, ndC, cmC]) (by simp [idsL, idsA]) (by simp [mvN]) (by simpa [rnA, ixOf] using hS) ?_
    rintro rv lr' rows ⟨L', g1, g2, rfl, rfl, rfl⟩
    have hlen := g1.length_eq
    simp only [List.length_cons, List.length_nil, Nat.reduceAdd] at hlen
    have hLY : L' = Y := by rw [hY]; exact wr_new hv hg g1 g2
    (refine ⟨by simp [shB, mvF, hlen], by simp [frB, baseOf], go_on ?_⟩; simp only [killA, killH, killRow, push_cast, simprocAttr])
    rw [hLY]
    have hYl : Y.length = 3 := by rw [← hLY]; exact hlen
    (try simp only [push_cast, simprocAttr])
    (refine at_call ?_; simp only [hYl, viewN, hget, tk, isC, List.map_cons, List.map_nil, List.length_map, List.length_cons, List.length_nil, Nat.reduceAdd, Nat.reduceEqDiff, if_true, if_false, reduceIte, simprocAttr]; refine rwc_v (hV2) (go_on ?_); (try simp only [push_cast, simprocAttr]))
    (try simp only [hd, Bool.not_true, push_cast, simprocAttr])
    (refine at_callW [25000] (by refine wk_frz ?_ ?_ ?_ ?_ <;> simp [hYl, frwS, frwH, frwRow, frzT, hasN, delL, hdel, leF, leHF, rowF, frzB, idsL, idsA, idsR, inH, hget, sameRow, viewN, tk]) ?_; simp only [hYl, frwS, frwH, frwRow, frzT, hasN, delL, hdel, idsA, idsL, viewN, hget, tk, isC, List.map_cons, List.map_nil, List.all_cons, List.all_nil, List.append_nil, List.drop, List.getElem?_cons_zero, List.getElem?_cons_succ, Bool.not_false, Bool.not_true, Bool.and_true, if_true, if_false, Nat.zero_add, List.length_map, simprocAttr])
    ((try simp only [push_cast, simprocAttr]); refine at_share2 (by simp [isC2, isC]) (by first | rfl | simp [ren]) (hC2) (go_on ?_); (try simp only [push_cast, simprocAttr]))
    refine at_ret ?_; simp only [Tryz.results48, push_cast, simprocAttr]
    simp [vX]
theorem DiskWrite_new3 (bs : List BD) (nm : Int) (xs : List Int) (hx : xs.length ≤ 2000000) (hv : diskB bs = true) (hxb : bytesB xs = true) (hi : inB nm 1 3 = true) (hg : getB bs nm = none) (hb : ∃ d0 d1 d2, bs = [d0, d1, d2]) : PC Tryz.prog 48 [blsA bs, iA nm, intsA xs] (vX (.tup [blsA (writeD bs nm xs).1, bA (writeD bs nm xs).2])) := by
  have hs := disk_sm hv
  have hn3 := disk_len hv
  have hV := DiskValid_pc bs hs
  have hB := bytesValid_pc xs (by omega)
  have hI := in_pc nm 1 3
  have hF := file_pc bs hs.n nm
  have hC := cloneDisk_pc bs hs
  have hi' : inR nm 1 3 = true := hi
  have hnm : 0 ≤ nm ∧ nm ≤ 3 := by simp only [inR, Bool.and_eq_true, decide_eq_true_eq] at hi'; omega
  have hwl := withB_len bs (wrB bs nm xs)
  have hnms := disk_names hv
  have hWs : SmD (wrB bs nm xs) := by
    unfold wrB
    cases hg : getB bs nm with
    | none => exact ⟨by simp, by simp only; omega⟩
    | some d =>
      have hm := (getB_name hg).2
      have hok := disk_okF hv hm
      simp only [okF, Bool.and_eq_true, decide_eq_true_eq] at hok
      exact ⟨(hs.d d hm).s, by simp only [List.length_append]; omega⟩
  have hws : SmB (withB bs (wrB bs nm xs)) := withB_sm hs (by omega) hWs
  obtain ⟨Y, hY⟩ : ∃ Y, Y = withB bs (wrB bs nm xs) := ⟨_, rfl⟩
  rw [← hY] at hws hwl
  have hwr : writeD bs nm xs = if diskB Y = true then (Y, true) else ([], false) := by unfold writeD; rw [hv, hxb, hi, ← hY]; rfl
  have hV2 := DiskValid_pc Y hws
  have hC2 := cloneDisk_d Y hws
  have emp : ∀ {q : PC Tryz.prog 48 [blsA bs, iA nm, intsA xs] (rX (.tup [.o 0 0, bA false]) [rowB []])}, PC Tryz.prog 48 [blsA bs, iA nm, intsA xs] (vX (.tup [blsA [], bA false])) := fun {q} => by
    have := q.frzX
    simp [viewN, hpOf, hget, isC, tk] at this
    exact this
  have hix : ixB bs nm = -1 := by
    rcases ixB_cases bs nm with ⟨h1, _⟩ | ⟨j, d, _, _, h3⟩
    · exact h1
    · rw [hg] at h3; cases h3
  rw [hix] at hF
  obtain ⟨d0, d1, d2, rfl⟩ := hb
  have hS := sorted_pcl ([d0, d1, d2, ⟨nm, [], xs⟩] : List BD) (by simp) fun d hd => by
    rcases List.mem_append.1 (show d ∈ [d0, d1, d2] ++ [(⟨nm, [], xs⟩ : BD)] from hd) with hd | hd
    · exact hnms d hd
    · simp only [List.mem_singleton] at hd; subst hd; exact hnm
  cases hd : diskB Y with
  | false =>
    have hr : writeD [d0, d1, d2] nm xs = ([], false) := by rw [hwr, hd]; rfl
    rw [hr]
    refine emp (q := ?_)
    refine pc_enter Tryz.func48 rfl rfl fun w0 fb => go_on ?_; (try simp only [Tryz.ntmps48, push_cast, simprocAttr])
    refine at_call ?_
    (try simp only [push_cast, simprocAttr])
    refine rwc_v hV ?_
    (try simp only [push_cast, simprocAttr])
    (refine at_dropS [6] (by refine wk_ok ?_ ?_ ?_ ?_ <;> simp [dropS, dropT, hasN, delL, hdel, leL, leH, idsL, idsA, idsR, inH, hget, sameRow]) ?_; simp only [dropS, dropT, hasN, delL, hdel, idsA, idsL, hget, List.map_cons, List.map_nil, List.all_cons, List.all_nil, List.append_nil, Bool.not_false, Bool.not_true, Bool.and_true, if_true, if_false, simprocAttr])
    refine go_on ?_
    (try simp only [hv, Bool.not_true, push_cast, simprocAttr])
    (refine at_call ?_; (try simp only [push_cast, simprocAttr]); refine rwc_v (hB) (go_on ?_); (try simp only [push_cast, simprocAttr]))
    (try simp only [hxb, Bool.not_true, push_cast, simprocAttr])
    (refine at_call ?_; (try simp only [push_cast, simprocAttr]); refine rwc_v (hI) (go_on ?_); (try simp only [push_cast, simprocAttr]))
    (try simp only [hi', Bool.not_true, push_cast, simprocAttr])
    refine call_share (by simp [isC]) hC ?_
    rintro rv rows ⟨rfl, rfl⟩
    refine ⟨by simp [frB, baseOf], go_on ?_⟩
    (try simp only [bC, push_cast, simprocAttr])
    (refine at_call ?_; simp only [bC, viewN, hget, tk, isC, List.map_cons, List.map_nil, List.length_map, List.length_cons, List.length_nil, Nat.reduceAdd, Nat.reduceEqDiff, if_true, if_false, reduceIte, simprocAttr]; refine rwc_v (hF) (go_on ?_); (try simp only [push_cast, simprocAttr]))
    (try simp only [show ltI (-1) 0 = true from rfl, push_cast, simprocAttr])
    refine at_chk (by first | omega | simp) ?_
    (try simp only [bC, show IntKind.i64.wrap 3 = 3 from rfl, show IntKind.i64.wrap (4 - 1) = 3 from rfl, show toIx 3 4 = some 3 from rfl, Nat.zero_add, push_cast, simprocAttr])
    refine at_chk (by first | omega | simp) ?_
    (try simp only [bC, Nat.zero_add, push_cast, simprocAttr])
    (refine at_callN 25000 1 (by refine wk_nil ?_ ?_ ?_ ?_ <;> simp [nilH, nlCell, nlE_refl, leL, leN, rowN2, nlE, nlC, nlv, idsL, idsA, idsR, inH, hget]) ?_; simp only [nilR, nilH, nlCell, Nat.reduceEqDiff, if_true, if_false, List.map_cons, List.map_nil, simprocAttr])
    (refine at_callW [46] (by refine wk_frz ?_ ?_ ?_ ?_ <;> simp [frwS, frwH, frwRow, frzT, hasN, delL, hdel, leF, leHF, rowF, frzB, idsL, idsA, idsR, inH, hget, sameRow, viewN, tk]) ?_; simp only [frwS, frwH, frwRow, frzT, hasN, delL, hdel, idsA, idsL, viewN, hget, tk, isC, List.map_cons, List.map_nil, List.all_cons, List.all_nil, List.append_nil, List.drop, List.getElem?_cons_zero, List.getElem?_cons_succ, Bool.not_false, Bool.not_true, Bool.and_true, if_true, if_false, Nat.zero_add, List.length_map, simprocAttr])
    (try simp only [push_cast, simprocAttr]); refine call_lend [25000] none (lr := [rowB [d0, d1, d2, ⟨nm, [], xs⟩]]) (by simp [ndB]) (by first | rfl | simp [rowsOf, hget, rdR, rowS, rowN, rowC, sC, ndC, cmC]) (by simp [idsL, idsA]) (by simp [mvN]) (by simpa [rnA, ixOf] using hS) ?_
    rintro rv lr' rows ⟨L', g1, g2, rfl, rfl, rfl⟩
    have hlen := g1.length_eq
    simp only [List.length_cons, List.length_nil, Nat.reduceAdd] at hlen
    have hLY : L' = Y := by rw [hY]; exact wr_new hv hg g1 g2
    (refine ⟨by simp [shB, mvF, hlen], by simp [frB, baseOf], go_on ?_⟩; simp only [killA, killH, killRow, push_cast, simprocAttr])
    rw [hLY]
    have hYl : Y.length = 4 := by rw [← hLY]; exact hlen
    (try simp only [push_cast, simprocAttr])
    (refine at_call ?_; simp only [hYl, viewN, hget, tk, isC, List.map_cons, List.map_nil, List.length_map, List.length_cons, List.length_nil, Nat.reduceAdd, Nat.reduceEqDiff, if_true, if_false, reduceIte, simprocAttr]; refine rwc_v (hV2) (go_on ?_); (try simp only [push_cast, simprocAttr]))
    (try simp only [hd, Bool.not_false, push_cast, simprocAttr])
    refine at_ret ?_; simp only [Tryz.results48, push_cast, simprocAttr]
    simp [rX, ixOf]
  | true =>
    have hr : writeD [d0, d1, d2] nm xs = (Y, true) := by rw [hwr, hd]; rfl
    rw [hr]
    refine pc_enter Tryz.func48 rfl rfl fun w0 fb => go_on ?_; (try simp only [Tryz.ntmps48, push_cast, simprocAttr])
    refine at_call ?_
    (try simp only [push_cast, simprocAttr])
    refine rwc_v hV ?_
    (try simp only [push_cast, simprocAttr])
    (refine at_dropS [6] (by refine wk_ok ?_ ?_ ?_ ?_ <;> simp [dropS, dropT, hasN, delL, hdel, leL, leH, idsL, idsA, idsR, inH, hget, sameRow]) ?_; simp only [dropS, dropT, hasN, delL, hdel, idsA, idsL, hget, List.map_cons, List.map_nil, List.all_cons, List.all_nil, List.append_nil, Bool.not_false, Bool.not_true, Bool.and_true, if_true, if_false, simprocAttr])
    refine go_on ?_
    (try simp only [hv, Bool.not_true, push_cast, simprocAttr])
    (refine at_call ?_; (try simp only [push_cast, simprocAttr]); refine rwc_v (hB) (go_on ?_); (try simp only [push_cast, simprocAttr]))
    (try simp only [hxb, Bool.not_true, push_cast, simprocAttr])
    (refine at_call ?_; (try simp only [push_cast, simprocAttr]); refine rwc_v (hI) (go_on ?_); (try simp only [push_cast, simprocAttr]))
    (try simp only [hi', Bool.not_true, push_cast, simprocAttr])
    refine call_share (by simp [isC]) hC ?_
    rintro rv rows ⟨rfl, rfl⟩
    refine ⟨by simp [frB, baseOf], go_on ?_⟩
    (try simp only [bC, push_cast, simprocAttr])
    (refine at_call ?_; simp only [bC, viewN, hget, tk, isC, List.map_cons, List.map_nil, List.length_map, List.length_cons, List.length_nil, Nat.reduceAdd, Nat.reduceEqDiff, if_true, if_false, reduceIte, simprocAttr]; refine rwc_v (hF) (go_on ?_); (try simp only [push_cast, simprocAttr]))
    (try simp only [show ltI (-1) 0 = true from rfl, push_cast, simprocAttr])
    refine at_chk (by first | omega | simp) ?_
    (try simp only [bC, show IntKind.i64.wrap 3 = 3 from rfl, show IntKind.i64.wrap (4 - 1) = 3 from rfl, show toIx 3 4 = some 3 from rfl, Nat.zero_add, push_cast, simprocAttr])
    refine at_chk (by first | omega | simp) ?_
    (try simp only [bC, Nat.zero_add, push_cast, simprocAttr])
    (refine at_callN 25000 1 (by refine wk_nil ?_ ?_ ?_ ?_ <;> simp [nilH, nlCell, nlE_refl, leL, leN, rowN2, nlE, nlC, nlv, idsL, idsA, idsR, inH, hget]) ?_; simp only [nilR, nilH, nlCell, Nat.reduceEqDiff, if_true, if_false, List.map_cons, List.map_nil, simprocAttr])
    (refine at_callW [46] (by refine wk_frz ?_ ?_ ?_ ?_ <;> simp [frwS, frwH, frwRow, frzT, hasN, delL, hdel, leF, leHF, rowF, frzB, idsL, idsA, idsR, inH, hget, sameRow, viewN, tk]) ?_; simp only [frwS, frwH, frwRow, frzT, hasN, delL, hdel, idsA, idsL, viewN, hget, tk, isC, List.map_cons, List.map_nil, List.all_cons, List.all_nil, List.append_nil, List.drop, List.getElem?_cons_zero, List.getElem?_cons_succ, Bool.not_false, Bool.not_true, Bool.and_true, if_true, if_false, Nat.zero_add, List.length_map, simprocAttr])
    (try simp only [push_cast, simprocAttr]); refine call_lend [25000] none (lr := [rowB [d0, d1, d2, ⟨nm, [], xs⟩]]) (by simp [ndB]) (by first | rfl | simp [rowsOf, hget, rdR, rowS, rowN, rowC, sC, ndC, cmC]) (by simp [idsL, idsA]) (by simp [mvN]) (by simpa [rnA, ixOf] using hS) ?_
    rintro rv lr' rows ⟨L', g1, g2, rfl, rfl, rfl⟩
    have hlen := g1.length_eq
    simp only [List.length_cons, List.length_nil, Nat.reduceAdd] at hlen
    have hLY : L' = Y := by rw [hY]; exact wr_new hv hg g1 g2
    (refine ⟨by simp [shB, mvF, hlen], by simp [frB, baseOf], go_on ?_⟩; simp only [killA, killH, killRow, push_cast, simprocAttr])
    rw [hLY]
    have hYl : Y.length = 4 := by rw [← hLY]; exact hlen
    (try simp only [push_cast, simprocAttr])
    (refine at_call ?_; simp only [hYl, viewN, hget, tk, isC, List.map_cons, List.map_nil, List.length_map, List.length_cons, List.length_nil, Nat.reduceAdd, Nat.reduceEqDiff, if_true, if_false, reduceIte, simprocAttr]; refine rwc_v (hV2) (go_on ?_); (try simp only [push_cast, simprocAttr]))
    (try simp only [hd, Bool.not_true, push_cast, simprocAttr])
    (refine at_callW [25000] (by refine wk_frz ?_ ?_ ?_ ?_ <;> simp [hYl, frwS, frwH, frwRow, frzT, hasN, delL, hdel, leF, leHF, rowF, frzB, idsL, idsA, idsR, inH, hget, sameRow, viewN, tk]) ?_; simp only [hYl, frwS, frwH, frwRow, frzT, hasN, delL, hdel, idsA, idsL, viewN, hget, tk, isC, List.map_cons, List.map_nil, List.all_cons, List.all_nil, List.append_nil, List.drop, List.getElem?_cons_zero, List.getElem?_cons_succ, Bool.not_false, Bool.not_true, Bool.and_true, if_true, if_false, Nat.zero_add, List.length_map, simprocAttr])
    ((try simp only [push_cast, simprocAttr]); refine at_share2 (by simp [isC2, isC]) (by first | rfl | simp [ren]) (hC2) (go_on ?_); (try simp only [push_cast, simprocAttr]))
    refine at_ret ?_; simp only [Tryz.results48, push_cast, simprocAttr]
    simp [vX]
end Go.Proofs.YtccifbbjbnjcfaaGreatDoor
/-
  Walks: disks: impl.DiskWrite, where the file is there.
-/
namespace Go.Proofs.YtccifbbjbnjcfaaGreatDoor
open Go Go.RowKit Go.Proofs
attribute [local irreducible] RWp AW run kPe pe Kt effA gd gu br retR RDp runD kPeD brW gW effD
set_option maxRecDepth 100000
theorem DiskWrite_old10 (bs : List BD) (nm : Int) (xs : List Int) (hx : xs.length ≤ 2000000) (hv : diskB bs = true) (hxb : bytesB xs = true) (hi : inB nm 1 3 = true) (d : BD) (hj : bs[0]? = some d) (hg : getB bs nm = some d) (hix : ixB bs nm = 0) (hb : ∃ d0, bs = [d0]) : PC Tryz.prog 48 [blsA bs, iA nm, intsA xs] (vX (.tup [blsA (writeD bs nm xs).1, bA (writeD bs nm xs).2])) := by
  have hs := disk_sm hv
  have hn3 := disk_len hv
  have hV := DiskValid_pc bs hs
  have hB := bytesValid_pc xs (by omega)
  have hI := in_pc nm 1 3
  have hF := file_pc bs hs.n nm
  have hC := cloneDisk_pc bs hs
  have hi' : inR nm 1 3 = true := hi
  have hnm : 0 ≤ nm ∧ nm ≤ 3 := by simp only [inR, Bool.and_eq_true, decide_eq_true_eq] at hi'; omega
  have hwl := withB_len bs (wrB bs nm xs)
  have hnms := disk_names hv
  have hWs : SmD (wrB bs nm xs) := by
    unfold wrB
    cases hg : getB bs nm with
    | none => exact ⟨by simp, by simp only; omega⟩
    | some d =>
      have hm := (getB_name hg).2
      have hok := disk_okF hv hm
      simp only [okF, Bool.and_eq_true, decide_eq_true_eq] at hok
      exact ⟨(hs.d d hm).s, by simp only [List.length_append]; omega⟩
  have hws : SmB (withB bs (wrB bs nm xs)) := withB_sm hs (by omega) hWs
  obtain ⟨Y, hY⟩ : ∃ Y, Y = withB bs (wrB bs nm xs) := ⟨_, rfl⟩
  rw [← hY] at hws hwl
  have hwr : writeD bs nm xs = if diskB Y = true then (Y, true) else ([], false) := by unfold writeD; rw [hv, hxb, hi, ← hY]; rfl
  have hV2 := DiskValid_pc Y hws
  have hC2 := cloneDisk_d Y hws
  have emp : ∀ {q : PC Tryz.prog 48 [blsA bs, iA nm, intsA xs] (rX (.tup [.o 0 0, bA false]) [rowB []])}, PC Tryz.prog 48 [blsA bs, iA nm, intsA xs] (vX (.tup [blsA [], bA false])) := fun {q} => by
    have := q.frzX
    simp [viewN, hpOf, hget, isC, tk] at this
    exact this
  rw [hix] at hF
  obtain ⟨d0, rfl⟩ := hb
  obtain rfl : d0 = d := Option.some.inj hj
  have hfl : d0.fresh.length ≤ 400 := by
    have := disk_okF hv (getB_name hg).2
    simp only [okF, Bool.and_eq_true, decide_eq_true_eq] at this
    omega
  have hX := cloneDisk_at [d0] hs 0 d0 rfl
  have hR : rfRow (nmB [] 25000) (lnkR [d0] 0 d0 1 2) = ⟨79, 3, [[iA d0.name, .o 25001 d0.safe.length, .o 25002 d0.fresh.length]], false⟩ := by rw [lnk_rf _ (by simp)]; rfl
  have hS := sorted_pcl ([⟨d0.name, d0.safe, d0.fresh ++ xs⟩] : List BD) (by simp) fun d hd => by
    rcases mem_set_or (show d ∈ ([d0] : List BD).set 0 ⟨d0.name, d0.safe, d0.fresh ++ xs⟩ from hd) with hd | rfl
    · exact hnms d hd
    · exact hnms d0 (by simp)
  cases hd : diskB Y with
  | false =>
    have hr : writeD [d0] nm xs = ([], false) := by rw [hwr, hd]; rfl
    rw [hr]
    refine emp (q := ?_)
    refine pc_enter Tryz.func48 rfl rfl fun w0 fb => go_on ?_; (try simp only [Tryz.ntmps48, push_cast, simprocAttr])
    refine at_call ?_
    (try simp only [push_cast, simprocAttr])
    refine rwc_v hV ?_
    (try simp only [push_cast, simprocAttr])
    (refine at_dropS [6] (by refine wk_ok ?_ ?_ ?_ ?_ <;> simp [dropS, dropT, hasN, delL, hdel, leL, leH, idsL, idsA, idsR, inH, hget, sameRow]) ?_; simp only [dropS, dropT, hasN, delL, hdel, idsA, idsL, hget, List.map_cons, List.map_nil, List.all_cons, List.all_nil, List.append_nil, Bool.not_false, Bool.not_true, Bool.and_true, if_true, if_false, simprocAttr])
    refine go_on ?_
    (try simp only [hv, Bool.not_true, push_cast, simprocAttr])
    (refine at_call ?_; (try simp only [push_cast, simprocAttr]); refine rwc_v (hB) (go_on ?_); (try simp only [push_cast, simprocAttr]))
    (try simp only [hxb, Bool.not_true, push_cast, simprocAttr])
    (refine at_call ?_; (try simp only [push_cast, simprocAttr]); refine rwc_v (hI) (go_on ?_); (try simp only [push_cast, simprocAttr]))
    (try simp only [hi', Bool.not_true, push_cast, simprocAttr])
    refine call_lendX [] (lr := []) rfl rfl (by simp [idsL, idsA]) (by simpa [rfA] using hX) ?_
    rintro rv lr' rows ⟨rfl, rfl, rfl⟩
    refine ⟨rfl, by simp [frB, baseOf], go_on ?_⟩
    simp only [backX, hR, rowZ_rf, rfA, nmB, hsL, baseOf, hpOf, List.map_cons, List.map_nil, List.nil_append, List.length_nil, push_cast, simprocAttr]
    (refine at_call ?_; simp only [bC, viewN, hget, tk, isC, List.map_cons, List.map_nil, List.length_map, List.length_cons, List.length_nil, Nat.reduceAdd, Nat.reduceEqDiff, if_true, if_false, reduceIte, simprocAttr]; refine rwc_v (hF) (go_on ?_); (try simp only [push_cast, simprocAttr]))
    (try simp only [show ltI 0 0 = false from rfl, show toIx 0 1 = some 0 from rfl, bC, push_cast, simprocAttr])
    refine at_chk (by omega) ?_
    (try simp only [bC, push_cast, simprocAttr])
    (refine at_callW [25001, 25002] (by refine wk_frz ?_ ?_ ?_ ?_ <;> simp [← List.map_append, List.length_append, eq_self, frwS, frwH, frwRow, frzT, hasN, delL, hdel, leF, leHF, rowF, frzB, idsL, idsA, idsR, inH, hget, sameRow, viewN, tk]) ?_; simp only [← List.map_append, List.length_append, eq_self, frwS, frwH, frwRow, frzT, hasN, delL, hdel, idsA, idsL, viewN, hget, tk, isC, List.map_cons, List.map_nil, List.all_cons, List.all_nil, List.append_nil, List.drop, List.getElem?_cons_zero, List.getElem?_cons_succ, Bool.not_false, Bool.not_true, Bool.and_true, if_true, if_false, Nat.zero_add, List.length_map, simprocAttr])
    (try simp only [push_cast, simprocAttr]); refine call_lend [25000] none (lr := [rowB [⟨d0.name, d0.safe, d0.fresh ++ xs⟩]]) (by simp [ndB]) (by first | rfl | simp [rowsOf, hget, rdR, rowS, rowN, rowC, sC, ndC, cmC]) (by simp [idsL, idsA]) (by simp [mvN]) (by simpa [rnA, ixOf] using hS) ?_
    rintro rv lr' rows ⟨L', g1, g2, rfl, rfl, rfl⟩
    have hlen := g1.length_eq
    simp only [List.length_cons, List.length_nil, Nat.reduceAdd] at hlen
    have hLY : L' = Y := by rw [hY]; exact wr_old hv hj hg g1 g2
    (refine ⟨by simp [shB, mvF, hlen], by simp [frB, baseOf], go_on ?_⟩; simp only [killA, killH, killRow, push_cast, simprocAttr])
    rw [hLY]
    have hYl : Y.length = 1 := by rw [← hLY]; exact hlen
    (try simp only [push_cast, simprocAttr])
    (refine at_call ?_; simp only [hYl, viewN, hget, tk, isC, List.map_cons, List.map_nil, List.length_map, List.length_cons, List.length_nil, Nat.reduceAdd, Nat.reduceEqDiff, if_true, if_false, reduceIte, simprocAttr]; refine rwc_v (hV2) (go_on ?_); (try simp only [push_cast, simprocAttr]))
    (try simp only [hd, Bool.not_false, push_cast, simprocAttr])
    refine at_ret ?_; simp only [Tryz.results48, push_cast, simprocAttr]
    simp [rX, ixOf]
  | true =>
    have hr : writeD [d0] nm xs = (Y, true) := by rw [hwr, hd]; rfl
    rw [hr]
    refine pc_enter Tryz.func48 rfl rfl fun w0 fb => go_on ?_; (try simp only [Tryz.ntmps48, push_cast, simprocAttr])
    refine at_call ?_
    (try simp only [push_cast, simprocAttr])
    refine rwc_v hV ?_
    (try simp only [push_cast, simprocAttr])
    (refine at_dropS [6] (by refine wk_ok ?_ ?_ ?_ ?_ <;> simp [dropS, dropT, hasN, delL, hdel, leL, leH, idsL, idsA, idsR, inH, hget, sameRow]) ?_; simp only [dropS, dropT, hasN, delL, hdel, idsA, idsL, hget, List.map_cons, List.map_nil, List.all_cons, List.all_nil, List.append_nil, Bool.not_false, Bool.not_true, Bool.and_true, if_true, if_false, simprocAttr])
    refine go_on ?_
    (try simp only [hv, Bool.not_true, push_cast, simprocAttr])
    (refine at_call ?_; (try simp only [push_cast, simprocAttr]); refine rwc_v (hB) (go_on ?_); (try simp only [push_cast, simprocAttr]))
    (try simp only [hxb, Bool.not_true, push_cast, simprocAttr])
    (refine at_call ?_; (try simp only [push_cast, simprocAttr]); refine rwc_v (hI) (go_on ?_); (try simp only [push_cast, simprocAttr]))
    (try simp only [hi', Bool.not_true, push_cast, simprocAttr])
    refine call_lendX [] (lr := []) rfl rfl (by simp [idsL, idsA]) (by simpa [rfA] using hX) ?_
    rintro rv lr' rows ⟨rfl, rfl, rfl⟩
    refine ⟨rfl, by simp [frB, baseOf], go_on ?_⟩
    simp only [backX, hR, rowZ_rf, rfA, nmB, hsL, baseOf, hpOf, List.map_cons, List.map_nil, List.nil_append, List.length_nil, push_cast, simprocAttr]
    (refine at_call ?_; simp only [bC, viewN, hget, tk, isC, List.map_cons, List.map_nil, List.length_map, List.length_cons, List.length_nil, Nat.reduceAdd, Nat.reduceEqDiff, if_true, if_false, reduceIte, simprocAttr]; refine rwc_v (hF) (go_on ?_); (try simp only [push_cast, simprocAttr]))
    (try simp only [show ltI 0 0 = false from rfl, show toIx 0 1 = some 0 from rfl, bC, push_cast, simprocAttr])
    refine at_chk (by omega) ?_
    (try simp only [bC, push_cast, simprocAttr])
    (refine at_callW [25001, 25002] (by refine wk_frz ?_ ?_ ?_ ?_ <;> simp [← List.map_append, List.length_append, eq_self, frwS, frwH, frwRow, frzT, hasN, delL, hdel, leF, leHF, rowF, frzB, idsL, idsA, idsR, inH, hget, sameRow, viewN, tk]) ?_; simp only [← List.map_append, List.length_append, eq_self, frwS, frwH, frwRow, frzT, hasN, delL, hdel, idsA, idsL, viewN, hget, tk, isC, List.map_cons, List.map_nil, List.all_cons, List.all_nil, List.append_nil, List.drop, List.getElem?_cons_zero, List.getElem?_cons_succ, Bool.not_false, Bool.not_true, Bool.and_true, if_true, if_false, Nat.zero_add, List.length_map, simprocAttr])
    (try simp only [push_cast, simprocAttr]); refine call_lend [25000] none (lr := [rowB [⟨d0.name, d0.safe, d0.fresh ++ xs⟩]]) (by simp [ndB]) (by first | rfl | simp [rowsOf, hget, rdR, rowS, rowN, rowC, sC, ndC, cmC]) (by simp [idsL, idsA]) (by simp [mvN]) (by simpa [rnA, ixOf] using hS) ?_
    rintro rv lr' rows ⟨L', g1, g2, rfl, rfl, rfl⟩
    have hlen := g1.length_eq
    simp only [List.length_cons, List.length_nil, Nat.reduceAdd] at hlen
    have hLY : L' = Y := by rw [hY]; exact wr_old hv hj hg g1 g2
    (refine ⟨by simp [shB, mvF, hlen], by simp [frB, baseOf], go_on ?_⟩; simp only [killA, killH, killRow, push_cast, simprocAttr])
    rw [hLY]
    have hYl : Y.length = 1 := by rw [← hLY]; exact hlen
    (try simp only [push_cast, simprocAttr])
    (refine at_call ?_; simp only [hYl, viewN, hget, tk, isC, List.map_cons, List.map_nil, List.length_map, List.length_cons, List.length_nil, Nat.reduceAdd, Nat.reduceEqDiff, if_true, if_false, reduceIte, simprocAttr]; refine rwc_v (hV2) (go_on ?_); (try simp only [push_cast, simprocAttr]))
    (try simp only [hd, Bool.not_true, push_cast, simprocAttr])
    (refine at_callW [25000] (by refine wk_frz ?_ ?_ ?_ ?_ <;> simp [hYl, frwS, frwH, frwRow, frzT, hasN, delL, hdel, leF, leHF, rowF, frzB, idsL, idsA, idsR, inH, hget, sameRow, viewN, tk]) ?_; simp only [hYl, frwS, frwH, frwRow, frzT, hasN, delL, hdel, idsA, idsL, viewN, hget, tk, isC, List.map_cons, List.map_nil, List.all_cons, List.all_nil, List.append_nil, List.drop, List.getElem?_cons_zero, List.getElem?_cons_succ, Bool.not_false, Bool.not_true, Bool.and_true, if_true, if_false, Nat.zero_add, List.length_map, simprocAttr])
    ((try simp only [push_cast, simprocAttr]); refine at_share2 (by simp [isC2, isC]) (by first | rfl | simp [ren]) (hC2) (go_on ?_); (try simp only [push_cast, simprocAttr]))
    refine at_ret ?_; simp only [Tryz.results48, push_cast, simprocAttr]
    simp [vX]
theorem DiskWrite_old20 (bs : List BD) (nm : Int) (xs : List Int) (hx : xs.length ≤ 2000000) (hv : diskB bs = true) (hxb : bytesB xs = true) (hi : inB nm 1 3 = true) (d : BD) (hj : bs[0]? = some d) (hg : getB bs nm = some d) (hix : ixB bs nm = 0) (hb : ∃ d0 d1, bs = [d0, d1]) : PC Tryz.prog 48 [blsA bs, iA nm, intsA xs] (vX (.tup [blsA (writeD bs nm xs).1, bA (writeD bs nm xs).2])) := by
  have hs := disk_sm hv
  have hn3 := disk_len hv
  have hV := DiskValid_pc bs hs
  have hB := bytesValid_pc xs (by omega)
  have hI := in_pc nm 1 3
  have hF := file_pc bs hs.n nm
  have hC := cloneDisk_pc bs hs
  have hi' : inR nm 1 3 = true := hi
  have hnm : 0 ≤ nm ∧ nm ≤ 3 := by simp only [inR, Bool.and_eq_true, decide_eq_true_eq] at hi'; omega
  have hwl := withB_len bs (wrB bs nm xs)
  have hnms := disk_names hv
  have hWs : SmD (wrB bs nm xs) := by
    unfold wrB
    cases hg : getB bs nm with
    | none => exact ⟨by simp, by simp only; omega⟩
    | some d =>
      have hm := (getB_name hg).2
      have hok := disk_okF hv hm
      simp only [okF, Bool.and_eq_true, decide_eq_true_eq] at hok
      exact ⟨(hs.d d hm).s, by simp only [List.length_append]; omega⟩
  have hws : SmB (withB bs (wrB bs nm xs)) := withB_sm hs (by omega) hWs
  obtain ⟨Y, hY⟩ : ∃ Y, Y = withB bs (wrB bs nm xs) := ⟨_, rfl⟩
  rw [← hY] at hws hwl
  have hwr : writeD bs nm xs = if diskB Y = true then (Y, true) else ([], false) := by unfold writeD; rw [hv, hxb, hi, ← hY]; rfl
  have hV2 := DiskValid_pc Y hws
  have hC2 := cloneDisk_d Y hws
  have emp : ∀ {q : PC Tryz.prog 48 [blsA bs, iA nm, intsA xs] (rX (.tup [.o 0 0, bA false]) [rowB []])}, PC Tryz.prog 48 [blsA bs, iA nm, intsA xs] (vX (.tup [blsA [], bA false])) := fun {q} => by
    have := q.frzX
    simp [viewN, hpOf, hget, isC, tk] at this
    exact this
  rw [hix] at hF
  obtain ⟨d0, d1, rfl⟩ := hb
  obtain rfl : d0 = d := Option.some.inj hj
  have hfl : d0.fresh.length ≤ 400 := by
    have := disk_okF hv (getB_name hg).2
    simp only [okF, Bool.and_eq_true, decide_eq_true_eq] at this
    omega
  have hX := cloneDisk_at [d0, d1] hs 0 d0 rfl
  have hR : rfRow (nmB [] 25000) (lnkR [d0, d1] 0 d0 1 2) = ⟨79, 3, [[iA d0.name, .o 25001 d0.safe.length, .o 25002 d0.fresh.length], [iA d1.name, intsA d1.safe, intsA d1.fresh]], false⟩ := by rw [lnk_rf _ (by simp)]; rfl
  have hS := sorted_pcl ([⟨d0.name, d0.safe, d0.fresh ++ xs⟩, d1] : List BD) (by simp) fun d hd => by
    rcases mem_set_or (show d ∈ ([d0, d1] : List BD).set 0 ⟨d0.name, d0.safe, d0.fresh ++ xs⟩ from hd) with hd | rfl
    · exact hnms d hd
    · exact hnms d0 (by simp)
  cases hd : diskB Y with
  | false =>
    have hr : writeD [d0, d1] nm xs = ([], false) := by rw [hwr, hd]; rfl
    rw [hr]
    refine emp (q := ?_)
    refine pc_enter Tryz.func48 rfl rfl fun w0 fb => go_on ?_; (try simp only [Tryz.ntmps48, push_cast, simprocAttr])
    refine at_call ?_
    (try simp only [push_cast, simprocAttr])
    refine rwc_v hV ?_
    (try simp only [push_cast, simprocAttr])
    (refine at_dropS [6] (by refine wk_ok ?_ ?_ ?_ ?_ <;> simp [dropS, dropT, hasN, delL, hdel, leL, leH, idsL, idsA, idsR, inH, hget, sameRow]) ?_; simp only [dropS, dropT, hasN, delL, hdel, idsA, idsL, hget, List.map_cons, List.map_nil, List.all_cons, List.all_nil, List.append_nil, Bool.not_false, Bool.not_true, Bool.and_true, if_true, if_false, simprocAttr])
    refine go_on ?_
    (try simp only [hv, Bool.not_true, push_cast, simprocAttr])
    (refine at_call ?_; (try simp only [push_cast, simprocAttr]); refine rwc_v (hB) (go_on ?_); (try simp only [push_cast, simprocAttr]))
    (try simp only [hxb, Bool.not_true, push_cast, simprocAttr])
    (refine at_call ?_; (try simp only [push_cast, simprocAttr]); refine rwc_v (hI) (go_on ?_); (try simp only [push_cast, simprocAttr]))
    (try simp only [hi', Bool.not_true, push_cast, simprocAttr])
    refine call_lendX [] (lr := []) rfl rfl (by simp [idsL, idsA]) (by simpa [rfA] using hX) ?_
    rintro rv lr' rows ⟨rfl, rfl, rfl⟩
    refine ⟨rfl, by simp [frB, baseOf], go_on ?_⟩
    simp only [backX, hR, rowZ_rf, rfA, nmB, hsL, baseOf, hpOf, List.map_cons, List.map_nil, List.nil_append, List.length_nil, push_cast, simprocAttr]
    (refine at_call ?_; simp only [bC, viewN, hget, tk, isC, List.map_cons, List.map_nil, List.length_map, List.length_cons, List.length_nil, Nat.reduceAdd, Nat.reduceEqDiff, if_true, if_false, reduceIte, simprocAttr]; refine rwc_v (hF) (go_on ?_); (try simp only [push_cast, simprocAttr]))
    (try simp only [show ltI 0 0 = false from rfl, show toIx 0 2 = some 0 from rfl, bC, push_cast, simprocAttr])
    refine at_chk (by omega) ?_
    (try simp only [bC, push_cast, simprocAttr])
    (refine at_callW [25001, 25002] (by refine wk_frz ?_ ?_ ?_ ?_ <;> simp [← List.map_append, List.length_append, eq_self, frwS, frwH, frwRow, frzT, hasN, delL, hdel, leF, leHF, rowF, frzB, idsL, idsA, idsR, inH, hget, sameRow, viewN, tk]) ?_; simp only [← List.map_append, List.length_append, eq_self, frwS, frwH, frwRow, frzT, hasN, delL, hdel, idsA, idsL, viewN, hget, tk, isC, List.map_cons, List.map_nil, List.all_cons, List.all_nil, List.append_nil, List.drop, List.getElem?_cons_zero, List.getElem?_cons_succ, Bool.not_false, Bool.not_true, Bool.and_true, if_true, if_false, Nat.zero_add, List.length_map, simprocAttr])
    (try simp only [push_cast, simprocAttr]); refine call_lend [25000] none (lr := [rowB [⟨d0.name, d0.safe, d0.fresh ++ xs⟩, d1]]) (by simp [ndB]) (by first | rfl | simp [rowsOf, hget, rdR, rowS, rowN, rowC, sC, ndC, cmC]) (by simp [idsL, idsA]) (by simp [mvN]) (by simpa [rnA, ixOf] using hS) ?_
    rintro rv lr' rows ⟨L', g1, g2, rfl, rfl, rfl⟩
    have hlen := g1.length_eq
    simp only [List.length_cons, List.length_nil, Nat.reduceAdd] at hlen
    have hLY : L' = Y := by rw [hY]; exact wr_old hv hj hg g1 g2
    (refine ⟨by simp [shB, mvF, hlen], by simp [frB, baseOf], go_on ?_⟩; simp only [killA, killH, killRow, push_cast, simprocAttr])
    rw [hLY]
    have hYl : Y.length = 2 := by rw [← hLY]; exact hlen
    (try simp only [push_cast, simprocAttr])
    (refine at_call ?_; simp only [hYl, viewN, hget, tk, isC, List.map_cons, List.map_nil, List.length_map, List.length_cons, List.length_nil, Nat.reduceAdd, Nat.reduceEqDiff, if_true, if_false, reduceIte, simprocAttr]; refine rwc_v (hV2) (go_on ?_); (try simp only [push_cast, simprocAttr]))
    (try simp only [hd, Bool.not_false, push_cast, simprocAttr])
    refine at_ret ?_; simp only [Tryz.results48, push_cast, simprocAttr]
    simp [rX, ixOf]
  | true =>
    have hr : writeD [d0, d1] nm xs = (Y, true) := by rw [hwr, hd]; rfl
    rw [hr]
    refine pc_enter Tryz.func48 rfl rfl fun w0 fb => go_on ?_; (try simp only [Tryz.ntmps48, push_cast, simprocAttr])
    refine at_call ?_
    (try simp only [push_cast, simprocAttr])
    refine rwc_v hV ?_
    (try simp only [push_cast, simprocAttr])
    (refine at_dropS [6] (by refine wk_ok ?_ ?_ ?_ ?_ <;> simp [dropS, dropT, hasN, delL, hdel, leL, leH, idsL, idsA, idsR, inH, hget, sameRow]) ?_; simp only [dropS, dropT, hasN, delL, hdel, idsA, idsL, hget, List.map_cons, List.map_nil, List.all_cons, List.all_nil, List.append_nil, Bool.not_false, Bool.not_true, Bool.and_true, if_true, if_false, simprocAttr])
    refine go_on ?_
    (try simp only [hv, Bool.not_true, push_cast, simprocAttr])
    (refine at_call ?_; (try simp only [push_cast, simprocAttr]); refine rwc_v (hB) (go_on ?_); (try simp only [push_cast, simprocAttr]))
    (try simp only [hxb, Bool.not_true, push_cast, simprocAttr])
    (refine at_call ?_; (try simp only [push_cast, simprocAttr]); refine rwc_v (hI) (go_on ?_); (try simp only [push_cast, simprocAttr]))
    (try simp only [hi', Bool.not_true, push_cast, simprocAttr])
    refine call_lendX [] (lr := []) rfl rfl (by simp [idsL, idsA]) (by simpa [rfA] using hX) ?_
    rintro rv lr' rows ⟨rfl, rfl, rfl⟩
    refine ⟨rfl, by simp [frB, baseOf], go_on ?_⟩
    simp only [backX, hR, rowZ_rf, rfA, nmB, hsL, baseOf, hpOf, List.map_cons, List.map_nil, List.nil_append, List.length_nil, push_cast, simprocAttr]
    (refine at_call ?_; simp only [bC, viewN, hget, tk, isC, List.map_cons, List.map_nil, List.length_map, List.length_cons, List.length_nil, Nat.reduceAdd, Nat.reduceEqDiff, if_true, if_false, reduceIte, simprocAttr]; refine rwc_v (hF) (go_on ?_); (try simp only [push_cast, simprocAttr]))
    (try simp only [show ltI 0 0 = false from rfl, show toIx 0 2 = some 0 from rfl, bC, push_cast, simprocAttr])
    refine at_chk (by omega) ?_
    (try simp only [bC, push_cast, simprocAttr])
    (refine at_callW [25001, 25002] (by refine wk_frz ?_ ?_ ?_ ?_ <;> simp [← List.map_append, List.length_append, eq_self, frwS, frwH, frwRow, frzT, hasN, delL, hdel, leF, leHF, rowF, frzB, idsL, idsA, idsR, inH, hget, sameRow, viewN, tk]) ?_; simp only [← List.map_append, List.length_append, eq_self, frwS, frwH, frwRow, frzT, hasN, delL, hdel, idsA, idsL, viewN, hget, tk, isC, List.map_cons, List.map_nil, List.all_cons, List.all_nil, List.append_nil, List.drop, List.getElem?_cons_zero, List.getElem?_cons_succ, Bool.not_false, Bool.not_true, Bool.and_true, if_true, if_false, Nat.zero_add, List.length_map, simprocAttr])
    (try simp only [push_cast, simprocAttr]); refine call_lend [25000] none (lr := [rowB [⟨d0.name, d0.safe, d0.fresh ++ xs⟩, d1]]) (by simp [ndB]) (by first | rfl | simp [rowsOf, hget, rdR, rowS, rowN, rowC, sC, ndC, cmC]) (by simp [idsL, idsA]) (by simp [mvN]) (by simpa [rnA, ixOf] using hS) ?_
    rintro rv lr' rows ⟨L', g1, g2, rfl, rfl, rfl⟩
    have hlen := g1.length_eq
    simp only [List.length_cons, List.length_nil, Nat.reduceAdd] at hlen
    have hLY : L' = Y := by rw [hY]; exact wr_old hv hj hg g1 g2
    (refine ⟨by simp [shB, mvF, hlen], by simp [frB, baseOf], go_on ?_⟩; simp only [killA, killH, killRow, push_cast, simprocAttr])
    rw [hLY]
    have hYl : Y.length = 2 := by rw [← hLY]; exact hlen
    (try simp only [push_cast, simprocAttr])
    (refine at_call ?_; simp only [hYl, viewN, hget, tk, isC, List.map_cons, List.map_nil, List.length_map, List.length_cons, List.length_nil, Nat.reduceAdd, Nat.reduceEqDiff, if_true, if_false, reduceIte, simprocAttr]; refine rwc_v (hV2) (go_on ?_); (try simp only [push_cast, simprocAttr]))
    (try simp only [hd, Bool.not_true, push_cast, simprocAttr])
    (refine at_callW [25000] (by refine wk_frz ?_ ?_ ?_ ?_ <;> simp [hYl, frwS, frwH, frwRow, frzT, hasN, delL, hdel, leF, leHF, rowF, frzB, idsL, idsA, idsR, inH, hget, sameRow, viewN, tk]) ?_; simp only [hYl, frwS, frwH, frwRow, frzT, hasN, delL, hdel, idsA, idsL, viewN, hget, tk, isC, List.map_cons, List.map_nil, List.all_cons, List.all_nil, List.append_nil, List.drop, List.getElem?_cons_zero, List.getElem?_cons_succ, Bool.not_false, Bool.not_true, Bool.and_true, if_true, if_false, Nat.zero_add, List.length_map, simprocAttr])
    ((try simp only [push_cast, simprocAttr]); refine at_share2 (by simp [isC2, isC]) (by first | rfl | simp [ren]) (hC2) (go_on ?_); (try simp only [push_cast, simprocAttr]))
    refine at_ret ?_; simp only [Tryz.results48, push_cast, simprocAttr]
    simp [vX]
theorem DiskWrite_old21 (bs : List BD) (nm : Int) (xs : List Int) (hx : xs.length ≤ 2000000) (hv : diskB bs = true) (hxb : bytesB xs = true) (hi : inB nm 1 3 = true) (d : BD) (hj : bs[1]? = some d) (hg : getB bs nm = some d) (hix : ixB bs nm = 1) (hb : ∃ d0 d1, bs = [d0, d1]) : PC Tryz.prog 48 [blsA bs, iA nm, intsA xs] (vX (.tup [blsA (writeD bs nm xs).1, bA (writeD bs nm xs).2])) := by
  have hs := disk_sm hv
  have hn3 := disk_len hv
  have hV := DiskValid_pc bs hs
  have hB := bytesValid_pc xs (by omega)
  have hI := in_pc nm 1 3
  have hF := file_pc bs hs.n nm
  have hC := cloneDisk_pc bs hs
  have hi' : inR nm 1 3 = true := hi
  have hnm : 0 ≤ nm ∧ nm ≤ 3 := by simp only [inR, Bool.and_eq_true, decide_eq_true_eq] at hi'; omega
  have hwl := withB_len bs (wrB bs nm xs)
  have hnms := disk_names hv
  have hWs : SmD (wrB bs nm xs) := by
    unfold wrB
    cases hg : getB bs nm with
    | none => exact ⟨by simp, by simp only; omega⟩
    | some d =>
      have hm := (getB_name hg).2
      have hok := disk_okF hv hm
      simp only [okF, Bool.and_eq_true, decide_eq_true_eq] at hok
      exact ⟨(hs.d d hm).s, by simp only [List.length_append]; omega⟩
  have hws : SmB (withB bs (wrB bs nm xs)) := withB_sm hs (by omega) hWs
  obtain ⟨Y, hY⟩ : ∃ Y, Y = withB bs (wrB bs nm xs) := ⟨_, rfl⟩
  rw [← hY] at hws hwl
  have hwr : writeD bs nm xs = if diskB Y = true then (Y, true) else ([], false) := by unfold writeD; rw [hv, hxb, hi, ← hY]; rfl
  have hV2 := DiskValid_pc Y hws
  have hC2 := cloneDisk_d Y hws
  have emp : ∀ {q : PC Tryz.prog 48 [blsA bs, iA nm, intsA xs] (rX (.tup [.o 0 0, bA false]) [rowB []])}, PC Tryz.prog 48 [blsA bs, iA nm, intsA xs] (vX (.tup [blsA [], bA false])) := fun {q} => by
    have := q.frzX
    simp [viewN, hpOf, hget, isC, tk] at this
    exact this
  rw [hix] at hF
  obtain ⟨d0, d1, rfl⟩ := hb
  obtain rfl : d1 = d := Option.some.inj hj
  have hfl : d1.fresh.length ≤ 400 := by
    have := disk_okF hv (getB_name hg).2
    simp only [okF, Bool.and_eq_true, decide_eq_true_eq] at this
    omega
  have hX := cloneDisk_at [d0, d1] hs 1 d1 rfl
  have hR : rfRow (nmB [] 25000) (lnkR [d0, d1] 1 d1 1 2) = ⟨79, 3, [[iA d0.name, intsA d0.safe, intsA d0.fresh], [iA d1.name, .o 25001 d1.safe.length, .o 25002 d1.fresh.length]], false⟩ := by rw [lnk_rf _ (by simp)]; rfl
  have hS := sorted_pcl ([d0, ⟨d1.name, d1.safe, d1.fresh ++ xs⟩] : List BD) (by simp) fun d hd => by
    rcases mem_set_or (show d ∈ ([d0, d1] : List BD).set 1 ⟨d1.name, d1.safe, d1.fresh ++ xs⟩ from hd) with hd | rfl
    · exact hnms d hd
    · exact hnms d1 (by simp)
  cases hd : diskB Y with
  | false =>
    have hr : writeD [d0, d1] nm xs = ([], false) := by rw [hwr, hd]; rfl
    rw [hr]
    refine emp (q := ?_)
    refine pc_enter Tryz.func48 rfl rfl fun w0 fb => go_on ?_; (try simp only [Tryz.ntmps48, push_cast, simprocAttr])
    refine at_call ?_
    (try simp only [push_cast, simprocAttr])
    refine rwc_v hV ?_
    (try simp only [push_cast, simprocAttr])
    (refine at_dropS [6] (by refine wk_ok ?_ ?_ ?_ ?_ <;> simp [dropS, dropT, hasN, delL, hdel, leL, leH, idsL, idsA, idsR, inH, hget, sameRow]) ?_; simp only [dropS, dropT, hasN, delL, hdel, idsA, idsL, hget, List.map_cons, List.map_nil, List.all_cons, List.all_nil, List.append_nil, Bool.not_false, Bool.not_true, Bool.and_true, if_true, if_false, simprocAttr])
    refine go_on ?_
    (try simp only [hv, Bool.not_true, push_cast, simprocAttr])
    (refine at_call ?_; (try simp only [push_cast, simprocAttr]); refine rwc_v (hB) (go_on ?_); (try simp only [push_cast, simprocAttr]))
    (try simp only [hxb, Bool.not_true, push_cast, simprocAttr])
    (refine at_call ?_; (try simp only [push_cast, simprocAttr]); refine rwc_v (hI) (go_on ?_); (try simp only [push_cast, simprocAttr]))
    (try simp only [hi', Bool.not_true, push_cast, simprocAttr])
    refine call_lendX [] (lr := []) rfl rfl (by simp [idsL, idsA]) (by simpa [rfA] using hX) ?_
    rintro rv lr' rows ⟨rfl, rfl, rfl⟩
    refine ⟨rfl, by simp [frB, baseOf], go_on ?_⟩
    simp only [backX, hR, rowZ_rf, rfA, nmB, hsL, baseOf, hpOf, List.map_cons, List.map_nil, List.nil_append, List.length_nil, push_cast, simprocAttr]
    (refine at_call ?_; simp only [bC, viewN, hget, tk, isC, List.map_cons, List.map_nil, List.length_map, List.length_cons, List.length_nil, Nat.reduceAdd, Nat.reduceEqDiff, if_true, if_false, reduceIte, simprocAttr]; refine rwc_v (hF) (go_on ?_); (try simp only [push_cast, simprocAttr]))
    (try simp only [show ltI 1 0 = false from rfl, show toIx 1 2 = some 1 from rfl, bC, push_cast, simprocAttr])
    refine at_chk (by omega) ?_
    (try simp only [bC, push_cast, simprocAttr])
    (refine at_callW [25001, 25002] (by refine wk_frz ?_ ?_ ?_ ?_ <;> simp [← List.map_append, List.length_append, eq_self, frwS, frwH, frwRow, frzT, hasN, delL, hdel, leF, leHF, rowF, frzB, idsL, idsA, idsR, inH, hget, sameRow, viewN, tk]) ?_; simp only [← List.map_append, List.length_append, eq_self, frwS, frwH, frwRow, frzT, hasN, delL, hdel, idsA, idsL, viewN, hget, tk, isC, List.map_cons, List.map_nil, List.all_cons, List.all_nil, List.append_nil, List.drop, List.getElem?_cons_zero, List.getElem?_cons_succ, Bool.not_false, Bool.not_true, Bool.and_true, if_true, if_false, Nat.zero_add, List.length_map, simprocAttr])
    (try simp only [push_cast, simprocAttr]); refine call_lend [25000] none (lr := [rowB [d0, ⟨d1.name, d1.safe, d1.fresh ++ xs⟩]]) (by simp [ndB]) (by first | rfl | simp [rowsOf, hget, rdR, rowS, rowN, rowC, sC, ndC, cmC]) (by simp [idsL, idsA]) (by simp [mvN]) (by simpa [rnA, ixOf] using hS) ?_
    rintro rv lr' rows ⟨L', g1, g2, rfl, rfl, rfl⟩
    have hlen := g1.length_eq
    simp only [List.length_cons, List.length_nil, Nat.reduceAdd] at hlen
    have hLY : L' = Y := by rw [hY]; exact wr_old hv hj hg g1 g2
    (refine ⟨by simp [shB, mvF, hlen], by simp [frB, baseOf], go_on ?_⟩; simp only [killA, killH, killRow, push_cast, simprocAttr])
    rw [hLY]
    have hYl : Y.length = 2 := by rw [← hLY]; exact hlen
    (try simp only [push_cast, simprocAttr])
    (refine at_call ?_; simp only [hYl, viewN, hget, tk, isC, List.map_cons, List.map_nil, List.length_map, List.length_cons, List.length_nil, Nat.reduceAdd, Nat.reduceEqDiff, if_true, if_false, reduceIte, simprocAttr]; refine rwc_v (hV2) (go_on ?_); (try simp only [push_cast, simprocAttr]))
    (try simp only [hd, Bool.not_false, push_cast, simprocAttr])
    refine at_ret ?_; simp only [Tryz.results48, push_cast, simprocAttr]
    simp [rX, ixOf]
  | true =>
    have hr : writeD [d0, d1] nm xs = (Y, true) := by rw [hwr, hd]; rfl
    rw [hr]
    refine pc_enter Tryz.func48 rfl rfl fun w0 fb => go_on ?_; (try simp only [Tryz.ntmps48, push_cast, simprocAttr])
    refine at_call ?_
    (try simp only [push_cast, simprocAttr])
    refine rwc_v hV ?_
    (try simp only [push_cast, simprocAttr])
    (refine at_dropS [6] (by refine wk_ok ?_ ?_ ?_ ?_ <;> simp [dropS, dropT, hasN, delL, hdel, leL, leH, idsL, idsA, idsR, inH, hget, sameRow]) ?_; simp only [dropS, dropT, hasN, delL, hdel, idsA, idsL, hget, List.map_cons, List.map_nil, List.all_cons, List.all_nil, List.append_nil, Bool.not_false, Bool.not_true, Bool.and_true, if_true, if_false, simprocAttr])
    refine go_on ?_
    (try simp only [hv, Bool.not_true, push_cast, simprocAttr])
    (refine at_call ?_; (try simp only [push_cast, simprocAttr]); refine rwc_v (hB) (go_on ?_); (try simp only [push_cast, simprocAttr]))
    (try simp only [hxb, Bool.not_true, push_cast, simprocAttr])
    (refine at_call ?_; (try simp only [push_cast, simprocAttr]); refine rwc_v (hI) (go_on ?_); (try simp only [push_cast, simprocAttr]))
    (try simp only [hi', Bool.not_true, push_cast, simprocAttr])
    refine call_lendX [] (lr := []) rfl rfl (by simp [idsL, idsA]) (by simpa [rfA] using hX) ?_
    rintro rv lr' rows ⟨rfl, rfl, rfl⟩
    refine ⟨rfl, by simp [frB, baseOf], go_on ?_⟩
    simp only [backX, hR, rowZ_rf, rfA, nmB, hsL, baseOf, hpOf, List.map_cons, List.map_nil, List.nil_append, List.length_nil, push_cast, simprocAttr]
    (refine at_call ?_; simp only [bC, viewN, hget, tk, isC, List.map_cons, List.map_nil, List.length_map, List.length_cons, List.length_nil, Nat.reduceAdd, Nat.reduceEqDiff, if_true, if_false, reduceIte, simprocAttr]; refine rwc_v (hF) (go_on ?_); (try simp only [push_cast, simprocAttr]))
    (try simp only [show ltI 1 0 = false from rfl, show toIx 1 2 = some 1 from rfl, bC, push_cast, simprocAttr])
    refine at_chk (by omega) ?_
    (try simp only [bC, push_cast, simprocAttr])
    (refine at_callW [25001, 25002] (by refine wk_frz ?_ ?_ ?_ ?_ <;> simp [← List.map_append, List.length_append, eq_self, frwS, frwH, frwRow, frzT, hasN, delL, hdel, leF, leHF, rowF, frzB, idsL, idsA, idsR, inH, hget, sameRow, viewN, tk]) ?_; simp only [← List.map_append, List.length_append, eq_self, frwS, frwH, frwRow, frzT, hasN, delL, hdel, idsA, idsL, viewN, hget, tk, isC, List.map_cons, List.map_nil, List.all_cons, List.all_nil, List.append_nil, List.drop, List.getElem?_cons_zero, List.getElem?_cons_succ, Bool.not_false, Bool.not_true, Bool.and_true, if_true, if_false, Nat.zero_add, List.length_map, simprocAttr])
    (try simp only [push_cast, simprocAttr]); refine call_lend [25000] none (lr := [rowB [d0, ⟨d1.name, d1.safe, d1.fresh ++ xs⟩]]) (by simp [ndB]) (by first | rfl | simp [rowsOf, hget, rdR, rowS, rowN, rowC, sC, ndC, cmC]) (by simp [idsL, idsA]) (by simp [mvN]) (by simpa [rnA, ixOf] using hS) ?_
    rintro rv lr' rows ⟨L', g1, g2, rfl, rfl, rfl⟩
    have hlen := g1.length_eq
    simp only [List.length_cons, List.length_nil, Nat.reduceAdd] at hlen
    have hLY : L' = Y := by rw [hY]; exact wr_old hv hj hg g1 g2
    (refine ⟨by simp [shB, mvF, hlen], by simp [frB, baseOf], go_on ?_⟩; simp only [killA, killH, killRow, push_cast, simprocAttr])
    rw [hLY]
    have hYl : Y.length = 2 := by rw [← hLY]; exact hlen
    (try simp only [push_cast, simprocAttr])
    (refine at_call ?_; simp only [hYl, viewN, hget, tk, isC, List.map_cons, List.map_nil, List.length_map, List.length_cons, List.length_nil, Nat.reduceAdd, Nat.reduceEqDiff, if_true, if_false, reduceIte, simprocAttr]; refine rwc_v (hV2) (go_on ?_); (try simp only [push_cast, simprocAttr]))
    (try simp only [hd, Bool.not_true, push_cast, simprocAttr])
    (refine at_callW [25000] (by refine wk_frz ?_ ?_ ?_ ?_ <;> simp [hYl, frwS, frwH, frwRow, frzT, hasN, delL, hdel, leF, leHF, rowF, frzB, idsL, idsA, idsR, inH, hget, sameRow, viewN, tk]) ?_; simp only [hYl, frwS, frwH, frwRow, frzT, hasN, delL, hdel, idsA, idsL, viewN, hget, tk, isC, List.map_cons, List.map_nil, List.all_cons, List.all_nil, List.append_nil, List.drop, List.getElem?_cons_zero, List.getElem?_cons_succ, Bool.not_false, Bool.not_true, Bool.and_true, if_true, if_false, Nat.zero_add, List.length_map, simprocAttr])
    ((try simp only [push_cast, simprocAttr]); refine at_share2 (by simp [isC2, isC]) (by first | rfl | simp [ren]) (hC2) (go_on ?_); (try simp only [push_cast, simprocAttr]))
    refine at_ret ?_; simp only [Tryz.results48, push_cast, simprocAttr]
    simp [vX]
theorem DiskWrite_old30 (bs : List BD) (nm : Int) (xs : List Int) (hx : xs.length ≤ 2000000) (hv : diskB bs = true) (hxb : bytesB xs = true) (hi : inB nm 1 3 = true) (d : BD) (hj : bs[0]? = some d) (hg : getB bs nm = some d) (hix : ixB bs nm = 0) (hb : ∃ d0 d1 d2, bs = [d0, d1, d2]) : PC Tryz.prog 48 [blsA bs, iA nm, intsA xs] (vX (.tup [blsA (writeD bs nm xs).1, bA (writeD bs nm xs).2])) := by
  have hs := disk_sm hv
  have hn3 := disk_len hv
  have hV := DiskValid_pc bs hs
  have hB := bytesValid_pc xs (by omega)
  have hI := in_pc nm 1 3
  have hF := file_pc bs hs.n nm
  have hC := cloneDisk_pc bs hs
  have hi' : inR nm 1 3 = true := hi
  have hnm : 0 ≤ nm ∧ nm ≤ 3 := by simp only [inR, Bool.and_eq_true, decide_eq_true_eq] at hi'; omega
  have hwl := withB_len bs (wrB bs nm xs)
  have hnms := disk_names hv
  have hWs : SmD (wrB bs nm xs) := by
    unfold wrB
    cases hg : getB bs nm with
    | none => exact ⟨by simp, by simp only; omega⟩
    | some d =>
      have hm := (getB_name hg).2
      have hok := disk_okF hv hm
      simp only [okF, Bool.and_eq_true, decide_eq_true_eq] at hok
      exact ⟨(hs.d d hm).s, by simp only [List.length_append]; omega⟩
  have hws : SmB (withB bs (wrB bs nm xs)) := withB_sm hs (by omega) hWs
  obtain ⟨Y, hY⟩ : ∃ Y, Y = withB bs (wrB bs nm xs) := ⟨_, rfl⟩
  rw [← hY] at hws hwl
  have hwr : writeD bs nm xs = if diskB Y = true then (Y, true) else ([], false) := by unfold writeD; rw [hv, hxb, hi, ← hY]; rfl
  have hV2 := DiskValid_pc Y hws
  have hC2 := cloneDisk_d Y hws
  have emp : ∀ {q : PC Tryz.prog 48 [blsA bs, iA nm, intsA xs] (rX (.tup [.o 0 0, bA false]) [rowB []])}, PC Tryz.prog 48 [blsA bs, iA nm, intsA xs] (vX (.tup [blsA [], bA false])) := fun {q} => by
    have := q.frzX
    simp [viewN, hpOf, hget, isC, tk] at this
    exact this
  rw [hix] at hF
  obtain ⟨d0, d1, d2, rfl⟩ := hb
  obtain rfl : d0 = d := Option.some.inj hj
  have hfl : d0.fresh.length ≤ 400 := by
    have := disk_okF hv (getB_name hg).2
    simp only [okF, Bool.and_eq_true, decide_eq_true_eq] at this
    omega
  have hX := cloneDisk_at [d0, d1, d2] hs 0 d0 rfl
  have hR : rfRow (nmB [] 25000) (lnkR [d0, d1, d2] 0 d0 1 2) = ⟨79, 3, [[iA d0.name, .o 25001 d0.safe.length, .o 25002 d0.fresh.length], [iA d1.name, intsA d1.safe, intsA d1.fresh], [iA d2.name, intsA d2.safe, intsA d2.fresh]], false⟩ := by rw [lnk_rf _ (by simp)]; rfl
  have hS := sorted_pcl ([⟨d0.name, d0.safe, d0.fresh ++ xs⟩, d1, d2] : List BD) (by simp) fun d hd => by
    rcases mem_set_or (show d ∈ ([d0, d1, d2] : List BD).set 0 ⟨d0.name, d0.safe, d0.fresh ++ xs⟩ from hd) with hd | rfl
    · exact hnms d hd
    · exact hnms d0 (by simp)
  cases hd : diskB Y with
  | false =>
    have hr : writeD [d0, d1, d2] nm xs = ([], false) := by rw [hwr, hd]; rfl
    rw [hr]
    refine emp (q := ?_)
    refine pc_enter Tryz.func48 rfl rfl fun w0 fb => go_on ?_; (try simp only [Tryz.ntmps48, push_cast, simprocAttr])
    refine at_call ?_
    (try simp only [push_cast, simprocAttr])
    refine rwc_v hV ?_
    (try simp only [push_cast, simprocAttr])
    (refine at_dropS [6] (by refine wk_ok ?_ ?_ ?_ ?_ <;> simp [dropS, dropT, hasN, delL, hdel, leL, leH, idsL, idsA, idsR, inH, hget, sameRow]) ?_; simp only [dropS, dropT, hasN, delL, hdel, idsA, idsL, hget, List.map_cons, List.map_nil, List.all_cons, List.all_nil, List.append_nil, Bool.not_false, Bool.not_true, Bool.and_true, if_true, if_false, simprocAttr])
    refine go_on ?_
    (try simp only [hv, Bool.not_true, push_cast, simprocAttr])
    (refine at_call ?_; (try simp only [push_cast, simprocAttr]); refine rwc_v (hB) (go_on ?_); (try simp only [push_cast, simprocAttr]))
    (try simp only [hxb, Bool.not_true, push_cast, simprocAttr])
    (refine at_call ?_; (try simp only [push_cast, simprocAttr]); refine rwc_v (hI) (go_on ?_); (try simp only [push_cast, simprocAttr]))
    (try simp only [hi', Bool.not_true, push_cast, simprocAttr])
    refine call_lendX [] (lr := []) rfl rfl (by simp [idsL, idsA]) (by simpa [rfA] using hX) ?_
    rintro rv lr' rows ⟨rfl, rfl, rfl⟩
    refine ⟨rfl, by simp [frB, baseOf], go_on ?_⟩
    simp only [backX, hR, rowZ_rf, rfA, nmB, hsL, baseOf, hpOf, List.map_cons, List.map_nil, List.nil_append, List.length_nil, push_cast, simprocAttr]
    (refine at_call ?_; simp only [bC, viewN, hget, tk, isC, List.map_cons, List.map_nil, List.length_map, List.length_cons, List.length_nil, Nat.reduceAdd, Nat.reduceEqDiff, if_true, if_false, reduceIte, simprocAttr]; refine rwc_v (hF) (go_on ?_); (try simp only [push_cast, simprocAttr]))
    (try simp only [show ltI 0 0 = false from rfl, show toIx 0 3 = some 0 from rfl, bC, push_cast, simprocAttr])
    refine at_chk (by omega) ?_
    (try simp only [bC, push_cast, simprocAttr])
    (refine at_callW [25001, 25002] (by refine wk_frz ?_ ?_ ?_ ?_ <;> simp [← List.map_append, List.length_append, eq_self, frwS, frwH, frwRow, frzT, hasN, delL, hdel, leF, leHF, rowF, frzB, idsL, idsA, idsR, inH, hget, sameRow, viewN, tk]) ?_; simp only [← List.map_append, List.length_append, eq_self, frwS, frwH, frwRow, frzT, hasN, delL, hdel, idsA, idsL, viewN, hget, tk, isC, List.map_cons, List.map_nil, List.all_cons, List.all_nil, List.append_nil, List.drop, List.getElem?_cons_zero, List.getElem?_cons_succ, Bool.not_false, Bool.not_true, Bool.and_true, if_true, if_false, Nat.zero_add, List.length_map, simprocAttr])
    (try simp only [push_cast, simprocAttr]); refine call_lend [25000] none (lr := [rowB [⟨d0.name, d0.safe, d0.fresh ++ xs⟩, d1, d2]]) (by simp [ndB]) (by first | rfl | simp [rowsOf, hget, rdR, rowS, rowN, rowC, sC, ndC, cmC]) (by simp [idsL, idsA]) (by simp [mvN]) (by simpa [rnA, ixOf] using hS) ?_
    rintro rv lr' rows ⟨L', g1, g2, rfl, rfl, rfl⟩
    have hlen := g1.length_eq
    simp only [List.length_cons, List.length_nil, Nat.reduceAdd] at hlen
    have hLY : L' = Y := by rw [hY]; exact wr_old hv hj hg g1 g2
    (refine ⟨by simp [shB, mvF, hlen], by simp [frB, baseOf], go_on ?_⟩; simp only [killA, killH, killRow, push_cast, simprocAttr])
    rw [hLY]
    have hYl : Y.length = 3 := by rw [← hLY]; exact hlen
    (try simp only [push_cast, simprocAttr])
    (refine at_call ?_; simp only [hYl, viewN, hget, tk, isC, List.map_cons, List.map_nil, List.length_map, List.length_cons, List.length_nil, Nat.reduceAdd, Nat.reduceEqDiff, if_true, if_false, reduceIte, simprocAttr]; refine rwc_v (hV2) (go_on ?_); (try simp only [push_cast, simprocAttr]))
    (try simp only [hd, Bool.not_false, push_cast, simprocAttr])
    refine at_ret ?_; simp only [Tryz.results48, push_cast, simprocAttr]
    simp [rX, ixOf]
  | true =>
    have hr : writeD [d0, d1, d2] nm xs = (Y, true) := by rw [hwr, hd]; rfl
    rw [hr]
    refine pc_enter Tryz.func48 rfl rfl fun w0 fb => go_on ?_; (try simp only [Tryz.ntmps48, push_cast, simprocAttr])
    refine at_call ?_
    (try simp only [push_cast, simprocAttr])
    refine rwc_v hV ?_
    (try simp only [push_cast, simprocAttr])
    (refine at_dropS [6] (by refine wk_ok ?_ ?_ ?_ ?_ <;> simp [dropS, dropT, hasN, delL, hdel, leL, leH, idsL, idsA, idsR, inH, hget, sameRow]) ?_; simp only [dropS, dropT, hasN, delL, hdel, idsA, idsL, hget, List.map_cons, List.map_nil, List.all_cons, List.all_nil, List.append_nil, Bool.not_false, Bool.not_true, Bool.and_true, if_true, if_false, simprocAttr])
    refine go_on ?_
    (try simp only [hv, Bool.not_true, push_cast, simprocAttr])
    (refine at_call ?_; (try simp only [push_cast, simprocAttr]); refine rwc_v (hB) (go_on ?_); (try simp only [push_cast, simprocAttr]))
    (try simp only [hxb, Bool.not_true, push_cast, simprocAttr])
    (refine at_call ?_; (try simp only [push_cast, simprocAttr]); refine rwc_v (hI) (go_on ?_); (try simp only [push_cast, simprocAttr]))
    (try simp only [hi', Bool.not_true, push_cast, simprocAttr])
    refine call_lendX [] (lr := []) rfl rfl (by simp [idsL, idsA]) (by simpa [rfA] using hX) ?_
    rintro rv lr' rows ⟨rfl, rfl, rfl⟩
    refine ⟨rfl, by simp [frB, baseOf], go_on ?_⟩
    simp only [backX, hR, rowZ_rf, rfA, nmB, hsL, baseOf, hpOf, List.map_cons, List.map_nil, List.nil_append, List.length_nil, push_cast, simprocAttr]
    (refine at_call ?_; simp only [bC, viewN, hget, tk, isC, List.map_cons, List.map_nil, List.length_map, List.length_cons, List.length_nil, Nat.reduceAdd, Nat.reduceEqDiff, if_true, if_false, reduceIte, simprocAttr]; refine rwc_v (hF) (go_on ?_); (try simp only [push_cast, simprocAttr]))
    (try simp only [show ltI 0 0 = false from rfl, show toIx 0 3 = some 0 from rfl, bC, push_cast, simprocAttr])
    refine at_chk (by omega) ?_
    (try simp only [bC, push_cast, simprocAttr])
    (refine at_callW [25001, 25002] (by refine wk_frz ?_ ?_ ?_ ?_ <;> simp [← List.map_append, List.length_append, eq_self, frwS, frwH, frwRow, frzT, hasN, delL, hdel, leF, leHF, rowF, frzB, idsL, idsA, idsR, inH, hget, sameRow, viewN, tk]) ?_; simp only [← List.map_append, List.length_append, eq_self, frwS, frwH, frwRow, frzT, hasN, delL, hdel, idsA, idsL, viewN, hget, tk, isC, List.map_cons, List.map_nil, List.all_cons, List.all_nil, List.append_nil, List.drop, List.getElem?_cons_zero, List.getElem?_cons_succ, Bool.not_false, Bool.not_true, Bool.and_true, if_true, if_false, Nat.zero_add, List.length_map, simprocAttr])
    (try simp only [push_cast, simprocAttr]); refine call_lend [25000] none (lr := [rowB [⟨d0.name, d0.safe, d0.fresh ++ xs⟩, d1, d2]]) (by simp [ndB]) (by first | rfl | simp [rowsOf, hget, rdR, rowS, rowN, rowC, sC, ndC, cmC]) (by simp [idsL, idsA]) (by simp [mvN]) (by simpa [rnA, ixOf] using hS) ?_
    rintro rv lr' rows ⟨L', g1, g2, rfl, rfl, rfl⟩
    have hlen := g1.length_eq
    simp only [List.length_cons, List.length_nil, Nat.reduceAdd] at hlen
    have hLY : L' = Y := by rw [hY]; exact wr_old hv hj hg g1 g2
    (refine ⟨by simp [shB, mvF, hlen], by simp [frB, baseOf], go_on ?_⟩; simp only [killA, killH, killRow, push_cast, simprocAttr])
    rw [hLY]
    have hYl : Y.length = 3 := by rw [← hLY]; exact hlen
    (try simp only [push_cast, simprocAttr])
    (refine at_call ?_; simp only [hYl, viewN, hget, tk, isC, List.map_cons, List.map_nil, List.length_map, List.length_cons, List.length_nil, Nat.reduceAdd, Nat.reduceEqDiff, if_true, if_false, reduceIte, simprocAttr]; refine rwc_v (hV2) (go_on ?_); (try simp only [push_cast, simprocAttr]))
    (try simp only [hd, Bool.not_true, push_cast, simprocAttr])
    (refine at_callW [25000] (by refine wk_frz ?_ ?_ ?_ ?_ <;> simp [hYl, frwS, frwH, frwRow, frzT, hasN, delL, hdel, leF, leHF, rowF, frzB, idsL, idsA, idsR, inH, hget, sameRow, viewN, tk]) ?_; simp only [hYl, frwS, frwH, frwRow, frzT, hasN, delL, hdel, idsA, idsL, viewN, hget, tk, isC, List.map_cons, List.map_nil, List.all_cons, List.all_nil, List.append_nil, List.drop, List.getElem?_cons_zero, List.getElem?_cons_succ, Bool.not_false, Bool.not_true, Bool.and_true, if_true, if_false, Nat.zero_add, List.length_map, simprocAttr])
    ((try simp only [push_cast, simprocAttr]); refine at_share2 (by simp [isC2, isC]) (by first | rfl | simp [ren]) (hC2) (go_on ?_); (try simp only [push_cast, simprocAttr]))
    refine at_ret ?_; simp only [Tryz.results48, push_cast, simprocAttr]
    simp [vX]
theorem DiskWrite_old31 (bs : List BD) (nm : Int) (xs : List Int) (hx : xs.length ≤ 2000000) (hv : diskB bs = true) (hxb : bytesB xs = true) (hi : inB nm 1 3 = true) (d : BD) (hj : bs[1]? = some d) (hg : getB bs nm = some d) (hix : ixB bs nm = 1) (hb : ∃ d0 d1 d2, bs = [d0, d1, d2]) : PC Tryz.prog 48 [blsA bs, iA nm, intsA xs] (vX (.tup [blsA (writeD bs nm xs).1, bA (writeD bs nm xs).2])) := by
  have hs := disk_sm hv
  have hn3 := disk_len hv
  have hV := DiskValid_pc bs hs
  have hB := bytesValid_pc xs (by omega)
  have hI := in_pc nm 1 3
  have hF := file_pc bs hs.n nm
  have hC := cloneDisk_pc bs hs
  have hi' : inR nm 1 3 = true := hi
  have hnm : 0 ≤ nm ∧ nm ≤ 3 := by simp only [inR, Bool.and_eq_true, decide_eq_true_eq] at hi'; omega
  have hwl := withB_len bs (wrB bs nm xs)
  have hnms := disk_names hv
  have hWs : SmD (wrB bs nm xs) := by
    unfold wrB
    cases hg : getB bs nm with
    | none => exact ⟨by simp, by simp only; omega⟩
    | some d =>
      have hm := (getB_name hg).2
      have hok := disk_okF hv hm
      simp only [okF, Bool.and_eq_true, decide_eq_true_eq] at hok
      exact ⟨(hs.d d hm).s, by simp only [List.length_append]; omega⟩
  have hws : SmB (withB bs (wrB bs nm xs)) := withB_sm hs (by omega) hWs
  obtain ⟨Y, hY⟩ : ∃ Y, Y = withB bs (wrB bs nm xs) := ⟨_, rfl⟩
  rw [← hY] at hws hwl
  have hwr : writeD bs nm xs = if diskB Y = true then (Y, true) else ([], false) := by unfold writeD; rw [hv, hxb, hi, ← hY]; rfl
  have hV2 := DiskValid_pc Y hws
  have hC2 := cloneDisk_d Y hws
  have emp : ∀ {q : PC Tryz.prog 48 [blsA bs, iA nm, intsA xs] (rX (.tup [.o 0 0, bA false]) [rowB []])}, PC Tryz.prog 48 [blsA bs, iA nm, intsA xs] (vX (.tup [blsA [], bA false])) := fun {q} => by
    have := q.frzX
    simp [viewN, hpOf, hget, isC, tk] at this
    exact this
  rw [hix] at hF
  obtain ⟨d0, d1, d2, rfl⟩ := hb
  obtain rfl : d1 = d := Option.some.inj hj
  have hfl : d1.fresh.length ≤ 400 := by
    have := disk_okF hv (getB_name hg).2
    simp only [okF, Bool.and_eq_true, decide_eq_true_eq] at this
    omega
  have hX := cloneDisk_at [d0, d1, d2] hs 1 d1 rfl
  have hR : rfRow (nmB [] 25000) (lnkR [d0, d1, d2] 1 d1 1 2) = ⟨79, 3, [[iA d0.name, intsA d0.safe, intsA d0.fresh], [iA d1.name, .o 25001 d1.safe.length, .o 25002 d1.fresh.length], [iA d2.name, intsA d2.safe, intsA d2.fresh]], false⟩ := by rw [lnk_rf _ (by simp)]; rfl
  have hS := sorted_pcl ([d0, ⟨d1.name, d1.safe, d1.fresh ++ xs⟩, d2] : List BD) (by simp) fun d hd => by
    rcases mem_set_or (show d ∈ ([d0, d1, d2] : List BD).set 1 ⟨d1.name, d1.safe, d1.fresh ++ xs⟩ from hd) with hd | rfl
    · exact hnms d hd
    · exact hnms d1 (by simp)
  cases hd : diskB Y with
  | false =>
    have hr : writeD [d0, d1, d2] nm xs = ([], false) := by rw [hwr, hd]; rfl
    rw [hr]
    refine emp (q := ?_)
    refine pc_enter Tryz.func48 rfl rfl fun w0 fb => go_on ?_; (try simp only [Tryz.ntmps48, push_cast, simprocAttr])
    refine at_call ?_
    (try simp only [push_cast, simprocAttr])
    refine rwc_v hV ?_
    (try simp only [push_cast, simprocAttr])
    (refine at_dropS [6] (by refine wk_ok ?_ ?_ ?_ ?_ <;> simp [dropS, dropT, hasN, delL, hdel, leL, leH, idsL, idsA, idsR, inH, hget, sameRow]) ?_; simp only [dropS, dropT, hasN, delL, hdel, idsA, idsL, hget, List.map_cons, List.map_nil, List.all_cons, List.all_nil, List.append_nil, Bool.not_false, Bool.not_true, Bool.and_true, if_true, if_false, simprocAttr])
    refine go_on ?_
    (try simp only [hv, Bool.not_true, push_cast, simprocAttr])
    (refine at_call ?_; (try simp only [push_cast, simprocAttr]); refine rwc_v (hB) (go_on ?_); (try simp only [push_cast, simprocAttr]))
    (try simp only [hxb, Bool.not_true, push_cast, simprocAttr])
    (refine at_call ?_; (try simp only [push_cast, simprocAttr]); refine rwc_v (hI) (go_on ?_); (try simp only [push_cast, simprocAttr]))
    (try simp only [hi', Bool.not_true, push_cast, simprocAttr])
    refine call_lendX [] (lr := []) rfl rfl (by simp [idsL, idsA]) (by simpa [rfA] using hX) ?_
    rintro rv lr' rows ⟨rfl, rfl, rfl⟩
    refine ⟨rfl, by simp [frB, baseOf], go_on ?_⟩
    simp only [backX, hR, rowZ_rf, rfA, nmB, hsL, baseOf, hpOf, List.map_cons, List.map_nil, List.nil_append, List.length_nil, push_cast, simprocAttr]
    (refine at_call ?_; simp only [bC, viewN, hget, tk, isC, List.map_cons, List.map_nil, List.length_map, List.length_cons, List.length_nil, Nat.reduceAdd, Nat.reduceEqDiff, if_true, if_false, reduceIte, simprocAttr]; refine rwc_v (hF) (go_on ?_); (try simp only [push_cast, simprocAttr]))
    (try simp only [show ltI 1 0 = false from rfl, show toIx 1 3 = some 1 from rfl, bC, push_cast, simprocAttr])
    refine at_chk (by omega) ?_
    (try simp only [bC, push_cast, simprocAttr])
    (refine at_callW [25001, 25002] (by refine wk_frz ?_ ?_ ?_ ?_ <;> simp [← List.map_append, List.length_append, eq_self, frwS, frwH, frwRow, frzT, hasN, delL, hdel, leF, leHF, rowF, frzB, idsL, idsA, idsR, inH, hget, sameRow, viewN, tk]) ?_; simp only [← List.map_append, List.length_append, eq_self, frwS, frwH, frwRow, frzT, hasN, delL, hdel, idsA, idsL, viewN, hget, tk, isC, List.map_cons, List.map_nil, List.all_cons, List.all_nil, List.append_nil, List.drop, List.getElem?_cons_zero, List.getElem?_cons_succ, Bool.not_false, Bool.not_true, Bool.and_true, if_true, if_false, Nat.zero_add, List.length_map, simprocAttr])
    (try simp only [push_cast, simprocAttr]); refine call_lend [25000] none (lr := [rowB [d0, ⟨d1.name, d1.safe, d1.fresh ++ xs⟩, d2]]) (by simp [ndB]) (by first | rfl | simp [rowsOf, hget, rdR, rowS, rowN, rowC, sC, ndC, cmC]) (by simp [idsL, idsA]) (by simp [mvN]) (by simpa [rnA, ixOf] using hS) ?_
    rintro rv lr' rows ⟨L', g1, g2, rfl, rfl, rfl⟩
    have hlen := g1.length_eq
    simp only [List.length_cons, List.length_nil, Nat.reduceAdd] at hlen
    have hLY : L' = Y := by rw [hY]; exact wr_old hv hj hg g1 g2
    (refine ⟨by simp [shB, mvF, hlen], by simp [frB, baseOf], go_on ?_⟩; simp only [killA, killH, killRow, push_cast, simprocAttr])
    rw [hLY]
    have hYl : Y.length = 3 := by rw [← hLY]; exact hlen
    (try simp only [push_cast, simprocAttr])
    (refine at_call ?_; simp only [hYl, viewN, hget, tk, isC, List.map_cons, List.map_nil, List.length_map, List.length_cons, List.length_nil, Nat.reduceAdd, Nat.reduceEqDiff, if_true, if_false, reduceIte, simprocAttr]; refine rwc_v (hV2) (go_on ?_); (try simp only [push_cast, simprocAttr]))
    (try simp only [hd, Bool.not_false, push_cast, simprocAttr])
    refine at_ret ?_; simp only [Tryz.results48, push_cast, simprocAttr]
    simp [rX, ixOf]
  | true =>
    have hr : writeD [d0, d1, d2] nm xs = (Y, true) := by rw [hwr, hd]; rfl
    rw [hr]
    refine pc_enter Tryz.func48 rfl rfl fun w0 fb => go_on ?_; (try simp only [Tryz.ntmps48, push_cast, simprocAttr])
    refine at_call ?_
    (try simp only [push_cast, simprocAttr])
    refine rwc_v hV ?_
    (try simp only [push_cast, simprocAttr])
    (refine at_dropS [6] (by refine wk_ok ?_ ?_ ?_ ?_ <;> simp [dropS, dropT, hasN, delL, hdel, leL, leH, idsL, idsA, idsR, inH, hget, sameRow]) ?_; simp only [dropS, dropT, hasN, delL, hdel, idsA, idsL, hget, List.map_cons, List.map_nil, List.all_cons, List.all_nil, List.append_nil, Bool.not_false, Bool.not_true, Bool.and_true, if_true, if_false, simprocAttr])
    refine go_on ?_
    (try simp only [hv, Bool.not_true, push_cast, simprocAttr])
    (refine at_call ?_; (try simp only [push_cast, simprocAttr]); refine rwc_v (hB) (go_on ?_); (try simp only [push_cast, simprocAttr]))
    (try simp only [hxb, Bool.not_true, push_cast, simprocAttr])
    (refine at_call ?_; (try simp only [push_cast, simprocAttr]); refine rwc_v (hI) (go_on ?_); (try simp only [push_cast, simprocAttr]))
    (try simp only [hi', Bool.not_true, push_cast, simprocAttr])
    refine call_lendX [] (lr := []) rfl rfl (by simp [idsL, idsA]) (by simpa [rfA] using hX) ?_
    rintro rv lr' rows ⟨rfl, rfl, rfl⟩
    refine ⟨rfl, by simp [frB, baseOf], go_on ?_⟩
    simp only [backX, hR, rowZ_rf, rfA, nmB, hsL, baseOf, hpOf, List.map_cons, List.map_nil, List.nil_append, List.length_nil, push_cast, simprocAttr]
    (refine at_call ?_; simp only [bC, viewN, hget, tk, isC, List.map_cons, List.map_nil, List.length_map, List.length_cons, List.length_nil, Nat.reduceAdd, Nat.reduceEqDiff, if_true, if_false, reduceIte, simprocAttr]; refine rwc_v (hF) (go_on ?_); (try simp only [push_cast, simprocAttr]))
    (try simp only [show ltI 1 0 = false from rfl, show toIx 1 3 = some 1 from rfl, bC, push_cast, simprocAttr])
    refine at_chk (by omega) ?_
    (try simp only [bC, push_cast, simprocAttr])
    (refine at_callW [25001, 25002] (by refine wk_frz ?_ ?_ ?_ ?_ <;> simp [← List.map_append, List.length_append, eq_self, frwS, frwH, frwRow, frzT, hasN, delL, hdel, leF, leHF, rowF, frzB, idsL, idsA, idsR, inH, hget, sameRow, viewN, tk]) ?_; simp only [← List.map_append, List.length_append, eq_self, frwS, frwH, frwRow, frzT, hasN, delL, hdel, idsA, idsL, viewN, hget, tk, isC, List.map_cons, List.map_nil, List.all_cons, List.all_nil, List.append_nil, List.drop, List.getElem?_cons_zero, List.getElem?_cons_succ, Bool.not_false, Bool.not_true, Bool.and_true, if_true, if_false, Nat.zero_add, List.length_map, simprocAttr])
    (try simp only [push_cast, simprocAttr]); refine call_lend [25000] none (lr := [rowB [d0, ⟨d1.name, d1.safe, d1.fresh ++ xs⟩, d2]]) (by simp [ndB]) (by first | rfl | simp [rowsOf, hget, rdR, rowS, rowN, rowC, sC, ndC, cmC]) (by simp [idsL, idsA]) (by simp [mvN]) (by simpa [rnA, ixOf] using hS) ?_
    rintro rv lr' rows ⟨L', g1, g2, rfl, rfl, rfl⟩
    have hlen := g1.length_eq
    simp only [List.length_cons, List.length_nil, Nat.reduceAdd] at hlen
    have hLY : L' = Y := by rw [hY]; exact wr_old hv hj hg g1 g2
    (refine ⟨by simp [shB, mvF, hlen], by simp [frB, baseOf], go_on ?_⟩; simp only [killA, killH, killRow, push_cast, simprocAttr])
    rw [hLY]
    have hYl : Y.length = 3 := by rw [← hLY]; exact hlen
    (try simp only [push_cast, simprocAttr])
    (refine at_call ?_; simp only [hYl, viewN, hget, tk, isC, List.map_cons, List.map_nil, List.length_map, List.length_cons, List.length_nil, Nat.reduceAdd, Nat.reduceEqDiff, if_true, if_false, reduceIte, simprocAttr]; refine rwc_v (hV2) (go_on ?_); (try simp only [push_cast, simprocAttr]))
    (try simp only [hd, Bool.not_true, push_cast, simprocAttr])
    (refine at_callW [25000] (by refine wk_frz ?_ ?_ ?_ ?_ <;> simp [hYl, frwS, frwH, frwRow, frzT, hasN, delL, hdel, leF, leHF, rowF, frzB, idsL, idsA, idsR, inH, hget, sameRow, viewN, tk]) ?_; simp only [hYl, frwS, frwH, frwRow, frzT, hasN, delL, hdel, idsA, idsL, viewN, hget, tk, isC, List.map_cons, List.map_nil, List.all_cons, List.all_nil, List.append_nil, List.drop, List.getElem?_cons_zero, List.getElem?_cons_succ, Bool.not_false, Bool.not_true, Bool.and_true, if_true, if_false, Nat.zero_add, List.length_map, simprocAttr])
    ((try simp only [push_cast, simprocAttr]); refine at_share2 (by simp [isC2, isC]) (by first | rfl | simp [ren]) (hC2) (go_on ?_); (try simp only [push_cast, simprocAttr]))
    refine at_ret ?_; simp only [Tryz.results48, push_cast, simprocAttr]
    simp [vX]
theorem DiskWrite_old32 (bs : List BD) (nm : Int) (xs : List Int) (hx : xs.length ≤ 2000000) (hv : diskB bs = true) (hxb : bytesB xs = true) (hi : inB nm 1 3 = true) (d : BD) (hj : bs[2]? = some d) (hg : getB bs nm = some d) (hix : ixB bs nm = 2) (hb : ∃ d0 d1 d2, bs = [d0, d1, d2]) : PC Tryz.prog 48 [blsA bs, iA nm, intsA xs] (vX (.tup [blsA (writeD bs nm xs).1, bA (writeD bs nm xs).2])) := by
  have hs := disk_sm hv
  have hn3 := disk_len hv
  have hV := DiskValid_pc bs hs
  have hB := bytesValid_pc xs (by omega)
  have hI := in_pc nm 1 3
  have hF := file_pc bs hs.n nm
  have hC := cloneDisk_pc bs hs
  have hi' : inR nm 1 3 = true := hi
  have hnm : 0 ≤ nm ∧ nm ≤ 3 := by simp only [inR, Bool.and_eq_true, decide_eq_true_eq] at hi'; omega
  have hwl := withB_len bs (wrB bs nm xs)
  have hnms := disk_names hv
  have hWs : SmD (wrB bs nm xs) := by
    unfold wrB
    cases hg : getB bs nm with
    | none => exact ⟨by simp, by simp only; omega⟩
    | some d =>
      have hm := (getB_name hg).2
      have hok := disk_okF hv hm
      simp only [okF, Bool.and_eq_true, decide_eq_true_eq] at hok
      exact ⟨(hs.d d hm).s, by simp only [List.length_append]; omega⟩
  have hws : SmB (withB bs (wrB bs nm xs)) := withB_sm hs (by omega) hWs
  obtain ⟨Y, hY⟩ : ∃ Y, Y = withB bs (wrB bs nm xs) := ⟨_, rfl⟩
  rw [← hY] at hws hwl
  have hwr : writeD bs nm xs = if diskB Y = true then (Y, true) else ([], false) := by unfold writeD; rw [hv, hxb, hi, ← hY]; rfl
  have hV2 := DiskValid_pc Y hws
  have hC2 := cloneDisk_d Y hws
  have emp : ∀ {q : PC Tryz.prog 48 [blsA bs, iA nm, intsA xs] (rX (.tup [.o 0 0, bA false]) [rowB []])}, PC Tryz.prog 48 [blsA bs, iA nm, intsA xs] (vX (.tup [blsA [], bA false])) := fun {q} => by
    have := q.frzX
    simp [viewN, hpOf, hget, isC, tk] at this
    exact this
  rw [hix] at hF
  obtain ⟨d0, d1, d2, rfl⟩ := hb
  obtain rfl : d2 = d := Option.some.inj hj
  have hfl : d2.fresh.length ≤ 400 := by
    have := disk_okF hv (getB_name hg).2
    simp only [okF, Bool.and_eq_true, decide_eq_true_eq] at this
    omega
  have hX := cloneDisk_at [d0, d1, d2] hs 2 d2 rfl
  have hR : rfRow (nmB [] 25000) (lnkR [d0, d1, d2] 2 d2 1 2) = ⟨79, 3, [[iA d0.name, intsA d0.safe, intsA d0.fresh], [iA d1.name, intsA d1.safe, intsA d1.fresh], [iA d2.name, .o 25001 d2.safe.length, .o 25002 d2.fresh.length]], false⟩ := by rw [lnk_rf _ (by simp)]; rfl
  have hS := sorted_pcl ([d0, d1, ⟨d2.name, d2.safe, d2.fresh ++ xs⟩] : List BD) (by simp) fun d hd => by
    rcases mem_set_or (show d ∈ ([d0, d1, d2] : List BD).set 2 ⟨d2.name, d2.safe, d2.fresh ++ xs⟩ from hd) with hd | rfl
    · exact hnms d hd
    · exact hnms d2 (by simp)
  cases hd : diskB Y with
  | false =>
    have hr : writeD [d0, d1, d2] nm xs = ([], false) := by rw [hwr, hd]; rfl
    rw [hr]
    refine emp (q := ?_)
    refine pc_enter Tryz.func48 rfl rfl fun w0 fb => go_on ?_; (try simp only [Tryz.ntmps48, push_cast, simprocAttr])
    refine at_call ?_
    (try simp only [push_cast, simprocAttr])
    refine rwc_v hV ?_
    (try simp only [push_cast, simprocAttr])
    (refine at_dropS [6] (by refine wk_ok ?_ ?_ ?_ ?_ <;> simp [dropS, dropT, hasN, delL, hdel, leL, leH, idsL, idsA, idsR, inH, hget, sameRow]) ?_; simp only [dropS, dropT, hasN, delL, hdel, idsA, idsL, hget, List.map_cons, List.map_nil, List.all_cons, List.all_nil, List.append_nil, Bool.not_false, Bool.not_true, Bool.and_true, if_true, if_false, simprocAttr])
    refine go_on ?_
    (try simp only [hv, Bool.not_true, push_cast, simprocAttr])
    (refine at_call ?_; (try simp only [push_cast, simprocAttr]); refine rwc_v (hB) (go_on ?_); (try simp only [push_cast, simprocAttr]))
    (try simp only [hxb, Bool.not_true, push_cast, simprocAttr])
    (refine at_call ?_; (try simp only [push_cast, simprocAttr]); refine rwc_v (hI) (go_on ?_); (try simp only [push_cast, simprocAttr]))
    (try simp only [hi', Bool.not_true, push_cast, simprocAttr])
    refine call_lendX [] (lr := []) rfl rfl (by simp [idsL, idsA]) (by simpa [rfA] using hX) ?_
    rintro rv lr' rows ⟨rfl, rfl, rfl⟩
    refine ⟨rfl, by simp [frB, baseOf], go_on ?_⟩
    simp only [backX, hR, rowZ_rf, rfA, nmB, hsL, baseOf, hpOf, List.map_cons, List.map_nil, List.nil_append, List.length_nil, push_cast, simprocAttr]
    (refine at_call ?_; simp only [bC, viewN, hget, tk, isC, List.map_cons, List.map_nil, List.length_map, List.length_cons, List.length_nil, Nat.reduceAdd, Nat.reduceEqDiff, if_true, if_false, reduceIte, simprocAttr]; refine rwc_v (hF) (go_on ?_); (try simp only [push_cast, simprocAttr]))
    (try simp only [show ltI 2 0 = false from rfl, show toIx 2 3 = some 2 from rfl, bC, push_cast, simprocAttr])
    refine at_chk (by omega) ?_
    (try simp only [bC, push_cast, simprocAttr])
    (refine at_callW [25001, 25002] (by refine wk_frz ?_ ?_ ?_ ?_ <;> simp [← List.map_append, List.length_append, eq_self, frwS, frwH, frwRow, frzT, hasN, delL, hdel, leF, leHF, rowF, frzB, idsL, idsA, idsR, inH, hget, sameRow, viewN, tk]) ?_; simp only [← List.map_append, List.length_append, eq_self, frwS, frwH, frwRow, frzT, hasN, delL, hdel, idsA, idsL, viewN, hget, tk, isC, List.map_cons, List.map_nil, List.all_cons, List.all_nil, List.append_nil, List.drop, List.getElem?_cons_zero, List.getElem?_cons_succ, Bool.not_false, Bool.not_true, Bool.and_true, if_true, if_false, Nat.zero_add, List.length_map, simprocAttr])
    (try simp only [push_cast, simprocAttr]); refine call_lend [25000] none (lr := [rowB [d0, d1, ⟨d2.name, d2.safe, d2.fresh ++ xs⟩]]) (by simp [ndB]) (by first | rfl | simp [rowsOf, hget, rdR, rowS, rowN, rowC, sC, ndC, cmC]) (by simp [idsL, idsA]) (by simp [mvN]) (by simpa [rnA, ixOf] using hS) ?_
    rintro rv lr' rows ⟨L', g1, g2, rfl, rfl, rfl⟩
    have hlen := g1.length_eq
    simp only [List.length_cons, List.length_nil, Nat.reduceAdd] at hlen
    have hLY : L' = Y := by rw [hY]; exact wr_old hv hj hg g1 g2
    (refine ⟨by simp [shB, mvF, hlen], by simp [frB, baseOf], go_on ?_⟩; simp only [killA, killH, killRow, push_cast, simprocAttr])
    rw [hLY]
    have hYl : Y.length = 3 := by rw [← hLY]; exact hlen
    (try simp only [push_cast, simprocAttr])
    (refine at_call ?_; simp only [hYl, viewN, hget, tk, isC, List.map_cons, List.map_nil, List.length_map, List.length_cons, List.length_nil, Nat.reduceAdd, Nat.reduceEqDiff, if_true, if_false, reduceIte, simprocAttr]; refine rwc_v (hV2) (go_on ?_); (try simp only [push_cast, simprocAttr]))
    (try simp only [hd, Bool.not_false, push_cast, simprocAttr])
    refine at_ret ?_; simp only [Tryz.results48, push_cast, simprocAttr]
    simp [rX, ixOf]
  | true =>
    have hr : writeD [d0, d1, d2] nm xs = (Y, true) := by rw [hwr, hd]; rfl
    rw [hr]
    refine pc_enter Tryz.func48 rfl rfl fun w0 fb => go_on ?_; (try simp only [Tryz.ntmps48, push_cast, simprocAttr])
    refine at_call ?_
    (try simp only [push_cast, simprocAttr])
    refine rwc_v hV ?_
    (try simp only [push_cast, simprocAttr])
    (refine at_dropS [6] (by refine wk_ok ?_ ?_ ?_ ?_ <;> simp [dropS, dropT, hasN, delL, hdel, leL, leH, idsL, idsA, idsR, inH, hget, sameRow]) ?_; simp only [dropS, dropT, hasN, delL, hdel, idsA, idsL, hget, List.map_cons, List.map_nil, List.all_cons, List.all_nil, List.append_nil, Bool.not_false, Bool.not_true, Bool.and_true, if_true, if_false, simprocAttr])
    refine go_on ?_
    (try simp only [hv, Bool.not_true, push_cast, simprocAttr])
    (refine at_call ?_; (try simp only [push_cast, simprocAttr]); refine rwc_v (hB) (go_on ?_); (try simp only [push_cast, simprocAttr]))
    (try simp only [hxb, Bool.not_true, push_cast, simprocAttr])
    (refine at_call ?_; (try simp only [push_cast, simprocAttr]); refine rwc_v (hI) (go_on ?_); (try simp only [push_cast, simprocAttr]))
    (try simp only [hi', Bool.not_true, push_cast, simprocAttr])
    refine call_lendX [] (lr := []) rfl rfl (by simp [idsL, idsA]) (by simpa [rfA] using hX) ?_
    rintro rv lr' rows ⟨rfl, rfl, rfl⟩
    refine ⟨rfl, by simp [frB, baseOf], go_on ?_⟩
    simp only [backX, hR, rowZ_rf, rfA, nmB, hsL, baseOf, hpOf, List.map_cons, List.map_nil, List.nil_append, List.length_nil, push_cast, simprocAttr]
    (refine at_call ?_; simp only [bC, viewN, hget, tk, isC, List.map_cons, List.map_nil, List.length_map, List.length_cons, List.length_nil, Nat.reduceAdd, Nat.reduceEqDiff, if_true, if_false, reduceIte, simprocAttr]; refine rwc_v (hF) (go_on ?_); (try simp only [push_cast, simprocAttr]))
    (try simp only [show ltI 2 0 = false from rfl, show toIx 2 3 = some 2 from rfl, bC, push_cast, simprocAttr])
    refine at_chk (by omega) ?_
    (try simp only [bC, push_cast, simprocAttr])
    (refine at_callW [25001, 25002] (by refine wk_frz ?_ ?_ ?_ ?_ <;> simp [← List.map_append, List.length_append, eq_self, frwS, frwH, frwRow, frzT, hasN, delL, hdel, leF, leHF, rowF, frzB, idsL, idsA, idsR, inH, hget, sameRow, viewN, tk]) ?_; simp only [← List.map_append, List.length_append, eq_self, frwS, frwH, frwRow, frzT, hasN, delL, hdel, idsA, idsL, viewN, hget, tk, isC, List.map_cons, List.map_nil, List.all_cons, List.all_nil, List.append_nil, List.drop, List.getElem?_cons_zero, List.getElem?_cons_succ, Bool.not_false, Bool.not_true, Bool.and_true, if_true, if_false, Nat.zero_add, List.length_map, simprocAttr])
    (try simp only [push_cast, simprocAttr]); refine call_lend [25000] none (lr := [rowB [d0, d1, ⟨d2.name, d2.safe, d2.fresh ++ xs⟩]]) (by simp [ndB]) (by first | rfl | simp [rowsOf, hget, rdR, rowS, rowN, rowC, sC, ndC, cmC]) (by simp [idsL, idsA]) (by simp [mvN]) (by simpa [rnA, ixOf] using hS) ?_
    rintro rv lr' rows ⟨L', g1, g2, rfl, rfl, rfl⟩
    have hlen := g1.length_eq
    simp only [List.length_cons, List.length_nil, Nat.reduceAdd] at hlen
    have hLY : L' = Y := by rw [hY]; exact wr_old hv hj hg g1 g2
    (refine ⟨by simp [shB, mvF, hlen], by simp [frB, baseOf], go_on ?_⟩; simp only [killA, killH, killRow, push_cast, simprocAttr])
    rw [hLY]
    have hYl : Y.length = 3 := by rw [← hLY]; exact hlen
    (try simp only [push_cast, simprocAttr])
    (refine at_call ?_; simp only [hYl, viewN, hget, tk, isC, List.map_cons, List.map_nil, List.length_map, List.length_cons, List.length_nil, Nat.reduceAdd, Nat.reduceEqDiff, if_true, if_false, reduceIte, simprocAttr]; refine rwc_v (hV2) (go_on ?_); (try simp only [push_cast, simprocAttr]))
    (try simp only [hd, Bool.not_true, push_cast, simprocAttr])
    (refine at_callW [25000] (by refine wk_frz ?_ ?_ ?_ ?_ <;> simp [hYl, frwS, frwH, frwRow, frzT, hasN, delL, hdel, leF, leHF, rowF, frzB, idsL, idsA, idsR, inH, hget, sameRow, viewN, tk]) ?_; simp only [hYl, frwS, frwH, frwRow, frzT, hasN, delL, hdel, idsA, idsL, viewN, hget, tk, isC, List.map_cons, List.map_nil, List.all_cons, List.all_nil, List.append_nil, List.drop, List.getElem?_cons_zero, List.getElem?_cons_succ, Bool.not_false, Bool.not_true, Bool.and_true, if_true, if_false, Nat.zero_add, List.length_map, simprocAttr])
    ((try simp only [push_cast, simprocAttr]); refine at_share2 (by simp [isC2, isC]) (by first | rfl | simp [ren]) (hC2) (go_on ?_); (try simp only [push_cast, simprocAttr]))
    refine at_ret ?_; simp only [Tryz.results48, push_cast, simprocAttr]
    simp [vX]
end Go.Proofs.YtccifbbjbnjcfaaGreatDoor
/-
  Walks: disks: impl.DiskWrite, as a whole.
-/
namespace Go.Proofs.YtccifbbjbnjcfaaGreatDoor
open Go Go.RowKit Go.Proofs
theorem DiskWrite_d (bs : List BD) (hs : SmB bs) (nm : Int) (xs : List Int) (hx : xs.length ≤ 2000000) : PC Tryz.prog 48 [blsA bs, iA nm, intsA xs] (vX (.tup [blsA (writeD bs nm xs).1, bA (writeD bs nm xs).2])) := by
  cases h : (diskB bs && bytesB xs && inB nm 1 3) with
  | false =>
    have hr : writeD bs nm xs = ([], false) := by unfold writeD; rw [h]; rfl
    rw [hr]
    have := (DiskWrite_bad bs hs nm xs hx h).frzX
    simp [viewN, hpOf, hget, isC, tk] at this
    exact this
  | true =>
    simp only [Bool.and_eq_true] at h
    obtain ⟨⟨hv, hxb⟩, hi⟩ := h
    have hl := disk_len hv
    rcases ixB_cases bs nm with ⟨h1, h2⟩ | ⟨j, d, h1, h2, h3⟩
    · match bs, hl with
      | [], _ => exact DiskWrite_new0 _ nm xs hx hv hxb hi h2 rfl
      | [d0], _ => exact DiskWrite_new1 _ nm xs hx hv hxb hi h2 ⟨_, rfl⟩
      | [d0, d1], _ => exact DiskWrite_new2 _ nm xs hx hv hxb hi h2 ⟨_, _, rfl⟩
      | [d0, d1, d2], _ => exact DiskWrite_new3 _ nm xs hx hv hxb hi h2 ⟨_, _, _, rfl⟩
      | _ :: _ :: _ :: _ :: _, hl => simp at hl
    · match bs, hl, j with
      | [], _, _ => simp at h2
      | [d0], _, 0 => exact DiskWrite_old10 _ nm xs hx hv hxb hi d h2 h3 h1 ⟨_, rfl⟩
      | [d0], _, j + 1 => simp at h2
      | [d0, d1], _, 0 => exact DiskWrite_old20 _ nm xs hx hv hxb hi d h2 h3 h1 ⟨_, _, rfl⟩
      | [d0, d1], _, 1 => exact DiskWrite_old21 _ nm xs hx hv hxb hi d h2 h3 h1 ⟨_, _, rfl⟩
      | [d0, d1], _, j + 2 => simp at h2
      | [d0, d1, d2], _, 0 => exact DiskWrite_old30 _ nm xs hx hv hxb hi d h2 h3 h1 ⟨_, _, _, rfl⟩
      | [d0, d1, d2], _, 1 => exact DiskWrite_old31 _ nm xs hx hv hxb hi d h2 h3 h1 ⟨_, _, _, rfl⟩
      | [d0, d1, d2], _, 2 => exact DiskWrite_old32 _ nm xs hx hv hxb hi d h2 h3 h1 ⟨_, _, _, rfl⟩
      | [d0, d1, d2], _, j + 3 => simp at h2
      | _ :: _ :: _ :: _ :: _, hl, _ => simp at hl
end Go.Proofs.YtccifbbjbnjcfaaGreatDoor
/-
  Walks: slices.SortFunc at files whose lists are set aside: contracts with a lent row.
-/
namespace Go.Proofs.YtccifbbjbnjcfaaGreatDoor
open Go Go.RowKit Go.Proofs
open Go.Sort (grow SWO PermIn SortedIn)
set_option maxRecDepth 100000
set_option maxHeartbeats 1000000
attribute [local irreducible] RWp AW run kPe pe Kt effA gd gu br retR RDp runD kPeD brW gW effD
end Go.Proofs.YtccifbbjbnjcfaaGreatDoor
/-
  Walks: memory set aside, handed to calls: read as data; marked.
-/
namespace Go.Proofs.YtccifbbjbnjcfaaGreatDoor
open Go Go.RowKit Go.Proofs
section
variable {P : Program} {Q : Exit → Act → World → Prop} {w0 w1 : World} {lent1 : Lent} {s : AS} {loc : Loc} {a : Act} {w : World}
theorem OT.ga {u : Value} {bs : List BD} {us : UU} {X : Nat → Prop} (hO : OT w1 X u bs us) (hX : ∀ b, X b → lent1.fb b) : ∀ loc a w, Rel w1 lent1 s loc a w → ∀ v, G s.h loc w (.v u) v → C (fun _ => False) 0 w (blsA bs) v :=
  ga_g fun w h => (hO.same (fun b hb => h b (hX b hb)) (fun _ h => h)).c fun _ _ h => h
theorem call_gv {f : FuncId} {args : List AV} {dst : Option Tmp} {k : List It} {x : Value} (ga : List AV) (hga : gaOk w1 lent1 s ga args) (hpc : PC P f ga (vX (.v x)))
    (hk : AW P w1 lent1 Q k (AS.put s dst (.v x))) : RWp P w1 lent1 Q (.call f args dst k s) := by
  refine call_gh ga hga hpc ?_
  rintro rv rows ⟨rfl, rfl⟩
  refine ⟨rfl, fun row h => (by cases h), frB_0 _ _, ?_⟩
  unfold backTo
  simpa only [hpOf, List.append_nil, ren] using hk
theorem OT.nil_or {w : World} {X : Nat → Prop} {u : Value} {bs : List BD} {us : UU} (h : OT w X u bs us) : (u = .slice none 0 0 ∧ bs = []) ∨ ∃ g c, u = .slice (some ⟨g, 0, none⟩) bs.length c := by
  rcases h.row.2 with ⟨h1, h2⟩ | ⟨g, cap, cur, h1, _⟩
  · exact .inl ⟨h1, List.eq_nil_of_length_eq_zero h2⟩
  · exact .inr ⟨g, cap, h1⟩
theorem OT.some {w : World} {X : Nat → Prop} {u : Value} {bs : List BD} {us : UU} (h : OT w X u bs us) (hb : 0 < bs.length) : ∃ g c, u = .slice (some ⟨g, 0, none⟩) bs.length c := by
  rcases h.nil_or with ⟨_, rfl⟩ | h
  · simp at hb
  · exact h
theorem getD2 {vs : Array Value} {x y : Value} (hs : vs.size = 2) (h0 : vs.getD 0 undef = x) (h1 : vs.getD 1 undef = y) : vs = #[x, y] := by
  subst h0; subst h1
  apply Array.ext
  · simpa using hs
  · intro i h1 h2
    rcases i with _ | _ | i
    · simp [Array.getD, h1]
    · simp [Array.getD, h1]
    · omega
end
/-! ### Plain: disks are small -/
theorem tot_cap : ∀ {l : List BD} {c : Nat}, (∀ d ∈ l, tot1 d ≤ c) → tot l ≤ l.length * c
  | [], _, _ => by simp [tot]
  | d :: l, c, h => by
    have h1 := h d (by simp)
    have h2 := tot_cap (l := l) (c := c) fun x hx => h x (by simp [hx])
    simp only [tot, List.length_cons, Nat.add_mul, Nat.one_mul]; omega
theorem disk_tot {bs : List BD} (h : diskB bs = true ∨ bs = []) : SmB bs ∧ tot bs ≤ 1203 := by
  rcases h with h | rfl
  · refine ⟨disk_sm h, ?_⟩
    have h1 := disk_len h
    have h2 := tot_cap (l := bs) (c := 401) fun d hd => by
      have := disk_okF h hd
      simp only [okF, Bool.and_eq_true, decide_eq_true_eq] at this
      unfold tot1; omega
    have h3 : bs.length * 401 ≤ 3 * 401 := Nat.mul_le_mul_right _ h1
    omega
  · exact ⟨⟨by simp, fun d hd => by simp at hd⟩, by simp [tot]⟩
theorem tot_mem : ∀ {l : List BD} {d : BD}, d ∈ l → tot1 d ≤ tot l
  | [], _, h => by simp at h
  | x :: l, d, h => by
    rcases List.mem_cons.1 h with rfl | h
    · simp only [tot]; omega
    · have := tot_mem h; simp only [tot]; omega
theorem tot_sz {bs : List BD} {c : Int} (h : (tot bs : Int) ≤ c) (hc : c ≤ 1048576) : SzB bs := by
  have h1 := tot_ge bs
  refine ⟨by omega, fun d hd => ?_⟩
  have := tot_mem hd
  unfold tot1 at this
  exact ⟨by omega, by omega⟩
theorem SzB.sm {bs : List BD} (h : SzB bs) : SmB bs := ⟨by have := h.n; omega, fun d hd => ⟨by have := (h.d d hd).1; omega, by have := (h.d d hd).2; omega⟩⟩
theorem SmB.d8 {bs : List BD} (h : SmB bs) : ∀ d ∈ bs, d.safe.length < 8589934590 ∧ d.fresh.length < 8589934590 := fun d hd => ⟨by have := (h.d d hd).s; omega, by have := (h.d d hd).f; omega⟩
section
variable {Q : Exit → Act → World → Prop} {w0 w1 : World} {lent1 : Lent} {s : AS}
theorem at_markB {u : Value} {bs : List BD} {us : UU} {X : Nat → Prop} {k0 : Nat} {dst : Option Tmp} {k : List It} (hnf : nf k = true) (hO : OT w1 X u bs us) (hX : ∀ b, X b → lent1.fb b) (h0 : 0 < k0) (hk : k0 + tot bs ≤ 4611686018427387904)
    (h : ∀ w2 lent2, NxM w1 lent1 w2 lent2 X → OT w2 X u (mkB k0 bs) us → AW Tryz.prog w2 lent2 Q k (AS.put s dst (.v (.int .i64 ((k0 + tot bs : Nat) : Int))))) : RWp Tryz.prog w1 lent1 Q (.call 15 [.v u, .v (.int .i64 k0)] dst k s) :=
  call_mut X hnf hX (enters_of Tryz.func15 (by kernel_rfl) rfl)
    (Z := fun w x => x = .v (.int .i64 ((k0 + tot bs : Nat) : Int)) ∧ OT w X u (mkB k0 bs) us)
    (fun w vs hw hs hv => by
      obtain rfl := getD2 hs (hv 0 _ rfl) (hv 1 _ rfl)
      refine (markBlobS_m (hO.same (fun b hb => hw b (hX b hb)) fun _ h => h) k0 h0 hk).mono ?_
      rintro e w' ⟨rfl, h1, h2⟩
      exact ⟨_, _, rfl, fun _ _ _ => .v, h1, rfl, h2⟩)
    (fun w2 lent2 x h1 h2 => by
      obtain ⟨rfl, h2⟩ := h2
      exact h w2 lent2 h1 h2)
theorem poB {w : World} {s : AS} {loc : Loc} {b : Bool} {v : Value} (hG : G s.h loc w (.v (.bool b)) v) : ∃ x, (∀ lv lo W, C lv lo W x v) ∧ x = .v (.bool b) :=
  ⟨_, fun _ _ _ => by rw [hG.v_inv]; exact .v, rfl⟩
end
attribute [local irreducible] RWp AW run kPe pe Kt effA gd gu br retR RDp runD kPeD brW gW effD
set_option maxRecDepth 100000
theorem markBlobS_nil (k : Int) : PC Tryz.prog 15 [blsA [], iA k] (vI k) := by
  refine pc_enter Tryz.func15 rfl rfl fun w0 fb => go_on ?_; (try simp only [Tryz.ntmps15, push_cast, simprocAttr])
  refine at_loop (X := Unit) (fun _ => [(1, iA k), (5, iA 0)]) (fun _ => []) (fun _ => True) (fun _ => 0) () trivial ?_ ?_
  · (refine wk_ok ?_ ?_ ?_ ?_ <;> simp [leL, leH, idsL, idsA, idsR, inH, hget, sameRow, upA, hvA, dsts, dstO, setA_0, setA_1, setA_8, List.append, List.cons_append, List.nil_append])
  · rintro ⟨⟩ _
    simp only [upA, hvA, dsts, dstO, setA_0, setA_1, setA_8, List.append, List.cons_append, List.nil_append]
    refine go_on ?_
    (try simp only [show ltI 0 0 = false from rfl, push_cast, simprocAttr])
    refine at_ret ?_; simp only [Tryz.results15, push_cast, simprocAttr]
    simp [vX]
theorem heldBlobS_nil : PC Tryz.prog 16 [blsA [], iA 1] (vI 1) := by
  have := heldBlobS_pc [] 1 (by omega) (by simp [tot])
  simpa [mkB, tot] using this
end Go.Proofs.YtccifbbjbnjcfaaGreatDoor
/-
  Walks: BookAdd, read as data.
-/
namespace Go.Proofs.YtccifbbjbnjcfaaGreatDoor
open Go Go.RowKit Go.Proofs
theorem writeD_disk2 {bs : List BD} {nm : Int} {xs : List Int} {Y : List BD} {ok : Bool} (h : (Y, ok) = writeD bs nm xs) : diskB Y = true ∨ Y = [] := by
  unfold writeD at h
  split at h
  · rename_i hc
    cases h
    simp only [Bool.and_eq_true] at hc
    exact .inl hc.2
  · cases h; exact .inr rfl
theorem addP_none {bs : List BD} {c : Cm} (h : bookO bs = none) : addP bs c = ([], false) := by unfold addP; rw [h]
theorem addP_f {bs : List BD} {c : Cm} {b : Bk} (h : bookO bs = some b) (hc : (cmV c && decide (b.log.length ≠ 20) && decide ((readD bs 1).1 = (bookB b).1)) = false) : addP bs c = ([], false) := by
  unfold addP; rw [h]; simp only; rw [hc]; rfl
theorem addP_w {bs : List BD} {c : Cm} {b : Bk} (h : bookO bs = some b) (hc : (cmV c && decide (b.log.length ≠ 20) && decide ((readD bs 1).1 = (bookB b).1)) = true) (hw : (writeD bs 1 (frameB (cmdB c))).2 = false) : addP bs c = ([], false) := by
  unfold addP; rw [h]; simp only; rw [hc]; simp only [if_true]; rw [hw]; rfl
theorem addP_t {bs : List BD} {c : Cm} {b : Bk} (h : bookO bs = some b) (hc : (cmV c && decide (b.log.length ≠ 20) && decide ((readD bs 1).1 = (bookB b).1)) = true) (hw : (writeD bs 1 (frameB (cmdB c))).2 = true) : addP bs c = syncP (writeD bs 1 (frameB (cmdB c))).1 1 := by
  unfold addP; rw [h]; simp only; rw [hc]; simp only [if_true]; rw [hw]; rfl
theorem bookO_some {bs : List BD} {b : Bk} (h : bookO bs = some b) : (readD bs 1).2 = true ∧ bookL (readD bs 1).1 = some b ∧ diskB bs = true ∧ (bookB b).2 = true ∧ SmL b.log := by
  unfold bookO at h
  split at h
  · rename_i hr
    obtain ⟨h1, h2, _⟩ := bookL_spec h
    refine ⟨hr, h, (readD_true hr).1, h1, ?_⟩
    unfold bookB at h1
    split at h1
    · rename_i hc
      rw [Bool.and_eq_true] at hc
      exact lV_sm hc.1
    · cases h1
  · cases h
attribute [local irreducible] RWp AW run kPe pe Kt effA gd gu br retR RDp runD kPeD brW gW effD
set_option maxRecDepth 100000
theorem specBookAdd_d (bs : List BD) (hs : SmB bs) (c : Cm) (hp : c.p.length < 4294967281) : PC Tryz.prog 10 [blsA bs, cmdA c] (vX (.tup [blsA (addP bs c).1, bA (addP bs c).2])) := by
  have hO := specBookOpen_pc bs hs
  have hV := specCommandValid_pc c hp
  have emp : ∀ {q : PC Tryz.prog 10 [blsA bs, cmdA c] (rX (.tup [.o 0 0, bA false]) [rowB []])}, PC Tryz.prog 10 [blsA bs, cmdA c] (vX (.tup [blsA [], bA false])) := fun {q} => by
    have := q.frzX
    simp [viewN, hpOf, hget, isC, tk] at this
    exact this
  unfold bkR bkA bkC at hO
  unfold cmdA cmC at hV emp ⊢
  cases hb : bookO bs with
  | none =>
    rw [addP_none hb]
    rw [hb] at hO
    simp only [Option.getD_none, Option.isSome_none] at hO
    refine emp (q := ?_)
    refine pc_enter Tryz.func10 rfl rfl fun w0 fb => go_on ?_; (try simp only [Tryz.ntmps10, push_cast, simprocAttr])
    ((try simp only [push_cast, simprocAttr]); refine at_share2 (by simp [isC2, isC]) (by first | rfl | simp [ren]) (hO) (go_on ?_); (try simp only [push_cast, simprocAttr]))
    (try simp only [Bool.not_false, push_cast, simprocAttr])
    refine at_ret ?_; simp only [Tryz.results10, push_cast, simprocAttr]
    simp [rX, ixOf]
  | some b =>
    obtain ⟨o1, o2, o3, o4, o5⟩ := bookO_some hb
    rw [hb] at hO
    simp only [Option.getD_some, Option.isSome_some] at hO
    have hD := specDiskRead_d bs hs 1
    rw [o1] at hD
    have hBB := specBookBytes_d b o5
    rw [o4] at hBB
    unfold bkA bkC at hBB
    have hll := book_len o2
    obtain ⟨x, hx⟩ : ∃ x, x = (readD bs 1).1 := ⟨_, rfl⟩
    obtain ⟨y, hy⟩ : ∃ y, y = (bookB b).1 := ⟨_, rfl⟩
    rw [← hx] at hD hll
    rw [← hy] at hBB hll
    cases hv : cmV c with
    | false =>
      rw [addP_f hb (by rw [hv]; rfl)]
      refine emp (q := ?_)
      refine pc_enter Tryz.func10 rfl rfl fun w0 fb => go_on ?_; (try simp only [Tryz.ntmps10, push_cast, simprocAttr])
      ((try simp only [push_cast, simprocAttr]); refine at_share2 (by simp [isC2, isC]) (by first | rfl | simp [ren]) (hO) (go_on ?_); (try simp only [push_cast, simprocAttr]))
      (try simp only [Bool.not_true, push_cast, simprocAttr])
      (refine at_call ?_; (try simp only [push_cast, simprocAttr]); refine rwc_v (hV) (go_on ?_); (try simp only [push_cast, simprocAttr]))
      (try simp only [hv, Bool.not_false, push_cast, simprocAttr])
      refine at_ret ?_; simp only [Tryz.results10, push_cast, simprocAttr]
      simp [rX, ixOf]
    | true =>
      by_cases h20 : b.log.length = 20
      · have q0 : eqI (b.log.length : Int) 20 = true := eqI_t (by omega)
        rw [addP_f hb (by simp [h20])]
        refine emp (q := ?_)
        refine pc_enter Tryz.func10 rfl rfl fun w0 fb => go_on ?_; (try simp only [Tryz.ntmps10, push_cast, simprocAttr])
        ((try simp only [push_cast, simprocAttr]); refine at_share2 (by simp [isC2, isC]) (by first | rfl | simp [ren]) (hO) (go_on ?_); (try simp only [push_cast, simprocAttr]))
        (try simp only [Bool.not_true, push_cast, simprocAttr])
        (refine at_call ?_; (try simp only [push_cast, simprocAttr]); refine rwc_v (hV) (go_on ?_); (try simp only [push_cast, simprocAttr]))
        (try simp only [hv, Bool.not_true, q0, List.length_map, push_cast, simprocAttr])
        refine at_ret ?_; simp only [Tryz.results10, push_cast, simprocAttr]
        simp [rX, ixOf]
      · have q0 : eqI (b.log.length : Int) 20 = false := eqI_f (by omega)
        by_cases hxy : x = y
        · have e1 : decide (x = y) = true := decide_eq_true hxy
          have e2 : eqI (y.length : Int) x.length = true := eqI_t (by rw [hxy])
          have hcnd : (cmV c && decide (b.log.length ≠ 20) && decide ((readD bs 1).1 = (bookB b).1)) = true := by rw [hv, ← hx, ← hy, e1]; simp [h20]
          have hCB := specCommandBytes_d c hp
          have hF := specFrameOf_d (cmdB c) (by have := cmdB_le c; omega)
          have hfl := frameB_le c
          have hW := specDiskWrite_d bs hs 1 (frameB (cmdB c)) (by omega) (fun d hd => by
            have := disk_okF o3 hd
            simp only [okF, Bool.and_eq_true, decide_eq_true_eq] at this
            omega)
          unfold cmdA cmC at hCB
          obtain ⟨⟨wd, ok⟩, hwd⟩ : ∃ w, w = writeD bs 1 (frameB (cmdB c)) := ⟨_, rfl⟩
          rw [← hwd] at hW
          simp only at hW
          cases ok with
          | false =>
            rw [addP_w hb hcnd (by rw [← hwd])]
            refine emp (q := ?_)
            refine pc_enter Tryz.func10 rfl rfl fun w0 fb => go_on ?_; (try simp only [Tryz.ntmps10, push_cast, simprocAttr])
            ((try simp only [push_cast, simprocAttr]); refine at_share2 (by simp [isC2, isC]) (by first | rfl | simp [ren]) (hO) (go_on ?_); (try simp only [push_cast, simprocAttr]))
            (try simp only [Bool.not_true, push_cast, simprocAttr])
            (refine at_call ?_; (try simp only [push_cast, simprocAttr]); refine rwc_v (hV) (go_on ?_); (try simp only [push_cast, simprocAttr]))
            (try simp only [hv, Bool.not_true, q0, List.length_map, push_cast, simprocAttr])
            ((try simp only [push_cast, simprocAttr]); refine at_share2 (by simp [isC2, isC]) (by first | rfl | simp [ren]) (hD) (go_on ?_); (try simp only [push_cast, simprocAttr]))
            ((try simp only [push_cast, simprocAttr]); refine at_share2 (by simp [isC2, isC]) (by first | rfl | simp [ren]) (hBB) (go_on ?_); (try simp only [push_cast, simprocAttr]))
            (try simp only [e2, Bool.not_true, List.length_map, push_cast, simprocAttr])
            ((try simp only [push_cast, simprocAttr]); refine at_share2 (by simp [isC2, isC]) (by first | rfl | simp [ren]) (hCB) (go_on ?_); (try simp only [push_cast, simprocAttr]))
            ((try simp only [push_cast, simprocAttr]); refine at_share2 (by simp [isC2, isC]) (by first | rfl | simp [ren]) (hF) (go_on ?_); (try simp only [push_cast, simprocAttr]))
            ((try simp only [push_cast, simprocAttr]); refine at_share2 (by simp [isC2, isC]) (by first | rfl | simp [ren]) (hW) (go_on ?_); (try simp only [push_cast, simprocAttr]))
            (try simp only [Bool.not_false, push_cast, simprocAttr])
            refine at_ret ?_; simp only [Tryz.results10, push_cast, simprocAttr]
            simp [rX, ixOf]
          | true =>
            have hwv : diskB wd = true ∨ wd = [] := writeD_disk2 hwd
            have hSy := specDiskSync_d wd (disk_tot hwv).1 1
            rw [addP_t hb hcnd (by rw [← hwd]), ← hwd]
            simp only
            refine pc_enter Tryz.func10 rfl rfl fun w0 fb => go_on ?_; (try simp only [Tryz.ntmps10, push_cast, simprocAttr])
            ((try simp only [push_cast, simprocAttr]); refine at_share2 (by simp [isC2, isC]) (by first | rfl | simp [ren]) (hO) (go_on ?_); (try simp only [push_cast, simprocAttr]))
            (try simp only [Bool.not_true, push_cast, simprocAttr])
            (refine at_call ?_; (try simp only [push_cast, simprocAttr]); refine rwc_v (hV) (go_on ?_); (try simp only [push_cast, simprocAttr]))
            (try simp only [hv, Bool.not_true, q0, List.length_map, push_cast, simprocAttr])
            ((try simp only [push_cast, simprocAttr]); refine at_share2 (by simp [isC2, isC]) (by first | rfl | simp [ren]) (hD) (go_on ?_); (try simp only [push_cast, simprocAttr]))
            ((try simp only [push_cast, simprocAttr]); refine at_share2 (by simp [isC2, isC]) (by first | rfl | simp [ren]) (hBB) (go_on ?_); (try simp only [push_cast, simprocAttr]))
            (try simp only [e2, Bool.not_true, List.length_map, push_cast, simprocAttr])
            ((try simp only [push_cast, simprocAttr]); refine at_share2 (by simp [isC2, isC]) (by first | rfl | simp [ren]) (hCB) (go_on ?_); (try simp only [push_cast, simprocAttr]))
            ((try simp only [push_cast, simprocAttr]); refine at_share2 (by simp [isC2, isC]) (by first | rfl | simp [ren]) (hF) (go_on ?_); (try simp only [push_cast, simprocAttr]))
            ((try simp only [push_cast, simprocAttr]); refine at_share2 (by simp [isC2, isC]) (by first | rfl | simp [ren]) (hW) (go_on ?_); (try simp only [push_cast, simprocAttr]))
            (try simp only [Bool.not_true, push_cast, simprocAttr])
            ((try simp only [push_cast, simprocAttr]); refine at_share2 (by simp [isC2, isC]) (by first | rfl | simp [ren]) (hSy) (go_on ?_); (try simp only [push_cast, simprocAttr]))
            refine at_ret ?_; simp only [Tryz.results10, push_cast, simprocAttr]
            simp [vX]
        · have e1 : decide (x = y) = false := decide_eq_false hxy
          have e2 : eqI (y.length : Int) x.length = false := eqI_f (fun h => hxy (hll.mp (by omega)))
          rw [addP_f hb (by rw [← hx, ← hy, e1]; simp)]
          refine emp (q := ?_)
          refine pc_enter Tryz.func10 rfl rfl fun w0 fb => go_on ?_; (try simp only [Tryz.ntmps10, push_cast, simprocAttr])
          ((try simp only [push_cast, simprocAttr]); refine at_share2 (by simp [isC2, isC]) (by first | rfl | simp [ren]) (hO) (go_on ?_); (try simp only [push_cast, simprocAttr]))
          (try simp only [Bool.not_true, push_cast, simprocAttr])
          (refine at_call ?_; (try simp only [push_cast, simprocAttr]); refine rwc_v (hV) (go_on ?_); (try simp only [push_cast, simprocAttr]))
          (try simp only [hv, Bool.not_true, q0, List.length_map, push_cast, simprocAttr])
          ((try simp only [push_cast, simprocAttr]); refine at_share2 (by simp [isC2, isC]) (by first | rfl | simp [ren]) (hD) (go_on ?_); (try simp only [push_cast, simprocAttr]))
          ((try simp only [push_cast, simprocAttr]); refine at_share2 (by simp [isC2, isC]) (by first | rfl | simp [ren]) (hBB) (go_on ?_); (try simp only [push_cast, simprocAttr]))
          (try simp only [e2, Bool.not_false, List.length_map, push_cast, simprocAttr])
          refine at_ret ?_; simp only [Tryz.results10, push_cast, simprocAttr]
          simp [rX, ixOf]
end Go.Proofs.YtccifbbjbnjcfaaGreatDoor
/-
  Walks: impl.DiskWrite, set aside: no such file there, or nothing written.
-/
namespace Go.Proofs.YtccifbbjbnjcfaaGreatDoor
open Go Go.RowKit Go.Proofs
theorem G.tupVB {h : Hp} {loc : Loc} {w : World} {u : Value} {ok : Bool} {v : Value} (hG : G h loc w (.tup [.v u, .v (.bool ok)]) v) : ∀ lv lo W, C lv lo W (.tup [.v u, .v (.bool ok)]) v := by
  have key : ∀ vs : Array Value, vs.size = 2 → G h loc w (.v u) (vs.getD 0 undef) → G h loc w (.v (.bool ok)) (vs.getD 1 undef) → ∀ lv lo W, C lv lo W (.tup [.v u, .v (.bool ok)]) (.tuple vs) := fun vs hs h0 h1 lv lo W => by
    refine .tup vs (by simpa using hs) fun j a ha => ?_
    rcases j with _ | _ | j
    · simp at ha; subst ha; rw [h0.v_inv]; exact .v
    · simp at ha; subst ha; rw [h1.v_inv]; exact .v
    · simp at ha
  cases hG with
  | cl hc =>
    cases hc with
    | tup vs hs hg => exact key vs (by simpa using hs) (.cl (hg 0 _ rfl)) (.cl (hg 1 _ rfl))
  | tup vs hs hg => exact key vs (by simpa using hs) (hg 0 _ rfl) (hg 1 _ rfl)
theorem otOut {w0 w2 w : World} {lent2 : Lent} {s : AS} {loc : Loc} {a : Act} {u : Value} {bs : List BD} {us : UU} {X : Nat → Prop} {ok : Bool} {v : Value} (hR : Rel w2 lent2 s loc a w) (hO : OT w2 X u bs us) (hX : ∀ b, X b → lent2.fb b) (hge : ∀ b, X b → w0.heap.size ≤ b)
    (hG : G s.h loc w (.tup [.v u, .v (.bool ok)]) v) : ∃ x, (∀ lv lo W, C lv lo W x v) ∧ otB bs ok w (fun b => w0.heap.size ≤ b ∧ b < w.heap.size) x :=
  ⟨_, hG.tupVB, u, us, rfl, hO.same (fun b hb => hR.fbk (hX b hb)) fun b hb => ⟨hge b hb, Nat.lt_of_lt_of_le (hR.fbl b (hX b hb)).1 hR.size⟩⟩
attribute [local irreducible] RWp AW run kPe pe Kt effA gd gu br retR RDp runD kPeD brW gW effD
set_option maxRecDepth 100000
end Go.Proofs.YtccifbbjbnjcfaaGreatDoor
/-
  Walks: impl.DiskWrite, set aside: the file there.
-/
namespace Go.Proofs.YtccifbbjbnjcfaaGreatDoor
open Go Go.RowKit Go.Proofs
attribute [local irreducible] RWp AW run kPe pe Kt effA gd gu br retR RDp runD kPeD brW gW effD
set_option maxRecDepth 100000
end Go.Proofs.YtccifbbjbnjcfaaGreatDoor
/-
  Walks: impl.DiskWrite, set aside, as a whole.
-/
namespace Go.Proofs.YtccifbbjbnjcfaaGreatDoor
open Go Go.RowKit Go.Proofs
end Go.Proofs.YtccifbbjbnjcfaaGreatDoor
/-
  Walks: BookAdd, set aside.
-/
namespace Go.Proofs.YtccifbbjbnjcfaaGreatDoor
open Go Go.RowKit Go.Proofs
theorem ownNilK {w0 w1 w : World} {lent1 : Lent} {s : AS} {loc : Loc} {a : Act} {R : Nat} {ok : Bool} {v : Value} (hch : Ch w0 w1 lent1) (hr : hget s.h R = some (rowB [])) (hR : Rel w1 lent1 s loc a w) (hG : G s.h loc w (.tup [.o R 0, bA ok]) v) :
    ∃ x, (∀ lv lo W, C lv lo W x v) ∧ otB [] ok w (fun b => w0.heap.size ≤ b ∧ b < w.heap.size) x := by
  obtain ⟨v0, h1, h2⟩ := hG.tupOB
  exact ⟨_, h2, v0, [], rfl, hR.toOT hch (bs := []) (us := []) hr Gh.nil h1⟩
attribute [local irreducible] RWp AW run kPe pe Kt effA gd gu br retR RDp runD kPeD brW gW effD
set_option maxRecDepth 100000
theorem BookAdd_o (bs : List BD) (hs : SmB bs) (c : Cm) (hp : c.p.length < 4294967281) : PO Tryz.prog 13 [blsA bs, cmdA c] (otB (addP bs c).1 (addP bs c).2) := by
  have hO := BookOpen_pc bs hs
  have hV := CommandValid_pc c hp
  unfold bkR bkA bkC at hO
  unfold cmdA cmC at hV ⊢
  cases hb : bookO bs with
  | none =>
    rw [addP_none hb]
    rw [hb] at hO
    simp only [Option.getD_none, Option.isSome_none] at hO
    refine po_enter Tryz.func13 rfl rfl fun w0 => go_on ?_; (try simp only [Tryz.ntmps13, push_cast, simprocAttr])
    (try simp only [push_cast, simprocAttr])
    refine at_share2 (by simp [isC2, isC]) (by first | rfl | simp [ren]) hO ?_
    simp only [push_cast, simprocAttr]
    (refine at_dropS [4] (by refine wk_ok ?_ ?_ ?_ ?_ <;> simp [dropS, dropT, hasN, delL, hdel, leL, leH, idsL, idsA, idsR, inH, hget, sameRow]) ?_; simp only [dropS, dropT, hasN, delL, hdel, idsA, idsL, hget, List.map_cons, List.map_nil, List.all_cons, List.all_nil, List.append_nil, Bool.not_false, Bool.not_true, Bool.and_true, if_true, if_false, simprocAttr])
    refine go_on ?_
    (try simp only [Bool.not_false, push_cast, simprocAttr])
    (refine at_retO (Ch.refl w0) (l := [.o 4 0, bA false]) (by simp only [Tryz.results13, push_cast, simprocAttr]) ?_)
    exact fun loc a w v hR hG => ownNil (Ch.refl w0) rfl hR hG
  | some b =>
    obtain ⟨o1, o2, o3, o4, o5⟩ := bookO_some hb
    rw [hb] at hO
    simp only [Option.getD_some, Option.isSome_some] at hO
    have hD := DiskRead_d bs hs 1
    rw [o1] at hD
    have hBB := BookBytes_d b o5
    rw [o4] at hBB
    unfold bkA bkC at hBB
    obtain ⟨x, hx⟩ : ∃ x, x = (readD bs 1).1 := ⟨_, rfl⟩
    obtain ⟨y, hy⟩ : ∃ y, y = (bookB b).1 := ⟨_, rfl⟩
    have hxl := readD_len hs 1
    rw [← hx] at hD hxl
    rw [← hy] at hBB
    have hEq := EqualI_pc x y hxl
    have hlen := lV_n (loadC_v (x.drop 3))
    cases hv : cmV c with
    | false =>
      rw [addP_f hb (by rw [hv]; rfl)]
      refine po_enter Tryz.func13 rfl rfl fun w0 => go_on ?_; (try simp only [Tryz.ntmps13, push_cast, simprocAttr])
      (try simp only [push_cast, simprocAttr])
      refine at_share2 (by simp [isC2, isC]) (by first | rfl | simp [ren]) hO ?_
      simp only [push_cast, simprocAttr]
      (refine at_dropS [4] (by refine wk_ok ?_ ?_ ?_ ?_ <;> simp [dropS, dropT, hasN, delL, hdel, leL, leH, idsL, idsA, idsR, inH, hget, sameRow]) ?_; simp only [dropS, dropT, hasN, delL, hdel, idsA, idsL, hget, List.map_cons, List.map_nil, List.all_cons, List.all_nil, List.append_nil, Bool.not_false, Bool.not_true, Bool.and_true, if_true, if_false, simprocAttr])
      refine go_on ?_
      (try simp only [Bool.not_true, push_cast, simprocAttr])
      (refine at_call ?_; (try simp only [push_cast, simprocAttr]); refine rwc_v (hV) (go_on ?_); (try simp only [push_cast, simprocAttr]))
      (try simp only [hv, Bool.not_false, push_cast, simprocAttr])
      (refine at_retO (Ch.refl w0) (l := [.o 4 0, bA false]) (by simp only [Tryz.results13, push_cast, simprocAttr]) ?_)
      exact fun loc a w v hR hG => ownNil (Ch.refl w0) rfl hR hG
    | true =>
      by_cases h20 : b.log.length = 20
      · have q0 : eqI (b.log.length : Int) 20 = true := eqI_t (by omega)
        rw [addP_f hb (by simp [h20])]
        refine po_enter Tryz.func13 rfl rfl fun w0 => go_on ?_; (try simp only [Tryz.ntmps13, push_cast, simprocAttr])
        (try simp only [push_cast, simprocAttr])
        refine at_share2 (by simp [isC2, isC]) (by first | rfl | simp [ren]) hO ?_
        simp only [push_cast, simprocAttr]
        (refine at_dropS [4] (by refine wk_ok ?_ ?_ ?_ ?_ <;> simp [dropS, dropT, hasN, delL, hdel, leL, leH, idsL, idsA, idsR, inH, hget, sameRow]) ?_; simp only [dropS, dropT, hasN, delL, hdel, idsA, idsL, hget, List.map_cons, List.map_nil, List.all_cons, List.all_nil, List.append_nil, Bool.not_false, Bool.not_true, Bool.and_true, if_true, if_false, simprocAttr])
        refine go_on ?_
        (try simp only [Bool.not_true, push_cast, simprocAttr])
        (refine at_call ?_; (try simp only [push_cast, simprocAttr]); refine rwc_v (hV) (go_on ?_); (try simp only [push_cast, simprocAttr]))
        (try simp only [hv, Bool.not_true, q0, List.length_map, push_cast, simprocAttr])
        (refine at_retO (Ch.refl w0) (l := [.o 4 0, bA false]) (by simp only [Tryz.results13, push_cast, simprocAttr]) ?_)
        exact fun loc a w v hR hG => ownNil (Ch.refl w0) rfl hR hG
      · have q0 : eqI (b.log.length : Int) 20 = false := eqI_f (by omega)
        by_cases hxy : x = y
        · have e1 : decide (x = y) = true := decide_eq_true hxy
          have hcnd : (cmV c && decide (b.log.length ≠ 20) && decide ((readD bs 1).1 = (bookB b).1)) = true := by rw [hv, ← hx, ← hy, e1]; simp [h20]
          have hCB := CommandBytes_d c hp
          have hF := FrameOf_d (cmdB c) (by have := cmdB_le c; omega)
          have hfl := frameB_le c
          have hW := DiskWrite_d bs hs 1 (frameB (cmdB c)) (by omega)
          unfold cmdA cmC at hCB
          obtain ⟨⟨wd, ok⟩, hwd⟩ : ∃ w, w = writeD bs 1 (frameB (cmdB c)) := ⟨_, rfl⟩
          rw [← hwd] at hW
          simp only at hW
          cases ok with
          | false =>
            rw [addP_w hb hcnd (by rw [← hwd])]
            refine po_enter Tryz.func13 rfl rfl fun w0 => go_on ?_; (try simp only [Tryz.ntmps13, push_cast, simprocAttr])
            (try simp only [push_cast, simprocAttr])
            refine at_share2 (by simp [isC2, isC]) (by first | rfl | simp [ren]) hO ?_
            simp only [push_cast, simprocAttr]
            (refine at_dropS [4] (by refine wk_ok ?_ ?_ ?_ ?_ <;> simp [dropS, dropT, hasN, delL, hdel, leL, leH, idsL, idsA, idsR, inH, hget, sameRow]) ?_; simp only [dropS, dropT, hasN, delL, hdel, idsA, idsL, hget, List.map_cons, List.map_nil, List.all_cons, List.all_nil, List.append_nil, Bool.not_false, Bool.not_true, Bool.and_true, if_true, if_false, simprocAttr])
            refine go_on ?_
            (try simp only [Bool.not_true, push_cast, simprocAttr])
            (refine at_call ?_; (try simp only [push_cast, simprocAttr]); refine rwc_v (hV) (go_on ?_); (try simp only [push_cast, simprocAttr]))
            (try simp only [hv, Bool.not_true, q0, List.length_map, push_cast, simprocAttr])
            ((try simp only [push_cast, simprocAttr]); refine at_share2 (by simp [isC2, isC]) (by first | rfl | simp [ren]) (hD) (go_on ?_); (try simp only [push_cast, simprocAttr]))
            ((try simp only [push_cast, simprocAttr]); refine at_share2 (by simp [isC2, isC]) (by first | rfl | simp [ren]) (hBB) (go_on ?_); (try simp only [push_cast, simprocAttr]))
            (refine at_call ?_; (try simp only [push_cast, simprocAttr]); refine rwc_v (hEq) (go_on ?_); (try simp only [push_cast, simprocAttr]))
            (try simp only [e1, Bool.not_true, push_cast, simprocAttr])
            ((try simp only [push_cast, simprocAttr]); refine at_share2 (by simp [isC2, isC]) (by first | rfl | simp [ren]) (hCB) (go_on ?_); (try simp only [push_cast, simprocAttr]))
            ((try simp only [push_cast, simprocAttr]); refine at_share2 (by simp [isC2, isC]) (by first | rfl | simp [ren]) (hF) (go_on ?_); (try simp only [push_cast, simprocAttr]))
            ((try simp only [push_cast, simprocAttr]); refine at_share2 (by simp [isC2, isC]) (by first | rfl | simp [ren]) (hW) (go_on ?_); (try simp only [push_cast, simprocAttr]))
            (try simp only [Bool.not_false, push_cast, simprocAttr])
            (refine at_retO (Ch.refl w0) (l := [.o 4 0, bA false]) (by simp only [Tryz.results13, push_cast, simprocAttr]) ?_)
            exact fun loc a w v hR hG => ownNil (Ch.refl w0) rfl hR hG
          | true =>
            have hwv : diskB wd = true ∨ wd = [] := writeD_disk2 hwd
            have hSy := DiskSync_o wd (disk_tot hwv).1 1
            rw [addP_t hb hcnd (by rw [← hwd]), ← hwd]
            simp only
            refine po_enter Tryz.func13 rfl rfl fun w0 => go_on ?_; (try simp only [Tryz.ntmps13, push_cast, simprocAttr])
            (try simp only [push_cast, simprocAttr])
            refine at_share2 (by simp [isC2, isC]) (by first | rfl | simp [ren]) hO ?_
            simp only [push_cast, simprocAttr]
            (refine at_dropS [4] (by refine wk_ok ?_ ?_ ?_ ?_ <;> simp [dropS, dropT, hasN, delL, hdel, leL, leH, idsL, idsA, idsR, inH, hget, sameRow]) ?_; simp only [dropS, dropT, hasN, delL, hdel, idsA, idsL, hget, List.map_cons, List.map_nil, List.all_cons, List.all_nil, List.append_nil, Bool.not_false, Bool.not_true, Bool.and_true, if_true, if_false, simprocAttr])
            refine go_on ?_
            (try simp only [Bool.not_true, push_cast, simprocAttr])
            (refine at_call ?_; (try simp only [push_cast, simprocAttr]); refine rwc_v (hV) (go_on ?_); (try simp only [push_cast, simprocAttr]))
            (try simp only [hv, Bool.not_true, q0, List.length_map, push_cast, simprocAttr])
            ((try simp only [push_cast, simprocAttr]); refine at_share2 (by simp [isC2, isC]) (by first | rfl | simp [ren]) (hD) (go_on ?_); (try simp only [push_cast, simprocAttr]))
            ((try simp only [push_cast, simprocAttr]); refine at_share2 (by simp [isC2, isC]) (by first | rfl | simp [ren]) (hBB) (go_on ?_); (try simp only [push_cast, simprocAttr]))
            (refine at_call ?_; (try simp only [push_cast, simprocAttr]); refine rwc_v (hEq) (go_on ?_); (try simp only [push_cast, simprocAttr]))
            (try simp only [e1, Bool.not_true, push_cast, simprocAttr])
            ((try simp only [push_cast, simprocAttr]); refine at_share2 (by simp [isC2, isC]) (by first | rfl | simp [ren]) (hCB) (go_on ?_); (try simp only [push_cast, simprocAttr]))
            ((try simp only [push_cast, simprocAttr]); refine at_share2 (by simp [isC2, isC]) (by first | rfl | simp [ren]) (hF) (go_on ?_); (try simp only [push_cast, simprocAttr]))
            ((try simp only [push_cast, simprocAttr]); refine at_share2 (by simp [isC2, isC]) (by first | rfl | simp [ren]) (hW) (go_on ?_); (try simp only [push_cast, simprocAttr]))
            (try simp only [Bool.not_true, push_cast, simprocAttr])
            refine call_PO rfl [blsA wd, iA 1] ⟨ga_c rfl, ga_c rfl, trivial⟩ hSy ?_
            rintro w2 lent2 X x hN ⟨u, us, rfl, hO⟩
            have c2 := hN.ch _ _ (Ch.refl w0)
            rcases hO.nil_or with ⟨rfl, hY0⟩ | ⟨g, cp, rfl⟩
            · refine go_on ?_
              (try simp only [push_cast, simprocAttr])
              (refine at_retO c2 (l := [.o 4 0, bA (syncP wd 1).2]) (by simp only [Tryz.results13, push_cast, simprocAttr]) ?_)
              intro loc a w v hR hG
              rw [hY0]
              exact ownNilK c2 rfl hR hG
            · refine go_on ?_
              (try simp only [push_cast, simprocAttr])
              (refine at_retO c2 (l := [.v (.slice (some ⟨g, 0, none⟩) (syncP wd 1).1.length cp), bA (syncP wd 1).2]) (by simp only [Tryz.results13, push_cast, simprocAttr]) ?_)
              intro loc a w v hR hG
              exact otOut hR hO hN.xfb hN.xge hG
        · have e1 : decide (x = y) = false := decide_eq_false hxy
          rw [addP_f hb (by rw [← hx, ← hy, e1]; simp)]
          refine po_enter Tryz.func13 rfl rfl fun w0 => go_on ?_; (try simp only [Tryz.ntmps13, push_cast, simprocAttr])
          (try simp only [push_cast, simprocAttr])
          refine at_share2 (by simp [isC2, isC]) (by first | rfl | simp [ren]) hO ?_
          simp only [push_cast, simprocAttr]
          (refine at_dropS [4] (by refine wk_ok ?_ ?_ ?_ ?_ <;> simp [dropS, dropT, hasN, delL, hdel, leL, leH, idsL, idsA, idsR, inH, hget, sameRow]) ?_; simp only [dropS, dropT, hasN, delL, hdel, idsA, idsL, hget, List.map_cons, List.map_nil, List.all_cons, List.all_nil, List.append_nil, Bool.not_false, Bool.not_true, Bool.and_true, if_true, if_false, simprocAttr])
          refine go_on ?_
          (try simp only [Bool.not_true, push_cast, simprocAttr])
          (refine at_call ?_; (try simp only [push_cast, simprocAttr]); refine rwc_v (hV) (go_on ?_); (try simp only [push_cast, simprocAttr]))
          (try simp only [hv, Bool.not_true, q0, List.length_map, push_cast, simprocAttr])
          ((try simp only [push_cast, simprocAttr]); refine at_share2 (by simp [isC2, isC]) (by first | rfl | simp [ren]) (hD) (go_on ?_); (try simp only [push_cast, simprocAttr]))
          ((try simp only [push_cast, simprocAttr]); refine at_share2 (by simp [isC2, isC]) (by first | rfl | simp [ren]) (hBB) (go_on ?_); (try simp only [push_cast, simprocAttr]))
          (refine at_call ?_; (try simp only [push_cast, simprocAttr]); refine rwc_v (hEq) (go_on ?_); (try simp only [push_cast, simprocAttr]))
          (try simp only [e1, Bool.not_false, push_cast, simprocAttr])
          (refine at_retO (Ch.refl w0) (l := [.o 4 0, bA false]) (by simp only [Tryz.results13, push_cast, simprocAttr]) ?_)
          exact fun loc a w v hR hG => ownNil (Ch.refl w0) rfl hR hG
end Go.Proofs.YtccifbbjbnjcfaaGreatDoor
/-
  Walks: BookSteps, read as data.
-/
namespace Go.Proofs.YtccifbbjbnjcfaaGreatDoor
open Go Go.RowKit Go.Proofs
attribute [local irreducible] RWp AW run kPe pe Kt effA gd gu br retR RDp runD kPeD brW gW effD
set_option maxRecDepth 100000
end Go.Proofs.YtccifbbjbnjcfaaGreatDoor
/-
  Walks: books: the draws.
-/
namespace Go.Proofs.YtccifbbjbnjcfaaGreatDoor
open Go Go.RowKit Go.Proofs
theorem LogS.sm {l : List Cm} (h : LogS l) : SmL l := ⟨by have := h.n; omega, fun c hc => by have := h.p c hc; omega⟩
attribute [local irreducible] RWp AW run kPe pe Kt effA gd gu br retR RDp runD kPeD brW gW effD
set_option maxRecDepth 100000
end Go.Proofs.YtccifbbjbnjcfaaGreatDoor
/-
  Walks: books: the draws, joined.
-/
namespace Go.Proofs.YtccifbbjbnjcfaaGreatDoor
open Go Go.RowKit Go.Proofs
attribute [local irreducible] RWp AW run kPe pe Kt effA gd gu br retR RDp runD kPeD brW gW effD
set_option maxRecDepth 100000
end Go.Proofs.YtccifbbjbnjcfaaGreatDoor
/-
  Walks: books: the draws: a shelf; DrawBookSteps, DrawBookAdd.
-/
namespace Go.Proofs.YtccifbbjbnjcfaaGreatDoor
open Go Go.RowKit Go.Proofs
attribute [local irreducible] RWp AW run kPe pe Kt effA gd gu br retR RDp runD kPeD brW gW effD
set_option maxRecDepth 100000
end Go.Proofs.YtccifbbjbnjcfaaGreatDoor
/-
  The abstract machine: a drawn region whose last operation waits for all others: the others in any order, then the last.
-/
namespace Go.Proofs.YtccifbbjbnjcfaaGreatDoor
open Go Go.RowKit
section
variable {P : Program} {w0 : World} {lent : Lent} {Q : Exit → Act → World → Prop}
end
end Go.Proofs.YtccifbbjbnjcfaaGreatDoor
/-
  The abstract machine: a drawn region whose last two operations wait for all others: the others in any order, then the last two.
-/
namespace Go.Proofs.YtccifbbjbnjcfaaGreatDoor
open Go Go.RowKit
section
variable {P : Program} {w0 : World} {lent : Lent} {Q : Exit → Act → World → Prop}
end
end Go.Proofs.YtccifbbjbnjcfaaGreatDoor
/-
  The abstract machine: a drawn region whose last three operations wait for all others, but the third last for all but the first (a move).
-/
namespace Go.Proofs.YtccifbbjbnjcfaaGreatDoor
open Go Go.RowKit
section
variable {P : Program} {w0 : World} {lent : Lent} {Q : Exit → Act → World → Prop}
end
end Go.Proofs.YtccifbbjbnjcfaaGreatDoor
/-
  Walks: the reference's DiskCrash.
-/
namespace Go.Proofs.YtccifbbjbnjcfaaGreatDoor
open Go Go.RowKit Go.Proofs
attribute [local irreducible] RWp AW run kPe pe Kt effA gd gu br retR RDp runD kPeD brW gW effD
set_option maxRecDepth 100000
end Go.Proofs.YtccifbbjbnjcfaaGreatDoor
/-
  Walks: DiskCrash, set aside.
-/
namespace Go.Proofs.YtccifbbjbnjcfaaGreatDoor
open Go Go.RowKit Go.Proofs
attribute [local irreducible] RWp AW run kPe pe Kt effA gd gu br retR RDp runD kPeD brW gW effD
set_option maxRecDepth 100000
end Go.Proofs.YtccifbbjbnjcfaaGreatDoor
/-
  Walks: sameBook; small facts about books.
-/
namespace Go.Proofs.YtccifbbjbnjcfaaGreatDoor
open Go Go.RowKit Go.Proofs
theorem addP_disk {bs : List BD} {c : Cm} {Y : List BD} {ok : Bool} (h : (Y, ok) = addP bs c) : diskB Y = true ∨ Y = [] := by
  unfold addP at h
  split at h
  · split at h
    · simp only at h
      split at h
      · exact syncP_disk h
      · cases h; exact .inr rfl
    · cases h; exact .inr rfl
  · cases h; exact .inr rfl
attribute [local irreducible] RWp AW run kPe pe Kt effA gd gu br retR RDp runD kPeD brW gW effD
set_option maxRecDepth 100000
end Go.Proofs.YtccifbbjbnjcfaaGreatDoor
/-
  Drawn regions: calls that share.
-/
namespace Go.Proofs.YtccifbbjbnjcfaaGreatDoor
open Go Go.RowKit Go.Proofs
theorem at_shareD2 {P : Program} {K : List E → AS → Prop} {f : FuncId} {args : List AV} {o : SO} {l : List SO} {evs : List E} {s : AS} {x : AV} (hc : args.all isC2 = true) (hx : ren (baseOf o.dst) x = x) (hpc : PC P f args (vX x))
    (hk : RDp P K (runD P l (evs ++ [mkE o s x none []]) (s.put o.dst x))) : RDp P K (.call f args o l evs s) := by
  refine ⟨x, [], .inr ⟨hc, hpc⟩, frB_0 _ _, ?_⟩
  rw [hx]
  exact runD_sound _ _ _ (by simpa only [hpOf, hsets] using hk)
theorem ga_c2 {w1 : World} {lent1 : Lent} {s : AS} {x : AV} (hc : isC2 x = true) : ∀ loc a w, Rel w1 lent1 s loc a w → ∀ v, G s.h loc w x v → C (fun _ => False) 0 w x v := fun _ _ _ _ _ hg =>
  (isC2_ok hg hc).mono (Nat.le_refl _) (Nat.le_refl _) fun _ _ _ _ => ⟨fun h => h, rfl⟩
theorem szF_le : ∀ (l : List Nat) (r : Int), 0 ≤ r → szF r l ≤ r
  | [], r, h => Int.le_refl _
  | a :: l, r, h => by
    unfold szF
    split
    · omega
    · have := szF_le l (r - a) (by omega); omega
theorem szS_le (l : List Nat) (r : Int) (h : 0 ≤ r) : szS r l ≤ r := by
  unfold szS
  split
  · omega
  · have := szF_le l (r - l.length) (by omega); omega
end Go.Proofs.YtccifbbjbnjcfaaGreatDoor
/-
  Walks: the law FnExactBookAdd.
-/
namespace Go.Proofs.YtccifbbjbnjcfaaGreatDoor
open Go Go.RowKit Go.Proofs
attribute [local irreducible] RWp AW run kPe pe Kt effA gd gu br retR RDp runD kPeD brW gW effD
set_option maxRecDepth 100000
set_option maxHeartbeats 4000000
theorem FnExactBookAdd_0 (bs : List BD) (q1 : bs.length ≤ 9223372036854775807) (q2 : ∀ d ∈ bs, d.safe.length ≤ 9223372036854775807 ∧ d.fresh.length ≤ 9223372036854775807)  (hb0 : bs = []) (c : Cm) (qc : c.p.length ≤ 9223372036854775807) : PC Tryz.prog 3 [blsA bs, cmdA c] (vB true) := by
  have hZ := szBlobS_pc bs 1048576 (by omega) (by omega) q1 q2
  subst hb0
  refine PO.pc (v0 := .bool true) ?_
  unfold cmdA cmC
  refine po_enter Tryz.func3 rfl rfl fun w0 => go_on ?_; (try simp only [Tryz.ntmps3, push_cast, simprocAttr])
  (refine at_call ?_; (try simp only [push_cast, simprocAttr]); refine rwc_v (hZ) (go_on ?_); (try simp only [push_cast, simprocAttr]))
  refine at_b (fun hb => ?_) (fun hb => ?_)
  · (try simp only [hb, push_cast, simprocAttr])
    (refine at_retO (Ch.refl w0) (l := [bA true]) (by simp only [Tryz.results3, push_cast, simprocAttr]) ?_)
    exact fun loc a w v hR hG => poB hG
  have ht0 := of_ltI_f hb
  have hle := szS_le (([] : List BD).map fun d => d.safe.length + d.fresh.length) 1048576 (by omega)
  simp only [List.map_nil] at hle
  have hz : SzB ([] : List BD) := ⟨by simp, fun d hd => by simp at hd⟩
  have hZc := szCommand_pc c _ ht0 hle qc
  unfold cmC at hZc
  (try simp only [hb, push_cast, simprocAttr])
  (refine at_call ?_; (try simp only [push_cast, simprocAttr]); refine rwc_v (hZc) (go_on ?_); (try simp only [push_cast, simprocAttr]))
  refine at_b (fun hb2 => ?_) (fun hb2 => ?_)
  · (try simp only [hb2, push_cast, simprocAttr])
    (refine at_retO (Ch.refl w0) (l := [bA true]) (by simp only [Tryz.results3, push_cast, simprocAttr]) ?_)
    exact fun loc a w v hR hG => poB hG
  have hb2' := of_ltI_f hb2
  have hp : c.p.length < 4294967281 := by
    unfold sz1 at hb2'
    split at hb2' <;> omega
  have hs : SmB [] := hz.sm
  have hn := hs.n
  have hn2 := hz.n
  have hTd := toBlobS_d [] hz
  have hTc := toCommand_pc c
  have hSp := specBookAdd_d [] hs c hp
  have hIo := BookAdd_o [] hs c hp
  have hE0 := eqBlobS_pc [] [] (by omega) hs.d8
  obtain ⟨⟨Y, ok⟩, hY⟩ : ∃ Y, Y = addP [] c := ⟨_, rfl⟩
  obtain ⟨hYs, hYt⟩ := disk_tot (addP_disk hY)
  rw [← hY] at hSp hIo
  dsimp only at hSp hIo
  have hId := hIo.db
  have hE1 := eqBlobS_pc Y Y (by have := hYs.n; omega) hYs.d8
  rw [decide_eq_true rfl] at hE0 hE1
  have hH := heldBlobS_pc Y 1 (by omega) (by omega)
  unfold cmdA cmC at hSp hId
  unfold cmC at hTc
  have e1 : ltI ((1 + 0 : Nat) : Int) 0 = false := ltI_f (by omega)
  have e2 : ltI ((1 + tot Y : Nat) : Int) 0 = false := ltI_f (by omega)
  have e3 : eqI ((1 + tot Y : Nat) : Int) ((1 + tot Y : Nat) : Int) = true := eqI_self _
  have e4 : (!(ok == ok)) = false := by cases ok <;> rfl
  push_cast at e1 e2 e3 hH
  (try simp only [hb2, push_cast, simprocAttr])
  refine at_draw rfl (by kernel_rfl) ?_; simp only [push_cast, simprocAttr]
  (refine at_shareD2 (by simp [isC2, isC]) (by first | rfl | simp [ren]) hTd ?_; (try simp only [push_cast, simprocAttr]))
  (refine at_shareD2 (by simp [isC2, isC]) (by first | rfl | simp [ren]) hTc ?_; (try simp only [push_cast, simprocAttr]))
  (refine at_shareD2 (by simp [isC2, isC]) (by first | rfl | simp [ren]) hSp ?_; (try simp only [push_cast, simprocAttr]))
  refine at_done (by kernel_rfl) (by kernel_rfl) (go_on ?_)
  (try simp only [push_cast, simprocAttr])
  have c2 := Ch.refl w0
  ((try simp only [push_cast, simprocAttr]); refine at_share2 (by simp [isC2, isC]) (by first | rfl | simp [ren]) (hTd) (go_on ?_); (try simp only [push_cast, simprocAttr]))
  ((try simp only [push_cast, simprocAttr]); refine at_share2 (by simp [isC2, isC]) (by first | rfl | simp [ren]) (hTc) (go_on ?_); (try simp only [push_cast, simprocAttr]))
  refine call_PO rfl [blsA [], cmdA c] ⟨ga_c rfl, ga_c2 (by simp [isC2, isC]), trivial⟩ hIo ?_
  rintro w3 lent3 X1 x hN1 ⟨u1, us1, rfl, hO1⟩
  have c3 := hN1.ch _ _ c2
  have hX1 := hN1.xfb
  clear hN1 c2
  rcases hO1.nil_or with ⟨rfl, hY0⟩ | ⟨g1, cp1, rfl⟩
  · subst hY0
    refine go_on ?_
    (try simp only [push_cast, simprocAttr])
    (refine at_call ?_; (try simp only [push_cast, simprocAttr]); refine rwc_v (hE1) (go_on ?_); (try simp only [push_cast, simprocAttr]))
    (try simp only [Bool.not_true, e4, push_cast, simprocAttr])
    ((try simp only [push_cast, simprocAttr]); refine at_share2 (by simp [isC2, isC]) (by first | rfl | simp [ren]) (hTd) (go_on ?_); (try simp only [push_cast, simprocAttr]))
    (refine at_call ?_; (try simp only [push_cast, simprocAttr]); refine rwc_v (hE0) (go_on ?_); (try simp only [push_cast, simprocAttr]))
    (try simp only [Bool.not_true, push_cast, simprocAttr])
    (refine at_call ?_; (try simp only [push_cast, simprocAttr]); refine rwc_v (markBlobS_nil 1) (go_on ?_); (try simp only [push_cast, simprocAttr]))
    have hO1b := hO1
    have hX1b := hX1
    have c4 := c3
    (try simp only [e1, push_cast, simprocAttr])
    (refine at_call ?_; (try simp only [push_cast, simprocAttr]); refine rwc_v (hE1) (go_on ?_); (try simp only [push_cast, simprocAttr]))
    (try simp only [Bool.not_true, e4, push_cast, simprocAttr])
    (refine at_call ?_; (try simp only [push_cast, simprocAttr]); refine rwc_v (markBlobS_nil 1) (go_on ?_); (try simp only [push_cast, simprocAttr]))
    (refine at_call ?_; (try simp only [push_cast, simprocAttr]); refine rwc_v (heldBlobS_nil) (go_on ?_); (try simp only [push_cast, simprocAttr]))
    (try simp only [show ltI 1 0 = false from rfl, show eqI 1 1 = true from rfl, Bool.not_true, push_cast, simprocAttr])
    refine at_draw rfl (by kernel_rfl) ?_; simp only [push_cast, simprocAttr]
    (refine at_shareD2 (by simp [isC2, isC]) (by first | rfl | simp [ren]) hTd ?_; (try simp only [push_cast, simprocAttr]))
    (refine at_shareD2 (by simp [isC2, isC]) (by first | rfl | simp [ren]) hTc ?_; (try simp only [push_cast, simprocAttr]))
    (refine at_shareD2 (by simp [isC2, isC]) (by first | rfl | simp [ren]) hId ?_; (try simp only [push_cast, simprocAttr]))
    refine at_done (by kernel_rfl) (by kernel_rfl) (go_on ?_)
    (try simp only [push_cast, simprocAttr])
    (refine at_call ?_; (try simp only [push_cast, simprocAttr]); refine rwc_v (hE1) (go_on ?_); (try simp only [push_cast, simprocAttr]))
    (try simp only [Bool.not_true, e4, push_cast, simprocAttr])
    (refine at_call ?_; (try simp only [push_cast, simprocAttr]); refine rwc_v (heldBlobS_nil) (go_on ?_); (try simp only [push_cast, simprocAttr]))
    (try simp only [show ltI 1 0 = false from rfl, show eqI 1 1 = true from rfl, Bool.not_true, push_cast, simprocAttr])
    (refine at_retO c4 (l := [bA true]) (by simp only [Tryz.results3, push_cast, simprocAttr]) ?_)
    exact fun loc a w v hR hG => poB hG
  · refine go_on ?_
    (try simp only [push_cast, simprocAttr])
    refine call_gv [blsA Y, blsA Y] ⟨hO1.ga hX1, ga_c rfl, trivial⟩ hE1 (go_on ?_)
    (try simp only [Bool.not_true, e4, push_cast, simprocAttr])
    ((try simp only [push_cast, simprocAttr]); refine at_share2 (by simp [isC2, isC]) (by first | rfl | simp [ren]) (hTd) (go_on ?_); (try simp only [push_cast, simprocAttr]))
    (refine at_call ?_; (try simp only [push_cast, simprocAttr]); refine rwc_v (hE0) (go_on ?_); (try simp only [push_cast, simprocAttr]))
    (try simp only [Bool.not_true, push_cast, simprocAttr])
    (refine at_call ?_; (try simp only [push_cast, simprocAttr]); refine rwc_v (markBlobS_nil 1) (go_on ?_); (try simp only [push_cast, simprocAttr]))
    have hO1b := hO1
    have hX1b := hX1
    have c4 := c3
    (try simp only [e1, push_cast, simprocAttr])
    refine call_gv [blsA Y, blsA Y] ⟨hO1b.ga hX1b, ga_c rfl, trivial⟩ hE1 (go_on ?_)
    (try simp only [Bool.not_true, e4, push_cast, simprocAttr])
    refine at_markB (k0 := 1) rfl hO1b hX1b (by omega) (by omega) ?_
    rintro w5 lent5 hM hO5
    have c5 := hM.ch _ _ c4
    have hX5 : ∀ b, X1 b → lent5.fb b := fun b h => by rw [hM.fb]; exact hX1b b h
    clear hO1b hX1b hM c4
    refine go_on ?_
    (try simp only [push_cast, simprocAttr])
    refine call_gv [blsA (mkB 1 Y), iA 1] ⟨hO5.ga hX5, ga_c rfl, trivial⟩ hH (go_on ?_)
    (try simp only [e2, e3, Bool.not_true, push_cast, simprocAttr])
    refine at_draw rfl (by kernel_rfl) ?_; simp only [push_cast, simprocAttr]
    (refine at_shareD2 (by simp [isC2, isC]) (by first | rfl | simp [ren]) hTd ?_; (try simp only [push_cast, simprocAttr]))
    (refine at_shareD2 (by simp [isC2, isC]) (by first | rfl | simp [ren]) hTc ?_; (try simp only [push_cast, simprocAttr]))
    (refine at_shareD2 (by simp [isC2, isC]) (by first | rfl | simp [ren]) hId ?_; (try simp only [push_cast, simprocAttr]))
    refine at_done (by kernel_rfl) (by kernel_rfl) (go_on ?_)
    (try simp only [push_cast, simprocAttr])
    (refine at_call ?_; (try simp only [push_cast, simprocAttr]); refine rwc_v (hE1) (go_on ?_); (try simp only [push_cast, simprocAttr]))
    (try simp only [Bool.not_true, e4, push_cast, simprocAttr])
    refine call_gv [blsA (mkB 1 Y), iA 1] ⟨hO5.ga hX5, ga_c rfl, trivial⟩ hH (go_on ?_)
    (try simp only [e2, e3, Bool.not_true, push_cast, simprocAttr])
    (refine at_retO c5 (l := [bA true]) (by simp only [Tryz.results3, push_cast, simprocAttr]) ?_)
    exact fun loc a w v hR hG => poB hG
theorem FnExactBookAdd_1 (bs : List BD) (q1 : bs.length ≤ 9223372036854775807) (q2 : ∀ d ∈ bs, d.safe.length ≤ 9223372036854775807 ∧ d.fresh.length ≤ 9223372036854775807)  (hb0 : bs ≠ []) (c : Cm) (qc : c.p.length ≤ 9223372036854775807) : PC Tryz.prog 3 [blsA bs, cmdA c] (vB true) := by
  have hZ := szBlobS_pc bs 1048576 (by omega) (by omega) q1 q2
  have hbl : 0 < bs.length := List.length_pos_iff.2 hb0
  refine PO.pc (v0 := .bool true) ?_
  unfold cmdA cmC
  refine po_enter Tryz.func3 rfl rfl fun w0 => go_on ?_; (try simp only [Tryz.ntmps3, push_cast, simprocAttr])
  (refine at_call ?_; (try simp only [push_cast, simprocAttr]); refine rwc_v (hZ) (go_on ?_); (try simp only [push_cast, simprocAttr]))
  refine at_b (fun hb => ?_) (fun hb => ?_)
  · (try simp only [hb, push_cast, simprocAttr])
    (refine at_retO (Ch.refl w0) (l := [bA true]) (by simp only [Tryz.results3, push_cast, simprocAttr]) ?_)
    exact fun loc a w v hR hG => poB hG
  have ht0 := of_ltI_f hb
  have hle := szS_le (bs.map fun d => d.safe.length + d.fresh.length) 1048576 (by omega)
  have ht := tot_of (by omega) ht0
  have hz : SzB bs := tot_sz ht (by omega)
  have htl : tot bs ≤ 1048576 := by omega
  have hZc := szCommand_pc c _ ht0 hle qc
  unfold cmC at hZc
  (try simp only [hb, push_cast, simprocAttr])
  (refine at_call ?_; (try simp only [push_cast, simprocAttr]); refine rwc_v (hZc) (go_on ?_); (try simp only [push_cast, simprocAttr]))
  refine at_b (fun hb2 => ?_) (fun hb2 => ?_)
  · (try simp only [hb2, push_cast, simprocAttr])
    (refine at_retO (Ch.refl w0) (l := [bA true]) (by simp only [Tryz.results3, push_cast, simprocAttr]) ?_)
    exact fun loc a w v hR hG => poB hG
  have hb2' := of_ltI_f hb2
  have hp : c.p.length < 4294967281 := by
    unfold sz1 at hb2'
    split at hb2' <;> omega
  have hs : SmB bs := hz.sm
  have hn := hs.n
  have hn2 := hz.n
  have hTd := toBlobS_d bs hz
  have hTc := toCommand_pc c
  have hSp := specBookAdd_d bs hs c hp
  have hIo := BookAdd_o bs hs c hp
  have hE0 := eqBlobS_pc bs bs (by omega) hs.d8
  obtain ⟨⟨Y, ok⟩, hY⟩ : ∃ Y, Y = addP bs c := ⟨_, rfl⟩
  obtain ⟨hYs, hYt⟩ := disk_tot (addP_disk hY)
  rw [← hY] at hSp hIo
  dsimp only at hSp hIo
  have hId := hIo.db
  have hE1 := eqBlobS_pc Y Y (by have := hYs.n; omega) hYs.d8
  rw [decide_eq_true rfl] at hE0 hE1
  have hH := heldBlobS_pc Y 1 (by omega) (by omega)
  unfold cmdA cmC at hSp hId
  unfold cmC at hTc
  have e1 : ltI ((1 + tot bs : Nat) : Int) 0 = false := ltI_f (by omega)
  have e2 : ltI ((1 + tot Y : Nat) : Int) 0 = false := ltI_f (by omega)
  have e3 : eqI ((1 + tot Y : Nat) : Int) ((1 + tot Y : Nat) : Int) = true := eqI_self _
  have e4 : (!(ok == ok)) = false := by cases ok <;> rfl
  push_cast at e1 e2 e3 hH
  (try simp only [hb2, push_cast, simprocAttr])
  refine at_draw rfl (by kernel_rfl) ?_; simp only [push_cast, simprocAttr]
  (refine at_shareD2 (by simp [isC2, isC]) (by first | rfl | simp [ren]) hTd ?_; (try simp only [push_cast, simprocAttr]))
  (refine at_shareD2 (by simp [isC2, isC]) (by first | rfl | simp [ren]) hTc ?_; (try simp only [push_cast, simprocAttr]))
  (refine at_shareD2 (by simp [isC2, isC]) (by first | rfl | simp [ren]) hSp ?_; (try simp only [push_cast, simprocAttr]))
  refine at_done (by kernel_rfl) (by kernel_rfl) (go_on ?_)
  (try simp only [push_cast, simprocAttr])
  refine call_PO rfl [blsA bs] ⟨ga_c rfl, trivial⟩ (toBlobS_o bs hz) ?_
  rintro w2 lent2 X0 x hN ⟨u0, us0, rfl, hO⟩
  have c2 := hN.ch _ _ (Ch.refl w0)
  have hX := hN.xfb
  obtain ⟨g0, cp0, rfl⟩ := hO.some hbl
  refine go_on ?_
  (try simp only [push_cast, simprocAttr])
  ((try simp only [push_cast, simprocAttr]); refine at_share2 (by simp [isC2, isC]) (by first | rfl | simp [ren]) (hTc) (go_on ?_); (try simp only [push_cast, simprocAttr]))
  refine call_PO rfl [blsA bs, cmdA c] ⟨hO.ga hX, ga_c2 (by simp [isC2, isC]), trivial⟩ hIo ?_
  rintro w3 lent3 X1 x hN1 ⟨u1, us1, rfl, hO1⟩
  have c3 := hN1.ch _ _ c2
  have hX1 := hN1.xfb
  have hdis : ∀ b, X1 b → ¬ X0 b := fun b h1 h2 => by have := hN1.xge b h1; have := hN1.flt b (hX b h2); omega
  have hOb := hO.same (fun b hb => hN1.keep b (hX b hb)) (fun _ h => h)
  have hXb := fun b h => hN1.fb b (hX b h)
  clear hN hN1 hX hO c2
  rcases hO1.nil_or with ⟨rfl, hY0⟩ | ⟨g1, cp1, rfl⟩
  · subst hY0
    refine go_on ?_
    (try simp only [push_cast, simprocAttr])
    (refine at_call ?_; (try simp only [push_cast, simprocAttr]); refine rwc_v (hE1) (go_on ?_); (try simp only [push_cast, simprocAttr]))
    (try simp only [Bool.not_true, e4, push_cast, simprocAttr])
    ((try simp only [push_cast, simprocAttr]); refine at_share2 (by simp [isC2, isC]) (by first | rfl | simp [ren]) (hTd) (go_on ?_); (try simp only [push_cast, simprocAttr]))
    refine call_gv [blsA bs, blsA bs] ⟨hOb.ga hXb, ga_c rfl, trivial⟩ hE0 (go_on ?_)
    (try simp only [Bool.not_true, push_cast, simprocAttr])
    refine at_markB (k0 := 1) rfl hOb hXb (by omega) (by omega) ?_
    rintro w4 lent4 hM hO2
    have c4 := hM.ch _ _ c3
    have hO1b := hO1.same (fun b hb => hM.keep b (hX1 b hb) (hdis b hb)) (fun _ h => h)
    have hX1b : ∀ b, X1 b → lent4.fb b := fun b h => by rw [hM.fb]; exact hX1 b h
    clear hOb hXb hO1 hX1 hM hO2 c3
    refine go_on ?_
    (try simp only [e1, push_cast, simprocAttr])
    (refine at_call ?_; (try simp only [push_cast, simprocAttr]); refine rwc_v (hE1) (go_on ?_); (try simp only [push_cast, simprocAttr]))
    (try simp only [Bool.not_true, e4, push_cast, simprocAttr])
    (refine at_call ?_; (try simp only [push_cast, simprocAttr]); refine rwc_v (markBlobS_nil 1) (go_on ?_); (try simp only [push_cast, simprocAttr]))
    (refine at_call ?_; (try simp only [push_cast, simprocAttr]); refine rwc_v (heldBlobS_nil) (go_on ?_); (try simp only [push_cast, simprocAttr]))
    (try simp only [show ltI 1 0 = false from rfl, show eqI 1 1 = true from rfl, Bool.not_true, push_cast, simprocAttr])
    refine at_draw rfl (by kernel_rfl) ?_; simp only [push_cast, simprocAttr]
    (refine at_shareD2 (by simp [isC2, isC]) (by first | rfl | simp [ren]) hTd ?_; (try simp only [push_cast, simprocAttr]))
    (refine at_shareD2 (by simp [isC2, isC]) (by first | rfl | simp [ren]) hTc ?_; (try simp only [push_cast, simprocAttr]))
    (refine at_shareD2 (by simp [isC2, isC]) (by first | rfl | simp [ren]) hId ?_; (try simp only [push_cast, simprocAttr]))
    refine at_done (by kernel_rfl) (by kernel_rfl) (go_on ?_)
    (try simp only [push_cast, simprocAttr])
    (refine at_call ?_; (try simp only [push_cast, simprocAttr]); refine rwc_v (hE1) (go_on ?_); (try simp only [push_cast, simprocAttr]))
    (try simp only [Bool.not_true, e4, push_cast, simprocAttr])
    (refine at_call ?_; (try simp only [push_cast, simprocAttr]); refine rwc_v (heldBlobS_nil) (go_on ?_); (try simp only [push_cast, simprocAttr]))
    (try simp only [show ltI 1 0 = false from rfl, show eqI 1 1 = true from rfl, Bool.not_true, push_cast, simprocAttr])
    (refine at_retO c4 (l := [bA true]) (by simp only [Tryz.results3, push_cast, simprocAttr]) ?_)
    exact fun loc a w v hR hG => poB hG
  · refine go_on ?_
    (try simp only [push_cast, simprocAttr])
    refine call_gv [blsA Y, blsA Y] ⟨hO1.ga hX1, ga_c rfl, trivial⟩ hE1 (go_on ?_)
    (try simp only [Bool.not_true, e4, push_cast, simprocAttr])
    ((try simp only [push_cast, simprocAttr]); refine at_share2 (by simp [isC2, isC]) (by first | rfl | simp [ren]) (hTd) (go_on ?_); (try simp only [push_cast, simprocAttr]))
    refine call_gv [blsA bs, blsA bs] ⟨hOb.ga hXb, ga_c rfl, trivial⟩ hE0 (go_on ?_)
    (try simp only [Bool.not_true, push_cast, simprocAttr])
    refine at_markB (k0 := 1) rfl hOb hXb (by omega) (by omega) ?_
    rintro w4 lent4 hM hO2
    have c4 := hM.ch _ _ c3
    have hO1b := hO1.same (fun b hb => hM.keep b (hX1 b hb) (hdis b hb)) (fun _ h => h)
    have hX1b : ∀ b, X1 b → lent4.fb b := fun b h => by rw [hM.fb]; exact hX1 b h
    clear hOb hXb hO1 hX1 hM hO2 c3
    refine go_on ?_
    (try simp only [e1, push_cast, simprocAttr])
    refine call_gv [blsA Y, blsA Y] ⟨hO1b.ga hX1b, ga_c rfl, trivial⟩ hE1 (go_on ?_)
    (try simp only [Bool.not_true, e4, push_cast, simprocAttr])
    refine at_markB (k0 := 1) rfl hO1b hX1b (by omega) (by omega) ?_
    rintro w5 lent5 hM hO5
    have c5 := hM.ch _ _ c4
    have hX5 : ∀ b, X1 b → lent5.fb b := fun b h => by rw [hM.fb]; exact hX1b b h
    clear hO1b hX1b hM c4
    refine go_on ?_
    (try simp only [push_cast, simprocAttr])
    refine call_gv [blsA (mkB 1 Y), iA 1] ⟨hO5.ga hX5, ga_c rfl, trivial⟩ hH (go_on ?_)
    (try simp only [e2, e3, Bool.not_true, push_cast, simprocAttr])
    refine at_draw rfl (by kernel_rfl) ?_; simp only [push_cast, simprocAttr]
    (refine at_shareD2 (by simp [isC2, isC]) (by first | rfl | simp [ren]) hTd ?_; (try simp only [push_cast, simprocAttr]))
    (refine at_shareD2 (by simp [isC2, isC]) (by first | rfl | simp [ren]) hTc ?_; (try simp only [push_cast, simprocAttr]))
    (refine at_shareD2 (by simp [isC2, isC]) (by first | rfl | simp [ren]) hId ?_; (try simp only [push_cast, simprocAttr]))
    refine at_done (by kernel_rfl) (by kernel_rfl) (go_on ?_)
    (try simp only [push_cast, simprocAttr])
    (refine at_call ?_; (try simp only [push_cast, simprocAttr]); refine rwc_v (hE1) (go_on ?_); (try simp only [push_cast, simprocAttr]))
    (try simp only [Bool.not_true, e4, push_cast, simprocAttr])
    refine call_gv [blsA (mkB 1 Y), iA 1] ⟨hO5.ga hX5, ga_c rfl, trivial⟩ hH (go_on ?_)
    (try simp only [e2, e3, Bool.not_true, push_cast, simprocAttr])
    (refine at_retO c5 (l := [bA true]) (by simp only [Tryz.results3, push_cast, simprocAttr]) ?_)
    exact fun loc a w v hR hG => poB hG
theorem FnExactBookAdd_pc (bs : List BD) (q1 : bs.length ≤ 9223372036854775807) (q2 : ∀ d ∈ bs, d.safe.length ≤ 9223372036854775807 ∧ d.fresh.length ≤ 9223372036854775807)  (c : Cm) (qc : c.p.length ≤ 9223372036854775807) : PC Tryz.prog 3 [blsA bs, cmdA c] (vB true) := by
  by_cases hb0 : bs = []
  · exact FnExactBookAdd_0 bs q1 q2 hb0 c qc
  · exact FnExactBookAdd_1 bs q1 q2 hb0 c qc
end Go.Proofs.YtccifbbjbnjcfaaGreatDoor
