/- A part of the proof of FnExactDiskWrite: texts M45 N16 N28 N29 J3 N30 N31 N17 N18 N19 N34 N35 N36 VFnExactDiskWrite. -/
import Derived.Test.YtepcabenjikhgaaZv3
import Derived.Test.YtepcabenjikhgaaZv4
set_option linter.unusedSimpArgs false
set_option linter.unusedVariables false
/-
  The abstract machine: own rows read as data, whatever rows stand beside them; at a call, too.
-/
namespace Go.Proofs.Ytepcabenjikhgaa
open Go Go.RowKit Go.Proofs
def frwRow (ids : List Nat) (h : Hp) (row : Row) : Row := if (row.es.all fun e => e.all fun x => (idsA x).all fun r => !hasN ids r) = true then row else ⟨row.E, row.sz, row.es.map (·.map (viewN 3 h)), true⟩
def frwH (ids : List Nat) (h : Hp) : Hp → Hp
  | [] => []
  | (r, row) :: l => (r, frwRow ids h row) :: frwH ids h l
def frwS (ids : List Nat) (s : AS) : AS := ⟨s.t.map (frzT ids s.h), frwH ids s.h (delL s.h ids)⟩
theorem at_callW {P : Program} {w0 : World} {lent : Lent} {Q : Exit → Act → World → Prop} {f : FuncId} {args : List AV} {dst : Option Tmp} {k : List It} {s : AS} (ids : List Nat) (h : Wk ⟨s.t ++ args, s.h⟩ (frwS ids ⟨s.t ++ args, s.h⟩))
    (hk : RWp P w0 lent Q (.call f (args.map (frzT ids s.h)) dst k (frwS ids s))) : RWp P w0 lent Q (.call f args dst k s) := by
  intro loc a w hR vs hs hg
  have hR1 : Rel w0 lent ⟨s.t ++ args, s.h⟩ loc { a with tmps := a.tmps ++ vs } w := by
    refine ⟨by simp [hR.tsz, hs], fun i x hx => ?_, hR.df, hR.rw, hR.inj, hR.own, hR.os, hR.tape, hR.output, hR.size, hR.keep, hR.fbe, hR.fbl, hR.pn, hR.pl⟩
    have htsz := hR.tsz
    rcases Nat.lt_or_ge i s.t.length with h1 | h1
    · rw [List.getElem?_append_left h1] at hx
      have := hR.tm i x hx
      have e : (a.tmps ++ vs).getD i undef = a.tmps.getD i undef := by
        simp only [Array.getD_eq_getD_getElem?]
        rw [Array.getElem?_append_left (by omega)]
      rw [e]; exact this
    · rw [List.getElem?_append_right h1] at hx
      have := hg (i - s.t.length) x hx
      have e : (a.tmps ++ vs).getD i undef = vs.getD (i - s.t.length) undef := by
        simp only [Array.getD_eq_getD_getElem?]
        rw [Array.getElem?_append_right (by omega), htsz]
      rw [e]; exact this
  obtain ⟨loc', hR2⟩ := h w0 lent loc _ w hR1
  have ht : (frwS ids ⟨s.t ++ args, s.h⟩).t = (frwS ids s).t ++ args.map (frzT ids s.h) := by simp [frwS]
  have hh : (frwS ids ⟨s.t ++ args, s.h⟩).h = (frwS ids s).h := rfl
  have hl : (frwS ids s).t.length = s.t.length := by simp [frwS]
  have htsz := hR.tsz
  have hR3 : Rel w0 lent (frwS ids s) loc' a w := by
    refine ⟨by rw [hl]; exact htsz, fun i x hx => ?_, hR.df, hR2.rw, hR2.inj, hR2.own, hR2.os, hR2.tape, hR2.output, hR2.size, hR2.keep, hR2.fbe, hR2.fbl, hR2.pn, hR2.pl⟩
    have hi := lt_of_some hx
    have := hR2.tm i x (by rw [ht, List.getElem?_append_left hi]; exact hx)
    have e : (a.tmps ++ vs).getD i undef = a.tmps.getD i undef := by
      simp only [Array.getD_eq_getD_getElem?]
      rw [Array.getElem?_append_left (by omega)]
    rw [hh] at this
    dsimp only at this
    rw [e] at this; exact this
  refine hk loc' a w hR3 vs (by simp [hs]) fun j x hx => ?_
  have := hR2.tm (s.t.length + j) x (by rw [ht, List.getElem?_append_right (by omega), hl, Nat.add_sub_cancel_left]; exact hx)
  have e : (a.tmps ++ vs).getD (s.t.length + j) undef = vs.getD j undef := by
    simp only [Array.getD_eq_getD_getElem?]
    rw [Array.getElem?_append_right (by omega), htsz, Nat.add_sub_cancel_left]
  rw [hh] at this
  dsimp only at this
  rw [e] at this; exact this
def nlCell (n : Nat) : AV → AV
  | .v (.slice none 0 0) => .sl n []
  | x => x
def nilH (r n : Nat) : Hp → Hp
  | [] => []
  | (k, row) :: l => (k, if k = r then ⟨row.E, row.sz, row.es.map (·.map (nlCell n)), row.cl⟩ else row) :: nilH r n l
def nilR (r n : Nat) (s : AS) : AS := ⟨s.t, nilH r n s.h⟩
/-- The nil slices in a row, read as empty ones. -/
theorem at_nilR {P : Program} {w0 : World} {lent : Lent} {Q : Exit → Act → World → Prop} {k : List It} {s : AS} (r n : Nat) (h : Wk s (nilR r n s)) (h' : AW P w0 lent Q k (nilR r n s)) : AW P w0 lent Q k s := AW.wk h h'
theorem at_callV {P : Program} {w0 : World} {lent : Lent} {Q : Exit → Act → World → Prop} {f : FuncId} {args : List AV} {dst : Option Tmp} {k : List It} {s : AS} (g : AV → AV) (h' : Hp) (h : Wk ⟨s.t ++ args, s.h⟩ ⟨(s.t ++ args).map g, h'⟩)
    (hk : RWp P w0 lent Q (.call f (args.map g) dst k ⟨s.t.map g, h'⟩)) : RWp P w0 lent Q (.call f args dst k s) := by
  intro loc a w hR vs hs hg
  have hR1 : Rel w0 lent ⟨s.t ++ args, s.h⟩ loc { a with tmps := a.tmps ++ vs } w := by
    refine ⟨by simp [hR.tsz, hs], fun i x hx => ?_, hR.df, hR.rw, hR.inj, hR.own, hR.os, hR.tape, hR.output, hR.size, hR.keep, hR.fbe, hR.fbl, hR.pn, hR.pl⟩
    have htsz := hR.tsz
    rcases Nat.lt_or_ge i s.t.length with h1 | h1
    · rw [List.getElem?_append_left h1] at hx
      have := hR.tm i x hx
      have e : (a.tmps ++ vs).getD i undef = a.tmps.getD i undef := by
        simp only [Array.getD_eq_getD_getElem?]
        rw [Array.getElem?_append_left (by omega)]
      rw [e]; exact this
    · rw [List.getElem?_append_right h1] at hx
      have := hg (i - s.t.length) x hx
      have e : (a.tmps ++ vs).getD i undef = vs.getD (i - s.t.length) undef := by
        simp only [Array.getD_eq_getD_getElem?]
        rw [Array.getElem?_append_right (by omega), htsz]
      rw [e]; exact this
  obtain ⟨loc', hR2⟩ := h w0 lent loc _ w hR1
  have ht : (s.t ++ args).map g = s.t.map g ++ args.map g := List.map_append
  have hl : (s.t.map g).length = s.t.length := List.length_map _
  have htsz := hR.tsz
  have hR3 : Rel w0 lent ⟨s.t.map g, h'⟩ loc' a w := by
    refine ⟨by simpa using htsz, fun i x hx => ?_, hR.df, hR2.rw, hR2.inj, hR2.own, hR2.os, hR2.tape, hR2.output, hR2.size, hR2.keep, hR2.fbe, hR2.fbl, hR2.pn, hR2.pl⟩
    have hi := lt_of_some hx
    dsimp only at hi
    rw [hl] at hi
    have := hR2.tm i x (by dsimp only; rw [ht, List.getElem?_append_left (by omega)]; exact hx)
    have e : (a.tmps ++ vs).getD i undef = a.tmps.getD i undef := by
      simp only [Array.getD_eq_getD_getElem?]
      rw [Array.getElem?_append_left (by omega)]
    dsimp only at this
    rw [e] at this; exact this
  refine hk loc' a w hR3 vs (by simp [hs]) fun j x hx => ?_
  have := hR2.tm (s.t.length + j) x (by dsimp only; rw [ht, List.getElem?_append_right (by omega), hl, Nat.add_sub_cancel_left]; exact hx)
  have e : (a.tmps ++ vs).getD (s.t.length + j) undef = vs.getD j undef := by
    simp only [Array.getD_eq_getD_getElem?]
    rw [Array.getElem?_append_right (by omega), htsz, Nat.add_sub_cancel_left]
  dsimp only at this
  rw [e] at this; exact this
theorem at_callN {P : Program} {w0 : World} {lent : Lent} {Q : Exit → Act → World → Prop} {f : FuncId} {args : List AV} {dst : Option Tmp} {k : List It} {s : AS} (r n : Nat) (h : Wk ⟨s.t ++ args, s.h⟩ ⟨s.t ++ args, nilH r n s.h⟩)
    (hk : RWp P w0 lent Q (.call f args dst k (nilR r n s))) : RWp P w0 lent Q (.call f args dst k s) := at_callV id (nilH r n s.h) (by rw [List.map_id]; exact h) (by simpa [nilR] using hk)
end Go.Proofs.Ytepcabenjikhgaa
/-
  Walks: disks: the reference's DiskWrite.
-/
namespace Go.Proofs.Ytepcabenjikhgaa
open Go Go.RowKit Go.Proofs
theorem writeD_false {bs : List BD} {nm : Int} {xs : List Int} (h : (diskB bs && bytesB xs && inB nm 1 3 && diskB (withB bs (wrB bs nm xs))) = false) : writeD bs nm xs = ([], false) := by
  unfold writeD; rw [h]; rfl
theorem insB_mem {bs : List BD} {d x : BD} (h : x ∈ withB bs d) : x = d ∨ x ∈ bs := by
  rcases mem_with.1 h with h | h
  · exact .inl h
  · exact .inr h.1
theorem withB_len (bs : List BD) (d : BD) : (withB bs d).length ≤ bs.length + 1 := by
  unfold withB
  rw [insB_len]
  have := List.length_filter_le (fun x : BD => decide (x.name ≠ d.name)) bs
  omega
theorem withB_sm {bs : List BD} {d : BD} (h : SmB bs) (hn : bs.length ≤ 1000) (hd : SmD d) : SmB (withB bs d) := by
  have := withB_len bs d
  refine ⟨by omega, fun x hx => ?_⟩
  rcases insB_mem hx with rfl | hx
  · exact hd
  · exact h.d x hx
attribute [local irreducible] RWp AW run kPe pe Kt effA gd gu br retR RDp runD kPeD brW gW effD
set_option maxRecDepth 100000
theorem specDiskWrite_d (bs : List BD) (hs : SmB bs) (nm : Int) (xs : List Int) (hx : xs.length ≤ 2000000) (hd2 : ∀ d ∈ bs, d.fresh.length ≤ 2000000) : PC Try.prog 25 [blsA bs, iA nm, intsA xs] (vX (.tup [blsA (writeD bs nm xs).1, bA (writeD bs nm xs).2])) := by
  have hV := specDiskValid_pc bs hs
  have hB := l4Bytes_pc xs (by omega)
  have hn := hs.n
  have emp : ∀ {q : PC Try.prog 25 [blsA bs, iA nm, intsA xs] (rX (.tup [.o 0 0, bA false]) [rowB []])}, PC Try.prog 25 [blsA bs, iA nm, intsA xs] (vX (.tup [blsA [], bA false])) := fun {q} => by
    have := q.frzX
    simp [viewN, hpOf, hget, isC, tk] at this
    exact this
  cases hv : diskB bs with
  | false =>
    rw [writeD_false (by simp [hv])]
    refine emp (q := ?_)
    refine pc_enter Try.func25 rfl rfl fun w0 fb => go_on ?_; (try simp only [Try.ntmps25, push_cast, simprocAttr])
    (refine at_call ?_; (try simp only [push_cast, simprocAttr]); refine rwc_v (hV) (go_on ?_); (try simp only [push_cast, simprocAttr]))
    (try simp only [hv, Bool.not_false, push_cast, simprocAttr])
    refine at_ret ?_; simp only [Try.results25, push_cast, simprocAttr]
    simp [rX, ixOf]
  | true =>
    have h3n := disk_len hv
    cases hxb : bytesB xs with
    | false =>
      rw [writeD_false (by simp [hxb])]
      refine emp (q := ?_)
      refine pc_enter Try.func25 rfl rfl fun w0 fb => go_on ?_; (try simp only [Try.ntmps25, push_cast, simprocAttr])
      (refine at_call ?_; (try simp only [push_cast, simprocAttr]); refine rwc_v (hV) (go_on ?_); (try simp only [push_cast, simprocAttr]))
      (try simp only [hv, Bool.not_true, push_cast, simprocAttr])
      (refine at_call ?_; (try simp only [push_cast, simprocAttr]); refine rwc_v (hB) (go_on ?_); (try simp only [push_cast, simprocAttr]))
      (try simp only [hxb, Bool.not_false, push_cast, simprocAttr])
      refine at_ret ?_; simp only [Try.results25, push_cast, simprocAttr]
      simp [rX, ixOf]
    | true =>
      have hF := l31Find_pc bs hs.n nm
      obtain ⟨D, hD⟩ : ∃ D, D = wrB bs nm xs := ⟨_, rfl⟩
      have hDs : SmD D := by
        rw [hD]
        unfold wrB
        cases hg : getB bs nm with
        | none => exact ⟨by simp, by simp only; omega⟩
        | some d =>
          have hm := (getB_name hg).2
          exact ⟨(hs.d d hm).s, by have := hd2 d hm; simp only [List.length_append]; omega⟩
      have hW := l31With_d bs hs (by omega) D hDs
      have hwl := withB_len bs D
      have hws := withB_sm hs (by omega) hDs
      have hV2 := specDiskValid_pc (withB bs D) hws
      have hok : (diskB (withB bs D)) = (diskB bs && bytesB xs && inB nm 1 3 && diskB (withB bs (wrB bs nm xs))) := by
        rw [hv, hxb, ← hD]
        cases h : diskB (withB bs D) with
        | false => simp
        | true =>
          have := disk_with_ok h
          simp only [okF, Bool.and_eq_true] at this
          have e : D.name = nm := by rw [hD]; exact wrB_name bs nm xs
          rw [e] at this
          simp [this.1.1.1]
      rcases ixB_cases bs nm with ⟨h1, h2⟩ | ⟨j, d, h1, h2, h3⟩
      · have hDe : D = ⟨nm, [], xs⟩ := by rw [hD]; unfold wrB; rw [h2]
        rw [hDe] at hW
        unfold blobA at hW
        simp only [bC, List.map_nil] at hW
        rw [← hDe] at hW
        cases hV3 : diskB (withB bs D) with
        | false =>
          rw [writeD_false (by rw [← hok, hV3])]
          refine emp (q := ?_)
          refine pc_enter Try.func25 rfl rfl fun w0 fb => go_on ?_; (try simp only [Try.ntmps25, push_cast, simprocAttr])
          (refine at_call ?_; (try simp only [push_cast, simprocAttr]); refine rwc_v (hV) (go_on ?_); (try simp only [push_cast, simprocAttr]))
          (try simp only [hv, Bool.not_true, push_cast, simprocAttr])
          (refine at_call ?_; (try simp only [push_cast, simprocAttr]); refine rwc_v (hB) (go_on ?_); (try simp only [push_cast, simprocAttr]))
          (try simp only [hxb, Bool.not_true, push_cast, simprocAttr])
          refine at_call ?_
          (try simp only [push_cast, simprocAttr])
          refine rwc_v hF ?_
          (try simp only [push_cast, simprocAttr])
          refine at_nilR 8 1 (by refine wk_nil ?_ ?_ ?_ ?_ <;> simp [nilR, nilH, nlCell, leL, leN, rowN2, nlE, nlC, nlv, idsL, idsA, idsR, inH, hget]) ?_
          simp only [nilR, nilH, nlCell, Nat.reduceEqDiff, if_true, if_false, List.map_cons, List.map_nil, simprocAttr]
          refine go_on ?_
          (try simp only [h1, show leI 0 (-1) = false from rfl, push_cast, simprocAttr])
          refine at_chk (by simp) ?_
          (try simp only [push_cast, simprocAttr])
          refine at_chk (by omega) ?_
          (try simp only [Nat.zero_add, push_cast, simprocAttr])
          (refine at_callW [32] (by refine wk_frz ?_ ?_ ?_ ?_ <;> simp [frwS, frwH, frwRow, frzT, hasN, delL, hdel, leF, leHF, rowF, frzB, idsL, idsA, idsR, inH, hget, sameRow, viewN, tk]) ?_; simp only [frwS, frwH, frwRow, frzT, hasN, delL, hdel, idsA, idsL, viewN, hget, tk, isC, List.map_cons, List.map_nil, List.all_cons, List.all_nil, List.append_nil, List.drop, List.getElem?_cons_zero, List.getElem?_cons_succ, Bool.not_false, Bool.not_true, Bool.and_true, if_true, if_false, Nat.zero_add, List.length_map, simprocAttr])
          ((try simp only [push_cast, simprocAttr]); refine at_share2 (by simp [isC2, isC]) (by first | rfl | simp [ren]) (hW) (go_on ?_); (try simp only [push_cast, simprocAttr]))
          (refine at_call ?_; (try simp only [push_cast, simprocAttr]); refine rwc_v (hV2) (go_on ?_); (try simp only [push_cast, simprocAttr]))
          (try simp only [hV3, Bool.not_false, push_cast, simprocAttr])
          refine at_ret ?_; simp only [Try.results25, push_cast, simprocAttr]
          simp [rX, ixOf]
        | true =>
          have hr : writeD bs nm xs = (withB bs D, true) := by unfold writeD; rw [← hok, hV3, hD]; rfl
          rw [hr]
          refine pc_enter Try.func25 rfl rfl fun w0 fb => go_on ?_; (try simp only [Try.ntmps25, push_cast, simprocAttr])
          (refine at_call ?_; (try simp only [push_cast, simprocAttr]); refine rwc_v (hV) (go_on ?_); (try simp only [push_cast, simprocAttr]))
          (try simp only [hv, Bool.not_true, push_cast, simprocAttr])
          (refine at_call ?_; (try simp only [push_cast, simprocAttr]); refine rwc_v (hB) (go_on ?_); (try simp only [push_cast, simprocAttr]))
          (try simp only [hxb, Bool.not_true, push_cast, simprocAttr])
          refine at_call ?_
          (try simp only [push_cast, simprocAttr])
          refine rwc_v hF ?_
          (try simp only [push_cast, simprocAttr])
          refine at_nilR 8 1 (by refine wk_nil ?_ ?_ ?_ ?_ <;> simp [nilR, nilH, nlCell, leL, leN, rowN2, nlE, nlC, nlv, idsL, idsA, idsR, inH, hget]) ?_
          simp only [nilR, nilH, nlCell, Nat.reduceEqDiff, if_true, if_false, List.map_cons, List.map_nil, simprocAttr]
          refine go_on ?_
          (try simp only [h1, show leI 0 (-1) = false from rfl, push_cast, simprocAttr])
          refine at_chk (by simp) ?_
          (try simp only [push_cast, simprocAttr])
          refine at_chk (by omega) ?_
          (try simp only [Nat.zero_add, push_cast, simprocAttr])
          (refine at_callW [32] (by refine wk_frz ?_ ?_ ?_ ?_ <;> simp [frwS, frwH, frwRow, frzT, hasN, delL, hdel, leF, leHF, rowF, frzB, idsL, idsA, idsR, inH, hget, sameRow, viewN, tk]) ?_; simp only [frwS, frwH, frwRow, frzT, hasN, delL, hdel, idsA, idsL, viewN, hget, tk, isC, List.map_cons, List.map_nil, List.all_cons, List.all_nil, List.append_nil, List.drop, List.getElem?_cons_zero, List.getElem?_cons_succ, Bool.not_false, Bool.not_true, Bool.and_true, if_true, if_false, Nat.zero_add, List.length_map, simprocAttr])
          ((try simp only [push_cast, simprocAttr]); refine at_share2 (by simp [isC2, isC]) (by first | rfl | simp [ren]) (hW) (go_on ?_); (try simp only [push_cast, simprocAttr]))
          (refine at_call ?_; (try simp only [push_cast, simprocAttr]); refine rwc_v (hV2) (go_on ?_); (try simp only [push_cast, simprocAttr]))
          (try simp only [hV3, Bool.not_true, push_cast, simprocAttr])
          refine at_ret ?_; simp only [Try.results25, push_cast, simprocAttr]
          simp [vX]
      · have hDe : D = ⟨nm, d.safe, d.fresh ++ xs⟩ := by rw [hD]; unfold wrB; rw [h3]
        have hdn := (getB_name h3).1
        have hdm := (getB_name h3).2
        have hdf := hd2 d hdm
        have i1 := ix_n h2
        have i2 := map_get bC h2
        have j1 : leI 0 (j : Int) = true := leI_t (by omega)
        have hC := l31Copy_d d (hs.d d hdm)
        rw [hDe] at hW
        unfold blobA at hW hC
        simp only [bC, List.map_append] at hW hC i2
        rw [← hDe, ← hdn] at hW
        cases hV3 : diskB (withB bs D) with
        | false =>
          rw [writeD_false (by rw [← hok, hV3])]
          refine emp (q := ?_)
          refine pc_enter Try.func25 rfl rfl fun w0 fb => go_on ?_; (try simp only [Try.ntmps25, push_cast, simprocAttr])
          (refine at_call ?_; (try simp only [push_cast, simprocAttr]); refine rwc_v (hV) (go_on ?_); (try simp only [push_cast, simprocAttr]))
          (try simp only [hv, Bool.not_true, push_cast, simprocAttr])
          (refine at_call ?_; (try simp only [push_cast, simprocAttr]); refine rwc_v (hB) (go_on ?_); (try simp only [push_cast, simprocAttr]))
          (try simp only [hxb, Bool.not_true, push_cast, simprocAttr])
          (refine at_call ?_; (try simp only [push_cast, simprocAttr]); refine rwc_v (hF) (go_on ?_); (try simp only [push_cast, simprocAttr]))
          (try simp only [h1, j1, push_cast, simprocAttr])
          (refine at_call ?_; (try simp only [push_cast, simprocAttr]); refine rwc_v (hF) (go_on ?_); (try simp only [push_cast, simprocAttr]))
          (try simp only [h1, i1, i2, push_cast, simprocAttr])
          ((try simp only [push_cast, simprocAttr]); refine at_share2 (by simp [isC2, isC]) (by first | rfl | simp [ren]) (hC) (go_on ?_); (try simp only [push_cast, simprocAttr]))
          refine at_chk (by omega) ?_
          (try simp only [Nat.zero_add, push_cast, simprocAttr])
          refine at_chk (by omega) ?_
          (try simp only [Nat.zero_add, push_cast, simprocAttr])
          (refine at_callW [32] (by refine wk_frz ?_ ?_ ?_ ?_ <;> simp [← List.map_append, List.length_append, eq_self, frwS, frwH, frwRow, frzT, hasN, delL, hdel, leF, leHF, rowF, frzB, idsL, idsA, idsR, inH, hget, sameRow, viewN, tk]) ?_; simp only [← List.map_append, List.length_append, eq_self, frwS, frwH, frwRow, frzT, hasN, delL, hdel, idsA, idsL, viewN, hget, tk, isC, List.map_cons, List.map_nil, List.all_cons, List.all_nil, List.append_nil, List.drop, List.getElem?_cons_zero, List.getElem?_cons_succ, Bool.not_false, Bool.not_true, Bool.and_true, if_true, if_false, Nat.zero_add, List.length_map, simprocAttr])
          ((try simp only [push_cast, simprocAttr]); refine at_share2 (by simp [isC2, isC]) (by first | rfl | simp [ren]) (hW) (go_on ?_); (try simp only [push_cast, simprocAttr]))
          (refine at_call ?_; (try simp only [push_cast, simprocAttr]); refine rwc_v (hV2) (go_on ?_); (try simp only [push_cast, simprocAttr]))
          (try simp only [hV3, Bool.not_false, push_cast, simprocAttr])
          refine at_ret ?_; simp only [Try.results25, push_cast, simprocAttr]
          simp [rX, ixOf]
        | true =>
          have hr : writeD bs nm xs = (withB bs D, true) := by unfold writeD; rw [← hok, hV3, hD]; rfl
          rw [hr]
          refine pc_enter Try.func25 rfl rfl fun w0 fb => go_on ?_; (try simp only [Try.ntmps25, push_cast, simprocAttr])
          (refine at_call ?_; (try simp only [push_cast, simprocAttr]); refine rwc_v (hV) (go_on ?_); (try simp only [push_cast, simprocAttr]))
          (try simp only [hv, Bool.not_true, push_cast, simprocAttr])
          (refine at_call ?_; (try simp only [push_cast, simprocAttr]); refine rwc_v (hB) (go_on ?_); (try simp only [push_cast, simprocAttr]))
          (try simp only [hxb, Bool.not_true, push_cast, simprocAttr])
          (refine at_call ?_; (try simp only [push_cast, simprocAttr]); refine rwc_v (hF) (go_on ?_); (try simp only [push_cast, simprocAttr]))
          (try simp only [h1, j1, push_cast, simprocAttr])
          (refine at_call ?_; (try simp only [push_cast, simprocAttr]); refine rwc_v (hF) (go_on ?_); (try simp only [push_cast, simprocAttr]))
          (try simp only [h1, i1, i2, push_cast, simprocAttr])
          ((try simp only [push_cast, simprocAttr]); refine at_share2 (by simp [isC2, isC]) (by first | rfl | simp [ren]) (hC) (go_on ?_); (try simp only [push_cast, simprocAttr]))
          refine at_chk (by omega) ?_
          (try simp only [Nat.zero_add, push_cast, simprocAttr])
          refine at_chk (by omega) ?_
          (try simp only [Nat.zero_add, push_cast, simprocAttr])
          (refine at_callW [32] (by refine wk_frz ?_ ?_ ?_ ?_ <;> simp [← List.map_append, List.length_append, eq_self, frwS, frwH, frwRow, frzT, hasN, delL, hdel, leF, leHF, rowF, frzB, idsL, idsA, idsR, inH, hget, sameRow, viewN, tk]) ?_; simp only [← List.map_append, List.length_append, eq_self, frwS, frwH, frwRow, frzT, hasN, delL, hdel, idsA, idsL, viewN, hget, tk, isC, List.map_cons, List.map_nil, List.all_cons, List.all_nil, List.append_nil, List.drop, List.getElem?_cons_zero, List.getElem?_cons_succ, Bool.not_false, Bool.not_true, Bool.and_true, if_true, if_false, Nat.zero_add, List.length_map, simprocAttr])
          ((try simp only [push_cast, simprocAttr]); refine at_share2 (by simp [isC2, isC]) (by first | rfl | simp [ren]) (hW) (go_on ?_); (try simp only [push_cast, simprocAttr]))
          (refine at_call ?_; (try simp only [push_cast, simprocAttr]); refine rwc_v (hV2) (go_on ?_); (try simp only [push_cast, simprocAttr]))
          (try simp only [hV3, Bool.not_true, push_cast, simprocAttr])
          refine at_ret ?_; simp only [Try.results25, push_cast, simprocAttr]
          simp [vX]
end Go.Proofs.Ytepcabenjikhgaa
/-
  Walks: DiskSync.
-/
namespace Go.Proofs.Ytepcabenjikhgaa
open Go Go.RowKit Go.Proofs
theorem ownNil {w0 w1 w : World} {lent1 : Lent} {s : AS} {loc : Loc} {a : Act} {R : Nat} {v : Value} (hch : Ch w0 w1 lent1) (hr : hget s.h R = some (rowB [])) (hR : Rel w1 lent1 s loc a w) (hG : G s.h loc w (.tup [.o R 0, bA false]) v) :
    ∃ x, (∀ lv lo W, C lv lo W x v) ∧ otB [] false w (fun b => w0.heap.size ≤ b ∧ b < w.heap.size) x := by
  obtain ⟨v0, h1, h2⟩ := hG.tupOB
  exact ⟨_, h2, v0, [], rfl, hR.toOT hch (bs := []) (us := []) hr Gh.nil h1⟩
attribute [local irreducible] RWp AW run kPe pe Kt effA gd gu br retR RDp runD kPeD brW gW effD
set_option maxRecDepth 100000
end Go.Proofs.Ytepcabenjikhgaa
/-
  Walks: the reference's DiskSync.
-/
namespace Go.Proofs.Ytepcabenjikhgaa
open Go Go.RowKit Go.Proofs
attribute [local irreducible] RWp AW run kPe pe Kt effA gd gu br retR RDp runD kPeD brW gW effD
set_option maxRecDepth 100000
end Go.Proofs.Ytepcabenjikhgaa
/-
  Plain laws of disks: a crash.
-/
namespace Go.Proofs.Ytepcabenjikhgaa
open Go Go.RowKit Go.Proofs
end Go.Proofs.Ytepcabenjikhgaa
/-
  Walks: slices.SortFunc at files whose lists are set aside: contracts with a lent row.
-/
namespace Go.Proofs.Ytepcabenjikhgaa
open Go Go.RowKit Go.Proofs
open Go.Sort (grow SWO PermIn SortedIn)
set_option maxRecDepth 100000
set_option maxHeartbeats 1000000
attribute [local irreducible] RWp AW run kPe pe Kt effA gd gu br retR RDp runD kPeD brW gW effD
end Go.Proofs.Ytepcabenjikhgaa
/-
  Walks: memory set aside, handed to calls: read as data; marked.
-/
namespace Go.Proofs.Ytepcabenjikhgaa
open Go Go.RowKit Go.Proofs
section
variable {P : Program} {Q : Exit → Act → World → Prop} {w0 w1 : World} {lent1 : Lent} {s : AS} {loc : Loc} {a : Act} {w : World}
theorem OT.ga {u : Value} {bs : List BD} {us : UU} {X : Nat → Prop} (hO : OT w1 X u bs us) (hX : ∀ b, X b → lent1.fb b) : ∀ loc a w, Rel w1 lent1 s loc a w → ∀ v, G s.h loc w (.v u) v → C (fun _ => False) 0 w (blsA bs) v :=
  ga_g fun w h => (hO.same (fun b hb => h b (hX b hb)) (fun _ h => h)).c fun _ _ h => h
theorem call_gv {f : FuncId} {args : List AV} {dst : Option Tmp} {k : List It} {x : Value} (ga : List AV) (hga : gaOk w1 lent1 s ga args) (hpc : PC P f ga (vX (.v x)))
    (hk : AW P w1 lent1 Q k (AS.put s dst (.v x))) : RWp P w1 lent1 Q (.call f args dst k s) := by
  refine call_gh ga hga hpc ?_
  rintro rv rows ⟨rfl, rfl⟩
  refine ⟨rfl, fun row h => (by cases h), frB_0 _ _, ?_⟩
  unfold backTo
  simpa only [hpOf, List.append_nil, ren] using hk
theorem OT.nil_or {w : World} {X : Nat → Prop} {u : Value} {bs : List BD} {us : UU} (h : OT w X u bs us) : (u = .slice none 0 0 ∧ bs = []) ∨ ∃ g c, u = .slice (some ⟨g, 0, none⟩) bs.length c := by
  rcases h.row.2 with ⟨h1, h2⟩ | ⟨g, cap, cur, h1, _⟩
  · exact .inl ⟨h1, List.eq_nil_of_length_eq_zero h2⟩
  · exact .inr ⟨g, cap, h1⟩
theorem OT.some {w : World} {X : Nat → Prop} {u : Value} {bs : List BD} {us : UU} (h : OT w X u bs us) (hb : 0 < bs.length) : ∃ g c, u = .slice (some ⟨g, 0, none⟩) bs.length c := by
  rcases h.nil_or with ⟨_, rfl⟩ | h
  · simp at hb
  · exact h
theorem getD2 {vs : Array Value} {x y : Value} (hs : vs.size = 2) (h0 : vs.getD 0 undef = x) (h1 : vs.getD 1 undef = y) : vs = #[x, y] := by
  subst h0; subst h1
  apply Array.ext
  · simpa using hs
  · intro i h1 h2
    rcases i with _ | _ | i
    · simp [Array.getD, h1]
    · simp [Array.getD, h1]
    · omega
end
/-! ### Plain: disks are small -/
theorem tot_cap : ∀ {l : List BD} {c : Nat}, (∀ d ∈ l, tot1 d ≤ c) → tot l ≤ l.length * c
  | [], _, _ => by simp [tot]
  | d :: l, c, h => by
    have h1 := h d (by simp)
    have h2 := tot_cap (l := l) (c := c) fun x hx => h x (by simp [hx])
    simp only [tot, List.length_cons, Nat.add_mul, Nat.one_mul]; omega
theorem disk_tot {bs : List BD} (h : diskB bs = true ∨ bs = []) : SmB bs ∧ tot bs ≤ 1203 := by
  rcases h with h | rfl
  · refine ⟨disk_sm h, ?_⟩
    have h1 := disk_len h
    have h2 := tot_cap (l := bs) (c := 401) fun d hd => by
      have := disk_okF h hd
      simp only [okF, Bool.and_eq_true, decide_eq_true_eq] at this
      unfold tot1; omega
    have h3 : bs.length * 401 ≤ 3 * 401 := Nat.mul_le_mul_right _ h1
    omega
  · exact ⟨⟨by simp, fun d hd => by simp at hd⟩, by simp [tot]⟩
theorem tot_mem : ∀ {l : List BD} {d : BD}, d ∈ l → tot1 d ≤ tot l
  | [], _, h => by simp at h
  | x :: l, d, h => by
    rcases List.mem_cons.1 h with rfl | h
    · simp only [tot]; omega
    · have := tot_mem h; simp only [tot]; omega
theorem tot_sz {bs : List BD} {c : Int} (h : (tot bs : Int) ≤ c) (hc : c ≤ 1048576) : SzB bs := by
  have h1 := tot_ge bs
  refine ⟨by omega, fun d hd => ?_⟩
  have := tot_mem hd
  unfold tot1 at this
  exact ⟨by omega, by omega⟩
theorem SzB.sm {bs : List BD} (h : SzB bs) : SmB bs := ⟨by have := h.n; omega, fun d hd => ⟨by have := (h.d d hd).1; omega, by have := (h.d d hd).2; omega⟩⟩
theorem SmB.d8 {bs : List BD} (h : SmB bs) : ∀ d ∈ bs, d.safe.length < 8589934590 ∧ d.fresh.length < 8589934590 := fun d hd => ⟨by have := (h.d d hd).s; omega, by have := (h.d d hd).f; omega⟩
section
variable {Q : Exit → Act → World → Prop} {w0 w1 : World} {lent1 : Lent} {s : AS}
theorem at_markB {u : Value} {bs : List BD} {us : UU} {X : Nat → Prop} {k0 : Nat} {dst : Option Tmp} {k : List It} (hnf : nf k = true) (hO : OT w1 X u bs us) (hX : ∀ b, X b → lent1.fb b) (h0 : 0 < k0) (hk : k0 + tot bs ≤ 4611686018427387904)
    (h : ∀ w2 lent2, NxM w1 lent1 w2 lent2 X → OT w2 X u (mkB k0 bs) us → AW Try.prog w2 lent2 Q k (AS.put s dst (.v (.int .i64 ((k0 + tot bs : Nat) : Int))))) : RWp Try.prog w1 lent1 Q (.call 18 [.v u, .v (.int .i64 k0)] dst k s) :=
  call_mut X hnf hX (enters_of Try.func18 (by kernel_rfl) rfl)
    (Z := fun w x => x = .v (.int .i64 ((k0 + tot bs : Nat) : Int)) ∧ OT w X u (mkB k0 bs) us)
    (fun w vs hw hs hv => by
      obtain rfl := getD2 hs (hv 0 _ rfl) (hv 1 _ rfl)
      refine (markBlobS_m (hO.same (fun b hb => hw b (hX b hb)) fun _ h => h) k0 h0 hk).mono ?_
      rintro e w' ⟨rfl, h1, h2⟩
      exact ⟨_, _, rfl, fun _ _ _ => .v, h1, rfl, h2⟩)
    (fun w2 lent2 x h1 h2 => by
      obtain ⟨rfl, h2⟩ := h2
      exact h w2 lent2 h1 h2)
theorem poB {w : World} {s : AS} {loc : Loc} {b : Bool} {v : Value} (hG : G s.h loc w (.v (.bool b)) v) : ∃ x, (∀ lv lo W, C lv lo W x v) ∧ x = .v (.bool b) :=
  ⟨_, fun _ _ _ => by rw [hG.v_inv]; exact .v, rfl⟩
end
attribute [local irreducible] RWp AW run kPe pe Kt effA gd gu br retR RDp runD kPeD brW gW effD
set_option maxRecDepth 100000
theorem markBlobS_nil (k : Int) : PC Try.prog 18 [blsA [], iA k] (vI k) := by
  refine pc_enter Try.func18 rfl rfl fun w0 fb => go_on ?_; (try simp only [Try.ntmps18, push_cast, simprocAttr])
  refine at_loop (X := Unit) (fun _ => [(1, iA k), (5, iA 0)]) (fun _ => []) (fun _ => True) (fun _ => 0) () trivial ?_ ?_
  · (refine wk_ok ?_ ?_ ?_ ?_ <;> simp [leL, leH, idsL, idsA, idsR, inH, hget, sameRow, upA, hvA, dsts, dstO, setA_0, setA_1, setA_8, List.append, List.cons_append, List.nil_append])
  · rintro ⟨⟩ _
    simp only [upA, hvA, dsts, dstO, setA_0, setA_1, setA_8, List.append, List.cons_append, List.nil_append]
    refine go_on ?_
    (try simp only [show ltI 0 0 = false from rfl, push_cast, simprocAttr])
    refine at_ret ?_; simp only [Try.results18, push_cast, simprocAttr]
    simp [vX]
theorem heldBlobS_nil : PC Try.prog 20 [blsA [], iA 1] (vI 1) := by
  have := heldBlobS_pc [] 1 (by omega) (by simp [tot])
  simpa [mkB, tot] using this
end Go.Proofs.Ytepcabenjikhgaa
/-
  Walks: disks: a copy of a disk, of which one file's fresh bytes stay a row.
-/
namespace Go.Proofs.Ytepcabenjikhgaa
open Go Go.RowKit Go.Proofs
def lnkC (d : BD) (p q : Nat) : List AV := [iA d.name, .o p d.safe.length, .o q d.fresh.length]
def lnkR (bs : List BD) (j : Nat) (d : BD) (p q : Nat) : Row := ⟨55, 3, (bs.map bC).set j (lnkC d p q), false⟩
def atD (bs : List BD) (j : Nat) (d : BD) (rv : AV) (lr' rows : List Row) : Prop := rv = .o 0 bs.length ∧ lr' = [] ∧ rows = [lnkR bs j d 1 2, rowZ d.safe, rowZ d.fresh]
def clnH (bs : List BD) (j : Nat) (d : BD) (k : Nat) : Bool → Hp
  | false => [(2, ⟨55, 3, [], true⟩), (3, rowB (bs.take k))]
  | true => [(2, ⟨55, 3, [], true⟩), (15000, rowZ d.safe), (15001, rowZ d.fresh), (3, lnkR (bs.take k) j d 15000 15001)]
theorem mem_set_or {α : Type} {l : List α} {j : Nat} {x y : α} (h : y ∈ l.set j x) : y ∈ l ∨ y = x := List.mem_or_eq_of_mem_set h
theorem bC_ids {d : BD} {x : AV} (h : x ∈ bC d) : idsA x = [] := by
  simp only [bC, List.mem_cons, List.not_mem_nil, or_false] at h
  rcases h with rfl | rfl | rfl <;> simp [idsA]
theorem lnk_ids {bs : List BD} {j : Nat} {d : BD} {p q : Nat} {e : List AV} (he : e ∈ (lnkR bs j d p q).es) {x : AV} (hx : x ∈ e) : ∀ r ∈ idsA x, r = p ∨ r = q := by
  intro r hr
  rcases mem_set_or he with h | h
  · obtain ⟨y, _, rfl⟩ := List.mem_map.1 h
    rw [bC_ids hx] at hr; cases hr
  · subst h
    simp only [lnkC, List.mem_cons, List.not_mem_nil, or_false] at hx
    rcases hx with rfl | rfl | rfl <;> simp [idsA] at hr
    · exact .inl hr
    · exact .inr hr
theorem lnk_in {σ : List Nat} {bs : List BD} {j : Nat} {d : BD} {p q : Nat} (hp : σ.contains p = true) (hq : σ.contains q = true) : inRow σ (lnkR bs j d p q) = true := by
  unfold inRow
  rw [Bool.or_eq_true]
  refine .inr (List.all_eq_true.2 fun e he => List.all_eq_true.2 fun x hx => List.all_eq_true.2 fun r hr => ?_)
  rcases lnk_ids he hx r hr with rfl | rfl
  · exact hp
  · exact hq
theorem lnk_rf (f : Nat → Nat) {bs : List BD} {j : Nat} {d : BD} {p q : Nat} (hj : j < bs.length) : rfRow f (lnkR bs j d p q) = lnkR bs j d (f p) (f q) := by
  have hc : cloRow (lnkR bs j d p q) = false := by
    unfold cloRow
    simp only [lnkR, Bool.false_or]
    rw [Bool.eq_false_iff]
    intro h
    have := List.all_eq_true.1 h (lnkC d p q) (List.mem_iff_getElem.2 ⟨j, by simpa using hj, by simp⟩)
    simp [lnkC, isC] at this
  unfold rfRow
  rw [hc]
  simp only [Bool.false_eq_true, if_false, lnkR, Row.mk.injEq, true_and, and_true]
  rw [List.map_set, List.map_map]
  have e1 : (lnkC d p q).map (rfA f) = lnkC d (f p) (f q) := by simp [lnkC, rfA]
  have e2 : ((fun x => x.map (rfA f)) ∘ bC : BD → List AV) = bC := by funext x; simp [bC, rfA]
  rw [e1]
  congr 1
  exact congrArg (fun g => bs.map g) e2
theorem lnk_idsR {h : Hp} {bs : List BD} {j : Nat} {d : BD} {p q : Nat} (hp : inH h p = true) (hq : inH h q = true) : ((lnkR bs j d p q).es.all fun e => (idsL e).all fun r => inH h r) = true := by
  refine List.all_eq_true.2 fun e he => List.all_eq_true.2 fun r hr => ?_
  have : ∃ x ∈ e, r ∈ idsA x := by
    clear he
    induction e with
    | nil => simp [idsL] at hr
    | cons y l ih =>
      simp only [idsL, List.mem_append] at hr
      rcases hr with hr | hr
      · exact ⟨y, List.mem_cons_self, hr⟩
      · obtain ⟨x, h1, h2⟩ := ih hr
        exact ⟨x, List.mem_cons_of_mem _ h1, h2⟩
  obtain ⟨x, h1, h2⟩ := this
  rcases lnk_ids he h1 r h2 with rfl | rfl
  · exact hp
  · exact hq
theorem kill_bC (r : Nat) : ((fun x => List.map (killA r) x) ∘ bC : BD → List AV) = bC := by funext x; simp [bC, killA]
theorem lnk_kill {bs : List BD} {j : Nat} {d : BD} {p q r : Nat} (hp : p ≠ r) (hq : q ≠ r) : (lnkR bs j d p q).es.map (fun x => List.map (killA r) x) = (lnkR bs j d p q).es := by
  simp only [lnkR]
  rw [List.map_set, List.map_map, kill_bC]
  simp [lnkC, killA, hp, hq]
theorem rowZ_in (σ : List Nat) (l : List Int) : inRow σ (rowZ l) = true := rfl
theorem rowZ_rf (f : Nat → Nat) (l : List Int) : rfRow f (rowZ l) = rowZ l := rfl
theorem set_end {α : Type} (l : List α) (x y : α) : (l ++ [x]).set l.length y = l ++ [y] := by simp
attribute [local irreducible] RWp AW run kPe pe Kt effA gd gu br retR RDp runD kPeD brW gW effD
set_option maxRecDepth 100000
theorem cloneDisk_at (bs : List BD) (hs : SmB bs) (j : Nat) (d : BD) (hj : bs[j]? = some d) : PCX Try.prog 40 [] [blsA bs] (atD bs j d) := by
  have hn := hs.n
  have hjl := lt_of_some hj
  refine pcx_enter Try.func40 rfl rfl (by simp) fun w0 fb loc => go_on ?_
  simp only [Try.ntmps40, hpX, rfA, push_cast, simprocAttr]
  refine at_loop (X := Nat × Bool) (fun x => [(3, .o 3 x.1), (8, iA x.1)]) (fun x => clnH bs j d x.1 x.2) (fun x => x.1 ≤ bs.length ∧ (x.2 = false ∧ x.1 ≤ j ∨ x.2 = true ∧ j < x.1)) (fun x => bs.length - x.1) (0, false) ⟨Nat.zero_le _, .inl ⟨rfl, by dsimp only; omega⟩⟩ ?_ ?_
  · (refine wk_ok ?_ ?_ ?_ ?_ <;> simp [clnH, leL, leH, idsL, idsA, idsR, inH, hget, sameRow, upA, hvA, dsts, dstO, setA_0, setA_1, setA_8, List.append, List.cons_append, List.nil_append])
  · rintro ⟨k, ph⟩ ⟨hk, hp⟩
    simp only at hk hp
    simp only [upA, hvA, dsts, dstO, setA_0, setA_1, setA_8, List.append, List.cons_append, List.nil_append]
    refine go_on ?_
    (try simp only [List.length_map, push_cast, simprocAttr])
    have el : (bs.take k).length = k := by rw [List.length_take]; omega
    refine at_b (fun hg => ?_) (fun hg => ?_)
    · have hlt := lt_tt hg
      obtain ⟨x, hx⟩ := get_of_lt hlt
      have i1 := ix_n hx
      have i2 := map_get bC hx
      have hC := blobClone_d x (hs.d x (mem_of_get hx))
      have hC0 := blobClone_pc x (hs.d x (mem_of_get hx))
      unfold blobA at hC hC0
      simp only [bC] at i2 hC hC0
      have e : bs.take (k + 1) = bs.take k ++ [x] := by rw [List.take_add_one, hx]; rfl
      have w1 := wr ((k : Int) + 1) (by omega)
      rcases hp with ⟨rfl, hkj⟩ | ⟨rfl, hkj⟩
      · simp only [clnH]
        by_cases hkj2 : k = j
        · have hxd : x = d := by rw [hkj2, hj] at hx; exact (Option.some.inj hx).symm
          subst hxd
          have hL : lnkR (bs.take (k + 1)) j x 15000 15001 = ⟨55, 3, (bs.take k).map bC ++ [[iA x.name, .o 15000 x.safe.length, .o 15001 x.fresh.length]], false⟩ := by
            unfold lnkR
            rw [e, List.map_append, ← hkj2]
            have := set_end ((bs.take k).map bC) (bC x) (lnkC x 15000 15001)
            rw [List.length_map, el] at this
            rw [show [x].map bC = [bC x] from rfl, this]
            rfl
          (try simp only [hg, i1, i2, push_cast, simprocAttr])
          (refine at_call ?_; (try simp only [push_cast, simprocAttr]); refine rwc_r (hC0) rfl (flat_z2 _ _) (by simp [frB, baseOf]) (go_on ?_); (try simp only [push_cast, simprocAttr]))
          refine at_chk (by omega) ?_
          (try simp only [w1, push_cast, simprocAttr])
          refine at_fin ⟨(k + 1, true), ⟨by dsimp only; omega, .inr ⟨rfl, by dsimp only; omega⟩⟩, by dsimp only; omega, ?_⟩
          simp only [clnH]
          rw [hL]
          refine wk_ok ?_ ?_ ?_ ?_
          · simp [leL, upA, hvA, dsts, dstO, setA_0, setA_1, setA_8, List.append, List.cons_append, List.nil_append]
          · simp [leH, hget, sameRow, List.take_take, kill_bC, killA]
          · simp [idsL, idsA, inH, hget, upA, hvA, dsts, dstO, setA_0, setA_1, setA_8, List.append, List.cons_append, List.nil_append]
          · rw [← hL]
            simp [idsR, lnk_idsR, inH, hget]
        · (try simp only [hg, i1, i2, push_cast, simprocAttr])
          ((try simp only [push_cast, simprocAttr]); refine at_share2 (by simp [isC2, isC]) (by first | rfl | simp [ren]) (hC) (go_on ?_); (try simp only [push_cast, simprocAttr]))
          refine at_chk (by omega) ?_
          (try simp only [w1, push_cast, simprocAttr])
          refine at_fin ⟨(k + 1, false), ⟨by dsimp only; omega, .inl ⟨rfl, by dsimp only; omega⟩⟩, by dsimp only; omega, ?_⟩
          simp only [clnH]
          rw [e]
          (refine wk_ok ?_ ?_ ?_ ?_ <;> simp [bC, el, List.take_take, leL, leH, idsL, idsA, idsR, inH, hget, sameRow, upA, hvA, dsts, dstO, setA_0, setA_1, setA_8, List.append, List.cons_append, List.nil_append])
      · simp only [clnH]
        obtain ⟨ES, hES⟩ : ∃ ES, ES = (lnkR (bs.take k) j d 15000 15001).es := ⟨_, rfl⟩
        have hrow : lnkR (bs.take k) j d 15000 15001 = ⟨55, 3, ES, false⟩ := by rw [hES]; rfl
        have hESl : ES.length = k := by rw [hES]; simp [lnkR]; omega
        have hTk : List.take k ES = ES := List.take_of_length_le (by omega)
        have hKl : ES.map (fun x => List.map (killA 3) x) = ES := by rw [hES]; exact lnk_kill (by decide) (by decide)
        have hL : lnkR (bs.take (k + 1)) j d 15000 15001 = ⟨55, 3, ES ++ [[iA x.name, intsA x.safe, intsA x.fresh]], false⟩ := by
          rw [hES]
          unfold lnkR
          rw [e, List.map_append, List.set_append_left _ _ (by simp; omega)]
          rfl
        rw [hrow]
        (try simp only [hg, i1, i2, push_cast, simprocAttr])
        ((try simp only [push_cast, simprocAttr]); refine at_share2 (by simp [isC2, isC]) (by first | rfl | simp [ren]) (hC) (go_on ?_); (try simp only [push_cast, simprocAttr]))
        refine at_chk (by omega) ?_
        (try simp only [w1, hTk, hKl, push_cast, simprocAttr])
        refine at_fin ⟨(k + 1, true), ⟨by dsimp only; omega, .inr ⟨rfl, by dsimp only; omega⟩⟩, by dsimp only; omega, ?_⟩
        simp only [clnH]
        rw [hL]
        refine wk_ok ?_ ?_ ?_ ?_
        · simp [leL, upA, hvA, dsts, dstO, setA_0, setA_1, setA_8, List.append, List.cons_append, List.nil_append]
        · simp [leH, hget, sameRow, hTk, hKl, killA]
        · simp [idsL, idsA, inH, hget, upA, hvA, dsts, dstO, setA_0, setA_1, setA_8, List.append, List.cons_append, List.nil_append]
        · rw [← hL]
          simp [idsR, lnk_idsR, inH, hget]
    · have h3 := lt_ff hg
      have hk' : k = bs.length := by omega
      subst hk'
      rcases hp with ⟨rfl, hkj⟩ | ⟨rfl, hkj⟩
      · omega
      · simp only [clnH, List.take_length]
        (try simp only [hg, push_cast, simprocAttr])
        refine at_retX [3, 15000, 15001] ?_
        have hin := lnk_in (σ := [3, 15000, 15001]) (bs := bs) (j := j) (d := d) (p := 15000) (q := 15001) rfl rfl
        have hrf := lnk_rf (ixOf [3, 15000, 15001]) (d := d) (p := 15000) (q := 15001) hjl
        have hrx : ∀ h : Hp, hget h 3 = some (lnkR bs j d 15000 15001) → hget h 15000 = some (rowZ d.safe) → hget h 15001 = some (rowZ d.fresh) → rowsX h [3, 15000, 15001] [3, 15000, 15001] = some [lnkR bs j d 1 2, rowZ d.safe, rowZ d.fresh] := fun h a b c => by
          simp only [rowsX, a, b, c, hin, hrf, rowZ_in, rowZ_rf, if_true]
          rfl
        simp only [Try.results40, retX, push_cast, simprocAttr]
        simp only [show ((List.range 0).map nmX ++ [3, 15000, 15001]) = [3, 15000, 15001] from rfl]
        rw [hrx _ rfl rfl rfl, if_pos (by decide)]
        exact ⟨by simp [rfA, ixOf], rfl, rfl⟩
end Go.Proofs.Ytepcabenjikhgaa
/-
  Walks: disks: impl.DiskWrite, where there is no such file, or nothing is written.
-/
namespace Go.Proofs.Ytepcabenjikhgaa
open Go Go.RowKit Go.Proofs
theorem disk_names {bs : List BD} (h : diskB bs = true) : ∀ d ∈ bs, 0 ≤ d.name ∧ d.name ≤ 3 := fun d hd => by
  have := disk_okF h hd
  simp only [okF, inB, Bool.and_eq_true, decide_eq_true_eq] at this
  omega
attribute [local irreducible] RWp AW run kPe pe Kt effA gd gu br retR RDp runD kPeD brW gW effD
set_option maxRecDepth 100000
end Go.Proofs.Ytepcabenjikhgaa
/-
  Walks: disks: impl.DiskWrite, where the file is there.
-/
namespace Go.Proofs.Ytepcabenjikhgaa
open Go Go.RowKit Go.Proofs
attribute [local irreducible] RWp AW run kPe pe Kt effA gd gu br retR RDp runD kPeD brW gW effD
set_option maxRecDepth 100000
end Go.Proofs.Ytepcabenjikhgaa
/-
  Walks: impl.DiskWrite, set aside: no such file there, or nothing written.
-/
namespace Go.Proofs.Ytepcabenjikhgaa
open Go Go.RowKit Go.Proofs
theorem G.tupVB {h : Hp} {loc : Loc} {w : World} {u : Value} {ok : Bool} {v : Value} (hG : G h loc w (.tup [.v u, .v (.bool ok)]) v) : ∀ lv lo W, C lv lo W (.tup [.v u, .v (.bool ok)]) v := by
  have key : ∀ vs : Array Value, vs.size = 2 → G h loc w (.v u) (vs.getD 0 undef) → G h loc w (.v (.bool ok)) (vs.getD 1 undef) → ∀ lv lo W, C lv lo W (.tup [.v u, .v (.bool ok)]) (.tuple vs) := fun vs hs h0 h1 lv lo W => by
    refine .tup vs (by simpa using hs) fun j a ha => ?_
    rcases j with _ | _ | j
    · simp at ha; subst ha; rw [h0.v_inv]; exact .v
    · simp at ha; subst ha; rw [h1.v_inv]; exact .v
    · simp at ha
  cases hG with
  | cl hc =>
    cases hc with
    | tup vs hs hg => exact key vs (by simpa using hs) (.cl (hg 0 _ rfl)) (.cl (hg 1 _ rfl))
  | tup vs hs hg => exact key vs (by simpa using hs) (hg 0 _ rfl) (hg 1 _ rfl)
theorem otOut {w0 w2 w : World} {lent2 : Lent} {s : AS} {loc : Loc} {a : Act} {u : Value} {bs : List BD} {us : UU} {X : Nat → Prop} {ok : Bool} {v : Value} (hR : Rel w2 lent2 s loc a w) (hO : OT w2 X u bs us) (hX : ∀ b, X b → lent2.fb b) (hge : ∀ b, X b → w0.heap.size ≤ b)
    (hG : G s.h loc w (.tup [.v u, .v (.bool ok)]) v) : ∃ x, (∀ lv lo W, C lv lo W x v) ∧ otB bs ok w (fun b => w0.heap.size ≤ b ∧ b < w.heap.size) x :=
  ⟨_, hG.tupVB, u, us, rfl, hO.same (fun b hb => hR.fbk (hX b hb)) fun b hb => ⟨hge b hb, Nat.lt_of_lt_of_le (hR.fbl b (hX b hb)).1 hR.size⟩⟩
attribute [local irreducible] RWp AW run kPe pe Kt effA gd gu br retR RDp runD kPeD brW gW effD
set_option maxRecDepth 100000
theorem DiskWrite_bad_o (bs : List BD) (hs : SmB bs) (nm : Int) (xs : List Int) (hx : xs.length ≤ 2000000) (h : (diskB bs && bytesB xs && inB nm 1 3) = false) : PO Try.prog 24 [blsA bs, iA nm, intsA xs] (otB [] false) := by
  have hV := DiskValid_pc bs hs
  have hB := bytesValid_pc xs (by omega)
  have hI := in_pc nm 1 3
  have eI : inB nm 1 3 = inR nm 1 3 := rfl
  rw [eI] at h
  cases hv : diskB bs with
  | false =>
    refine po_enter Try.func24 rfl rfl fun w0 => go_on ?_; (try simp only [Try.ntmps24, push_cast, simprocAttr])
    refine at_call ?_
    (try simp only [push_cast, simprocAttr])
    refine rwc_v hV ?_
    (try simp only [push_cast, simprocAttr])
    (refine at_dropS [6] (by refine wk_ok ?_ ?_ ?_ ?_ <;> simp [dropS, dropT, hasN, delL, hdel, leL, leH, idsL, idsA, idsR, inH, hget, sameRow]) ?_; simp only [dropS, dropT, hasN, delL, hdel, idsA, idsL, hget, List.map_cons, List.map_nil, List.all_cons, List.all_nil, List.append_nil, Bool.not_false, Bool.not_true, Bool.and_true, if_true, if_false, simprocAttr])
    refine go_on ?_
    (try simp only [hv, Bool.not_false, push_cast, simprocAttr])
    (refine at_retO (Ch.refl w0) (l := [.o 6 0, bA false]) (by simp only [Try.results24, push_cast, simprocAttr]) ?_)
    exact fun loc a w v hR hG => ownNil (Ch.refl w0) rfl hR hG
  | true =>
    cases hxb : bytesB xs with
    | false =>
      refine po_enter Try.func24 rfl rfl fun w0 => go_on ?_; (try simp only [Try.ntmps24, push_cast, simprocAttr])
      refine at_call ?_
      (try simp only [push_cast, simprocAttr])
      refine rwc_v hV ?_
      (try simp only [push_cast, simprocAttr])
      (refine at_dropS [6] (by refine wk_ok ?_ ?_ ?_ ?_ <;> simp [dropS, dropT, hasN, delL, hdel, leL, leH, idsL, idsA, idsR, inH, hget, sameRow]) ?_; simp only [dropS, dropT, hasN, delL, hdel, idsA, idsL, hget, List.map_cons, List.map_nil, List.all_cons, List.all_nil, List.append_nil, Bool.not_false, Bool.not_true, Bool.and_true, if_true, if_false, simprocAttr])
      refine go_on ?_
      (try simp only [hv, Bool.not_true, push_cast, simprocAttr])
      (refine at_call ?_; (try simp only [push_cast, simprocAttr]); refine rwc_v (hB) (go_on ?_); (try simp only [push_cast, simprocAttr]))
      (try simp only [hxb, Bool.not_false, push_cast, simprocAttr])
      (refine at_retO (Ch.refl w0) (l := [.o 6 0, bA false]) (by simp only [Try.results24, push_cast, simprocAttr]) ?_)
      exact fun loc a w v hR hG => ownNil (Ch.refl w0) rfl hR hG
    | true =>
      have hi : inR nm 1 3 = false := by simpa [hv, hxb] using h
      refine po_enter Try.func24 rfl rfl fun w0 => go_on ?_; (try simp only [Try.ntmps24, push_cast, simprocAttr])
      refine at_call ?_
      (try simp only [push_cast, simprocAttr])
      refine rwc_v hV ?_
      (try simp only [push_cast, simprocAttr])
      (refine at_dropS [6] (by refine wk_ok ?_ ?_ ?_ ?_ <;> simp [dropS, dropT, hasN, delL, hdel, leL, leH, idsL, idsA, idsR, inH, hget, sameRow]) ?_; simp only [dropS, dropT, hasN, delL, hdel, idsA, idsL, hget, List.map_cons, List.map_nil, List.all_cons, List.all_nil, List.append_nil, Bool.not_false, Bool.not_true, Bool.and_true, if_true, if_false, simprocAttr])
      refine go_on ?_
      (try simp only [hv, Bool.not_true, push_cast, simprocAttr])
      (refine at_call ?_; (try simp only [push_cast, simprocAttr]); refine rwc_v (hB) (go_on ?_); (try simp only [push_cast, simprocAttr]))
      (try simp only [hxb, Bool.not_true, push_cast, simprocAttr])
      (refine at_call ?_; (try simp only [push_cast, simprocAttr]); refine rwc_v (hI) (go_on ?_); (try simp only [push_cast, simprocAttr]))
      (try simp only [hi, Bool.not_false, push_cast, simprocAttr])
      (refine at_retO (Ch.refl w0) (l := [.o 6 0, bA false]) (by simp only [Try.results24, push_cast, simprocAttr]) ?_)
      exact fun loc a w v hR hG => ownNil (Ch.refl w0) rfl hR hG
theorem DiskWrite_new0_o (bs : List BD) (nm : Int) (xs : List Int) (hx : xs.length ≤ 2000000) (hv : diskB bs = true) (hxb : bytesB xs = true) (hi : inB nm 1 3 = true) (hg : getB bs nm = none) (hb : bs = []) : PO Try.prog 24 [blsA bs, iA nm, intsA xs] (otB (writeD bs nm xs).1 (writeD bs nm xs).2) := by
  have hs := disk_sm hv
  have hn3 := disk_len hv
  have hV := DiskValid_pc bs hs
  have hB := bytesValid_pc xs (by omega)
  have hI := in_pc nm 1 3
  have hF := file_pc bs hs.n nm
  have hC := cloneDisk_pc bs hs
  have hi' : inR nm 1 3 = true := hi
  have hnm : 0 ≤ nm ∧ nm ≤ 3 := by simp only [inR, Bool.and_eq_true, decide_eq_true_eq] at hi'; omega
  have hwl := withB_len bs (wrB bs nm xs)
  have hnms := disk_names hv
  have hWs : SmD (wrB bs nm xs) := by
    unfold wrB
    cases hg : getB bs nm with
    | none => exact ⟨by simp, by simp only; omega⟩
    | some d =>
      have hm := (getB_name hg).2
      have hok := disk_okF hv hm
      simp only [okF, Bool.and_eq_true, decide_eq_true_eq] at hok
      exact ⟨(hs.d d hm).s, by simp only [List.length_append]; omega⟩
  have hws : SmB (withB bs (wrB bs nm xs)) := withB_sm hs (by omega) hWs
  obtain ⟨Y, hY⟩ : ∃ Y, Y = withB bs (wrB bs nm xs) := ⟨_, rfl⟩
  rw [← hY] at hws hwl
  have hwr : writeD bs nm xs = if diskB Y = true then (Y, true) else ([], false) := by unfold writeD; rw [hv, hxb, hi, ← hY]; rfl
  have hV2 := DiskValid_pc Y hws
  have hC2 := cloneDisk_o Y hws
  have hix : ixB bs nm = -1 := by
    rcases ixB_cases bs nm with ⟨h1, _⟩ | ⟨j, d, _, _, h3⟩
    · exact h1
    · rw [hg] at h3; cases h3
  rw [hix] at hF
  subst hb
  have hS := sorted_pcl ([⟨nm, [], xs⟩] : List BD) (by simp) fun d hd => by
    rcases List.mem_append.1 (show d ∈ [] ++ [(⟨nm, [], xs⟩ : BD)] from hd) with hd | hd
    · exact hnms d hd
    · simp only [List.mem_singleton] at hd; subst hd; exact hnm
  cases hd : diskB Y with
  | false =>
    have hr : writeD [] nm xs = ([], false) := by rw [hwr, hd]; rfl
    rw [hr]
    refine po_enter Try.func24 rfl rfl fun w0 => go_on ?_; (try simp only [Try.ntmps24, push_cast, simprocAttr])
    refine at_call ?_
    (try simp only [push_cast, simprocAttr])
    refine rwc_v hV ?_
    (try simp only [push_cast, simprocAttr])
    (refine at_dropS [6] (by refine wk_ok ?_ ?_ ?_ ?_ <;> simp [dropS, dropT, hasN, delL, hdel, leL, leH, idsL, idsA, idsR, inH, hget, sameRow]) ?_; simp only [dropS, dropT, hasN, delL, hdel, idsA, idsL, hget, List.map_cons, List.map_nil, List.all_cons, List.all_nil, List.append_nil, Bool.not_false, Bool.not_true, Bool.and_true, if_true, if_false, simprocAttr])
    refine go_on ?_
    (try simp only [hv, Bool.not_true, push_cast, simprocAttr])
    (refine at_call ?_; (try simp only [push_cast, simprocAttr]); refine rwc_v (hB) (go_on ?_); (try simp only [push_cast, simprocAttr]))
    (try simp only [hxb, Bool.not_true, push_cast, simprocAttr])
    (refine at_call ?_; (try simp only [push_cast, simprocAttr]); refine rwc_v (hI) (go_on ?_); (try simp only [push_cast, simprocAttr]))
    (try simp only [hi', Bool.not_true, push_cast, simprocAttr])
    refine call_share (by simp [isC]) hC ?_
    rintro rv rows ⟨rfl, rfl⟩
    refine ⟨by simp [frB, baseOf], go_on ?_⟩
    (try simp only [bC, push_cast, simprocAttr])
    (refine at_call ?_; simp only [bC, viewN, hget, tk, isC, List.map_cons, List.map_nil, List.length_map, List.length_cons, List.length_nil, Nat.reduceAdd, Nat.reduceEqDiff, if_true, if_false, reduceIte, simprocAttr]; refine rwc_v (hF) (go_on ?_); (try simp only [push_cast, simprocAttr]))
    (try simp only [show ltI (-1) 0 = true from rfl, push_cast, simprocAttr])
    refine at_chk (by first | omega | simp) ?_
    (try simp only [bC, show IntKind.i64.wrap 0 = 0 from rfl, show IntKind.i64.wrap (1 - 1) = 0 from rfl, show toIx 0 1 = some 0 from rfl, Nat.zero_add, push_cast, simprocAttr])
    refine at_chk (by first | omega | simp) ?_
    (try simp only [bC, Nat.zero_add, push_cast, simprocAttr])
    (refine at_callN 25000 1 (by refine wk_nil ?_ ?_ ?_ ?_ <;> simp [nilH, nlCell, nlE_refl, leL, leN, rowN2, nlE, nlC, nlv, idsL, idsA, idsR, inH, hget]) ?_; simp only [nilR, nilH, nlCell, Nat.reduceEqDiff, if_true, if_false, List.map_cons, List.map_nil, simprocAttr])
    (refine at_callW [46] (by refine wk_frz ?_ ?_ ?_ ?_ <;> simp [frwS, frwH, frwRow, frzT, hasN, delL, hdel, leF, leHF, rowF, frzB, idsL, idsA, idsR, inH, hget, sameRow, viewN, tk]) ?_; simp only [frwS, frwH, frwRow, frzT, hasN, delL, hdel, idsA, idsL, viewN, hget, tk, isC, List.map_cons, List.map_nil, List.all_cons, List.all_nil, List.append_nil, List.drop, List.getElem?_cons_zero, List.getElem?_cons_succ, Bool.not_false, Bool.not_true, Bool.and_true, if_true, if_false, Nat.zero_add, List.length_map, simprocAttr])
    (try simp only [push_cast, simprocAttr]); refine call_lend [25000] none (lr := [rowB [⟨nm, [], xs⟩]]) (by simp [ndB]) (by first | rfl | simp [rowsOf, hget, rdR, rowS, sC, ndC, cmC]) (by simp [idsL, idsA]) (by simp [mvN]) (by simpa [rnA, ixOf] using hS) ?_
    rintro rv lr' rows ⟨L', g1, g2, rfl, rfl, rfl⟩
    have hlen := g1.length_eq
    simp only [List.length_cons, List.length_nil, Nat.reduceAdd] at hlen
    have hLY : L' = Y := by rw [hY]; exact wr_new hv hg g1 g2
    (refine ⟨by simp [shB, mvF, hlen], by simp [frB, baseOf], go_on ?_⟩; simp only [killA, killH, killRow, push_cast, simprocAttr])
    rw [hLY]
    have hYl : Y.length = 1 := by rw [← hLY]; exact hlen
    (try simp only [push_cast, simprocAttr])
    (refine at_call ?_; simp only [hYl, viewN, hget, tk, isC, List.map_cons, List.map_nil, List.length_map, List.length_cons, List.length_nil, Nat.reduceAdd, Nat.reduceEqDiff, if_true, if_false, reduceIte, simprocAttr]; refine rwc_v (hV2) (go_on ?_); (try simp only [push_cast, simprocAttr]))
    (try simp only [hd, Bool.not_false, push_cast, simprocAttr])
    (refine at_retO (Ch.refl w0) (l := [.o 6 0, bA false]) (by simp only [Try.results24, push_cast, simprocAttr]) ?_)
    exact fun loc a w v hR hG => ownNil (Ch.refl w0) rfl hR hG
  | true =>
    have hr : writeD [] nm xs = (Y, true) := by rw [hwr, hd]; rfl
    rw [hr]
    refine po_enter Try.func24 rfl rfl fun w0 => go_on ?_; (try simp only [Try.ntmps24, push_cast, simprocAttr])
    refine at_call ?_
    (try simp only [push_cast, simprocAttr])
    refine rwc_v hV ?_
    (try simp only [push_cast, simprocAttr])
    (refine at_dropS [6] (by refine wk_ok ?_ ?_ ?_ ?_ <;> simp [dropS, dropT, hasN, delL, hdel, leL, leH, idsL, idsA, idsR, inH, hget, sameRow]) ?_; simp only [dropS, dropT, hasN, delL, hdel, idsA, idsL, hget, List.map_cons, List.map_nil, List.all_cons, List.all_nil, List.append_nil, Bool.not_false, Bool.not_true, Bool.and_true, if_true, if_false, simprocAttr])
    refine go_on ?_
    (try simp only [hv, Bool.not_true, push_cast, simprocAttr])
    (refine at_call ?_; (try simp only [push_cast, simprocAttr]); refine rwc_v (hB) (go_on ?_); (try simp only [push_cast, simprocAttr]))
    (try simp only [hxb, Bool.not_true, push_cast, simprocAttr])
    (refine at_call ?_; (try simp only [push_cast, simprocAttr]); refine rwc_v (hI) (go_on ?_); (try simp only [push_cast, simprocAttr]))
    (try simp only [hi', Bool.not_true, push_cast, simprocAttr])
    refine call_share (by simp [isC]) hC ?_
    rintro rv rows ⟨rfl, rfl⟩
    refine ⟨by simp [frB, baseOf], go_on ?_⟩
    (try simp only [bC, push_cast, simprocAttr])
    (refine at_call ?_; simp only [bC, viewN, hget, tk, isC, List.map_cons, List.map_nil, List.length_map, List.length_cons, List.length_nil, Nat.reduceAdd, Nat.reduceEqDiff, if_true, if_false, reduceIte, simprocAttr]; refine rwc_v (hF) (go_on ?_); (try simp only [push_cast, simprocAttr]))
    (try simp only [show ltI (-1) 0 = true from rfl, push_cast, simprocAttr])
    refine at_chk (by first | omega | simp) ?_
    (try simp only [bC, show IntKind.i64.wrap 0 = 0 from rfl, show IntKind.i64.wrap (1 - 1) = 0 from rfl, show toIx 0 1 = some 0 from rfl, Nat.zero_add, push_cast, simprocAttr])
    refine at_chk (by first | omega | simp) ?_
    (try simp only [bC, Nat.zero_add, push_cast, simprocAttr])
    (refine at_callN 25000 1 (by refine wk_nil ?_ ?_ ?_ ?_ <;> simp [nilH, nlCell, nlE_refl, leL, leN, rowN2, nlE, nlC, nlv, idsL, idsA, idsR, inH, hget]) ?_; simp only [nilR, nilH, nlCell, Nat.reduceEqDiff, if_true, if_false, List.map_cons, List.map_nil, simprocAttr])
    (refine at_callW [46] (by refine wk_frz ?_ ?_ ?_ ?_ <;> simp [frwS, frwH, frwRow, frzT, hasN, delL, hdel, leF, leHF, rowF, frzB, idsL, idsA, idsR, inH, hget, sameRow, viewN, tk]) ?_; simp only [frwS, frwH, frwRow, frzT, hasN, delL, hdel, idsA, idsL, viewN, hget, tk, isC, List.map_cons, List.map_nil, List.all_cons, List.all_nil, List.append_nil, List.drop, List.getElem?_cons_zero, List.getElem?_cons_succ, Bool.not_false, Bool.not_true, Bool.and_true, if_true, if_false, Nat.zero_add, List.length_map, simprocAttr])
    (try simp only [push_cast, simprocAttr]); refine call_lend [25000] none (lr := [rowB [⟨nm, [], xs⟩]]) (by simp [ndB]) (by first | rfl | simp [rowsOf, hget, rdR, rowS, sC, ndC, cmC]) (by simp [idsL, idsA]) (by simp [mvN]) (by simpa [rnA, ixOf] using hS) ?_
    rintro rv lr' rows ⟨L', g1, g2, rfl, rfl, rfl⟩
    have hlen := g1.length_eq
    simp only [List.length_cons, List.length_nil, Nat.reduceAdd] at hlen
    have hLY : L' = Y := by rw [hY]; exact wr_new hv hg g1 g2
    (refine ⟨by simp [shB, mvF, hlen], by simp [frB, baseOf], go_on ?_⟩; simp only [killA, killH, killRow, push_cast, simprocAttr])
    rw [hLY]
    have hYl : Y.length = 1 := by rw [← hLY]; exact hlen
    (try simp only [push_cast, simprocAttr])
    (refine at_call ?_; simp only [hYl, viewN, hget, tk, isC, List.map_cons, List.map_nil, List.length_map, List.length_cons, List.length_nil, Nat.reduceAdd, Nat.reduceEqDiff, if_true, if_false, reduceIte, simprocAttr]; refine rwc_v (hV2) (go_on ?_); (try simp only [push_cast, simprocAttr]))
    (try simp only [hd, Bool.not_true, push_cast, simprocAttr])
    (refine at_callW [25000] (by refine wk_frz ?_ ?_ ?_ ?_ <;> simp [hYl, frwS, frwH, frwRow, frzT, hasN, delL, hdel, leF, leHF, rowF, frzB, idsL, idsA, idsR, inH, hget, sameRow, viewN, tk]) ?_; simp only [hYl, frwS, frwH, frwRow, frzT, hasN, delL, hdel, idsA, idsL, viewN, hget, tk, isC, List.map_cons, List.map_nil, List.all_cons, List.all_nil, List.append_nil, List.drop, List.getElem?_cons_zero, List.getElem?_cons_succ, Bool.not_false, Bool.not_true, Bool.and_true, if_true, if_false, Nat.zero_add, List.length_map, simprocAttr])
    refine call_PO rfl [blsA Y] ⟨ga_c rfl, trivial⟩ hC2 ?_
    rintro w2 lent2 X x hN ⟨u, us, rfl, hO⟩
    obtain ⟨g0, cp0, rfl⟩ := hO.some (by omega)
    refine go_on ?_
    (try simp only [push_cast, simprocAttr])
    (refine at_retO (hN.ch _ _ (Ch.refl w0)) (l := [.v (.slice (some ⟨g0, 0, none⟩) Y.length cp0), bA true]) (by simp only [Try.results24, push_cast, simprocAttr]) ?_)
    exact fun loc a w v hR hG => otOut hR hO hN.xfb hN.xge hG
theorem DiskWrite_new1_o (bs : List BD) (nm : Int) (xs : List Int) (hx : xs.length ≤ 2000000) (hv : diskB bs = true) (hxb : bytesB xs = true) (hi : inB nm 1 3 = true) (hg : getB bs nm = none) (hb : ∃ d0, bs = [d0]) : PO Try.prog 24 [blsA bs, iA nm, intsA xs] (otB (writeD bs nm xs).1 (writeD bs nm xs).2) := by
  have hs := disk_sm hv
  have hn3 := disk_len hv
  have hV := DiskValid_pc bs hs
  have hB := bytesValid_pc xs (by omega)
  have hI := in_pc nm 1 3
  have hF := file_pc bs hs.n nm
  have hC := cloneDisk_pc bs hs
  have hi' : inR nm 1 3 = true := hi
  have hnm : 0 ≤ nm ∧ nm ≤ 3 := by simp only [inR, Bool.and_eq_true, decide_eq_true_eq] at hi'; omega
  have hwl := withB_len bs (wrB bs nm xs)
  have hnms := disk_names hv
  have hWs : SmD (wrB bs nm xs) := by
    unfold wrB
    cases hg : getB bs nm with
    | none => exact ⟨by simp, by simp only; omega⟩
    | some d =>
      have hm := (getB_name hg).2
      have hok := disk_okF hv hm
      simp only [okF, Bool.and_eq_true, decide_eq_true_eq] at hok
      exact ⟨(hs.d d hm).s, by simp only [List.length_append]; omega⟩
  have hws : SmB (withB bs (wrB bs nm xs)) := withB_sm hs (by omega) hWs
  obtain ⟨Y, hY⟩ : ∃ Y, Y = withB bs (wrB bs nm xs) := ⟨_, rfl⟩
  rw [← hY] at hws hwl
  have hwr : writeD bs nm xs = if diskB Y = true then (Y, true) else ([], false) := by unfold writeD; rw [hv, hxb, hi, ← hY]; rfl
  have hV2 := DiskValid_pc Y hws
  have hC2 := cloneDisk_o Y hws
  have hix : ixB bs nm = -1 := by
    rcases ixB_cases bs nm with ⟨h1, _⟩ | ⟨j, d, _, _, h3⟩
    · exact h1
    · rw [hg] at h3; cases h3
  rw [hix] at hF
  obtain ⟨d0, rfl⟩ := hb
  have hS := sorted_pcl ([d0, ⟨nm, [], xs⟩] : List BD) (by simp) fun d hd => by
    rcases List.mem_append.1 (show d ∈ [d0] ++ [(⟨nm, [], xs⟩ : BD)] from hd) with hd | hd
    · exact hnms d hd
    · simp only [List.mem_singleton] at hd; subst hd; exact hnm
  cases hd : diskB Y with
  | false =>
    have hr : writeD [d0] nm xs = ([], false) := by rw [hwr, hd]; rfl
    rw [hr]
    refine po_enter Try.func24 rfl rfl fun w0 => go_on ?_; (try simp only [Try.ntmps24, push_cast, simprocAttr])
    refine at_call ?_
    (try simp only [push_cast, simprocAttr])
    refine rwc_v hV ?_
    (try simp only [push_cast, simprocAttr])
    (refine at_dropS [6] (by refine wk_ok ?_ ?_ ?_ ?_ <;> simp [dropS, dropT, hasN, delL, hdel, leL, leH, idsL, idsA, idsR, inH, hget, sameRow]) ?_; simp only [dropS, dropT, hasN, delL, hdel, idsA, idsL, hget, List.map_cons, List.map_nil, List.all_cons, List.all_nil, List.append_nil, Bool.not_false, Bool.not_true, Bool.and_true, if_true, if_false, simprocAttr])
    refine go_on ?_
    (try simp only [hv, Bool.not_true, push_cast, simprocAttr])
    (refine at_call ?_; (try simp only [push_cast, simprocAttr]); refine rwc_v (hB) (go_on ?_); (try simp only [push_cast, simprocAttr]))
    (try simp only [hxb, Bool.not_true, push_cast, simprocAttr])
    (refine at_call ?_; (try simp only [push_cast, simprocAttr]); refine rwc_v (hI) (go_on ?_); (try simp only [push_cast, simprocAttr]))
    (try simp only [hi', Bool.not_true, push_cast, simprocAttr])
    refine call_share (by simp [isC]) hC ?_
    rintro rv rows ⟨rfl, rfl⟩
    refine ⟨by simp [frB, baseOf], go_on ?_⟩
    (try simp only [bC, push_cast, simprocAttr])
    (refine at_call ?_; simp only [bC, viewN, hget, tk, isC, List.map_cons, List.map_nil, List.length_map, List.length_cons, List.length_nil, Nat.reduceAdd, Nat.reduceEqDiff, if_true, if_false, reduceIte, simprocAttr]; refine rwc_v (hF) (go_on ?_); (try simp only [push_cast, simprocAttr]))
    (try simp only [show ltI (-1) 0 = true from rfl, push_cast, simprocAttr])
    refine at_chk (by first | omega | simp) ?_
    (try simp only [bC, show IntKind.i64.wrap 1 = 1 from rfl, show IntKind.i64.wrap (2 - 1) = 1 from rfl, show toIx 1 2 = some 1 from rfl, Nat.zero_add, push_cast, simprocAttr])
    refine at_chk (by first | omega | simp) ?_
    (try simp only [bC, Nat.zero_add, push_cast, simprocAttr])
    (refine at_callN 25000 1 (by refine wk_nil ?_ ?_ ?_ ?_ <;> simp [nilH, nlCell, nlE_refl, leL, leN, rowN2, nlE, nlC, nlv, idsL, idsA, idsR, inH, hget]) ?_; simp only [nilR, nilH, nlCell, Nat.reduceEqDiff, if_true, if_false, List.map_cons, List.map_nil, simprocAttr])
    (refine at_callW [46] (by refine wk_frz ?_ ?_ ?_ ?_ <;> simp [frwS, frwH, frwRow, frzT, hasN, delL, hdel, leF, leHF, rowF, frzB, idsL, idsA, idsR, inH, hget, sameRow, viewN, tk]) ?_; simp only [frwS, frwH, frwRow, frzT, hasN, delL, hdel, idsA, idsL, viewN, hget, tk, isC, List.map_cons, List.map_nil, List.all_cons, List.all_nil, List.append_nil, List.drop, List.getElem?_cons_zero, List.getElem?_cons_succ, Bool.not_false, Bool.not_true, Bool.and_true, if_true, if_false, Nat.zero_add, List.length_map, simprocAttr])
    (try simp only [push_cast, simprocAttr]); refine call_lend [25000] none (lr := [rowB [d0, ⟨nm, [], xs⟩]]) (by simp [ndB]) (by first | rfl | simp [rowsOf, hget, rdR, rowS, sC, ndC, cmC]) (by simp [idsL, idsA]) (by simp [mvN]) (by simpa [rnA, ixOf] using hS) ?_
    rintro rv lr' rows ⟨L', g1, g2, rfl, rfl, rfl⟩
    have hlen := g1.length_eq
    simp only [List.length_cons, List.length_nil, Nat.reduceAdd] at hlen
    have hLY : L' = Y := by rw [hY]; exact wr_new hv hg g1 g2
    (refine ⟨by simp [shB, mvF, hlen], by simp [frB, baseOf], go_on ?_⟩; simp only [killA, killH, killRow, push_cast, simprocAttr])
    rw [hLY]
    have hYl : Y.length = 2 := by rw [← hLY]; exact hlen
    (try simp only [push_cast, simprocAttr])
    (refine at_call ?_; simp only [hYl, viewN, hget, tk, isC, List.map_cons, List.map_nil, List.length_map, List.length_cons, List.length_nil, Nat.reduceAdd, Nat.reduceEqDiff, if_true, if_false, reduceIte, simprocAttr]; refine rwc_v (hV2) (go_on ?_); (try simp only [push_cast, simprocAttr]))
    (try simp only [hd, Bool.not_false, push_cast, simprocAttr])
    (refine at_retO (Ch.refl w0) (l := [.o 6 0, bA false]) (by simp only [Try.results24, push_cast, simprocAttr]) ?_)
    exact fun loc a w v hR hG => ownNil (Ch.refl w0) rfl hR hG
  | true =>
    have hr : writeD [d0] nm xs = (Y, true) := by rw [hwr, hd]; rfl
    rw [hr]
    refine po_enter Try.func24 rfl rfl fun w0 => go_on ?_; (try simp only [Try.ntmps24, push_cast, simprocAttr])
    refine at_call ?_
    (try simp only [push_cast, simprocAttr])
    refine rwc_v hV ?_
    (try simp only [push_cast, simprocAttr])
    (refine at_dropS [6] (by refine wk_ok ?_ ?_ ?_ ?_ <;> simp [dropS, dropT, hasN, delL, hdel, leL, leH, idsL, idsA, idsR, inH, hget, sameRow]) ?_; simp only [dropS, dropT, hasN, delL, hdel, idsA, idsL, hget, List.map_cons, List.map_nil, List.all_cons, List.all_nil, List.append_nil, Bool.not_false, Bool.not_true, Bool.and_true, if_true, if_false, simprocAttr])
    refine go_on ?_
    (try simp only [hv, Bool.not_true, push_cast, simprocAttr])
    (refine at_call ?_; (try simp only [push_cast, simprocAttr]); refine rwc_v (hB) (go_on ?_); (try simp only [push_cast, simprocAttr]))
    (try simp only [hxb, Bool.not_true, push_cast, simprocAttr])
    (refine at_call ?_; (try simp only [push_cast, simprocAttr]); refine rwc_v (hI) (go_on ?_); (try simp only [push_cast, simprocAttr]))
    (try simp only [hi', Bool.not_true, push_cast, simprocAttr])
    refine call_share (by simp [isC]) hC ?_
    rintro rv rows ⟨rfl, rfl⟩
    refine ⟨by simp [frB, baseOf], go_on ?_⟩
    (try simp only [bC, push_cast, simprocAttr])
    (refine at_call ?_; simp only [bC, viewN, hget, tk, isC, List.map_cons, List.map_nil, List.length_map, List.length_cons, List.length_nil, Nat.reduceAdd, Nat.reduceEqDiff, if_true, if_false, reduceIte, simprocAttr]; refine rwc_v (hF) (go_on ?_); (try simp only [push_cast, simprocAttr]))
    (try simp only [show ltI (-1) 0 = true from rfl, push_cast, simprocAttr])
    refine at_chk (by first | omega | simp) ?_
    (try simp only [bC, show IntKind.i64.wrap 1 = 1 from rfl, show IntKind.i64.wrap (2 - 1) = 1 from rfl, show toIx 1 2 = some 1 from rfl, Nat.zero_add, push_cast, simprocAttr])
    refine at_chk (by first | omega | simp) ?_
    (try simp only [bC, Nat.zero_add, push_cast, simprocAttr])
    (refine at_callN 25000 1 (by refine wk_nil ?_ ?_ ?_ ?_ <;> simp [nilH, nlCell, nlE_refl, leL, leN, rowN2, nlE, nlC, nlv, idsL, idsA, idsR, inH, hget]) ?_; simp only [nilR, nilH, nlCell, Nat.reduceEqDiff, if_true, if_false, List.map_cons, List.map_nil, simprocAttr])
    (refine at_callW [46] (by refine wk_frz ?_ ?_ ?_ ?_ <;> simp [frwS, frwH, frwRow, frzT, hasN, delL, hdel, leF, leHF, rowF, frzB, idsL, idsA, idsR, inH, hget, sameRow, viewN, tk]) ?_; simp only [frwS, frwH, frwRow, frzT, hasN, delL, hdel, idsA, idsL, viewN, hget, tk, isC, List.map_cons, List.map_nil, List.all_cons, List.all_nil, List.append_nil, List.drop, List.getElem?_cons_zero, List.getElem?_cons_succ, Bool.not_false, Bool.not_true, Bool.and_true, if_true, if_false, Nat.zero_add, List.length_map, simprocAttr])
    (try simp only [push_cast, simprocAttr]); refine call_lend [25000] none (lr := [rowB [d0, ⟨nm, [], xs⟩]]) (by simp [ndB]) (by first | rfl | simp [rowsOf, hget, rdR, rowS, sC, ndC, cmC]) (by simp [idsL, idsA]) (by simp [mvN]) (by simpa [rnA, ixOf] using hS) ?_
    rintro rv lr' rows ⟨L', g1, g2, rfl, rfl, rfl⟩
    have hlen := g1.length_eq
    simp only [List.length_cons, List.length_nil, Nat.reduceAdd] at hlen
    have hLY : L' = Y := by rw [hY]; exact wr_new hv hg g1 g2
    (refine ⟨by simp [shB, mvF, hlen], by simp [frB, baseOf], go_on ?_⟩; simp only [killA, killH, killRow, push_cast, simprocAttr])
    rw [hLY]
    have hYl : Y.length = 2 := by rw [← hLY]; exact hlen
    (try simp only [push_cast, simprocAttr])
    (refine at_call ?_; simp only [hYl, viewN, hget, tk, isC, List.map_cons, List.map_nil, List.length_map, List.length_cons, List.length_nil, Nat.reduceAdd, Nat.reduceEqDiff, if_true, if_false, reduceIte, simprocAttr]; refine rwc_v (hV2) (go_on ?_); (try simp only [push_cast, simprocAttr]))
    (try simp only [hd, Bool.not_true, push_cast, simprocAttr])
    (refine at_callW [25000] (by refine wk_frz ?_ ?_ ?_ ?_ <;> simp [hYl, frwS, frwH, frwRow, frzT, hasN, delL, hdel, leF, leHF, rowF, frzB, idsL, idsA, idsR, inH, hget, sameRow, viewN, tk]) ?_; simp only [hYl, frwS, frwH, frwRow, frzT, hasN, delL, hdel, idsA, idsL, viewN, hget, tk, isC, List.map_cons, List.map_nil, List.all_cons, List.all_nil, List.append_nil, List.drop, List.getElem?_cons_zero, List.getElem?_cons_succ, Bool.not_false, Bool.not_true, Bool.and_true, if_true, if_false, Nat.zero_add, List.length_map, simprocAttr])
    refine call_PO rfl [blsA Y] ⟨ga_c rfl, trivial⟩ hC2 ?_
    rintro w2 lent2 X x hN ⟨u, us, rfl, hO⟩
    obtain ⟨g0, cp0, rfl⟩ := hO.some (by omega)
    refine go_on ?_
    (try simp only [push_cast, simprocAttr])
    (refine at_retO (hN.ch _ _ (Ch.refl w0)) (l := [.v (.slice (some ⟨g0, 0, none⟩) Y.length cp0), bA true]) (by simp only [Try.results24, push_cast, simprocAttr]) ?_)
    exact fun loc a w v hR hG => otOut hR hO hN.xfb hN.xge hG
theorem DiskWrite_new2_o (bs : List BD) (nm : Int) (xs : List Int) (hx : xs.length ≤ 2000000) (hv : diskB bs = true) (hxb : bytesB xs = true) (hi : inB nm 1 3 = true) (hg : getB bs nm = none) (hb : ∃ d0 d1, bs = [d0, d1]) : PO Try.prog 24 [blsA bs, iA nm, intsA xs] (otB (writeD bs nm xs).1 (writeD bs nm xs).2) := by
  have hs := disk_sm hv
  have hn3 := disk_len hv
  have hV := DiskValid_pc bs hs
  have hB := bytesValid_pc xs (by omega)
  have hI := in_pc nm 1 3
  have hF := file_pc bs hs.n nm
  have hC := cloneDisk_pc bs hs
  have hi' : inR nm 1 3 = true := hi
  have hnm : 0 ≤ nm ∧ nm ≤ 3 := by simp only [inR, Bool.and_eq_true, decide_eq_true_eq] at hi'; omega
  have hwl := withB_len bs (wrB bs nm xs)
  have hnms := disk_names hv
  have hWs : SmD (wrB bs nm xs) := by
    unfold wrB
    cases hg : getB bs nm with
    | none => exact ⟨by simp, by simp only; omega⟩
    | some d =>
      have hm := (getB_name hg).2
      have hok := disk_okF hv hm
      simp only [okF, Bool.and_eq_true, decide_eq_true_eq] at hok
      exact ⟨(hs.d d hm).s, by simp only [List.length_append]; omega⟩
  have hws : SmB (withB bs (wrB bs nm xs)) := withB_sm hs (by omega) hWs
  obtain ⟨Y, hY⟩ : ∃ Y, Y = withB bs (wrB bs nm xs) := ⟨_, rfl⟩
  rw [← hY] at hws hwl
  have hwr : writeD bs nm xs = if diskB Y = true then (Y, true) else ([], false) := by unfold writeD; rw [hv, hxb, hi, ← hY]; rfl
  have hV2 := DiskValid_pc Y hws
  have hC2 := cloneDisk_o Y hws
  have hix : ixB bs nm = -1 := by
    rcases ixB_cases bs nm with ⟨h1, _⟩ | ⟨j, d, _, _, h3⟩
    · exact h1
    · rw [hg] at h3; cases h3
  rw [hix] at hF
  obtain ⟨d0, d1, rfl⟩ := hb
  have hS := sorted_pcl ([d0, d1, ⟨nm, [], xs⟩] : List BD) (by simp) fun d hd => by
    rcases List.mem_append.1 (show d ∈ [d0, d1] ++ [(⟨nm, [], xs⟩ : BD)] from hd) with hd | hd
    · exact hnms d hd
    · simp only [List.mem_singleton] at hd; subst hd; exact hnm
  cases hd : diskB Y with
  | false =>
    have hr : writeD [d0, d1] nm xs = ([], false) := by rw [hwr, hd]; rfl
    rw [hr]
    refine po_enter Try.func24 rfl rfl fun w0 => go_on ?_; (try simp only [Try.ntmps24, push_cast, simprocAttr])
    refine at_call ?_
    (try simp only [push_cast, simprocAttr])
    refine rwc_v hV ?_
    (try simp only [push_cast, simprocAttr])
    (refine at_dropS [6] (by refine wk_ok ?_ ?_ ?_ ?_ <;> simp [dropS, dropT, hasN, delL, hdel, leL, leH, idsL, idsA, idsR, inH, hget, sameRow]) ?_; simp only [dropS, dropT, hasN, delL, hdel, idsA, idsL, hget, List.map_cons, List.map_nil, List.all_cons, List.all_nil, List.append_nil, Bool.not_false, Bool.not_true, Bool.and_true, if_true, if_false, simprocAttr])
    refine go_on ?_
    (try simp only [hv, Bool.not_true, push_cast, simprocAttr])
    (refine at_call ?_; (try simp only [push_cast, simprocAttr]); refine rwc_v (hB) (go_on ?_); (try simp only [push_cast, simprocAttr]))
    (try simp only [hxb, Bool.not_true, push_cast, simprocAttr])
    (refine at_call ?_; (try simp only [push_cast, simprocAttr]); refine rwc_v (hI) (go_on ?_); (try simp only [push_cast, simprocAttr]))
    (try simp only [hi', Bool.not_true, push_cast, simprocAttr])
    refine call_share (by simp [isC]) hC ?_
    rintro rv rows ⟨rfl, rfl⟩
    refine ⟨by simp [frB, baseOf], go_on ?_⟩
    (try simp only [bC, push_cast, simprocAttr])
    (refine at_call ?_; simp only [bC, viewN, hget, tk, isC, List.map_cons, List.map_nil, List.length_map, List.length_cons, List.length_nil, Nat.reduceAdd, Nat.reduceEqDiff, if_true, if_false, reduceIte, simprocAttr]; refine rwc_v (hF) (go_on ?_); (try simp only [push_cast, simprocAttr]))
    (try simp only [show ltI (-1) 0 = true from rfl, push_cast, simprocAttr])
    refine at_chk (by first | omega | simp) ?_
    (try simp only [bC, show IntKind.i64.wrap 2 = 2 from rfl, show IntKind.i64.wrap (3 - 1) = 2 from rfl, show toIx 2 3 = some 2 from rfl, Nat.zero_add, push_cast, simprocAttr])
    refine at_chk (by first | omega | simp) ?_
    (try simp only [bC, Nat.zero_add, push_cast, simprocAttr])
    (refine at_callN 25000 1 (by refine wk_nil ?_ ?_ ?_ ?_ <;> simp [nilH, nlCell, nlE_refl, leL, leN, rowN2, nlE, nlC, nlv, idsL, idsA, idsR, inH, hget]) ?_; simp only [nilR, nilH, nlCell, Nat.reduceEqDiff, if_true, if_false, List.map_cons, List.map_nil, simprocAttr])
    (refine at_callW [46] (by refine wk_frz ?_ ?_ ?_ ?_ <;> simp [frwS, frwH, frwRow, frzT, hasN, delL, hdel, leF, leHF, rowF, frzB, idsL, idsA, idsR, inH, hget, sameRow, viewN, tk]) ?_; simp only [frwS, frwH, frwRow, frzT, hasN, delL, hdel, idsA, idsL, viewN, hget, tk, isC, List.map_cons, List.map_nil, List.all_cons, List.all_nil, List.append_nil, List.drop, List.getElem?_cons_zero, List.getElem?_cons_succ, Bool.not_false, Bool.not_true, Bool.and_true, if_true, if_false, Nat.zero_add, List.length_map, simprocAttr])
    (try simp only [push_cast, simprocAttr]); refine call_lend [25000] none (lr := [rowB [d0, d1, ⟨nm, [], xs⟩]]) (by simp [ndB]) (by first | rfl | simp [rowsOf, hget, rdR, rowS, sC, ndC, cmC]) (by simp [idsL, idsA]) (by simp [mvN]) (by simpa [rnA, ixOf] using hS) ?_
    rintro rv lr' rows ⟨L', g1, g2, rfl, rfl, rfl⟩
    have hlen := g1.length_eq
    simp only [List.length_cons, List.length_nil, Nat.reduceAdd] at hlen
    have hLY : L' = Y := by rw [hY]; exact wr_new hv hg g1 g2
    (refine ⟨by simp [shB, mvF, hlen], by simp [frB, baseOf], go_on ?_⟩; simp only [killA, killH, killRow, push_cast, simprocAttr])
    rw [hLY]
    have hYl : Y.length = 3 := by rw [← hLY]; exact hlen
    (try simp only [push_cast, simprocAttr])
    (refine at_call ?_; simp only [hYl, viewN, hget, tk, isC, List.map_cons, List.map_nil, List.length_map, List.length_cons, List.length_nil, Nat.reduceAdd, Nat.reduceEqDiff, if_true, if_false, reduceIte, simprocAttr]; refine rwc_v (hV2) (go_on ?_); (try simp only [push_cast, simprocAttr]))
    (try simp only [hd, Bool.not_false, push_cast, simprocAttr])
    (refine at_retO (Ch.refl w0) (l := [.o 6 0, bA false]) (by simp only [Try.results24, push_cast, simprocAttr]) ?_)
    exact fun loc a w v hR hG => ownNil (Ch.refl w0) rfl hR hG
  | true =>
    have hr : writeD [d0, d1] nm xs = (Y, true) := by rw [hwr, hd]; rfl
    rw [hr]
    refine po_enter Try.func24 rfl rfl fun w0 => go_on ?_; (try simp only [Try.ntmps24, push_cast, simprocAttr])
    refine at_call ?_
    (try simp only [push_cast, simprocAttr])
    refine rwc_v hV ?_
    (try simp only [push_cast, simprocAttr])
    (refine at_dropS [6] (by refine wk_ok ?_ ?_ ?_ ?_ <;> simp [dropS, dropT, hasN, delL, hdel, leL, leH, idsL, idsA, idsR, inH, hget, sameRow]) ?_; simp only [dropS, dropT, hasN, delL, hdel, idsA, idsL, hget, List.map_cons, List.map_nil, List.all_cons, List.all_nil, List.append_nil, Bool.not_false, Bool.not_true, Bool.and_true, if_true, if_false, simprocAttr])
    refine go_on ?_
    (try simp only [hv, Bool.not_true, push_cast, simprocAttr])
    (refine at_call ?_; (try simp only [push_cast, simprocAttr]); refine rwc_v (hB) (go_on ?_); (try simp only [push_cast, simprocAttr]))
    (try simp only [hxb, Bool.not_true, push_cast, simprocAttr])
    (refine at_call ?_; (try simp only [push_cast, simprocAttr]); refine rwc_v (hI) (go_on ?_); (try simp only [push_cast, simprocAttr]))
    (try simp only [hi', Bool.not_true, push_cast, simprocAttr])
    refine call_share (by simp [isC]) hC ?_
    rintro rv rows ⟨rfl, rfl⟩
    refine ⟨by simp [frB, baseOf], go_on ?_⟩
    (try simp only [bC, push_cast, simprocAttr])
    (refine at_call ?_; simp only [bC, viewN, hget, tk, isC, List.map_cons, List.map_nil, List.length_map, List.length_cons, List.length_nil, Nat.reduceAdd, Nat.reduceEqDiff, if_true, if_false, reduceIte, simprocAttr]; refine rwc_v (hF) (go_on ?_); (try simp only [push_cast, simprocAttr]))
    (try simp only [show ltI (-1) 0 = true from rfl, push_cast, simprocAttr])
    refine at_chk (by first | omega | simp) ?_
    (try simp only [bC, show IntKind.i64.wrap 2 = 2 from rfl, show IntKind.i64.wrap (3 - 1) = 2 from rfl, show toIx 2 3 = some 2 from rfl, Nat.zero_add, push_cast, simprocAttr])
    refine at_chk (by first | omega | simp) ?_
    (try simp only [bC, Nat.zero_add, push_cast, simprocAttr])
    (refine at_callN 25000 1 (by refine wk_nil ?_ ?_ ?_ ?_ <;> simp [nilH, nlCell, nlE_refl, leL, leN, rowN2, nlE, nlC, nlv, idsL, idsA, idsR, inH, hget]) ?_; simp only [nilR, nilH, nlCell, Nat.reduceEqDiff, if_true, if_false, List.map_cons, List.map_nil, simprocAttr])
    (refine at_callW [46] (by refine wk_frz ?_ ?_ ?_ ?_ <;> simp [frwS, frwH, frwRow, frzT, hasN, delL, hdel, leF, leHF, rowF, frzB, idsL, idsA, idsR, inH, hget, sameRow, viewN, tk]) ?_; simp only [frwS, frwH, frwRow, frzT, hasN, delL, hdel, idsA, idsL, viewN, hget, tk, isC, List.map_cons, List.map_nil, List.all_cons, List.all_nil, List.append_nil, List.drop, List.getElem?_cons_zero, List.getElem?_cons_succ, Bool.not_false, Bool.not_true, Bool.and_true, if_true, if_false, Nat.zero_add, List.length_map, simprocAttr])
    (try simp only [push_cast, simprocAttr]); refine call_lend [25000] none (lr := [rowB [d0, d1, ⟨nm, [], xs⟩]]) (by simp [ndB]) (by first | rfl | simp [rowsOf, hget, rdR, rowS, sC, ndC, cmC]) (by simp [idsL, idsA]) (by simp [mvN]) (by simpa [rnA, ixOf] using hS) ?_
    rintro rv lr' rows ⟨L', g1, g2, rfl, rfl, rfl⟩
    have hlen := g1.length_eq
    simp only [List.length_cons, List.length_nil, Nat.reduceAdd] at hlen
    have hLY : L' = Y := by rw [hY]; exact wr_new hv hg g1 g2
    (refine ⟨by simp [shB, mvF, hlen], by simp [frB, baseOf], go_on ?_⟩; simp only [killA, killH, killRow, push_cast, simprocAttr])
    rw [hLY]
    have hYl : Y.length = 3 := by rw [← hLY]; exact hlen
    (try simp only [push_cast, simprocAttr])
    (refine at_call ?_; simp only [hYl, viewN, hget, tk, isC, List.map_cons, List.map_nil, List.length_map, List.length_cons, List.length_nil, Nat.reduceAdd, Nat.reduceEqDiff, if_true, if_false, reduceIte, simprocAttr]; refine rwc_v (hV2) (go_on ?_); (try simp only [push_cast, simprocAttr]))
    (try simp only [hd, Bool.not_true, push_cast, simprocAttr])
    (refine at_callW [25000] (by refine wk_frz ?_ ?_ ?_ ?_ <;> simp [hYl, frwS, frwH, frwRow, frzT, hasN, delL, hdel, leF, leHF, rowF, frzB, idsL, idsA, idsR, inH, hget, sameRow, viewN, tk]) ?_; simp only [hYl, frwS, frwH, frwRow, frzT, hasN, delL, hdel, idsA, idsL, viewN, hget, tk, isC, List.map_cons, List.map_nil, List.all_cons, List.all_nil, List.append_nil, List.drop, List.getElem?_cons_zero, List.getElem?_cons_succ, Bool.not_false, Bool.not_true, Bool.and_true, if_true, if_false, Nat.zero_add, List.length_map, simprocAttr])
    refine call_PO rfl [blsA Y] ⟨ga_c rfl, trivial⟩ hC2 ?_
    rintro w2 lent2 X x hN ⟨u, us, rfl, hO⟩
    obtain ⟨g0, cp0, rfl⟩ := hO.some (by omega)
    refine go_on ?_
    (try simp only [push_cast, simprocAttr])
    (refine at_retO (hN.ch _ _ (Ch.refl w0)) (l := [.v (.slice (some ⟨g0, 0, none⟩) Y.length cp0), bA true]) (by simp only [Try.results24, push_cast, simprocAttr]) ?_)
    exact fun loc a w v hR hG => otOut hR hO hN.xfb hN.xge hG
theorem DiskWrite_new3_o (bs : List BD) (nm : Int) (xs : List Int) (hx : xs.length ≤ 2000000) (hv : diskB bs = true) (hxb : bytesB xs = true) (hi : inB nm 1 3 = true) (hg : getB bs nm = none) (hb : ∃ d0 d1 d2, bs = [d0, d1, d2]) : PO Try.prog 24 [blsA bs, iA nm, intsA xs] (otB (writeD bs nm xs).1 (writeD bs nm xs).2) := by
  have hs := disk_sm hv
  have hn3 := disk_len hv
  have hV := DiskValid_pc bs hs
  have hB := bytesValid_pc xs (by omega)
  have hI := in_pc nm 1 3
  have hF := file_pc bs hs.n nm
  have hC := cloneDisk_pc bs hs
  have hi' : inR nm 1 3 = true := hi
  have hnm : 0 ≤ nm ∧ nm ≤ 3 := by simp only [inR, Bool.and_eq_true, decide_eq_true_eq] at hi'; omega
  have hwl := withB_len bs (wrB bs nm xs)
  have hnms := disk_names hv
  have hWs : SmD (wrB bs nm xs) := by
    unfold wrB
    cases hg : getB bs nm with
    | none => exact ⟨by simp, by simp only; omega⟩
    | some d =>
      have hm := (getB_name hg).2
      have hok := disk_okF hv hm
      simp only [okF, Bool.and_eq_true, decide_eq_true_eq] at hok
      exact ⟨(hs.d d hm).s, by simp only [List.length_append]; omega⟩
  have hws : SmB (withB bs (wrB bs nm xs)) := withB_sm hs (by omega) hWs
  obtain ⟨Y, hY⟩ : ∃ Y, Y = withB bs (wrB bs nm xs) := ⟨_, rfl⟩
  rw [← hY] at hws hwl
  have hwr : writeD bs nm xs = if diskB Y = true then (Y, true) else ([], false) := by unfold writeD; rw [hv, hxb, hi, ← hY]; rfl
  have hV2 := DiskValid_pc Y hws
  have hC2 := cloneDisk_o Y hws
  have hix : ixB bs nm = -1 := by
    rcases ixB_cases bs nm with ⟨h1, _⟩ | ⟨j, d, _, _, h3⟩
    · exact h1
    · rw [hg] at h3; cases h3
  rw [hix] at hF
  obtain ⟨d0, d1, d2, rfl⟩ := hb
  have hS := sorted_pcl ([d0, d1, d2, ⟨nm, [], xs⟩] : List BD) (by simp) fun d hd => by
    rcases List.mem_append.1 (show d ∈ [d0, d1, d2] ++ [(⟨nm, [], xs⟩ : BD)] from hd) with hd | hd
    · exact hnms d hd
    · simp only [List.mem_singleton] at hd; subst hd; exact hnm
  cases hd : diskB Y with
  | false =>
    have hr : writeD [d0, d1, d2] nm xs = ([], false) := by rw [hwr, hd]; rfl
    rw [hr]
    refine po_enter Try.func24 rfl rfl fun w0 => go_on ?_; (try simp only [Try.ntmps24, push_cast, simprocAttr])
    refine at_call ?_
    (try simp only [push_cast, simprocAttr])
    refine rwc_v hV ?_
    (try simp only [push_cast, simprocAttr])
    (refine at_dropS [6] (by refine wk_ok ?_ ?_ ?_ ?_ <;> simp [dropS, dropT, hasN, delL, hdel, leL, leH, idsL, idsA, idsR, inH, hget, sameRow]) ?_; simp only [dropS, dropT, hasN, delL, hdel, idsA, idsL, hget, List.map_cons, List.map_nil, List.all_cons, List.all_nil, List.append_nil, Bool.not_false, Bool.not_true, Bool.and_true, if_true, if_false, simprocAttr])
    refine go_on ?_
    (try simp only [hv, Bool.not_true, push_cast, simprocAttr])
    (refine at_call ?_; (try simp only [push_cast, simprocAttr]); refine rwc_v (hB) (go_on ?_); (try simp only [push_cast, simprocAttr]))
    (try simp only [hxb, Bool.not_true, push_cast, simprocAttr])
    (refine at_call ?_; (try simp only [push_cast, simprocAttr]); refine rwc_v (hI) (go_on ?_); (try simp only [push_cast, simprocAttr]))
    (try simp only [hi', Bool.not_true, push_cast, simprocAttr])
    refine call_share (by simp [isC]) hC ?_
    rintro rv rows ⟨rfl, rfl⟩
    refine ⟨by simp [frB, baseOf], go_on ?_⟩
    (try simp only [bC, push_cast, simprocAttr])
    (refine at_call ?_; simp only [bC, viewN, hget, tk, isC, List.map_cons, List.map_nil, List.length_map, List.length_cons, List.length_nil, Nat.reduceAdd, Nat.reduceEqDiff, if_true, if_false, reduceIte, simprocAttr]; refine rwc_v (hF) (go_on ?_); (try simp only [push_cast, simprocAttr]))
    (try simp only [show ltI (-1) 0 = true from rfl, push_cast, simprocAttr])
    refine at_chk (by first | omega | simp) ?_
    (try simp only [bC, show IntKind.i64.wrap 3 = 3 from rfl, show IntKind.i64.wrap (4 - 1) = 3 from rfl, show toIx 3 4 = some 3 from rfl, Nat.zero_add, push_cast, simprocAttr])
    refine at_chk (by first | omega | simp) ?_
    (try simp only [bC, Nat.zero_add, push_cast, simprocAttr])
    (refine at_callN 25000 1 (by refine wk_nil ?_ ?_ ?_ ?_ <;> simp [nilH, nlCell, nlE_refl, leL, leN, rowN2, nlE, nlC, nlv, idsL, idsA, idsR, inH, hget]) ?_; simp only [nilR, nilH, nlCell, Nat.reduceEqDiff, if_true, if_false, List.map_cons, List.map_nil, simprocAttr])
    (refine at_callW [46] (by refine wk_frz ?_ ?_ ?_ ?_ <;> simp [frwS, frwH, frwRow, frzT, hasN, delL, hdel, leF, leHF, rowF, frzB, idsL, idsA, idsR, inH, hget, sameRow, viewN, tk]) ?_; simp only [frwS, frwH, frwRow, frzT, hasN, delL, hdel, idsA, idsL, viewN, hget, tk, isC, List.map_cons, List.map_nil, List.all_cons, List.all_nil, List.append_nil, List.drop, List.getElem?_cons_zero, List.getElem?_cons_succ, Bool.not_false, Bool.not_true, Bool.and_true, if_true, if_false, Nat.zero_add, List.length_map, simprocAttr])
    (try simp only [push_cast, simprocAttr]); refine call_lend [25000] none (lr := [rowB [d0, d1, d2, ⟨nm, [], xs⟩]]) (by simp [ndB]) (by first | rfl | simp [rowsOf, hget, rdR, rowS, sC, ndC, cmC]) (by simp [idsL, idsA]) (by simp [mvN]) (by simpa [rnA, ixOf] using hS) ?_
    rintro rv lr' rows ⟨L', g1, g2, rfl, rfl, rfl⟩
    have hlen := g1.length_eq
    simp only [List.length_cons, List.length_nil, Nat.reduceAdd] at hlen
    have hLY : L' = Y := by rw [hY]; exact wr_new hv hg g1 g2
    (refine ⟨by simp [shB, mvF, hlen], by simp [frB, baseOf], go_on ?_⟩; simp only [killA, killH, killRow, push_cast, simprocAttr])
    rw [hLY]
    have hYl : Y.length = 4 := by rw [← hLY]; exact hlen
    (try simp only [push_cast, simprocAttr])
    (refine at_call ?_; simp only [hYl, viewN, hget, tk, isC, List.map_cons, List.map_nil, List.length_map, List.length_cons, List.length_nil, Nat.reduceAdd, Nat.reduceEqDiff, if_true, if_false, reduceIte, simprocAttr]; refine rwc_v (hV2) (go_on ?_); (try simp only [push_cast, simprocAttr]))
    (try simp only [hd, Bool.not_false, push_cast, simprocAttr])
    (refine at_retO (Ch.refl w0) (l := [.o 6 0, bA false]) (by simp only [Try.results24, push_cast, simprocAttr]) ?_)
    exact fun loc a w v hR hG => ownNil (Ch.refl w0) rfl hR hG
  | true =>
    have hr : writeD [d0, d1, d2] nm xs = (Y, true) := by rw [hwr, hd]; rfl
    rw [hr]
    refine po_enter Try.func24 rfl rfl fun w0 => go_on ?_; (try simp only [Try.ntmps24, push_cast, simprocAttr])
    refine at_call ?_
    (try simp only [push_cast, simprocAttr])
    refine rwc_v hV ?_
    (try simp only [push_cast, simprocAttr])
    (refine at_dropS [6] (by refine wk_ok ?_ ?_ ?_ ?_ <;> simp [dropS, dropT, hasN, delL, hdel, leL, leH, idsL, idsA, idsR, inH, hget, sameRow]) ?_; simp only [dropS, dropT, hasN, delL, hdel, idsA, idsL, hget, List.map_cons, List.map_nil, List.all_cons, List.all_nil, List.append_nil, Bool.not_false, Bool.not_true, Bool.and_true, if_true, if_false, simprocAttr])
    refine go_on ?_
    (try simp only [hv, Bool.not_true, push_cast, simprocAttr])
    (refine at_call ?_; (try simp only [push_cast, simprocAttr]); refine rwc_v (hB) (go_on ?_); (try simp only [push_cast, simprocAttr]))
    (try simp only [hxb, Bool.not_true, push_cast, simprocAttr])
    (refine at_call ?_; (try simp only [push_cast, simprocAttr]); refine rwc_v (hI) (go_on ?_); (try simp only [push_cast, simprocAttr]))
    (try simp only [hi', Bool.not_true, push_cast, simprocAttr])
    refine call_share (by simp [isC]) hC ?_
    rintro rv rows ⟨rfl, rfl⟩
    refine ⟨by simp [frB, baseOf], go_on ?_⟩
    (try simp only [bC, push_cast, simprocAttr])
    (refine at_call ?_; simp only [bC, viewN, hget, tk, isC, List.map_cons, List.map_nil, List.length_map, List.length_cons, List.length_nil, Nat.reduceAdd, Nat.reduceEqDiff, if_true, if_false, reduceIte, simprocAttr]; refine rwc_v (hF) (go_on ?_); (try simp only [push_cast, simprocAttr]))
    (try simp only [show ltI (-1) 0 = true from rfl, push_cast, simprocAttr])
    refine at_chk (by first | omega | simp) ?_
    (try simp only [bC, show IntKind.i64.wrap 3 = 3 from rfl, show IntKind.i64.wrap (4 - 1) = 3 from rfl, show toIx 3 4 = some 3 from rfl, Nat.zero_add, push_cast, simprocAttr])
    refine at_chk (by first | omega | simp) ?_
    (try simp only [bC, Nat.zero_add, push_cast, simprocAttr])
    (refine at_callN 25000 1 (by refine wk_nil ?_ ?_ ?_ ?_ <;> simp [nilH, nlCell, nlE_refl, leL, leN, rowN2, nlE, nlC, nlv, idsL, idsA, idsR, inH, hget]) ?_; simp only [nilR, nilH, nlCell, Nat.reduceEqDiff, if_true, if_false, List.map_cons, List.map_nil, simprocAttr])
    (refine at_callW [46] (by refine wk_frz ?_ ?_ ?_ ?_ <;> simp [frwS, frwH, frwRow, frzT, hasN, delL, hdel, leF, leHF, rowF, frzB, idsL, idsA, idsR, inH, hget, sameRow, viewN, tk]) ?_; simp only [frwS, frwH, frwRow, frzT, hasN, delL, hdel, idsA, idsL, viewN, hget, tk, isC, List.map_cons, List.map_nil, List.all_cons, List.all_nil, List.append_nil, List.drop, List.getElem?_cons_zero, List.getElem?_cons_succ, Bool.not_false, Bool.not_true, Bool.and_true, if_true, if_false, Nat.zero_add, List.length_map, simprocAttr])
    (try simp only [push_cast, simprocAttr]); refine call_lend [25000] none (lr := [rowB [d0, d1, d2, ⟨nm, [], xs⟩]]) (by simp [ndB]) (by first | rfl | simp [rowsOf, hget, rdR, rowS, sC, ndC, cmC]) (by simp [idsL, idsA]) (by simp [mvN]) (by simpa [rnA, ixOf] using hS) ?_
    rintro rv lr' rows ⟨L', g1, g2, rfl, rfl, rfl⟩
    have hlen := g1.length_eq
    simp only [List.length_cons, List.length_nil, Nat.reduceAdd] at hlen
    have hLY : L' = Y := by rw [hY]; exact wr_new hv hg g1 g2
    (refine ⟨by simp [shB, mvF, hlen], by simp [frB, baseOf], go_on ?_⟩; simp only [killA, killH, killRow, push_cast, simprocAttr])
    rw [hLY]
    have hYl : Y.length = 4 := by rw [← hLY]; exact hlen
    (try simp only [push_cast, simprocAttr])
    (refine at_call ?_; simp only [hYl, viewN, hget, tk, isC, List.map_cons, List.map_nil, List.length_map, List.length_cons, List.length_nil, Nat.reduceAdd, Nat.reduceEqDiff, if_true, if_false, reduceIte, simprocAttr]; refine rwc_v (hV2) (go_on ?_); (try simp only [push_cast, simprocAttr]))
    (try simp only [hd, Bool.not_true, push_cast, simprocAttr])
    (refine at_callW [25000] (by refine wk_frz ?_ ?_ ?_ ?_ <;> simp [hYl, frwS, frwH, frwRow, frzT, hasN, delL, hdel, leF, leHF, rowF, frzB, idsL, idsA, idsR, inH, hget, sameRow, viewN, tk]) ?_; simp only [hYl, frwS, frwH, frwRow, frzT, hasN, delL, hdel, idsA, idsL, viewN, hget, tk, isC, List.map_cons, List.map_nil, List.all_cons, List.all_nil, List.append_nil, List.drop, List.getElem?_cons_zero, List.getElem?_cons_succ, Bool.not_false, Bool.not_true, Bool.and_true, if_true, if_false, Nat.zero_add, List.length_map, simprocAttr])
    refine call_PO rfl [blsA Y] ⟨ga_c rfl, trivial⟩ hC2 ?_
    rintro w2 lent2 X x hN ⟨u, us, rfl, hO⟩
    obtain ⟨g0, cp0, rfl⟩ := hO.some (by omega)
    refine go_on ?_
    (try simp only [push_cast, simprocAttr])
    (refine at_retO (hN.ch _ _ (Ch.refl w0)) (l := [.v (.slice (some ⟨g0, 0, none⟩) Y.length cp0), bA true]) (by simp only [Try.results24, push_cast, simprocAttr]) ?_)
    exact fun loc a w v hR hG => otOut hR hO hN.xfb hN.xge hG
end Go.Proofs.Ytepcabenjikhgaa
/-
  Walks: impl.DiskWrite, set aside: the file there.
-/
namespace Go.Proofs.Ytepcabenjikhgaa
open Go Go.RowKit Go.Proofs
attribute [local irreducible] RWp AW run kPe pe Kt effA gd gu br retR RDp runD kPeD brW gW effD
set_option maxRecDepth 100000
theorem DiskWrite_old10_o (bs : List BD) (nm : Int) (xs : List Int) (hx : xs.length ≤ 2000000) (hv : diskB bs = true) (hxb : bytesB xs = true) (hi : inB nm 1 3 = true) (d : BD) (hj : bs[0]? = some d) (hg : getB bs nm = some d) (hix : ixB bs nm = 0) (hb : ∃ d0, bs = [d0]) : PO Try.prog 24 [blsA bs, iA nm, intsA xs] (otB (writeD bs nm xs).1 (writeD bs nm xs).2) := by
  have hs := disk_sm hv
  have hn3 := disk_len hv
  have hV := DiskValid_pc bs hs
  have hB := bytesValid_pc xs (by omega)
  have hI := in_pc nm 1 3
  have hF := file_pc bs hs.n nm
  have hC := cloneDisk_pc bs hs
  have hi' : inR nm 1 3 = true := hi
  have hnm : 0 ≤ nm ∧ nm ≤ 3 := by simp only [inR, Bool.and_eq_true, decide_eq_true_eq] at hi'; omega
  have hwl := withB_len bs (wrB bs nm xs)
  have hnms := disk_names hv
  have hWs : SmD (wrB bs nm xs) := by
    unfold wrB
    cases hg : getB bs nm with
    | none => exact ⟨by simp, by simp only; omega⟩
    | some d =>
      have hm := (getB_name hg).2
      have hok := disk_okF hv hm
      simp only [okF, Bool.and_eq_true, decide_eq_true_eq] at hok
      exact ⟨(hs.d d hm).s, by simp only [List.length_append]; omega⟩
  have hws : SmB (withB bs (wrB bs nm xs)) := withB_sm hs (by omega) hWs
  obtain ⟨Y, hY⟩ : ∃ Y, Y = withB bs (wrB bs nm xs) := ⟨_, rfl⟩
  rw [← hY] at hws hwl
  have hwr : writeD bs nm xs = if diskB Y = true then (Y, true) else ([], false) := by unfold writeD; rw [hv, hxb, hi, ← hY]; rfl
  have hV2 := DiskValid_pc Y hws
  have hC2 := cloneDisk_o Y hws
  rw [hix] at hF
  obtain ⟨d0, rfl⟩ := hb
  obtain rfl : d0 = d := Option.some.inj hj
  have hfl : d0.fresh.length ≤ 400 := by
    have := disk_okF hv (getB_name hg).2
    simp only [okF, Bool.and_eq_true, decide_eq_true_eq] at this
    omega
  have hX := cloneDisk_at [d0] hs 0 d0 rfl
  have hR : rfRow (nmB [] 25000) (lnkR [d0] 0 d0 1 2) = ⟨55, 3, [[iA d0.name, .o 25001 d0.safe.length, .o 25002 d0.fresh.length]], false⟩ := by rw [lnk_rf _ (by simp)]; rfl
  have hS := sorted_pcl ([⟨d0.name, d0.safe, d0.fresh ++ xs⟩] : List BD) (by simp) fun d hd => by
    rcases mem_set_or (show d ∈ ([d0] : List BD).set 0 ⟨d0.name, d0.safe, d0.fresh ++ xs⟩ from hd) with hd | rfl
    · exact hnms d hd
    · exact hnms d0 (by simp)
  cases hd : diskB Y with
  | false =>
    have hr : writeD [d0] nm xs = ([], false) := by rw [hwr, hd]; rfl
    rw [hr]
    refine po_enter Try.func24 rfl rfl fun w0 => go_on ?_; (try simp only [Try.ntmps24, push_cast, simprocAttr])
    refine at_call ?_
    (try simp only [push_cast, simprocAttr])
    refine rwc_v hV ?_
    (try simp only [push_cast, simprocAttr])
    (refine at_dropS [6] (by refine wk_ok ?_ ?_ ?_ ?_ <;> simp [dropS, dropT, hasN, delL, hdel, leL, leH, idsL, idsA, idsR, inH, hget, sameRow]) ?_; simp only [dropS, dropT, hasN, delL, hdel, idsA, idsL, hget, List.map_cons, List.map_nil, List.all_cons, List.all_nil, List.append_nil, Bool.not_false, Bool.not_true, Bool.and_true, if_true, if_false, simprocAttr])
    refine go_on ?_
    (try simp only [hv, Bool.not_true, push_cast, simprocAttr])
    (refine at_call ?_; (try simp only [push_cast, simprocAttr]); refine rwc_v (hB) (go_on ?_); (try simp only [push_cast, simprocAttr]))
    (try simp only [hxb, Bool.not_true, push_cast, simprocAttr])
    (refine at_call ?_; (try simp only [push_cast, simprocAttr]); refine rwc_v (hI) (go_on ?_); (try simp only [push_cast, simprocAttr]))
    (try simp only [hi', Bool.not_true, push_cast, simprocAttr])
    refine call_lendX [] (lr := []) rfl rfl (by simp [idsL, idsA]) (by simpa [rfA] using hX) ?_
    rintro rv lr' rows ⟨rfl, rfl, rfl⟩
    refine ⟨rfl, by simp [frB, baseOf], go_on ?_⟩
    simp only [backX, hR, rowZ_rf, rfA, nmB, hsL, baseOf, hpOf, List.map_cons, List.map_nil, List.nil_append, List.length_nil, push_cast, simprocAttr]
    (refine at_call ?_; simp only [bC, viewN, hget, tk, isC, List.map_cons, List.map_nil, List.length_map, List.length_cons, List.length_nil, Nat.reduceAdd, Nat.reduceEqDiff, if_true, if_false, reduceIte, simprocAttr]; refine rwc_v (hF) (go_on ?_); (try simp only [push_cast, simprocAttr]))
    (try simp only [show ltI 0 0 = false from rfl, show toIx 0 1 = some 0 from rfl, bC, push_cast, simprocAttr])
    refine at_chk (by omega) ?_
    (try simp only [bC, push_cast, simprocAttr])
    (refine at_callW [25001, 25002] (by refine wk_frz ?_ ?_ ?_ ?_ <;> simp [← List.map_append, List.length_append, eq_self, frwS, frwH, frwRow, frzT, hasN, delL, hdel, leF, leHF, rowF, frzB, idsL, idsA, idsR, inH, hget, sameRow, viewN, tk]) ?_; simp only [← List.map_append, List.length_append, eq_self, frwS, frwH, frwRow, frzT, hasN, delL, hdel, idsA, idsL, viewN, hget, tk, isC, List.map_cons, List.map_nil, List.all_cons, List.all_nil, List.append_nil, List.drop, List.getElem?_cons_zero, List.getElem?_cons_succ, Bool.not_false, Bool.not_true, Bool.and_true, if_true, if_false, Nat.zero_add, List.length_map, simprocAttr])
    (try simp only [push_cast, simprocAttr]); refine call_lend [25000] none (lr := [rowB [⟨d0.name, d0.safe, d0.fresh ++ xs⟩]]) (by simp [ndB]) (by first | rfl | simp [rowsOf, hget, rdR, rowS, sC, ndC, cmC]) (by simp [idsL, idsA]) (by simp [mvN]) (by simpa [rnA, ixOf] using hS) ?_
    rintro rv lr' rows ⟨L', g1, g2, rfl, rfl, rfl⟩
    have hlen := g1.length_eq
    simp only [List.length_cons, List.length_nil, Nat.reduceAdd] at hlen
    have hLY : L' = Y := by rw [hY]; exact wr_old hv hj hg g1 g2
    (refine ⟨by simp [shB, mvF, hlen], by simp [frB, baseOf], go_on ?_⟩; simp only [killA, killH, killRow, push_cast, simprocAttr])
    rw [hLY]
    have hYl : Y.length = 1 := by rw [← hLY]; exact hlen
    (try simp only [push_cast, simprocAttr])
    (refine at_call ?_; simp only [hYl, viewN, hget, tk, isC, List.map_cons, List.map_nil, List.length_map, List.length_cons, List.length_nil, Nat.reduceAdd, Nat.reduceEqDiff, if_true, if_false, reduceIte, simprocAttr]; refine rwc_v (hV2) (go_on ?_); (try simp only [push_cast, simprocAttr]))
    (try simp only [hd, Bool.not_false, push_cast, simprocAttr])
    (refine at_retO (Ch.refl w0) (l := [.o 6 0, bA false]) (by simp only [Try.results24, push_cast, simprocAttr]) ?_)
    exact fun loc a w v hR hG => ownNil (Ch.refl w0) rfl hR hG
  | true =>
    have hr : writeD [d0] nm xs = (Y, true) := by rw [hwr, hd]; rfl
    rw [hr]
    refine po_enter Try.func24 rfl rfl fun w0 => go_on ?_; (try simp only [Try.ntmps24, push_cast, simprocAttr])
    refine at_call ?_
    (try simp only [push_cast, simprocAttr])
    refine rwc_v hV ?_
    (try simp only [push_cast, simprocAttr])
    (refine at_dropS [6] (by refine wk_ok ?_ ?_ ?_ ?_ <;> simp [dropS, dropT, hasN, delL, hdel, leL, leH, idsL, idsA, idsR, inH, hget, sameRow]) ?_; simp only [dropS, dropT, hasN, delL, hdel, idsA, idsL, hget, List.map_cons, List.map_nil, List.all_cons, List.all_nil, List.append_nil, Bool.not_false, Bool.not_true, Bool.and_true, if_true, if_false, simprocAttr])
    refine go_on ?_
    (try simp only [hv, Bool.not_true, push_cast, simprocAttr])
    (refine at_call ?_; (try simp only [push_cast, simprocAttr]); refine rwc_v (hB) (go_on ?_); (try simp only [push_cast, simprocAttr]))
    (try simp only [hxb, Bool.not_true, push_cast, simprocAttr])
    (refine at_call ?_; (try simp only [push_cast, simprocAttr]); refine rwc_v (hI) (go_on ?_); (try simp only [push_cast, simprocAttr]))
    (try simp only [hi', Bool.not_true, push_cast, simprocAttr])
    refine call_lendX [] (lr := []) rfl rfl (by simp [idsL, idsA]) (by simpa [rfA] using hX) ?_
    rintro rv lr' rows ⟨rfl, rfl, rfl⟩
    refine ⟨rfl, by simp [frB, baseOf], go_on ?_⟩
    simp only [backX, hR, rowZ_rf, rfA, nmB, hsL, baseOf, hpOf, List.map_cons, List.map_nil, List.nil_append, List.length_nil, push_cast, simprocAttr]
    (refine at_call ?_; simp only [bC, viewN, hget, tk, isC, List.map_cons, List.map_nil, List.length_map, List.length_cons, List.length_nil, Nat.reduceAdd, Nat.reduceEqDiff, if_true, if_false, reduceIte, simprocAttr]; refine rwc_v (hF) (go_on ?_); (try simp only [push_cast, simprocAttr]))
    (try simp only [show ltI 0 0 = false from rfl, show toIx 0 1 = some 0 from rfl, bC, push_cast, simprocAttr])
    refine at_chk (by omega) ?_
    (try simp only [bC, push_cast, simprocAttr])
    (refine at_callW [25001, 25002] (by refine wk_frz ?_ ?_ ?_ ?_ <;> simp [← List.map_append, List.length_append, eq_self, frwS, frwH, frwRow, frzT, hasN, delL, hdel, leF, leHF, rowF, frzB, idsL, idsA, idsR, inH, hget, sameRow, viewN, tk]) ?_; simp only [← List.map_append, List.length_append, eq_self, frwS, frwH, frwRow, frzT, hasN, delL, hdel, idsA, idsL, viewN, hget, tk, isC, List.map_cons, List.map_nil, List.all_cons, List.all_nil, List.append_nil, List.drop, List.getElem?_cons_zero, List.getElem?_cons_succ, Bool.not_false, Bool.not_true, Bool.and_true, if_true, if_false, Nat.zero_add, List.length_map, simprocAttr])
    (try simp only [push_cast, simprocAttr]); refine call_lend [25000] none (lr := [rowB [⟨d0.name, d0.safe, d0.fresh ++ xs⟩]]) (by simp [ndB]) (by first | rfl | simp [rowsOf, hget, rdR, rowS, sC, ndC, cmC]) (by simp [idsL, idsA]) (by simp [mvN]) (by simpa [rnA, ixOf] using hS) ?_
    rintro rv lr' rows ⟨L', g1, g2, rfl, rfl, rfl⟩
    have hlen := g1.length_eq
    simp only [List.length_cons, List.length_nil, Nat.reduceAdd] at hlen
    have hLY : L' = Y := by rw [hY]; exact wr_old hv hj hg g1 g2
    (refine ⟨by simp [shB, mvF, hlen], by simp [frB, baseOf], go_on ?_⟩; simp only [killA, killH, killRow, push_cast, simprocAttr])
    rw [hLY]
    have hYl : Y.length = 1 := by rw [← hLY]; exact hlen
    (try simp only [push_cast, simprocAttr])
    (refine at_call ?_; simp only [hYl, viewN, hget, tk, isC, List.map_cons, List.map_nil, List.length_map, List.length_cons, List.length_nil, Nat.reduceAdd, Nat.reduceEqDiff, if_true, if_false, reduceIte, simprocAttr]; refine rwc_v (hV2) (go_on ?_); (try simp only [push_cast, simprocAttr]))
    (try simp only [hd, Bool.not_true, push_cast, simprocAttr])
    (refine at_callW [25000] (by refine wk_frz ?_ ?_ ?_ ?_ <;> simp [hYl, frwS, frwH, frwRow, frzT, hasN, delL, hdel, leF, leHF, rowF, frzB, idsL, idsA, idsR, inH, hget, sameRow, viewN, tk]) ?_; simp only [hYl, frwS, frwH, frwRow, frzT, hasN, delL, hdel, idsA, idsL, viewN, hget, tk, isC, List.map_cons, List.map_nil, List.all_cons, List.all_nil, List.append_nil, List.drop, List.getElem?_cons_zero, List.getElem?_cons_succ, Bool.not_false, Bool.not_true, Bool.and_true, if_true, if_false, Nat.zero_add, List.length_map, simprocAttr])
    refine call_PO rfl [blsA Y] ⟨ga_c rfl, trivial⟩ hC2 ?_
    rintro w2 lent2 X x hN ⟨u, us, rfl, hO⟩
    obtain ⟨g0, cp0, rfl⟩ := hO.some (by omega)
    refine go_on ?_
    (try simp only [push_cast, simprocAttr])
    (refine at_retO (hN.ch _ _ (Ch.refl w0)) (l := [.v (.slice (some ⟨g0, 0, none⟩) Y.length cp0), bA true]) (by simp only [Try.results24, push_cast, simprocAttr]) ?_)
    exact fun loc a w v hR hG => otOut hR hO hN.xfb hN.xge hG
theorem DiskWrite_old20_o (bs : List BD) (nm : Int) (xs : List Int) (hx : xs.length ≤ 2000000) (hv : diskB bs = true) (hxb : bytesB xs = true) (hi : inB nm 1 3 = true) (d : BD) (hj : bs[0]? = some d) (hg : getB bs nm = some d) (hix : ixB bs nm = 0) (hb : ∃ d0 d1, bs = [d0, d1]) : PO Try.prog 24 [blsA bs, iA nm, intsA xs] (otB (writeD bs nm xs).1 (writeD bs nm xs).2) := by
  have hs := disk_sm hv
  have hn3 := disk_len hv
  have hV := DiskValid_pc bs hs
  have hB := bytesValid_pc xs (by omega)
  have hI := in_pc nm 1 3
  have hF := file_pc bs hs.n nm
  have hC := cloneDisk_pc bs hs
  have hi' : inR nm 1 3 = true := hi
  have hnm : 0 ≤ nm ∧ nm ≤ 3 := by simp only [inR, Bool.and_eq_true, decide_eq_true_eq] at hi'; omega
  have hwl := withB_len bs (wrB bs nm xs)
  have hnms := disk_names hv
  have hWs : SmD (wrB bs nm xs) := by
    unfold wrB
    cases hg : getB bs nm with
    | none => exact ⟨by simp, by simp only; omega⟩
    | some d =>
      have hm := (getB_name hg).2
      have hok := disk_okF hv hm
      simp only [okF, Bool.and_eq_true, decide_eq_true_eq] at hok
      exact ⟨(hs.d d hm).s, by simp only [List.length_append]; omega⟩
  have hws : SmB (withB bs (wrB bs nm xs)) := withB_sm hs (by omega) hWs
  obtain ⟨Y, hY⟩ : ∃ Y, Y = withB bs (wrB bs nm xs) := ⟨_, rfl⟩
  rw [← hY] at hws hwl
  have hwr : writeD bs nm xs = if diskB Y = true then (Y, true) else ([], false) := by unfold writeD; rw [hv, hxb, hi, ← hY]; rfl
  have hV2 := DiskValid_pc Y hws
  have hC2 := cloneDisk_o Y hws
  rw [hix] at hF
  obtain ⟨d0, d1, rfl⟩ := hb
  obtain rfl : d0 = d := Option.some.inj hj
  have hfl : d0.fresh.length ≤ 400 := by
    have := disk_okF hv (getB_name hg).2
    simp only [okF, Bool.and_eq_true, decide_eq_true_eq] at this
    omega
  have hX := cloneDisk_at [d0, d1] hs 0 d0 rfl
  have hR : rfRow (nmB [] 25000) (lnkR [d0, d1] 0 d0 1 2) = ⟨55, 3, [[iA d0.name, .o 25001 d0.safe.length, .o 25002 d0.fresh.length], [iA d1.name, intsA d1.safe, intsA d1.fresh]], false⟩ := by rw [lnk_rf _ (by simp)]; rfl
  have hS := sorted_pcl ([⟨d0.name, d0.safe, d0.fresh ++ xs⟩, d1] : List BD) (by simp) fun d hd => by
    rcases mem_set_or (show d ∈ ([d0, d1] : List BD).set 0 ⟨d0.name, d0.safe, d0.fresh ++ xs⟩ from hd) with hd | rfl
    · exact hnms d hd
    · exact hnms d0 (by simp)
  cases hd : diskB Y with
  | false =>
    have hr : writeD [d0, d1] nm xs = ([], false) := by rw [hwr, hd]; rfl
    rw [hr]
    refine po_enter Try.func24 rfl rfl fun w0 => go_on ?_; (try simp only [Try.ntmps24, push_cast, simprocAttr])
    refine at_call ?_
    (try simp only [push_cast, simprocAttr])
    refine rwc_v hV ?_
    (try simp only [push_cast, simprocAttr])
    (refine at_dropS [6] (by refine wk_ok ?_ ?_ ?_ ?_ <;> simp [dropS, dropT, hasN, delL, hdel, leL, leH, idsL, idsA, idsR, inH, hget, sameRow]) ?_; simp only [dropS, dropT, hasN, delL, hdel, idsA, idsL, hget, List.map_cons, List.map_nil, List.all_cons, List.all_nil, List.append_nil, Bool.not_false, Bool.not_true, Bool.and_true, if_true, if_false, simprocAttr])
    refine go_on ?_
    (try simp only [hv, Bool.not_true, push_cast, simprocAttr])
    (refine at_call ?_; (try simp only [push_cast, simprocAttr]); refine rwc_v (hB) (go_on ?_); (try simp only [push_cast, simprocAttr]))
    (try simp only [hxb, Bool.not_true, push_cast, simprocAttr])
    (refine at_call ?_; (try simp only [push_cast, simprocAttr]); refine rwc_v (hI) (go_on ?_); (try simp only [push_cast, simprocAttr]))
    (try simp only [hi', Bool.not_true, push_cast, simprocAttr])
    refine call_lendX [] (lr := []) rfl rfl (by simp [idsL, idsA]) (by simpa [rfA] using hX) ?_
    rintro rv lr' rows ⟨rfl, rfl, rfl⟩
    refine ⟨rfl, by simp [frB, baseOf], go_on ?_⟩
    simp only [backX, hR, rowZ_rf, rfA, nmB, hsL, baseOf, hpOf, List.map_cons, List.map_nil, List.nil_append, List.length_nil, push_cast, simprocAttr]
    (refine at_call ?_; simp only [bC, viewN, hget, tk, isC, List.map_cons, List.map_nil, List.length_map, List.length_cons, List.length_nil, Nat.reduceAdd, Nat.reduceEqDiff, if_true, if_false, reduceIte, simprocAttr]; refine rwc_v (hF) (go_on ?_); (try simp only [push_cast, simprocAttr]))
    (try simp only [show ltI 0 0 = false from rfl, show toIx 0 2 = some 0 from rfl, bC, push_cast, simprocAttr])
    refine at_chk (by omega) ?_
    (try simp only [bC, push_cast, simprocAttr])
    (refine at_callW [25001, 25002] (by refine wk_frz ?_ ?_ ?_ ?_ <;> simp [← List.map_append, List.length_append, eq_self, frwS, frwH, frwRow, frzT, hasN, delL, hdel, leF, leHF, rowF, frzB, idsL, idsA, idsR, inH, hget, sameRow, viewN, tk]) ?_; simp only [← List.map_append, List.length_append, eq_self, frwS, frwH, frwRow, frzT, hasN, delL, hdel, idsA, idsL, viewN, hget, tk, isC, List.map_cons, List.map_nil, List.all_cons, List.all_nil, List.append_nil, List.drop, List.getElem?_cons_zero, List.getElem?_cons_succ, Bool.not_false, Bool.not_true, Bool.and_true, if_true, if_false, Nat.zero_add, List.length_map, simprocAttr])
    (try simp only [push_cast, simprocAttr]); refine call_lend [25000] none (lr := [rowB [⟨d0.name, d0.safe, d0.fresh ++ xs⟩, d1]]) (by simp [ndB]) (by first | rfl | simp [rowsOf, hget, rdR, rowS, sC, ndC, cmC]) (by simp [idsL, idsA]) (by simp [mvN]) (by simpa [rnA, ixOf] using hS) ?_
    rintro rv lr' rows ⟨L', g1, g2, rfl, rfl, rfl⟩
    have hlen := g1.length_eq
    simp only [List.length_cons, List.length_nil, Nat.reduceAdd] at hlen
    have hLY : L' = Y := by rw [hY]; exact wr_old hv hj hg g1 g2
    (refine ⟨by simp [shB, mvF, hlen], by simp [frB, baseOf], go_on ?_⟩; simp only [killA, killH, killRow, push_cast, simprocAttr])
    rw [hLY]
    have hYl : Y.length = 2 := by rw [← hLY]; exact hlen
    (try simp only [push_cast, simprocAttr])
    (refine at_call ?_; simp only [hYl, viewN, hget, tk, isC, List.map_cons, List.map_nil, List.length_map, List.length_cons, List.length_nil, Nat.reduceAdd, Nat.reduceEqDiff, if_true, if_false, reduceIte, simprocAttr]; refine rwc_v (hV2) (go_on ?_); (try simp only [push_cast, simprocAttr]))
    (try simp only [hd, Bool.not_false, push_cast, simprocAttr])
    (refine at_retO (Ch.refl w0) (l := [.o 6 0, bA false]) (by simp only [Try.results24, push_cast, simprocAttr]) ?_)
    exact fun loc a w v hR hG => ownNil (Ch.refl w0) rfl hR hG
  | true =>
    have hr : writeD [d0, d1] nm xs = (Y, true) := by rw [hwr, hd]; rfl
    rw [hr]
    refine po_enter Try.func24 rfl rfl fun w0 => go_on ?_; (try simp only [Try.ntmps24, push_cast, simprocAttr])
    refine at_call ?_
    (try simp only [push_cast, simprocAttr])
    refine rwc_v hV ?_
    (try simp only [push_cast, simprocAttr])
    (refine at_dropS [6] (by refine wk_ok ?_ ?_ ?_ ?_ <;> simp [dropS, dropT, hasN, delL, hdel, leL, leH, idsL, idsA, idsR, inH, hget, sameRow]) ?_; simp only [dropS, dropT, hasN, delL, hdel, idsA, idsL, hget, List.map_cons, List.map_nil, List.all_cons, List.all_nil, List.append_nil, Bool.not_false, Bool.not_true, Bool.and_true, if_true, if_false, simprocAttr])
    refine go_on ?_
    (try simp only [hv, Bool.not_true, push_cast, simprocAttr])
    (refine at_call ?_; (try simp only [push_cast, simprocAttr]); refine rwc_v (hB) (go_on ?_); (try simp only [push_cast, simprocAttr]))
    (try simp only [hxb, Bool.not_true, push_cast, simprocAttr])
    (refine at_call ?_; (try simp only [push_cast, simprocAttr]); refine rwc_v (hI) (go_on ?_); (try simp only [push_cast, simprocAttr]))
    (try simp only [hi', Bool.not_true, push_cast, simprocAttr])
    refine call_lendX [] (lr := []) rfl rfl (by simp [idsL, idsA]) (by simpa [rfA] using hX) ?_
    rintro rv lr' rows ⟨rfl, rfl, rfl⟩
    refine ⟨rfl, by simp [frB, baseOf], go_on ?_⟩
    simp only [backX, hR, rowZ_rf, rfA, nmB, hsL, baseOf, hpOf, List.map_cons, List.map_nil, List.nil_append, List.length_nil, push_cast, simprocAttr]
    (refine at_call ?_; simp only [bC, viewN, hget, tk, isC, List.map_cons, List.map_nil, List.length_map, List.length_cons, List.length_nil, Nat.reduceAdd, Nat.reduceEqDiff, if_true, if_false, reduceIte, simprocAttr]; refine rwc_v (hF) (go_on ?_); (try simp only [push_cast, simprocAttr]))
    (try simp only [show ltI 0 0 = false from rfl, show toIx 0 2 = some 0 from rfl, bC, push_cast, simprocAttr])
    refine at_chk (by omega) ?_
    (try simp only [bC, push_cast, simprocAttr])
    (refine at_callW [25001, 25002] (by refine wk_frz ?_ ?_ ?_ ?_ <;> simp [← List.map_append, List.length_append, eq_self, frwS, frwH, frwRow, frzT, hasN, delL, hdel, leF, leHF, rowF, frzB, idsL, idsA, idsR, inH, hget, sameRow, viewN, tk]) ?_; simp only [← List.map_append, List.length_append, eq_self, frwS, frwH, frwRow, frzT, hasN, delL, hdel, idsA, idsL, viewN, hget, tk, isC, List.map_cons, List.map_nil, List.all_cons, List.all_nil, List.append_nil, List.drop, List.getElem?_cons_zero, List.getElem?_cons_succ, Bool.not_false, Bool.not_true, Bool.and_true, if_true, if_false, Nat.zero_add, List.length_map, simprocAttr])
    (try simp only [push_cast, simprocAttr]); refine call_lend [25000] none (lr := [rowB [⟨d0.name, d0.safe, d0.fresh ++ xs⟩, d1]]) (by simp [ndB]) (by first | rfl | simp [rowsOf, hget, rdR, rowS, sC, ndC, cmC]) (by simp [idsL, idsA]) (by simp [mvN]) (by simpa [rnA, ixOf] using hS) ?_
    rintro rv lr' rows ⟨L', g1, g2, rfl, rfl, rfl⟩
    have hlen := g1.length_eq
    simp only [List.length_cons, List.length_nil, Nat.reduceAdd] at hlen
    have hLY : L' = Y := by rw [hY]; exact wr_old hv hj hg g1 g2
    (refine ⟨by simp [shB, mvF, hlen], by simp [frB, baseOf], go_on ?_⟩; simp only [killA, killH, killRow, push_cast, simprocAttr])
    rw [hLY]
    have hYl : Y.length = 2 := by rw [← hLY]; exact hlen
    (try simp only [push_cast, simprocAttr])
    (refine at_call ?_; simp only [hYl, viewN, hget, tk, isC, List.map_cons, List.map_nil, List.length_map, List.length_cons, List.length_nil, Nat.reduceAdd, Nat.reduceEqDiff, if_true, if_false, reduceIte, simprocAttr]; refine rwc_v (hV2) (go_on ?_); (try simp only [push_cast, simprocAttr]))
    (try simp only [hd, Bool.not_true, push_cast, simprocAttr])
    (refine at_callW [25000] (by refine wk_frz ?_ ?_ ?_ ?_ <;> simp [hYl, frwS, frwH, frwRow, frzT, hasN, delL, hdel, leF, leHF, rowF, frzB, idsL, idsA, idsR, inH, hget, sameRow, viewN, tk]) ?_; simp only [hYl, frwS, frwH, frwRow, frzT, hasN, delL, hdel, idsA, idsL, viewN, hget, tk, isC, List.map_cons, List.map_nil, List.all_cons, List.all_nil, List.append_nil, List.drop, List.getElem?_cons_zero, List.getElem?_cons_succ, Bool.not_false, Bool.not_true, Bool.and_true, if_true, if_false, Nat.zero_add, List.length_map, simprocAttr])
    refine call_PO rfl [blsA Y] ⟨ga_c rfl, trivial⟩ hC2 ?_
    rintro w2 lent2 X x hN ⟨u, us, rfl, hO⟩
    obtain ⟨g0, cp0, rfl⟩ := hO.some (by omega)
    refine go_on ?_
    (try simp only [push_cast, simprocAttr])
    (refine at_retO (hN.ch _ _ (Ch.refl w0)) (l := [.v (.slice (some ⟨g0, 0, none⟩) Y.length cp0), bA true]) (by simp only [Try.results24, push_cast, simprocAttr]) ?_)
    exact fun loc a w v hR hG => otOut hR hO hN.xfb hN.xge hG
theorem DiskWrite_old21_o (bs : List BD) (nm : Int) (xs : List Int) (hx : xs.length ≤ 2000000) (hv : diskB bs = true) (hxb : bytesB xs = true) (hi : inB nm 1 3 = true) (d : BD) (hj : bs[1]? = some d) (hg : getB bs nm = some d) (hix : ixB bs nm = 1) (hb : ∃ d0 d1, bs = [d0, d1]) : PO Try.prog 24 [blsA bs, iA nm, intsA xs] (otB (writeD bs nm xs).1 (writeD bs nm xs).2) := by
  have hs := disk_sm hv
  have hn3 := disk_len hv
  have hV := DiskValid_pc bs hs
  have hB := bytesValid_pc xs (by omega)
  have hI := in_pc nm 1 3
  have hF := file_pc bs hs.n nm
  have hC := cloneDisk_pc bs hs
  have hi' : inR nm 1 3 = true := hi
  have hnm : 0 ≤ nm ∧ nm ≤ 3 := by simp only [inR, Bool.and_eq_true, decide_eq_true_eq] at hi'; omega
  have hwl := withB_len bs (wrB bs nm xs)
  have hnms := disk_names hv
  have hWs : SmD (wrB bs nm xs) := by
    unfold wrB
    cases hg : getB bs nm with
    | none => exact ⟨by simp, by simp only; omega⟩
    | some d =>
      have hm := (getB_name hg).2
      have hok := disk_okF hv hm
      simp only [okF, Bool.and_eq_true, decide_eq_true_eq] at hok
      exact ⟨(hs.d d hm).s, by simp only [List.length_append]; omega⟩
  have hws : SmB (withB bs (wrB bs nm xs)) := withB_sm hs (by omega) hWs
  obtain ⟨Y, hY⟩ : ∃ Y, Y = withB bs (wrB bs nm xs) := ⟨_, rfl⟩
  rw [← hY] at hws hwl
  have hwr : writeD bs nm xs = if diskB Y = true then (Y, true) else ([], false) := by unfold writeD; rw [hv, hxb, hi, ← hY]; rfl
  have hV2 := DiskValid_pc Y hws
  have hC2 := cloneDisk_o Y hws
  rw [hix] at hF
  obtain ⟨d0, d1, rfl⟩ := hb
  obtain rfl : d1 = d := Option.some.inj hj
  have hfl : d1.fresh.length ≤ 400 := by
    have := disk_okF hv (getB_name hg).2
    simp only [okF, Bool.and_eq_true, decide_eq_true_eq] at this
    omega
  have hX := cloneDisk_at [d0, d1] hs 1 d1 rfl
  have hR : rfRow (nmB [] 25000) (lnkR [d0, d1] 1 d1 1 2) = ⟨55, 3, [[iA d0.name, intsA d0.safe, intsA d0.fresh], [iA d1.name, .o 25001 d1.safe.length, .o 25002 d1.fresh.length]], false⟩ := by rw [lnk_rf _ (by simp)]; rfl
  have hS := sorted_pcl ([d0, ⟨d1.name, d1.safe, d1.fresh ++ xs⟩] : List BD) (by simp) fun d hd => by
    rcases mem_set_or (show d ∈ ([d0, d1] : List BD).set 1 ⟨d1.name, d1.safe, d1.fresh ++ xs⟩ from hd) with hd | rfl
    · exact hnms d hd
    · exact hnms d1 (by simp)
  cases hd : diskB Y with
  | false =>
    have hr : writeD [d0, d1] nm xs = ([], false) := by rw [hwr, hd]; rfl
    rw [hr]
    refine po_enter Try.func24 rfl rfl fun w0 => go_on ?_; (try simp only [Try.ntmps24, push_cast, simprocAttr])
    refine at_call ?_
    (try simp only [push_cast, simprocAttr])
    refine rwc_v hV ?_
    (try simp only [push_cast, simprocAttr])
    (refine at_dropS [6] (by refine wk_ok ?_ ?_ ?_ ?_ <;> simp [dropS, dropT, hasN, delL, hdel, leL, leH, idsL, idsA, idsR, inH, hget, sameRow]) ?_; simp only [dropS, dropT, hasN, delL, hdel, idsA, idsL, hget, List.map_cons, List.map_nil, List.all_cons, List.all_nil, List.append_nil, Bool.not_false, Bool.not_true, Bool.and_true, if_true, if_false, simprocAttr])
    refine go_on ?_
    (try simp only [hv, Bool.not_true, push_cast, simprocAttr])
    (refine at_call ?_; (try simp only [push_cast, simprocAttr]); refine rwc_v (hB) (go_on ?_); (try simp only [push_cast, simprocAttr]))
    (try simp only [hxb, Bool.not_true, push_cast, simprocAttr])
    (refine at_call ?_; (try simp only [push_cast, simprocAttr]); refine rwc_v (hI) (go_on ?_); (try simp only [push_cast, simprocAttr]))
    (try simp only [hi', Bool.not_true, push_cast, simprocAttr])
    refine call_lendX [] (lr := []) rfl rfl (by simp [idsL, idsA]) (by simpa [rfA] using hX) ?_
    rintro rv lr' rows ⟨rfl, rfl, rfl⟩
    refine ⟨rfl, by simp [frB, baseOf], go_on ?_⟩
    simp only [backX, hR, rowZ_rf, rfA, nmB, hsL, baseOf, hpOf, List.map_cons, List.map_nil, List.nil_append, List.length_nil, push_cast, simprocAttr]
    (refine at_call ?_; simp only [bC, viewN, hget, tk, isC, List.map_cons, List.map_nil, List.length_map, List.length_cons, List.length_nil, Nat.reduceAdd, Nat.reduceEqDiff, if_true, if_false, reduceIte, simprocAttr]; refine rwc_v (hF) (go_on ?_); (try simp only [push_cast, simprocAttr]))
    (try simp only [show ltI 1 0 = false from rfl, show toIx 1 2 = some 1 from rfl, bC, push_cast, simprocAttr])
    refine at_chk (by omega) ?_
    (try simp only [bC, push_cast, simprocAttr])
    (refine at_callW [25001, 25002] (by refine wk_frz ?_ ?_ ?_ ?_ <;> simp [← List.map_append, List.length_append, eq_self, frwS, frwH, frwRow, frzT, hasN, delL, hdel, leF, leHF, rowF, frzB, idsL, idsA, idsR, inH, hget, sameRow, viewN, tk]) ?_; simp only [← List.map_append, List.length_append, eq_self, frwS, frwH, frwRow, frzT, hasN, delL, hdel, idsA, idsL, viewN, hget, tk, isC, List.map_cons, List.map_nil, List.all_cons, List.all_nil, List.append_nil, List.drop, List.getElem?_cons_zero, List.getElem?_cons_succ, Bool.not_false, Bool.not_true, Bool.and_true, if_true, if_false, Nat.zero_add, List.length_map, simprocAttr])
    (try simp only [push_cast, simprocAttr]); refine call_lend [25000] none (lr := [rowB [d0, ⟨d1.name, d1.safe, d1.fresh ++ xs⟩]]) (by simp [ndB]) (by first | rfl | simp [rowsOf, hget, rdR, rowS, sC, ndC, cmC]) (by simp [idsL, idsA]) (by simp [mvN]) (by simpa [rnA, ixOf] using hS) ?_
    rintro rv lr' rows ⟨L', g1, g2, rfl, rfl, rfl⟩
    have hlen := g1.length_eq
    simp only [List.length_cons, List.length_nil, Nat.reduceAdd] at hlen
    have hLY : L' = Y := by rw [hY]; exact wr_old hv hj hg g1 g2
    (refine ⟨by simp [shB, mvF, hlen], by simp [frB, baseOf], go_on ?_⟩; simp only [killA, killH, killRow, push_cast, simprocAttr])
    rw [hLY]
    have hYl : Y.length = 2 := by rw [← hLY]; exact hlen
    (try simp only [push_cast, simprocAttr])
    (refine at_call ?_; simp only [hYl, viewN, hget, tk, isC, List.map_cons, List.map_nil, List.length_map, List.length_cons, List.length_nil, Nat.reduceAdd, Nat.reduceEqDiff, if_true, if_false, reduceIte, simprocAttr]; refine rwc_v (hV2) (go_on ?_); (try simp only [push_cast, simprocAttr]))
    (try simp only [hd, Bool.not_false, push_cast, simprocAttr])
    (refine at_retO (Ch.refl w0) (l := [.o 6 0, bA false]) (by simp only [Try.results24, push_cast, simprocAttr]) ?_)
    exact fun loc a w v hR hG => ownNil (Ch.refl w0) rfl hR hG
  | true =>
    have hr : writeD [d0, d1] nm xs = (Y, true) := by rw [hwr, hd]; rfl
    rw [hr]
    refine po_enter Try.func24 rfl rfl fun w0 => go_on ?_; (try simp only [Try.ntmps24, push_cast, simprocAttr])
    refine at_call ?_
    (try simp only [push_cast, simprocAttr])
    refine rwc_v hV ?_
    (try simp only [push_cast, simprocAttr])
    (refine at_dropS [6] (by refine wk_ok ?_ ?_ ?_ ?_ <;> simp [dropS, dropT, hasN, delL, hdel, leL, leH, idsL, idsA, idsR, inH, hget, sameRow]) ?_; simp only [dropS, dropT, hasN, delL, hdel, idsA, idsL, hget, List.map_cons, List.map_nil, List.all_cons, List.all_nil, List.append_nil, Bool.not_false, Bool.not_true, Bool.and_true, if_true, if_false, simprocAttr])
    refine go_on ?_
    (try simp only [hv, Bool.not_true, push_cast, simprocAttr])
    (refine at_call ?_; (try simp only [push_cast, simprocAttr]); refine rwc_v (hB) (go_on ?_); (try simp only [push_cast, simprocAttr]))
    (try simp only [hxb, Bool.not_true, push_cast, simprocAttr])
    (refine at_call ?_; (try simp only [push_cast, simprocAttr]); refine rwc_v (hI) (go_on ?_); (try simp only [push_cast, simprocAttr]))
    (try simp only [hi', Bool.not_true, push_cast, simprocAttr])
    refine call_lendX [] (lr := []) rfl rfl (by simp [idsL, idsA]) (by simpa [rfA] using hX) ?_
    rintro rv lr' rows ⟨rfl, rfl, rfl⟩
    refine ⟨rfl, by simp [frB, baseOf], go_on ?_⟩
    simp only [backX, hR, rowZ_rf, rfA, nmB, hsL, baseOf, hpOf, List.map_cons, List.map_nil, List.nil_append, List.length_nil, push_cast, simprocAttr]
    (refine at_call ?_; simp only [bC, viewN, hget, tk, isC, List.map_cons, List.map_nil, List.length_map, List.length_cons, List.length_nil, Nat.reduceAdd, Nat.reduceEqDiff, if_true, if_false, reduceIte, simprocAttr]; refine rwc_v (hF) (go_on ?_); (try simp only [push_cast, simprocAttr]))
    (try simp only [show ltI 1 0 = false from rfl, show toIx 1 2 = some 1 from rfl, bC, push_cast, simprocAttr])
    refine at_chk (by omega) ?_
    (try simp only [bC, push_cast, simprocAttr])
    (refine at_callW [25001, 25002] (by refine wk_frz ?_ ?_ ?_ ?_ <;> simp [← List.map_append, List.length_append, eq_self, frwS, frwH, frwRow, frzT, hasN, delL, hdel, leF, leHF, rowF, frzB, idsL, idsA, idsR, inH, hget, sameRow, viewN, tk]) ?_; simp only [← List.map_append, List.length_append, eq_self, frwS, frwH, frwRow, frzT, hasN, delL, hdel, idsA, idsL, viewN, hget, tk, isC, List.map_cons, List.map_nil, List.all_cons, List.all_nil, List.append_nil, List.drop, List.getElem?_cons_zero, List.getElem?_cons_succ, Bool.not_false, Bool.not_true, Bool.and_true, if_true, if_false, Nat.zero_add, List.length_map, simprocAttr])
    (try simp only [push_cast, simprocAttr]); refine call_lend [25000] none (lr := [rowB [d0, ⟨d1.name, d1.safe, d1.fresh ++ xs⟩]]) (by simp [ndB]) (by first | rfl | simp [rowsOf, hget, rdR, rowS, sC, ndC, cmC]) (by simp [idsL, idsA]) (by simp [mvN]) (by simpa [rnA, ixOf] using hS) ?_
    rintro rv lr' rows ⟨L', g1, g2, rfl, rfl, rfl⟩
    have hlen := g1.length_eq
    simp only [List.length_cons, List.length_nil, Nat.reduceAdd] at hlen
    have hLY : L' = Y := by rw [hY]; exact wr_old hv hj hg g1 g2
    (refine ⟨by simp [shB, mvF, hlen], by simp [frB, baseOf], go_on ?_⟩; simp only [killA, killH, killRow, push_cast, simprocAttr])
    rw [hLY]
    have hYl : Y.length = 2 := by rw [← hLY]; exact hlen
    (try simp only [push_cast, simprocAttr])
    (refine at_call ?_; simp only [hYl, viewN, hget, tk, isC, List.map_cons, List.map_nil, List.length_map, List.length_cons, List.length_nil, Nat.reduceAdd, Nat.reduceEqDiff, if_true, if_false, reduceIte, simprocAttr]; refine rwc_v (hV2) (go_on ?_); (try simp only [push_cast, simprocAttr]))
    (try simp only [hd, Bool.not_true, push_cast, simprocAttr])
    (refine at_callW [25000] (by refine wk_frz ?_ ?_ ?_ ?_ <;> simp [hYl, frwS, frwH, frwRow, frzT, hasN, delL, hdel, leF, leHF, rowF, frzB, idsL, idsA, idsR, inH, hget, sameRow, viewN, tk]) ?_; simp only [hYl, frwS, frwH, frwRow, frzT, hasN, delL, hdel, idsA, idsL, viewN, hget, tk, isC, List.map_cons, List.map_nil, List.all_cons, List.all_nil, List.append_nil, List.drop, List.getElem?_cons_zero, List.getElem?_cons_succ, Bool.not_false, Bool.not_true, Bool.and_true, if_true, if_false, Nat.zero_add, List.length_map, simprocAttr])
    refine call_PO rfl [blsA Y] ⟨ga_c rfl, trivial⟩ hC2 ?_
    rintro w2 lent2 X x hN ⟨u, us, rfl, hO⟩
    obtain ⟨g0, cp0, rfl⟩ := hO.some (by omega)
    refine go_on ?_
    (try simp only [push_cast, simprocAttr])
    (refine at_retO (hN.ch _ _ (Ch.refl w0)) (l := [.v (.slice (some ⟨g0, 0, none⟩) Y.length cp0), bA true]) (by simp only [Try.results24, push_cast, simprocAttr]) ?_)
    exact fun loc a w v hR hG => otOut hR hO hN.xfb hN.xge hG
theorem DiskWrite_old30_o (bs : List BD) (nm : Int) (xs : List Int) (hx : xs.length ≤ 2000000) (hv : diskB bs = true) (hxb : bytesB xs = true) (hi : inB nm 1 3 = true) (d : BD) (hj : bs[0]? = some d) (hg : getB bs nm = some d) (hix : ixB bs nm = 0) (hb : ∃ d0 d1 d2, bs = [d0, d1, d2]) : PO Try.prog 24 [blsA bs, iA nm, intsA xs] (otB (writeD bs nm xs).1 (writeD bs nm xs).2) := by
  have hs := disk_sm hv
  have hn3 := disk_len hv
  have hV := DiskValid_pc bs hs
  have hB := bytesValid_pc xs (by omega)
  have hI := in_pc nm 1 3
  have hF := file_pc bs hs.n nm
  have hC := cloneDisk_pc bs hs
  have hi' : inR nm 1 3 = true := hi
  have hnm : 0 ≤ nm ∧ nm ≤ 3 := by simp only [inR, Bool.and_eq_true, decide_eq_true_eq] at hi'; omega
  have hwl := withB_len bs (wrB bs nm xs)
  have hnms := disk_names hv
  have hWs : SmD (wrB bs nm xs) := by
    unfold wrB
    cases hg : getB bs nm with
    | none => exact ⟨by simp, by simp only; omega⟩
    | some d =>
      have hm := (getB_name hg).2
      have hok := disk_okF hv hm
      simp only [okF, Bool.and_eq_true, decide_eq_true_eq] at hok
      exact ⟨(hs.d d hm).s, by simp only [List.length_append]; omega⟩
  have hws : SmB (withB bs (wrB bs nm xs)) := withB_sm hs (by omega) hWs
  obtain ⟨Y, hY⟩ : ∃ Y, Y = withB bs (wrB bs nm xs) := ⟨_, rfl⟩
  rw [← hY] at hws hwl
  have hwr : writeD bs nm xs = if diskB Y = true then (Y, true) else ([], false) := by unfold writeD; rw [hv, hxb, hi, ← hY]; rfl
  have hV2 := DiskValid_pc Y hws
  have hC2 := cloneDisk_o Y hws
  rw [hix] at hF
  obtain ⟨d0, d1, d2, rfl⟩ := hb
  obtain rfl : d0 = d := Option.some.inj hj
  have hfl : d0.fresh.length ≤ 400 := by
    have := disk_okF hv (getB_name hg).2
    simp only [okF, Bool.and_eq_true, decide_eq_true_eq] at this
    omega
  have hX := cloneDisk_at [d0, d1, d2] hs 0 d0 rfl
  have hR : rfRow (nmB [] 25000) (lnkR [d0, d1, d2] 0 d0 1 2) = ⟨55, 3, [[iA d0.name, .o 25001 d0.safe.length, .o 25002 d0.fresh.length], [iA d1.name, intsA d1.safe, intsA d1.fresh], [iA d2.name, intsA d2.safe, intsA d2.fresh]], false⟩ := by rw [lnk_rf _ (by simp)]; rfl
  have hS := sorted_pcl ([⟨d0.name, d0.safe, d0.fresh ++ xs⟩, d1, d2] : List BD) (by simp) fun d hd => by
    rcases mem_set_or (show d ∈ ([d0, d1, d2] : List BD).set 0 ⟨d0.name, d0.safe, d0.fresh ++ xs⟩ from hd) with hd | rfl
    · exact hnms d hd
    · exact hnms d0 (by simp)
  cases hd : diskB Y with
  | false =>
    have hr : writeD [d0, d1, d2] nm xs = ([], false) := by rw [hwr, hd]; rfl
    rw [hr]
    refine po_enter Try.func24 rfl rfl fun w0 => go_on ?_; (try simp only [Try.ntmps24, push_cast, simprocAttr])
    refine at_call ?_
    (try simp only [push_cast, simprocAttr])
    refine rwc_v hV ?_
    (try simp only [push_cast, simprocAttr])
    (refine at_dropS [6] (by refine wk_ok ?_ ?_ ?_ ?_ <;> simp [dropS, dropT, hasN, delL, hdel, leL, leH, idsL, idsA, idsR, inH, hget, sameRow]) ?_; simp only [dropS, dropT, hasN, delL, hdel, idsA, idsL, hget, List.map_cons, List.map_nil, List.all_cons, List.all_nil, List.append_nil, Bool.not_false, Bool.not_true, Bool.and_true, if_true, if_false, simprocAttr])
    refine go_on ?_
    (try simp only [hv, Bool.not_true, push_cast, simprocAttr])
    (refine at_call ?_; (try simp only [push_cast, simprocAttr]); refine rwc_v (hB) (go_on ?_); (try simp only [push_cast, simprocAttr]))
    (try simp only [hxb, Bool.not_true, push_cast, simprocAttr])
    (refine at_call ?_; (try simp only [push_cast, simprocAttr]); refine rwc_v (hI) (go_on ?_); (try simp only [push_cast, simprocAttr]))
    (try simp only [hi', Bool.not_true, push_cast, simprocAttr])
    refine call_lendX [] (lr := []) rfl rfl (by simp [idsL, idsA]) (by simpa [rfA] using hX) ?_
    rintro rv lr' rows ⟨rfl, rfl, rfl⟩
    refine ⟨rfl, by simp [frB, baseOf], go_on ?_⟩
    simp only [backX, hR, rowZ_rf, rfA, nmB, hsL, baseOf, hpOf, List.map_cons, List.map_nil, List.nil_append, List.length_nil, push_cast, simprocAttr]
    (refine at_call ?_; simp only [bC, viewN, hget, tk, isC, List.map_cons, List.map_nil, List.length_map, List.length_cons, List.length_nil, Nat.reduceAdd, Nat.reduceEqDiff, if_true, if_false, reduceIte, simprocAttr]; refine rwc_v (hF) (go_on ?_); (try simp only [push_cast, simprocAttr]))
    (try simp only [show ltI 0 0 = false from rfl, show toIx 0 3 = some 0 from rfl, bC, push_cast, simprocAttr])
    refine at_chk (by omega) ?_
    (try simp only [bC, push_cast, simprocAttr])
    (refine at_callW [25001, 25002] (by refine wk_frz ?_ ?_ ?_ ?_ <;> simp [← List.map_append, List.length_append, eq_self, frwS, frwH, frwRow, frzT, hasN, delL, hdel, leF, leHF, rowF, frzB, idsL, idsA, idsR, inH, hget, sameRow, viewN, tk]) ?_; simp only [← List.map_append, List.length_append, eq_self, frwS, frwH, frwRow, frzT, hasN, delL, hdel, idsA, idsL, viewN, hget, tk, isC, List.map_cons, List.map_nil, List.all_cons, List.all_nil, List.append_nil, List.drop, List.getElem?_cons_zero, List.getElem?_cons_succ, Bool.not_false, Bool.not_true, Bool.and_true, if_true, if_false, Nat.zero_add, List.length_map, simprocAttr])
    (try simp only [push_cast, simprocAttr]); refine call_lend [25000] none (lr := [rowB [⟨d0.name, d0.safe, d0.fresh ++ xs⟩, d1, d2]]) (by simp [ndB]) (by first | rfl | simp [rowsOf, hget, rdR, rowS, sC, ndC, cmC]) (by simp [idsL, idsA]) (by simp [mvN]) (by simpa [rnA, ixOf] using hS) ?_
    rintro rv lr' rows ⟨L', g1, g2, rfl, rfl, rfl⟩
    have hlen := g1.length_eq
    simp only [List.length_cons, List.length_nil, Nat.reduceAdd] at hlen
    have hLY : L' = Y := by rw [hY]; exact wr_old hv hj hg g1 g2
    (refine ⟨by simp [shB, mvF, hlen], by simp [frB, baseOf], go_on ?_⟩; simp only [killA, killH, killRow, push_cast, simprocAttr])
    rw [hLY]
    have hYl : Y.length = 3 := by rw [← hLY]; exact hlen
    (try simp only [push_cast, simprocAttr])
    (refine at_call ?_; simp only [hYl, viewN, hget, tk, isC, List.map_cons, List.map_nil, List.length_map, List.length_cons, List.length_nil, Nat.reduceAdd, Nat.reduceEqDiff, if_true, if_false, reduceIte, simprocAttr]; refine rwc_v (hV2) (go_on ?_); (try simp only [push_cast, simprocAttr]))
    (try simp only [hd, Bool.not_false, push_cast, simprocAttr])
    (refine at_retO (Ch.refl w0) (l := [.o 6 0, bA false]) (by simp only [Try.results24, push_cast, simprocAttr]) ?_)
    exact fun loc a w v hR hG => ownNil (Ch.refl w0) rfl hR hG
  | true =>
    have hr : writeD [d0, d1, d2] nm xs = (Y, true) := by rw [hwr, hd]; rfl
    rw [hr]
    refine po_enter Try.func24 rfl rfl fun w0 => go_on ?_; (try simp only [Try.ntmps24, push_cast, simprocAttr])
    refine at_call ?_
    (try simp only [push_cast, simprocAttr])
    refine rwc_v hV ?_
    (try simp only [push_cast, simprocAttr])
    (refine at_dropS [6] (by refine wk_ok ?_ ?_ ?_ ?_ <;> simp [dropS, dropT, hasN, delL, hdel, leL, leH, idsL, idsA, idsR, inH, hget, sameRow]) ?_; simp only [dropS, dropT, hasN, delL, hdel, idsA, idsL, hget, List.map_cons, List.map_nil, List.all_cons, List.all_nil, List.append_nil, Bool.not_false, Bool.not_true, Bool.and_true, if_true, if_false, simprocAttr])
    refine go_on ?_
    (try simp only [hv, Bool.not_true, push_cast, simprocAttr])
    (refine at_call ?_; (try simp only [push_cast, simprocAttr]); refine rwc_v (hB) (go_on ?_); (try simp only [push_cast, simprocAttr]))
    (try simp only [hxb, Bool.not_true, push_cast, simprocAttr])
    (refine at_call ?_; (try simp only [push_cast, simprocAttr]); refine rwc_v (hI) (go_on ?_); (try simp only [push_cast, simprocAttr]))
    (try simp only [hi', Bool.not_true, push_cast, simprocAttr])
    refine call_lendX [] (lr := []) rfl rfl (by simp [idsL, idsA]) (by simpa [rfA] using hX) ?_
    rintro rv lr' rows ⟨rfl, rfl, rfl⟩
    refine ⟨rfl, by simp [frB, baseOf], go_on ?_⟩
    simp only [backX, hR, rowZ_rf, rfA, nmB, hsL, baseOf, hpOf, List.map_cons, List.map_nil, List.nil_append, List.length_nil, push_cast, simprocAttr]
    (refine at_call ?_; simp only [bC, viewN, hget, tk, isC, List.map_cons, List.map_nil, List.length_map, List.length_cons, List.length_nil, Nat.reduceAdd, Nat.reduceEqDiff, if_true, if_false, reduceIte, simprocAttr]; refine rwc_v (hF) (go_on ?_); (try simp only [push_cast, simprocAttr]))
    (try simp only [show ltI 0 0 = false from rfl, show toIx 0 3 = some 0 from rfl, bC, push_cast, simprocAttr])
    refine at_chk (by omega) ?_
    (try simp only [bC, push_cast, simprocAttr])
    (refine at_callW [25001, 25002] (by refine wk_frz ?_ ?_ ?_ ?_ <;> simp [← List.map_append, List.length_append, eq_self, frwS, frwH, frwRow, frzT, hasN, delL, hdel, leF, leHF, rowF, frzB, idsL, idsA, idsR, inH, hget, sameRow, viewN, tk]) ?_; simp only [← List.map_append, List.length_append, eq_self, frwS, frwH, frwRow, frzT, hasN, delL, hdel, idsA, idsL, viewN, hget, tk, isC, List.map_cons, List.map_nil, List.all_cons, List.all_nil, List.append_nil, List.drop, List.getElem?_cons_zero, List.getElem?_cons_succ, Bool.not_false, Bool.not_true, Bool.and_true, if_true, if_false, Nat.zero_add, List.length_map, simprocAttr])
    (try simp only [push_cast, simprocAttr]); refine call_lend [25000] none (lr := [rowB [⟨d0.name, d0.safe, d0.fresh ++ xs⟩, d1, d2]]) (by simp [ndB]) (by first | rfl | simp [rowsOf, hget, rdR, rowS, sC, ndC, cmC]) (by simp [idsL, idsA]) (by simp [mvN]) (by simpa [rnA, ixOf] using hS) ?_
    rintro rv lr' rows ⟨L', g1, g2, rfl, rfl, rfl⟩
    have hlen := g1.length_eq
    simp only [List.length_cons, List.length_nil, Nat.reduceAdd] at hlen
    have hLY : L' = Y := by rw [hY]; exact wr_old hv hj hg g1 g2
    (refine ⟨by simp [shB, mvF, hlen], by simp [frB, baseOf], go_on ?_⟩; simp only [killA, killH, killRow, push_cast, simprocAttr])
    rw [hLY]
    have hYl : Y.length = 3 := by rw [← hLY]; exact hlen
    (try simp only [push_cast, simprocAttr])
    (refine at_call ?_; simp only [hYl, viewN, hget, tk, isC, List.map_cons, List.map_nil, List.length_map, List.length_cons, List.length_nil, Nat.reduceAdd, Nat.reduceEqDiff, if_true, if_false, reduceIte, simprocAttr]; refine rwc_v (hV2) (go_on ?_); (try simp only [push_cast, simprocAttr]))
    (try simp only [hd, Bool.not_true, push_cast, simprocAttr])
    (refine at_callW [25000] (by refine wk_frz ?_ ?_ ?_ ?_ <;> simp [hYl, frwS, frwH, frwRow, frzT, hasN, delL, hdel, leF, leHF, rowF, frzB, idsL, idsA, idsR, inH, hget, sameRow, viewN, tk]) ?_; simp only [hYl, frwS, frwH, frwRow, frzT, hasN, delL, hdel, idsA, idsL, viewN, hget, tk, isC, List.map_cons, List.map_nil, List.all_cons, List.all_nil, List.append_nil, List.drop, List.getElem?_cons_zero, List.getElem?_cons_succ, Bool.not_false, Bool.not_true, Bool.and_true, if_true, if_false, Nat.zero_add, List.length_map, simprocAttr])
    refine call_PO rfl [blsA Y] ⟨ga_c rfl, trivial⟩ hC2 ?_
    rintro w2 lent2 X x hN ⟨u, us, rfl, hO⟩
    obtain ⟨g0, cp0, rfl⟩ := hO.some (by omega)
    refine go_on ?_
    (try simp only [push_cast, simprocAttr])
    (refine at_retO (hN.ch _ _ (Ch.refl w0)) (l := [.v (.slice (some ⟨g0, 0, none⟩) Y.length cp0), bA true]) (by simp only [Try.results24, push_cast, simprocAttr]) ?_)
    exact fun loc a w v hR hG => otOut hR hO hN.xfb hN.xge hG
theorem DiskWrite_old31_o (bs : List BD) (nm : Int) (xs : List Int) (hx : xs.length ≤ 2000000) (hv : diskB bs = true) (hxb : bytesB xs = true) (hi : inB nm 1 3 = true) (d : BD) (hj : bs[1]? = some d) (hg : getB bs nm = some d) (hix : ixB bs nm = 1) (hb : ∃ d0 d1 d2, bs = [d0, d1, d2]) : PO Try.prog 24 [blsA bs, iA nm, intsA xs] (otB (writeD bs nm xs).1 (writeD bs nm xs).2) := by
  have hs := disk_sm hv
  have hn3 := disk_len hv
  have hV := DiskValid_pc bs hs
  have hB := bytesValid_pc xs (by omega)
  have hI := in_pc nm 1 3
  have hF := file_pc bs hs.n nm
  have hC := cloneDisk_pc bs hs
  have hi' : inR nm 1 3 = true := hi
  have hnm : 0 ≤ nm ∧ nm ≤ 3 := by simp only [inR, Bool.and_eq_true, decide_eq_true_eq] at hi'; omega
  have hwl := withB_len bs (wrB bs nm xs)
  have hnms := disk_names hv
  have hWs : SmD (wrB bs nm xs) := by
    unfold wrB
    cases hg : getB bs nm with
    | none => exact ⟨by simp, by simp only; omega⟩
    | some d =>
      have hm := (getB_name hg).2
      have hok := disk_okF hv hm
      simp only [okF, Bool.and_eq_true, decide_eq_true_eq] at hok
      exact ⟨(hs.d d hm).s, by simp only [List.length_append]; omega⟩
  have hws : SmB (withB bs (wrB bs nm xs)) := withB_sm hs (by omega) hWs
  obtain ⟨Y, hY⟩ : ∃ Y, Y = withB bs (wrB bs nm xs) := ⟨_, rfl⟩
  rw [← hY] at hws hwl
  have hwr : writeD bs nm xs = if diskB Y = true then (Y, true) else ([], false) := by unfold writeD; rw [hv, hxb, hi, ← hY]; rfl
  have hV2 := DiskValid_pc Y hws
  have hC2 := cloneDisk_o Y hws
  rw [hix] at hF
  obtain ⟨d0, d1, d2, rfl⟩ := hb
  obtain rfl : d1 = d := Option.some.inj hj
  have hfl : d1.fresh.length ≤ 400 := by
    have := disk_okF hv (getB_name hg).2
    simp only [okF, Bool.and_eq_true, decide_eq_true_eq] at this
    omega
  have hX := cloneDisk_at [d0, d1, d2] hs 1 d1 rfl
  have hR : rfRow (nmB [] 25000) (lnkR [d0, d1, d2] 1 d1 1 2) = ⟨55, 3, [[iA d0.name, intsA d0.safe, intsA d0.fresh], [iA d1.name, .o 25001 d1.safe.length, .o 25002 d1.fresh.length], [iA d2.name, intsA d2.safe, intsA d2.fresh]], false⟩ := by rw [lnk_rf _ (by simp)]; rfl
  have hS := sorted_pcl ([d0, ⟨d1.name, d1.safe, d1.fresh ++ xs⟩, d2] : List BD) (by simp) fun d hd => by
    rcases mem_set_or (show d ∈ ([d0, d1, d2] : List BD).set 1 ⟨d1.name, d1.safe, d1.fresh ++ xs⟩ from hd) with hd | rfl
    · exact hnms d hd
    · exact hnms d1 (by simp)
  cases hd : diskB Y with
  | false =>
    have hr : writeD [d0, d1, d2] nm xs = ([], false) := by rw [hwr, hd]; rfl
    rw [hr]
    refine po_enter Try.func24 rfl rfl fun w0 => go_on ?_; (try simp only [Try.ntmps24, push_cast, simprocAttr])
    refine at_call ?_
    (try simp only [push_cast, simprocAttr])
    refine rwc_v hV ?_
    (try simp only [push_cast, simprocAttr])
    (refine at_dropS [6] (by refine wk_ok ?_ ?_ ?_ ?_ <;> simp [dropS, dropT, hasN, delL, hdel, leL, leH, idsL, idsA, idsR, inH, hget, sameRow]) ?_; simp only [dropS, dropT, hasN, delL, hdel, idsA, idsL, hget, List.map_cons, List.map_nil, List.all_cons, List.all_nil, List.append_nil, Bool.not_false, Bool.not_true, Bool.and_true, if_true, if_false, simprocAttr])
    refine go_on ?_
    (try simp only [hv, Bool.not_true, push_cast, simprocAttr])
    (refine at_call ?_; (try simp only [push_cast, simprocAttr]); refine rwc_v (hB) (go_on ?_); (try simp only [push_cast, simprocAttr]))
    (try simp only [hxb, Bool.not_true, push_cast, simprocAttr])
    (refine at_call ?_; (try simp only [push_cast, simprocAttr]); refine rwc_v (hI) (go_on ?_); (try simp only [push_cast, simprocAttr]))
    (try simp only [hi', Bool.not_true, push_cast, simprocAttr])
    refine call_lendX [] (lr := []) rfl rfl (by simp [idsL, idsA]) (by simpa [rfA] using hX) ?_
    rintro rv lr' rows ⟨rfl, rfl, rfl⟩
    refine ⟨rfl, by simp [frB, baseOf], go_on ?_⟩
    simp only [backX, hR, rowZ_rf, rfA, nmB, hsL, baseOf, hpOf, List.map_cons, List.map_nil, List.nil_append, List.length_nil, push_cast, simprocAttr]
    (refine at_call ?_; simp only [bC, viewN, hget, tk, isC, List.map_cons, List.map_nil, List.length_map, List.length_cons, List.length_nil, Nat.reduceAdd, Nat.reduceEqDiff, if_true, if_false, reduceIte, simprocAttr]; refine rwc_v (hF) (go_on ?_); (try simp only [push_cast, simprocAttr]))
    (try simp only [show ltI 1 0 = false from rfl, show toIx 1 3 = some 1 from rfl, bC, push_cast, simprocAttr])
    refine at_chk (by omega) ?_
    (try simp only [bC, push_cast, simprocAttr])
    (refine at_callW [25001, 25002] (by refine wk_frz ?_ ?_ ?_ ?_ <;> simp [← List.map_append, List.length_append, eq_self, frwS, frwH, frwRow, frzT, hasN, delL, hdel, leF, leHF, rowF, frzB, idsL, idsA, idsR, inH, hget, sameRow, viewN, tk]) ?_; simp only [← List.map_append, List.length_append, eq_self, frwS, frwH, frwRow, frzT, hasN, delL, hdel, idsA, idsL, viewN, hget, tk, isC, List.map_cons, List.map_nil, List.all_cons, List.all_nil, List.append_nil, List.drop, List.getElem?_cons_zero, List.getElem?_cons_succ, Bool.not_false, Bool.not_true, Bool.and_true, if_true, if_false, Nat.zero_add, List.length_map, simprocAttr])
    (try simp only [push_cast, simprocAttr]); refine call_lend [25000] none (lr := [rowB [d0, ⟨d1.name, d1.safe, d1.fresh ++ xs⟩, d2]]) (by simp [ndB]) (by first | rfl | simp [rowsOf, hget, rdR, rowS, sC, ndC, cmC]) (by simp [idsL, idsA]) (by simp [mvN]) (by simpa [rnA, ixOf] using hS) ?_
    rintro rv lr' rows ⟨L', g1, g2, rfl, rfl, rfl⟩
    have hlen := g1.length_eq
    simp only [List.length_cons, List.length_nil, Nat.reduceAdd] at hlen
    have hLY : L' = Y := by rw [hY]; exact wr_old hv hj hg g1 g2
    (refine ⟨by simp [shB, mvF, hlen], by simp [frB, baseOf], go_on ?_⟩; simp only [killA, killH, killRow, push_cast, simprocAttr])
    rw [hLY]
    have hYl : Y.length = 3 := by rw [← hLY]; exact hlen
    (try simp only [push_cast, simprocAttr])
    (refine at_call ?_; simp only [hYl, viewN, hget, tk, isC, List.map_cons, List.map_nil, List.length_map, List.length_cons, List.length_nil, Nat.reduceAdd, Nat.reduceEqDiff, if_true, if_false, reduceIte, simprocAttr]; refine rwc_v (hV2) (go_on ?_); (try simp only [push_cast, simprocAttr]))
    (try simp only [hd, Bool.not_false, push_cast, simprocAttr])
    (refine at_retO (Ch.refl w0) (l := [.o 6 0, bA false]) (by simp only [Try.results24, push_cast, simprocAttr]) ?_)
    exact fun loc a w v hR hG => ownNil (Ch.refl w0) rfl hR hG
  | true =>
    have hr : writeD [d0, d1, d2] nm xs = (Y, true) := by rw [hwr, hd]; rfl
    rw [hr]
    refine po_enter Try.func24 rfl rfl fun w0 => go_on ?_; (try simp only [Try.ntmps24, push_cast, simprocAttr])
    refine at_call ?_
    (try simp only [push_cast, simprocAttr])
    refine rwc_v hV ?_
    (try simp only [push_cast, simprocAttr])
    (refine at_dropS [6] (by refine wk_ok ?_ ?_ ?_ ?_ <;> simp [dropS, dropT, hasN, delL, hdel, leL, leH, idsL, idsA, idsR, inH, hget, sameRow]) ?_; simp only [dropS, dropT, hasN, delL, hdel, idsA, idsL, hget, List.map_cons, List.map_nil, List.all_cons, List.all_nil, List.append_nil, Bool.not_false, Bool.not_true, Bool.and_true, if_true, if_false, simprocAttr])
    refine go_on ?_
    (try simp only [hv, Bool.not_true, push_cast, simprocAttr])
    (refine at_call ?_; (try simp only [push_cast, simprocAttr]); refine rwc_v (hB) (go_on ?_); (try simp only [push_cast, simprocAttr]))
    (try simp only [hxb, Bool.not_true, push_cast, simprocAttr])
    (refine at_call ?_; (try simp only [push_cast, simprocAttr]); refine rwc_v (hI) (go_on ?_); (try simp only [push_cast, simprocAttr]))
    (try simp only [hi', Bool.not_true, push_cast, simprocAttr])
    refine call_lendX [] (lr := []) rfl rfl (by simp [idsL, idsA]) (by simpa [rfA] using hX) ?_
    rintro rv lr' rows ⟨rfl, rfl, rfl⟩
    refine ⟨rfl, by simp [frB, baseOf], go_on ?_⟩
    simp only [backX, hR, rowZ_rf, rfA, nmB, hsL, baseOf, hpOf, List.map_cons, List.map_nil, List.nil_append, List.length_nil, push_cast, simprocAttr]
    (refine at_call ?_; simp only [bC, viewN, hget, tk, isC, List.map_cons, List.map_nil, List.length_map, List.length_cons, List.length_nil, Nat.reduceAdd, Nat.reduceEqDiff, if_true, if_false, reduceIte, simprocAttr]; refine rwc_v (hF) (go_on ?_); (try simp only [push_cast, simprocAttr]))
    (try simp only [show ltI 1 0 = false from rfl, show toIx 1 3 = some 1 from rfl, bC, push_cast, simprocAttr])
    refine at_chk (by omega) ?_
    (try simp only [bC, push_cast, simprocAttr])
    (refine at_callW [25001, 25002] (by refine wk_frz ?_ ?_ ?_ ?_ <;> simp [← List.map_append, List.length_append, eq_self, frwS, frwH, frwRow, frzT, hasN, delL, hdel, leF, leHF, rowF, frzB, idsL, idsA, idsR, inH, hget, sameRow, viewN, tk]) ?_; simp only [← List.map_append, List.length_append, eq_self, frwS, frwH, frwRow, frzT, hasN, delL, hdel, idsA, idsL, viewN, hget, tk, isC, List.map_cons, List.map_nil, List.all_cons, List.all_nil, List.append_nil, List.drop, List.getElem?_cons_zero, List.getElem?_cons_succ, Bool.not_false, Bool.not_true, Bool.and_true, if_true, if_false, Nat.zero_add, List.length_map, simprocAttr])
    (try simp only [push_cast, simprocAttr]); refine call_lend [25000] none (lr := [rowB [d0, ⟨d1.name, d1.safe, d1.fresh ++ xs⟩, d2]]) (by simp [ndB]) (by first | rfl | simp [rowsOf, hget, rdR, rowS, sC, ndC, cmC]) (by simp [idsL, idsA]) (by simp [mvN]) (by simpa [rnA, ixOf] using hS) ?_
    rintro rv lr' rows ⟨L', g1, g2, rfl, rfl, rfl⟩
    have hlen := g1.length_eq
    simp only [List.length_cons, List.length_nil, Nat.reduceAdd] at hlen
    have hLY : L' = Y := by rw [hY]; exact wr_old hv hj hg g1 g2
    (refine ⟨by simp [shB, mvF, hlen], by simp [frB, baseOf], go_on ?_⟩; simp only [killA, killH, killRow, push_cast, simprocAttr])
    rw [hLY]
    have hYl : Y.length = 3 := by rw [← hLY]; exact hlen
    (try simp only [push_cast, simprocAttr])
    (refine at_call ?_; simp only [hYl, viewN, hget, tk, isC, List.map_cons, List.map_nil, List.length_map, List.length_cons, List.length_nil, Nat.reduceAdd, Nat.reduceEqDiff, if_true, if_false, reduceIte, simprocAttr]; refine rwc_v (hV2) (go_on ?_); (try simp only [push_cast, simprocAttr]))
    (try simp only [hd, Bool.not_true, push_cast, simprocAttr])
    (refine at_callW [25000] (by refine wk_frz ?_ ?_ ?_ ?_ <;> simp [hYl, frwS, frwH, frwRow, frzT, hasN, delL, hdel, leF, leHF, rowF, frzB, idsL, idsA, idsR, inH, hget, sameRow, viewN, tk]) ?_; simp only [hYl, frwS, frwH, frwRow, frzT, hasN, delL, hdel, idsA, idsL, viewN, hget, tk, isC, List.map_cons, List.map_nil, List.all_cons, List.all_nil, List.append_nil, List.drop, List.getElem?_cons_zero, List.getElem?_cons_succ, Bool.not_false, Bool.not_true, Bool.and_true, if_true, if_false, Nat.zero_add, List.length_map, simprocAttr])
    refine call_PO rfl [blsA Y] ⟨ga_c rfl, trivial⟩ hC2 ?_
    rintro w2 lent2 X x hN ⟨u, us, rfl, hO⟩
    obtain ⟨g0, cp0, rfl⟩ := hO.some (by omega)
    refine go_on ?_
    (try simp only [push_cast, simprocAttr])
    (refine at_retO (hN.ch _ _ (Ch.refl w0)) (l := [.v (.slice (some ⟨g0, 0, none⟩) Y.length cp0), bA true]) (by simp only [Try.results24, push_cast, simprocAttr]) ?_)
    exact fun loc a w v hR hG => otOut hR hO hN.xfb hN.xge hG
theorem DiskWrite_old32_o (bs : List BD) (nm : Int) (xs : List Int) (hx : xs.length ≤ 2000000) (hv : diskB bs = true) (hxb : bytesB xs = true) (hi : inB nm 1 3 = true) (d : BD) (hj : bs[2]? = some d) (hg : getB bs nm = some d) (hix : ixB bs nm = 2) (hb : ∃ d0 d1 d2, bs = [d0, d1, d2]) : PO Try.prog 24 [blsA bs, iA nm, intsA xs] (otB (writeD bs nm xs).1 (writeD bs nm xs).2) := by
  have hs := disk_sm hv
  have hn3 := disk_len hv
  have hV := DiskValid_pc bs hs
  have hB := bytesValid_pc xs (by omega)
  have hI := in_pc nm 1 3
  have hF := file_pc bs hs.n nm
  have hC := cloneDisk_pc bs hs
  have hi' : inR nm 1 3 = true := hi
  have hnm : 0 ≤ nm ∧ nm ≤ 3 := by simp only [inR, Bool.and_eq_true, decide_eq_true_eq] at hi'; omega
  have hwl := withB_len bs (wrB bs nm xs)
  have hnms := disk_names hv
  have hWs : SmD (wrB bs nm xs) := by
    unfold wrB
    cases hg : getB bs nm with
    | none => exact ⟨by simp, by simp only; omega⟩
    | some d =>
      have hm := (getB_name hg).2
      have hok := disk_okF hv hm
      simp only [okF, Bool.and_eq_true, decide_eq_true_eq] at hok
      exact ⟨(hs.d d hm).s, by simp only [List.length_append]; omega⟩
  have hws : SmB (withB bs (wrB bs nm xs)) := withB_sm hs (by omega) hWs
  obtain ⟨Y, hY⟩ : ∃ Y, Y = withB bs (wrB bs nm xs) := ⟨_, rfl⟩
  rw [← hY] at hws hwl
  have hwr : writeD bs nm xs = if diskB Y = true then (Y, true) else ([], false) := by unfold writeD; rw [hv, hxb, hi, ← hY]; rfl
  have hV2 := DiskValid_pc Y hws
  have hC2 := cloneDisk_o Y hws
  rw [hix] at hF
  obtain ⟨d0, d1, d2, rfl⟩ := hb
  obtain rfl : d2 = d := Option.some.inj hj
  have hfl : d2.fresh.length ≤ 400 := by
    have := disk_okF hv (getB_name hg).2
    simp only [okF, Bool.and_eq_true, decide_eq_true_eq] at this
    omega
  have hX := cloneDisk_at [d0, d1, d2] hs 2 d2 rfl
  have hR : rfRow (nmB [] 25000) (lnkR [d0, d1, d2] 2 d2 1 2) = ⟨55, 3, [[iA d0.name, intsA d0.safe, intsA d0.fresh], [iA d1.name, intsA d1.safe, intsA d1.fresh], [iA d2.name, .o 25001 d2.safe.length, .o 25002 d2.fresh.length]], false⟩ := by rw [lnk_rf _ (by simp)]; rfl
  have hS := sorted_pcl ([d0, d1, ⟨d2.name, d2.safe, d2.fresh ++ xs⟩] : List BD) (by simp) fun d hd => by
    rcases mem_set_or (show d ∈ ([d0, d1, d2] : List BD).set 2 ⟨d2.name, d2.safe, d2.fresh ++ xs⟩ from hd) with hd | rfl
    · exact hnms d hd
    · exact hnms d2 (by simp)
  cases hd : diskB Y with
  | false =>
    have hr : writeD [d0, d1, d2] nm xs = ([], false) := by rw [hwr, hd]; rfl
    rw [hr]
    refine po_enter Try.func24 rfl rfl fun w0 => go_on ?_; (try simp only [Try.ntmps24, push_cast, simprocAttr])
    refine at_call ?_
    (try simp only [push_cast, simprocAttr])
    refine rwc_v hV ?_
    (try simp only [push_cast, simprocAttr])
    (refine at_dropS [6] (by refine wk_ok ?_ ?_ ?_ ?_ <;> simp [dropS, dropT, hasN, delL, hdel, leL, leH, idsL, idsA, idsR, inH, hget, sameRow]) ?_; simp only [dropS, dropT, hasN, delL, hdel, idsA, idsL, hget, List.map_cons, List.map_nil, List.all_cons, List.all_nil, List.append_nil, Bool.not_false, Bool.not_true, Bool.and_true, if_true, if_false, simprocAttr])
    refine go_on ?_
    (try simp only [hv, Bool.not_true, push_cast, simprocAttr])
    (refine at_call ?_; (try simp only [push_cast, simprocAttr]); refine rwc_v (hB) (go_on ?_); (try simp only [push_cast, simprocAttr]))
    (try simp only [hxb, Bool.not_true, push_cast, simprocAttr])
    (refine at_call ?_; (try simp only [push_cast, simprocAttr]); refine rwc_v (hI) (go_on ?_); (try simp only [push_cast, simprocAttr]))
    (try simp only [hi', Bool.not_true, push_cast, simprocAttr])
    refine call_lendX [] (lr := []) rfl rfl (by simp [idsL, idsA]) (by simpa [rfA] using hX) ?_
    rintro rv lr' rows ⟨rfl, rfl, rfl⟩
    refine ⟨rfl, by simp [frB, baseOf], go_on ?_⟩
    simp only [backX, hR, rowZ_rf, rfA, nmB, hsL, baseOf, hpOf, List.map_cons, List.map_nil, List.nil_append, List.length_nil, push_cast, simprocAttr]
    (refine at_call ?_; simp only [bC, viewN, hget, tk, isC, List.map_cons, List.map_nil, List.length_map, List.length_cons, List.length_nil, Nat.reduceAdd, Nat.reduceEqDiff, if_true, if_false, reduceIte, simprocAttr]; refine rwc_v (hF) (go_on ?_); (try simp only [push_cast, simprocAttr]))
    (try simp only [show ltI 2 0 = false from rfl, show toIx 2 3 = some 2 from rfl, bC, push_cast, simprocAttr])
    refine at_chk (by omega) ?_
    (try simp only [bC, push_cast, simprocAttr])
    (refine at_callW [25001, 25002] (by refine wk_frz ?_ ?_ ?_ ?_ <;> simp [← List.map_append, List.length_append, eq_self, frwS, frwH, frwRow, frzT, hasN, delL, hdel, leF, leHF, rowF, frzB, idsL, idsA, idsR, inH, hget, sameRow, viewN, tk]) ?_; simp only [← List.map_append, List.length_append, eq_self, frwS, frwH, frwRow, frzT, hasN, delL, hdel, idsA, idsL, viewN, hget, tk, isC, List.map_cons, List.map_nil, List.all_cons, List.all_nil, List.append_nil, List.drop, List.getElem?_cons_zero, List.getElem?_cons_succ, Bool.not_false, Bool.not_true, Bool.and_true, if_true, if_false, Nat.zero_add, List.length_map, simprocAttr])
    (try simp only [push_cast, simprocAttr]); refine call_lend [25000] none (lr := [rowB [d0, d1, ⟨d2.name, d2.safe, d2.fresh ++ xs⟩]]) (by simp [ndB]) (by first | rfl | simp [rowsOf, hget, rdR, rowS, sC, ndC, cmC]) (by simp [idsL, idsA]) (by simp [mvN]) (by simpa [rnA, ixOf] using hS) ?_
    rintro rv lr' rows ⟨L', g1, g2, rfl, rfl, rfl⟩
    have hlen := g1.length_eq
    simp only [List.length_cons, List.length_nil, Nat.reduceAdd] at hlen
    have hLY : L' = Y := by rw [hY]; exact wr_old hv hj hg g1 g2
    (refine ⟨by simp [shB, mvF, hlen], by simp [frB, baseOf], go_on ?_⟩; simp only [killA, killH, killRow, push_cast, simprocAttr])
    rw [hLY]
    have hYl : Y.length = 3 := by rw [← hLY]; exact hlen
    (try simp only [push_cast, simprocAttr])
    (refine at_call ?_; simp only [hYl, viewN, hget, tk, isC, List.map_cons, List.map_nil, List.length_map, List.length_cons, List.length_nil, Nat.reduceAdd, Nat.reduceEqDiff, if_true, if_false, reduceIte, simprocAttr]; refine rwc_v (hV2) (go_on ?_); (try simp only [push_cast, simprocAttr]))
    (try simp only [hd, Bool.not_false, push_cast, simprocAttr])
    (refine at_retO (Ch.refl w0) (l := [.o 6 0, bA false]) (by simp only [Try.results24, push_cast, simprocAttr]) ?_)
    exact fun loc a w v hR hG => ownNil (Ch.refl w0) rfl hR hG
  | true =>
    have hr : writeD [d0, d1, d2] nm xs = (Y, true) := by rw [hwr, hd]; rfl
    rw [hr]
    refine po_enter Try.func24 rfl rfl fun w0 => go_on ?_; (try simp only [Try.ntmps24, push_cast, simprocAttr])
    refine at_call ?_
    (try simp only [push_cast, simprocAttr])
    refine rwc_v hV ?_
    (try simp only [push_cast, simprocAttr])
    (refine at_dropS [6] (by refine wk_ok ?_ ?_ ?_ ?_ <;> simp [dropS, dropT, hasN, delL, hdel, leL, leH, idsL, idsA, idsR, inH, hget, sameRow]) ?_; simp only [dropS, dropT, hasN, delL, hdel, idsA, idsL, hget, List.map_cons, List.map_nil, List.all_cons, List.all_nil, List.append_nil, Bool.not_false, Bool.not_true, Bool.and_true, if_true, if_false, simprocAttr])
    refine go_on ?_
    (try simp only [hv, Bool.not_true, push_cast, simprocAttr])
    (refine at_call ?_; (try simp only [push_cast, simprocAttr]); refine rwc_v (hB) (go_on ?_); (try simp only [push_cast, simprocAttr]))
    (try simp only [hxb, Bool.not_true, push_cast, simprocAttr])
    (refine at_call ?_; (try simp only [push_cast, simprocAttr]); refine rwc_v (hI) (go_on ?_); (try simp only [push_cast, simprocAttr]))
    (try simp only [hi', Bool.not_true, push_cast, simprocAttr])
    refine call_lendX [] (lr := []) rfl rfl (by simp [idsL, idsA]) (by simpa [rfA] using hX) ?_
    rintro rv lr' rows ⟨rfl, rfl, rfl⟩
    refine ⟨rfl, by simp [frB, baseOf], go_on ?_⟩
    simp only [backX, hR, rowZ_rf, rfA, nmB, hsL, baseOf, hpOf, List.map_cons, List.map_nil, List.nil_append, List.length_nil, push_cast, simprocAttr]
    (refine at_call ?_; simp only [bC, viewN, hget, tk, isC, List.map_cons, List.map_nil, List.length_map, List.length_cons, List.length_nil, Nat.reduceAdd, Nat.reduceEqDiff, if_true, if_false, reduceIte, simprocAttr]; refine rwc_v (hF) (go_on ?_); (try simp only [push_cast, simprocAttr]))
    (try simp only [show ltI 2 0 = false from rfl, show toIx 2 3 = some 2 from rfl, bC, push_cast, simprocAttr])
    refine at_chk (by omega) ?_
    (try simp only [bC, push_cast, simprocAttr])
    (refine at_callW [25001, 25002] (by refine wk_frz ?_ ?_ ?_ ?_ <;> simp [← List.map_append, List.length_append, eq_self, frwS, frwH, frwRow, frzT, hasN, delL, hdel, leF, leHF, rowF, frzB, idsL, idsA, idsR, inH, hget, sameRow, viewN, tk]) ?_; simp only [← List.map_append, List.length_append, eq_self, frwS, frwH, frwRow, frzT, hasN, delL, hdel, idsA, idsL, viewN, hget, tk, isC, List.map_cons, List.map_nil, List.all_cons, List.all_nil, List.append_nil, List.drop, List.getElem?_cons_zero, List.getElem?_cons_succ, Bool.not_false, Bool.not_true, Bool.and_true, if_true, if_false, Nat.zero_add, List.length_map, simprocAttr])
    (try simp only [push_cast, simprocAttr]); refine call_lend [25000] none (lr := [rowB [d0, d1, ⟨d2.name, d2.safe, d2.fresh ++ xs⟩]]) (by simp [ndB]) (by first | rfl | simp [rowsOf, hget, rdR, rowS, sC, ndC, cmC]) (by simp [idsL, idsA]) (by simp [mvN]) (by simpa [rnA, ixOf] using hS) ?_
    rintro rv lr' rows ⟨L', g1, g2, rfl, rfl, rfl⟩
    have hlen := g1.length_eq
    simp only [List.length_cons, List.length_nil, Nat.reduceAdd] at hlen
    have hLY : L' = Y := by rw [hY]; exact wr_old hv hj hg g1 g2
    (refine ⟨by simp [shB, mvF, hlen], by simp [frB, baseOf], go_on ?_⟩; simp only [killA, killH, killRow, push_cast, simprocAttr])
    rw [hLY]
    have hYl : Y.length = 3 := by rw [← hLY]; exact hlen
    (try simp only [push_cast, simprocAttr])
    (refine at_call ?_; simp only [hYl, viewN, hget, tk, isC, List.map_cons, List.map_nil, List.length_map, List.length_cons, List.length_nil, Nat.reduceAdd, Nat.reduceEqDiff, if_true, if_false, reduceIte, simprocAttr]; refine rwc_v (hV2) (go_on ?_); (try simp only [push_cast, simprocAttr]))
    (try simp only [hd, Bool.not_true, push_cast, simprocAttr])
    (refine at_callW [25000] (by refine wk_frz ?_ ?_ ?_ ?_ <;> simp [hYl, frwS, frwH, frwRow, frzT, hasN, delL, hdel, leF, leHF, rowF, frzB, idsL, idsA, idsR, inH, hget, sameRow, viewN, tk]) ?_; simp only [hYl, frwS, frwH, frwRow, frzT, hasN, delL, hdel, idsA, idsL, viewN, hget, tk, isC, List.map_cons, List.map_nil, List.all_cons, List.all_nil, List.append_nil, List.drop, List.getElem?_cons_zero, List.getElem?_cons_succ, Bool.not_false, Bool.not_true, Bool.and_true, if_true, if_false, Nat.zero_add, List.length_map, simprocAttr])
    refine call_PO rfl [blsA Y] ⟨ga_c rfl, trivial⟩ hC2 ?_
    rintro w2 lent2 X x hN ⟨u, us, rfl, hO⟩
    obtain ⟨g0, cp0, rfl⟩ := hO.some (by omega)
    refine go_on ?_
    (try simp only [push_cast, simprocAttr])
    (refine at_retO (hN.ch _ _ (Ch.refl w0)) (l := [.v (.slice (some ⟨g0, 0, none⟩) Y.length cp0), bA true]) (by simp only [Try.results24, push_cast, simprocAttr]) ?_)
    exact fun loc a w v hR hG => otOut hR hO hN.xfb hN.xge hG
end Go.Proofs.Ytepcabenjikhgaa
/-
  Walks: impl.DiskWrite, set aside, as a whole.
-/
namespace Go.Proofs.Ytepcabenjikhgaa
open Go Go.RowKit Go.Proofs
theorem writeD_disk {bs : List BD} {nm : Int} {xs : List Int} {Y : List BD} {ok : Bool} (h : (Y, ok) = writeD bs nm xs) : diskB Y = true ∨ Y = [] := by
  unfold writeD at h
  split at h
  · rename_i hc
    cases h
    simp only [Bool.and_eq_true] at hc
    exact .inl hc.2
  · cases h; exact .inr rfl
theorem DiskWrite_o (bs : List BD) (hs : SmB bs) (nm : Int) (xs : List Int) (hx : xs.length ≤ 2000000) : PO Try.prog 24 [blsA bs, iA nm, intsA xs] (otB (writeD bs nm xs).1 (writeD bs nm xs).2) := by
  cases h : (diskB bs && bytesB xs && inB nm 1 3) with
  | false =>
    have hr : writeD bs nm xs = ([], false) := by unfold writeD; rw [h]; rfl
    rw [hr]
    exact DiskWrite_bad_o bs hs nm xs hx h
  | true =>
    simp only [Bool.and_eq_true] at h
    obtain ⟨⟨hv, hxb⟩, hi⟩ := h
    have hl := disk_len hv
    rcases ixB_cases bs nm with ⟨h1, h2⟩ | ⟨j, d, h1, h2, h3⟩
    · match bs, hl with
      | [], _ => exact DiskWrite_new0_o _ nm xs hx hv hxb hi h2 rfl
      | [d0], _ => exact DiskWrite_new1_o _ nm xs hx hv hxb hi h2 ⟨_, rfl⟩
      | [d0, d1], _ => exact DiskWrite_new2_o _ nm xs hx hv hxb hi h2 ⟨_, _, rfl⟩
      | [d0, d1, d2], _ => exact DiskWrite_new3_o _ nm xs hx hv hxb hi h2 ⟨_, _, _, rfl⟩
      | _ :: _ :: _ :: _ :: _, hl => simp at hl
    · match bs, hl, j with
      | [], _, _ => simp at h2
      | [d0], _, 0 => exact DiskWrite_old10_o _ nm xs hx hv hxb hi d h2 h3 h1 ⟨_, rfl⟩
      | [d0], _, j + 1 => simp at h2
      | [d0, d1], _, 0 => exact DiskWrite_old20_o _ nm xs hx hv hxb hi d h2 h3 h1 ⟨_, _, rfl⟩
      | [d0, d1], _, 1 => exact DiskWrite_old21_o _ nm xs hx hv hxb hi d h2 h3 h1 ⟨_, _, rfl⟩
      | [d0, d1], _, j + 2 => simp at h2
      | [d0, d1, d2], _, 0 => exact DiskWrite_old30_o _ nm xs hx hv hxb hi d h2 h3 h1 ⟨_, _, _, rfl⟩
      | [d0, d1, d2], _, 1 => exact DiskWrite_old31_o _ nm xs hx hv hxb hi d h2 h3 h1 ⟨_, _, _, rfl⟩
      | [d0, d1, d2], _, 2 => exact DiskWrite_old32_o _ nm xs hx hv hxb hi d h2 h3 h1 ⟨_, _, _, rfl⟩
      | [d0, d1, d2], _, j + 3 => simp at h2
      | _ :: _ :: _ :: _ :: _, hl, _ => simp at hl
end Go.Proofs.Ytepcabenjikhgaa
/-
  Walks: the law FnExactDiskWrite.
-/
namespace Go.Proofs.Ytepcabenjikhgaa
open Go Go.RowKit Go.Proofs
attribute [local irreducible] RWp AW run kPe pe Kt effA gd gu br retR RDp runD kPeD brW gW effD
set_option maxRecDepth 100000
set_option maxHeartbeats 4000000
theorem FnExactDiskWrite_0 (bs : List BD) (q1 : bs.length ≤ 9223372036854775807) (q2 : ∀ d ∈ bs, d.safe.length ≤ 9223372036854775807 ∧ d.fresh.length ≤ 9223372036854775807)  (hb0 : bs = []) (nm : Int) (xs : List Int) (qk : xs.length ≤ 9223372036854775807) : PC Try.prog 10 [blsA bs, iA nm, intsA xs] (vB true) := by
  have hZ := szBlobS_pc bs 1048576 (by omega) (by omega) q1 q2
  subst hb0
  refine PO.pc (v0 := .bool true) ?_
  refine po_enter Try.func10 rfl rfl fun w0 => go_on ?_; (try simp only [Try.ntmps10, push_cast, simprocAttr])
  refine at_b (fun hb => ?_) (fun hb => ?_)
  · (try simp only [hb, push_cast, simprocAttr])
    (refine at_retO (Ch.refl w0) (l := [bA true]) (by simp only [Try.results10, push_cast, simprocAttr]) ?_)
    exact fun loc a w v hR hG => poB hG
  have hk := of_ltI_f hb
  (try simp only [hb, push_cast, simprocAttr])
  (refine at_call ?_; (try simp only [push_cast, simprocAttr]); refine rwc_v (hZ) (go_on ?_); (try simp only [push_cast, simprocAttr]))
  refine at_b (fun hb => ?_) (fun hb => ?_)
  · (try simp only [hb, push_cast, simprocAttr])
    (refine at_retO (Ch.refl w0) (l := [bA true]) (by simp only [Try.results10, push_cast, simprocAttr]) ?_)
    exact fun loc a w v hR hG => poB hG
  have hz : SzB ([] : List BD) := ⟨by simp, fun d hd => by simp at hd⟩
  have hs : SmB [] := hz.sm
  have hn := hs.n
  have hn2 := hz.n
  have hTd := toBlobS_d [] hz
  have hSp := specDiskWrite_d [] hs nm xs (by omega) (fun d hd => by have := (hz.d d hd).2; omega)
  have hIo := DiskWrite_o [] hs nm xs (by omega)
  have hE0 := eqBlobS_pc [] [] (by omega) hs.d8
  obtain ⟨⟨Y, ok⟩, hY⟩ : ∃ Y, Y = writeD [] nm xs := ⟨_, rfl⟩
  obtain ⟨hYs, hYt⟩ := disk_tot (writeD_disk hY)
  rw [← hY] at hSp hIo
  dsimp only at hSp hIo
  have hId := hIo.db
  have hE1 := eqBlobS_pc Y Y (by have := hYs.n; omega) hYs.d8
  rw [decide_eq_true rfl] at hE0 hE1
  have hH := heldBlobS_pc Y 1 (by omega) (by omega)
  have hTi := toIntS_pc xs (by omega)
  have hTid : PC Try.prog 14 [intsA xs] (vX (intsA xs)) := by
    have := hTi.frzX
    simpa [viewN, hpOf, hget, isC, tk] using this
  have hEi := eqIntS_pc' xs xs (by omega)
  rw [decide_eq_true rfl] at hEi
  have hMz := markZ_pcl xs (1 + 0) (by omega) (by omega)
  have e0 : ltI ((1 + 0 + xs.length : Nat) : Int) 0 = false := ltI_f (by omega)
  push_cast at e0 hMz
  have e1 : ltI ((1 + 0 : Nat) : Int) 0 = false := ltI_f (by omega)
  have e2 : ltI ((1 + tot Y : Nat) : Int) 0 = false := ltI_f (by omega)
  have e3 : eqI ((1 + tot Y : Nat) : Int) ((1 + tot Y : Nat) : Int) = true := eqI_self _
  have e4 : (!(ok == ok)) = false := by cases ok <;> rfl
  push_cast at e1 e2 e3 hH
  (try simp only [hb, push_cast, simprocAttr])
  ((try simp only [push_cast, simprocAttr]); refine at_share2 (by simp [isC2, isC]) (by first | rfl | simp [ren]) (hTd) (go_on ?_); (try simp only [push_cast, simprocAttr]))
  ((try simp only [push_cast, simprocAttr]); refine at_share2 (by simp [isC2, isC]) (by first | rfl | simp [ren]) (hTid) (go_on ?_); (try simp only [push_cast, simprocAttr]))
  ((try simp only [push_cast, simprocAttr]); refine at_share2 (by simp [isC2, isC]) (by first | rfl | simp [ren]) (hSp) (go_on ?_); (try simp only [push_cast, simprocAttr]))
  have c2 := Ch.refl w0
  ((try simp only [push_cast, simprocAttr]); refine at_share2 (by simp [isC2, isC]) (by first | rfl | simp [ren]) (hTd) (go_on ?_); (try simp only [push_cast, simprocAttr]))
  (refine at_call ?_; (try simp only [push_cast, simprocAttr]); refine rwc_r (hTi) (by simp [flatV, flatL]) (flat_i _) (by simp [frB, baseOf]) (go_on ?_); (try simp only [push_cast, simprocAttr]))
  refine call_PO rfl [blsA [], iA nm, intsA xs] ⟨ga_c rfl, ga_c rfl, ga_v (by simp [viewN, hget, tk, isC]), trivial⟩ hIo ?_
  rintro w3 lent3 X1 x hN1 ⟨u1, us1, rfl, hO1⟩
  have c3 := hN1.ch _ _ c2
  have hX1 := hN1.xfb
  clear hN1 c2
  rcases hO1.nil_or with ⟨rfl, hY0⟩ | ⟨g1, cp1, rfl⟩
  · subst hY0
    refine go_on ?_
    (try simp only [push_cast, simprocAttr])
    (refine at_call ?_; (try simp only [push_cast, simprocAttr]); refine rwc_v (hE1) (go_on ?_); (try simp only [push_cast, simprocAttr]))
    (try simp only [Bool.not_true, e4, push_cast, simprocAttr])
    ((try simp only [push_cast, simprocAttr]); refine at_share2 (by simp [isC2, isC]) (by first | rfl | simp [ren]) (hTd) (go_on ?_); (try simp only [push_cast, simprocAttr]))
    (refine at_call ?_; (try simp only [push_cast, simprocAttr]); refine rwc_v (hE0) (go_on ?_); (try simp only [push_cast, simprocAttr]))
    (try simp only [Bool.not_true, push_cast, simprocAttr])
    ((try simp only [push_cast, simprocAttr]); refine at_share2 (by simp [isC2, isC]) (by first | rfl | simp [ren]) (hTid) (go_on ?_); (try simp only [push_cast, simprocAttr]))
    (refine at_call ?_; (try simp only [push_cast, simprocAttr]); refine rwc_v (hEi) (go_on ?_); (try simp only [push_cast, simprocAttr]))
    (try simp only [Bool.not_true, push_cast, simprocAttr])
    (refine at_call ?_; (try simp only [push_cast, simprocAttr]); refine rwc_v (markBlobS_nil 1) (go_on ?_); (try simp only [push_cast, simprocAttr]))
    have hO1b := hO1
    have hX1b := hX1
    have c4 := c3
    (try simp only [push_cast, simprocAttr])
    (try simp only [push_cast, simprocAttr]); refine call_lend [40000] none (lr := [rowZ xs]) (by simp [ndB]) (by first | rfl | simp [rowsOf, hget, rdR, rowS, sC, ndC, cmC]) (by simp [idsL, idsA]) (by simp [mvN]) (by simpa [rnA, ixOf] using hMz) ?_
    rintro rv lr' rows ⟨rfl, rfl, rfl⟩
    (refine ⟨by simp [shB, mvF, rdR, rowS, mkZ_len], by simp [frB, baseOf], go_on ?_⟩; simp only [killA, killH, killRow, push_cast, simprocAttr])
    (try simp only [e0, push_cast, simprocAttr])
    (refine at_call ?_; (try simp only [push_cast, simprocAttr]); refine rwc_v (hE1) (go_on ?_); (try simp only [push_cast, simprocAttr]))
    (try simp only [Bool.not_true, e4, push_cast, simprocAttr])
    (refine at_call ?_; (try simp only [push_cast, simprocAttr]); refine rwc_v (markBlobS_nil 1) (go_on ?_); (try simp only [push_cast, simprocAttr]))
    (refine at_call ?_; (try simp only [push_cast, simprocAttr]); refine rwc_v (heldBlobS_nil) (go_on ?_); (try simp only [push_cast, simprocAttr]))
    (try simp only [show ltI 1 0 = false from rfl, show eqI 1 1 = true from rfl, Bool.not_true, push_cast, simprocAttr])
    ((try simp only [push_cast, simprocAttr]); refine at_share2 (by simp [isC2, isC]) (by first | rfl | simp [ren]) (hTd) (go_on ?_); (try simp only [push_cast, simprocAttr]))
    ((try simp only [push_cast, simprocAttr]); refine at_share2 (by simp [isC2, isC]) (by first | rfl | simp [ren]) (hTid) (go_on ?_); (try simp only [push_cast, simprocAttr]))
    ((try simp only [push_cast, simprocAttr]); refine at_share2 (by simp [isC2, isC]) (by first | rfl | simp [ren]) (hId) (go_on ?_); (try simp only [push_cast, simprocAttr]))
    (refine at_call ?_; (try simp only [push_cast, simprocAttr]); refine rwc_v (hE1) (go_on ?_); (try simp only [push_cast, simprocAttr]))
    (try simp only [Bool.not_true, e4, push_cast, simprocAttr])
    (refine at_call ?_; (try simp only [push_cast, simprocAttr]); refine rwc_v (heldBlobS_nil) (go_on ?_); (try simp only [push_cast, simprocAttr]))
    (try simp only [show ltI 1 0 = false from rfl, show eqI 1 1 = true from rfl, Bool.not_true, push_cast, simprocAttr])
    (refine at_retO c4 (l := [bA true]) (by simp only [Try.results10, push_cast, simprocAttr]) ?_)
    exact fun loc a w v hR hG => poB hG
  · refine go_on ?_
    (try simp only [push_cast, simprocAttr])
    refine call_gv [blsA Y, blsA Y] ⟨hO1.ga hX1, ga_c rfl, trivial⟩ hE1 (go_on ?_)
    (try simp only [Bool.not_true, e4, push_cast, simprocAttr])
    ((try simp only [push_cast, simprocAttr]); refine at_share2 (by simp [isC2, isC]) (by first | rfl | simp [ren]) (hTd) (go_on ?_); (try simp only [push_cast, simprocAttr]))
    (refine at_call ?_; (try simp only [push_cast, simprocAttr]); refine rwc_v (hE0) (go_on ?_); (try simp only [push_cast, simprocAttr]))
    (try simp only [Bool.not_true, push_cast, simprocAttr])
    ((try simp only [push_cast, simprocAttr]); refine at_share2 (by simp [isC2, isC]) (by first | rfl | simp [ren]) (hTid) (go_on ?_); (try simp only [push_cast, simprocAttr]))
    (refine at_call ?_; (try simp only [push_cast, simprocAttr]); refine rwc_v (hEi) (go_on ?_); (try simp only [push_cast, simprocAttr]))
    (try simp only [Bool.not_true, push_cast, simprocAttr])
    (refine at_call ?_; (try simp only [push_cast, simprocAttr]); refine rwc_v (markBlobS_nil 1) (go_on ?_); (try simp only [push_cast, simprocAttr]))
    have hO1b := hO1
    have hX1b := hX1
    have c4 := c3
    (try simp only [push_cast, simprocAttr])
    (try simp only [push_cast, simprocAttr]); refine call_lend [40000] none (lr := [rowZ xs]) (by simp [ndB]) (by first | rfl | simp [rowsOf, hget, rdR, rowS, sC, ndC, cmC]) (by simp [idsL, idsA]) (by simp [mvN]) (by simpa [rnA, ixOf] using hMz) ?_
    rintro rv lr' rows ⟨rfl, rfl, rfl⟩
    (refine ⟨by simp [shB, mvF, rdR, rowS, mkZ_len], by simp [frB, baseOf], go_on ?_⟩; simp only [killA, killH, killRow, push_cast, simprocAttr])
    (try simp only [e0, push_cast, simprocAttr])
    refine call_gv [blsA Y, blsA Y] ⟨hO1b.ga hX1b, ga_c rfl, trivial⟩ hE1 (go_on ?_)
    (try simp only [Bool.not_true, e4, push_cast, simprocAttr])
    refine at_markB (k0 := 1) rfl hO1b hX1b (by omega) (by omega) ?_
    rintro w5 lent5 hM hO5
    have c5 := hM.ch _ _ c4
    have hX5 : ∀ b, X1 b → lent5.fb b := fun b h => by rw [hM.fb]; exact hX1b b h
    clear hO1b hX1b hM c4
    refine go_on ?_
    (try simp only [push_cast, simprocAttr])
    refine call_gv [blsA (mkB 1 Y), iA 1] ⟨hO5.ga hX5, ga_c rfl, trivial⟩ hH (go_on ?_)
    (try simp only [e2, e3, Bool.not_true, push_cast, simprocAttr])
    ((try simp only [push_cast, simprocAttr]); refine at_share2 (by simp [isC2, isC]) (by first | rfl | simp [ren]) (hTd) (go_on ?_); (try simp only [push_cast, simprocAttr]))
    ((try simp only [push_cast, simprocAttr]); refine at_share2 (by simp [isC2, isC]) (by first | rfl | simp [ren]) (hTid) (go_on ?_); (try simp only [push_cast, simprocAttr]))
    ((try simp only [push_cast, simprocAttr]); refine at_share2 (by simp [isC2, isC]) (by first | rfl | simp [ren]) (hId) (go_on ?_); (try simp only [push_cast, simprocAttr]))
    (refine at_call ?_; (try simp only [push_cast, simprocAttr]); refine rwc_v (hE1) (go_on ?_); (try simp only [push_cast, simprocAttr]))
    (try simp only [Bool.not_true, e4, push_cast, simprocAttr])
    refine call_gv [blsA (mkB 1 Y), iA 1] ⟨hO5.ga hX5, ga_c rfl, trivial⟩ hH (go_on ?_)
    (try simp only [e2, e3, Bool.not_true, push_cast, simprocAttr])
    (refine at_retO c5 (l := [bA true]) (by simp only [Try.results10, push_cast, simprocAttr]) ?_)
    exact fun loc a w v hR hG => poB hG
theorem FnExactDiskWrite_1 (bs : List BD) (q1 : bs.length ≤ 9223372036854775807) (q2 : ∀ d ∈ bs, d.safe.length ≤ 9223372036854775807 ∧ d.fresh.length ≤ 9223372036854775807)  (hb0 : bs ≠ []) (nm : Int) (xs : List Int) (qk : xs.length ≤ 9223372036854775807) : PC Try.prog 10 [blsA bs, iA nm, intsA xs] (vB true) := by
  have hZ := szBlobS_pc bs 1048576 (by omega) (by omega) q1 q2
  have hbl : 0 < bs.length := List.length_pos_iff.2 hb0
  refine PO.pc (v0 := .bool true) ?_
  refine po_enter Try.func10 rfl rfl fun w0 => go_on ?_; (try simp only [Try.ntmps10, push_cast, simprocAttr])
  refine at_b (fun hb => ?_) (fun hb => ?_)
  · (try simp only [hb, push_cast, simprocAttr])
    (refine at_retO (Ch.refl w0) (l := [bA true]) (by simp only [Try.results10, push_cast, simprocAttr]) ?_)
    exact fun loc a w v hR hG => poB hG
  have hk := of_ltI_f hb
  (try simp only [hb, push_cast, simprocAttr])
  (refine at_call ?_; (try simp only [push_cast, simprocAttr]); refine rwc_v (hZ) (go_on ?_); (try simp only [push_cast, simprocAttr]))
  refine at_b (fun hb => ?_) (fun hb => ?_)
  · (try simp only [hb, push_cast, simprocAttr])
    (refine at_retO (Ch.refl w0) (l := [bA true]) (by simp only [Try.results10, push_cast, simprocAttr]) ?_)
    exact fun loc a w v hR hG => poB hG
  have ht := tot_of (by omega) (of_ltI_f hb)
  have hz : SzB bs := tot_sz ht (by omega)
  have htl : tot bs ≤ 1048576 := by omega
  have hs : SmB bs := hz.sm
  have hn := hs.n
  have hn2 := hz.n
  have hTd := toBlobS_d bs hz
  have hSp := specDiskWrite_d bs hs nm xs (by omega) (fun d hd => by have := (hz.d d hd).2; omega)
  have hIo := DiskWrite_o bs hs nm xs (by omega)
  have hE0 := eqBlobS_pc bs bs (by omega) hs.d8
  obtain ⟨⟨Y, ok⟩, hY⟩ : ∃ Y, Y = writeD bs nm xs := ⟨_, rfl⟩
  obtain ⟨hYs, hYt⟩ := disk_tot (writeD_disk hY)
  rw [← hY] at hSp hIo
  dsimp only at hSp hIo
  have hId := hIo.db
  have hE1 := eqBlobS_pc Y Y (by have := hYs.n; omega) hYs.d8
  rw [decide_eq_true rfl] at hE0 hE1
  have hH := heldBlobS_pc Y 1 (by omega) (by omega)
  have hTi := toIntS_pc xs (by omega)
  have hTid : PC Try.prog 14 [intsA xs] (vX (intsA xs)) := by
    have := hTi.frzX
    simpa [viewN, hpOf, hget, isC, tk] using this
  have hEi := eqIntS_pc' xs xs (by omega)
  rw [decide_eq_true rfl] at hEi
  have hMz := markZ_pcl xs (1 + tot bs) (by omega) (by omega)
  have e0 : ltI ((1 + tot bs + xs.length : Nat) : Int) 0 = false := ltI_f (by omega)
  push_cast at e0 hMz
  have e1 : ltI ((1 + tot bs : Nat) : Int) 0 = false := ltI_f (by omega)
  have e2 : ltI ((1 + tot Y : Nat) : Int) 0 = false := ltI_f (by omega)
  have e3 : eqI ((1 + tot Y : Nat) : Int) ((1 + tot Y : Nat) : Int) = true := eqI_self _
  have e4 : (!(ok == ok)) = false := by cases ok <;> rfl
  push_cast at e1 e2 e3 hH
  (try simp only [hb, push_cast, simprocAttr])
  ((try simp only [push_cast, simprocAttr]); refine at_share2 (by simp [isC2, isC]) (by first | rfl | simp [ren]) (hTd) (go_on ?_); (try simp only [push_cast, simprocAttr]))
  ((try simp only [push_cast, simprocAttr]); refine at_share2 (by simp [isC2, isC]) (by first | rfl | simp [ren]) (hTid) (go_on ?_); (try simp only [push_cast, simprocAttr]))
  ((try simp only [push_cast, simprocAttr]); refine at_share2 (by simp [isC2, isC]) (by first | rfl | simp [ren]) (hSp) (go_on ?_); (try simp only [push_cast, simprocAttr]))
  refine call_PO rfl [blsA bs] ⟨ga_c rfl, trivial⟩ (toBlobS_o bs hz) ?_
  rintro w2 lent2 X0 x hN ⟨u0, us0, rfl, hO⟩
  have c2 := hN.ch _ _ (Ch.refl w0)
  have hX := hN.xfb
  obtain ⟨g0, cp0, rfl⟩ := hO.some hbl
  refine go_on ?_
  (try simp only [push_cast, simprocAttr])
  (refine at_call ?_; (try simp only [push_cast, simprocAttr]); refine rwc_r (hTi) (by simp [flatV, flatL]) (flat_i _) (by simp [frB, baseOf]) (go_on ?_); (try simp only [push_cast, simprocAttr]))
  refine call_PO rfl [blsA bs, iA nm, intsA xs] ⟨hO.ga hX, ga_c rfl, ga_v (by simp [viewN, hget, tk, isC]), trivial⟩ hIo ?_
  rintro w3 lent3 X1 x hN1 ⟨u1, us1, rfl, hO1⟩
  have c3 := hN1.ch _ _ c2
  have hX1 := hN1.xfb
  have hdis : ∀ b, X1 b → ¬ X0 b := fun b h1 h2 => by have := hN1.xge b h1; have := hN1.flt b (hX b h2); omega
  have hOb := hO.same (fun b hb => hN1.keep b (hX b hb)) (fun _ h => h)
  have hXb := fun b h => hN1.fb b (hX b h)
  clear hN hN1 hX hO c2
  rcases hO1.nil_or with ⟨rfl, hY0⟩ | ⟨g1, cp1, rfl⟩
  · subst hY0
    refine go_on ?_
    (try simp only [push_cast, simprocAttr])
    (refine at_call ?_; (try simp only [push_cast, simprocAttr]); refine rwc_v (hE1) (go_on ?_); (try simp only [push_cast, simprocAttr]))
    (try simp only [Bool.not_true, e4, push_cast, simprocAttr])
    ((try simp only [push_cast, simprocAttr]); refine at_share2 (by simp [isC2, isC]) (by first | rfl | simp [ren]) (hTd) (go_on ?_); (try simp only [push_cast, simprocAttr]))
    refine call_gv [blsA bs, blsA bs] ⟨hOb.ga hXb, ga_c rfl, trivial⟩ hE0 (go_on ?_)
    (try simp only [Bool.not_true, push_cast, simprocAttr])
    ((try simp only [push_cast, simprocAttr]); refine at_share2 (by simp [isC2, isC]) (by first | rfl | simp [ren]) (hTid) (go_on ?_); (try simp only [push_cast, simprocAttr]))
    (refine at_call ?_; (try simp only [push_cast, simprocAttr]); refine rwc_v (hEi) (go_on ?_); (try simp only [push_cast, simprocAttr]))
    (try simp only [Bool.not_true, push_cast, simprocAttr])
    refine at_markB (k0 := 1) rfl hOb hXb (by omega) (by omega) ?_
    rintro w4 lent4 hM hO2
    have c4 := hM.ch _ _ c3
    have hO1b := hO1.same (fun b hb => hM.keep b (hX1 b hb) (hdis b hb)) (fun _ h => h)
    have hX1b : ∀ b, X1 b → lent4.fb b := fun b h => by rw [hM.fb]; exact hX1 b h
    clear hOb hXb hO1 hX1 hM hO2 c3
    refine go_on ?_
    (try simp only [push_cast, simprocAttr])
    (try simp only [push_cast, simprocAttr]); refine call_lend [40000] none (lr := [rowZ xs]) (by simp [ndB]) (by first | rfl | simp [rowsOf, hget, rdR, rowS, sC, ndC, cmC]) (by simp [idsL, idsA]) (by simp [mvN]) (by simpa [rnA, ixOf] using hMz) ?_
    rintro rv lr' rows ⟨rfl, rfl, rfl⟩
    (refine ⟨by simp [shB, mvF, rdR, rowS, mkZ_len], by simp [frB, baseOf], go_on ?_⟩; simp only [killA, killH, killRow, push_cast, simprocAttr])
    (try simp only [e0, push_cast, simprocAttr])
    (refine at_call ?_; (try simp only [push_cast, simprocAttr]); refine rwc_v (hE1) (go_on ?_); (try simp only [push_cast, simprocAttr]))
    (try simp only [Bool.not_true, e4, push_cast, simprocAttr])
    (refine at_call ?_; (try simp only [push_cast, simprocAttr]); refine rwc_v (markBlobS_nil 1) (go_on ?_); (try simp only [push_cast, simprocAttr]))
    (refine at_call ?_; (try simp only [push_cast, simprocAttr]); refine rwc_v (heldBlobS_nil) (go_on ?_); (try simp only [push_cast, simprocAttr]))
    (try simp only [show ltI 1 0 = false from rfl, show eqI 1 1 = true from rfl, Bool.not_true, push_cast, simprocAttr])
    ((try simp only [push_cast, simprocAttr]); refine at_share2 (by simp [isC2, isC]) (by first | rfl | simp [ren]) (hTd) (go_on ?_); (try simp only [push_cast, simprocAttr]))
    ((try simp only [push_cast, simprocAttr]); refine at_share2 (by simp [isC2, isC]) (by first | rfl | simp [ren]) (hTid) (go_on ?_); (try simp only [push_cast, simprocAttr]))
    ((try simp only [push_cast, simprocAttr]); refine at_share2 (by simp [isC2, isC]) (by first | rfl | simp [ren]) (hId) (go_on ?_); (try simp only [push_cast, simprocAttr]))
    (refine at_call ?_; (try simp only [push_cast, simprocAttr]); refine rwc_v (hE1) (go_on ?_); (try simp only [push_cast, simprocAttr]))
    (try simp only [Bool.not_true, e4, push_cast, simprocAttr])
    (refine at_call ?_; (try simp only [push_cast, simprocAttr]); refine rwc_v (heldBlobS_nil) (go_on ?_); (try simp only [push_cast, simprocAttr]))
    (try simp only [show ltI 1 0 = false from rfl, show eqI 1 1 = true from rfl, Bool.not_true, push_cast, simprocAttr])
    (refine at_retO c4 (l := [bA true]) (by simp only [Try.results10, push_cast, simprocAttr]) ?_)
    exact fun loc a w v hR hG => poB hG
  · refine go_on ?_
    (try simp only [push_cast, simprocAttr])
    refine call_gv [blsA Y, blsA Y] ⟨hO1.ga hX1, ga_c rfl, trivial⟩ hE1 (go_on ?_)
    (try simp only [Bool.not_true, e4, push_cast, simprocAttr])
    ((try simp only [push_cast, simprocAttr]); refine at_share2 (by simp [isC2, isC]) (by first | rfl | simp [ren]) (hTd) (go_on ?_); (try simp only [push_cast, simprocAttr]))
    refine call_gv [blsA bs, blsA bs] ⟨hOb.ga hXb, ga_c rfl, trivial⟩ hE0 (go_on ?_)
    (try simp only [Bool.not_true, push_cast, simprocAttr])
    ((try simp only [push_cast, simprocAttr]); refine at_share2 (by simp [isC2, isC]) (by first | rfl | simp [ren]) (hTid) (go_on ?_); (try simp only [push_cast, simprocAttr]))
    (refine at_call ?_; (try simp only [push_cast, simprocAttr]); refine rwc_v (hEi) (go_on ?_); (try simp only [push_cast, simprocAttr]))
    (try simp only [Bool.not_true, push_cast, simprocAttr])
    refine at_markB (k0 := 1) rfl hOb hXb (by omega) (by omega) ?_
    rintro w4 lent4 hM hO2
    have c4 := hM.ch _ _ c3
    have hO1b := hO1.same (fun b hb => hM.keep b (hX1 b hb) (hdis b hb)) (fun _ h => h)
    have hX1b : ∀ b, X1 b → lent4.fb b := fun b h => by rw [hM.fb]; exact hX1 b h
    clear hOb hXb hO1 hX1 hM hO2 c3
    refine go_on ?_
    (try simp only [push_cast, simprocAttr])
    (try simp only [push_cast, simprocAttr]); refine call_lend [40000] none (lr := [rowZ xs]) (by simp [ndB]) (by first | rfl | simp [rowsOf, hget, rdR, rowS, sC, ndC, cmC]) (by simp [idsL, idsA]) (by simp [mvN]) (by simpa [rnA, ixOf] using hMz) ?_
    rintro rv lr' rows ⟨rfl, rfl, rfl⟩
    (refine ⟨by simp [shB, mvF, rdR, rowS, mkZ_len], by simp [frB, baseOf], go_on ?_⟩; simp only [killA, killH, killRow, push_cast, simprocAttr])
    (try simp only [e0, push_cast, simprocAttr])
    refine call_gv [blsA Y, blsA Y] ⟨hO1b.ga hX1b, ga_c rfl, trivial⟩ hE1 (go_on ?_)
    (try simp only [Bool.not_true, e4, push_cast, simprocAttr])
    refine at_markB (k0 := 1) rfl hO1b hX1b (by omega) (by omega) ?_
    rintro w5 lent5 hM hO5
    have c5 := hM.ch _ _ c4
    have hX5 : ∀ b, X1 b → lent5.fb b := fun b h => by rw [hM.fb]; exact hX1b b h
    clear hO1b hX1b hM c4
    refine go_on ?_
    (try simp only [push_cast, simprocAttr])
    refine call_gv [blsA (mkB 1 Y), iA 1] ⟨hO5.ga hX5, ga_c rfl, trivial⟩ hH (go_on ?_)
    (try simp only [e2, e3, Bool.not_true, push_cast, simprocAttr])
    ((try simp only [push_cast, simprocAttr]); refine at_share2 (by simp [isC2, isC]) (by first | rfl | simp [ren]) (hTd) (go_on ?_); (try simp only [push_cast, simprocAttr]))
    ((try simp only [push_cast, simprocAttr]); refine at_share2 (by simp [isC2, isC]) (by first | rfl | simp [ren]) (hTid) (go_on ?_); (try simp only [push_cast, simprocAttr]))
    ((try simp only [push_cast, simprocAttr]); refine at_share2 (by simp [isC2, isC]) (by first | rfl | simp [ren]) (hId) (go_on ?_); (try simp only [push_cast, simprocAttr]))
    (refine at_call ?_; (try simp only [push_cast, simprocAttr]); refine rwc_v (hE1) (go_on ?_); (try simp only [push_cast, simprocAttr]))
    (try simp only [Bool.not_true, e4, push_cast, simprocAttr])
    refine call_gv [blsA (mkB 1 Y), iA 1] ⟨hO5.ga hX5, ga_c rfl, trivial⟩ hH (go_on ?_)
    (try simp only [e2, e3, Bool.not_true, push_cast, simprocAttr])
    (refine at_retO c5 (l := [bA true]) (by simp only [Try.results10, push_cast, simprocAttr]) ?_)
    exact fun loc a w v hR hG => poB hG
theorem FnExactDiskWrite_pc (bs : List BD) (q1 : bs.length ≤ 9223372036854775807) (q2 : ∀ d ∈ bs, d.safe.length ≤ 9223372036854775807 ∧ d.fresh.length ≤ 9223372036854775807)  (nm : Int) (xs : List Int) (qk : xs.length ≤ 9223372036854775807) : PC Try.prog 10 [blsA bs, iA nm, intsA xs] (vB true) := by
  by_cases hb0 : bs = []
  · exact FnExactDiskWrite_0 bs q1 q2 hb0 nm xs qk
  · exact FnExactDiskWrite_1 bs q1 q2 hb0 nm xs qk
end Go.Proofs.Ytepcabenjikhgaa
