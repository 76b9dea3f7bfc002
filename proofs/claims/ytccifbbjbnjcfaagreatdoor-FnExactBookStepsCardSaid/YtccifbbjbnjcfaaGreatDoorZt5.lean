/- A part of the proof of FnExactBookSteps: texts M36 M45 N16 M46 N21 N22 Y1 N23 N24 N25 N26 N27 J3 Po Pp. -/
import Derived.Test.YtccifbbjbnjcfaaGreatDoorZt4
import Derived.Test.YtccifbbjbnjcfaaGreatDoorZt3
import Derived.Test.YtccifbbjbnjcfaaGreatDoorZtp
set_option linter.unusedSimpArgs false
set_option linter.unusedVariables false
/-
  The abstract machine: a slice that is nil, read as an empty one, within rows.
-/
namespace Go.Proofs.YtccifbbjbnjcfaaGreatDoor
open Go Go.RowKit

def nlv (x y : AV) : Prop := x = y ∨ (x = .v (.slice none 0 0) ∧ ∃ n, y = .sl n [])
def nlC : List AV → List AV → Prop
  | [], [] => True
  | x :: l, y :: l' => nlv x y ∧ nlC l l'
  | _, _ => False
def nlE : List (List AV) → List (List AV) → Prop
  | [], [] => True
  | x :: l, y :: l' => nlC x y ∧ nlE l l'
  | _, _ => False
theorem nlC_refl : ∀ l, nlC l l
  | [] => trivial
  | _ :: l => ⟨.inl rfl, nlC_refl l⟩
theorem nlE_refl : ∀ l, nlE l l
  | [] => trivial
  | x :: l => ⟨nlC_refl x, nlE_refl l⟩
theorem nlC_get : ∀ {l l' : List AV}, nlC l l' → l.length = l'.length ∧ ∀ (j : Nat) y, l'[j]? = some y → ∃ x, l[j]? = some x ∧ nlv x y
  | [], [], _ => ⟨rfl, fun j y h => by simp at h⟩
  | x :: l, y :: l', ⟨h1, h2⟩ => by
    obtain ⟨g1, g2⟩ := nlC_get h2
    refine ⟨by simp [g1], fun j z hz => ?_⟩
    cases j with
    | zero => simp at hz; subst hz; exact ⟨x, rfl, h1⟩
    | succ j => exact g2 j z (by simpa using hz)
  | [], _ :: _, h => h.elim
  | _ :: _, [], h => h.elim
theorem nlE_get : ∀ {l l' : List (List AV)}, nlE l l' → l.length = l'.length ∧ ∀ (j : Nat) y, l'[j]? = some y → ∃ x, l[j]? = some x ∧ nlC x y
  | [], [], _ => ⟨rfl, fun j y h => by simp at h⟩
  | x :: l, y :: l', ⟨h1, h2⟩ => by
    obtain ⟨g1, g2⟩ := nlE_get h2
    refine ⟨by simp [g1], fun j z hz => ?_⟩
    cases j with
    | zero => simp at hz; subst hz; exact ⟨x, rfl, h1⟩
    | succ j => exact g2 j z (by simpa using hz)
  | [], _ :: _, h => h.elim
  | _ :: _, [], h => h.elim
def rowN2 (row row' : Row) : Prop := row'.E = row.E ∧ row'.sz = row.sz ∧ nlE row.es row'.es ∧ (row'.cl = true → (row.cl || row.es.all (·.all isC)) = true)
def leN (h : Hp) : Hp → Prop
  | [] => True
  | (r, row') :: l => (match hget h r with | some row => rowN2 row row' | none => False) ∧ leN h l
theorem leN_get {h : Hp} : ∀ {h' : Hp}, leN h h' → ∀ r row', hget h' r = some row' → ∃ row, hget h r = some row ∧ rowN2 row row'
  | [], _, r, row', hr => by simp [hget] at hr
  | (q, row0) :: h', hl, r, row', hr => by
    obtain ⟨h1, h2⟩ := hl
    simp only [hget] at hr
    split at hr
    · rename_i hq
      cases hr
      subst hq
      cases hg : hget h q with
      | none => rw [hg] at h1; exact h1.elim
      | some row => rw [hg] at h1; exact ⟨row, rfl, h1⟩
    · exact leN_get h2 r row' hr
theorem G.sub2 {h h' : Hp} {loc : Loc} {w : World} {x : AV} {u : Value} (hg : G h loc w x u) (hs : ∀ r ∈ idsA x, inH h' r = true) (hh : leN h h') (hC : ∀ x u, C (Live h loc) 0 w x u → C (Live h' loc) 0 w x u) : G h' loc w x u := by
  have hrow : ∀ r row, inH h' r = true → hget h r = some row → ∃ row', hget h' r = some row' ∧ rowN2 row row' := fun r row hi hr => by
    unfold inH at hi
    split at hi
    · rename_i row' hr'
      obtain ⟨row2, h1, h2⟩ := leN_get hh r row' hr'
      rw [hr] at h1
      cases h1
      exact ⟨row', hr', h2⟩
    · cases hi
  induction hg with
  | cl hc => exact .cl (hC _ _ hc)
  | @o r n row b c hr hl hn =>
    obtain ⟨row', h1, h2, h3, h4, _⟩ := hrow r row (hs r (by simp [idsA])) hr
    exact .o h1 hl (by rw [← (nlE_get h4).1]; exact hn)
  | @onil r row hr hl =>
    obtain ⟨row', h1, _⟩ := hrow r row (hs r (by simp [idsA])) hr
    exact .onil h1 hl
  | @p r k off row b c hr hl =>
    obtain ⟨row', h1, h2, h3, h4, _⟩ := hrow r row (hs r (by simp [idsA])) hr
    rw [← h3]
    exact .p h1 hl
  | @q r lo z n row b c A c' hr hl hn =>
    obtain ⟨row', h1, h2, h3, h4, _⟩ := hrow r row (hs r (by simp [idsA])) hr
    exact .q h1 hl hn
  | fn vs hvs hg ih => exact .fn vs hvs fun j a ha => ih j a ha fun r hr => hs r (by simp only [idsA]; exact idsL_mem ha r hr)
  | agg vs hvs hg ih => exact .agg vs hvs fun j a ha => ih j a ha fun r hr => hs r (by simp only [idsA]; exact idsL_mem ha r hr)
  | tup vs hvs hg ih => exact .tup vs hvs fun j a ha => ih j a ha fun r hr => hs r (by simp only [idsA]; exact idsL_mem ha r hr)
theorem wk_nil {s s' : AS} (ht : leL s.t s'.t) (hh : leN s.h s'.h) (hi : (idsL s'.t).all (inH s'.h) = true) (hr : idsR s'.h s'.h = true) : Wk s s' := by
  intro w0 lent loc a w hR
  obtain ⟨g1, g2⟩ := leL_get ht
  have hlive : ∀ b, Live s'.h loc b → Live s.h loc b := by
    rintro b (⟨r, row', c, h1, h2⟩ | hf)
    · obtain ⟨row, h3, _⟩ := leN_get hh r row' h1
      exact .inl ⟨r, row, c, h3, h2⟩
    · exact .inr hf
  have hC : ∀ x u, C (Live s.h loc) 0 w x u → C (Live s'.h loc) 0 w x u := fun x u hx => hx.mono (Nat.le_refl _) (Nat.le_refl _) fun b _ _ hnl => ⟨fun h => hnl (hlive b h), rfl⟩
  refine ⟨loc, hR.tsz.trans g1, fun i y hy => ?_, hR.df, fun r row' h1 => ?_, fun r r' row row' b c c' h1 h2 h3 h4 => ?_, fun r row' b c h1 h2 => ?_, hR.os, hR.tape, hR.output, hR.size, hR.keep, hR.fbe, hR.fbl, hR.pn, hR.pl⟩
  · rcases g2 i y hy with rfl | h
    · exact .cl .any
    · exact (hR.tm i y h).sub2 (fun r hr => List.all_eq_true.1 hi r (idsL_mem hy r hr)) hh hC
  · obtain ⟨row, h2, e1, e2, e3, e4⟩ := leN_get hh r row' h1
    obtain ⟨q1, xs, q2, q3⟩ := hR.rw r row h2
    obtain ⟨f1, f2⟩ := nlE_get e3
    refine ⟨fun k e he => ?_, xs, ?_, fun k e j y he hy => ?_⟩
    · obtain ⟨e0, f3, f4⟩ := f2 k e he
      rw [e2, ← (nlC_get f4).1]; exact q1 k e0 f3
    · rw [e1, e2, ← f1]; exact q2
    · obtain ⟨e0, f3, f4⟩ := f2 k e he
      obtain ⟨x, f5, f6⟩ := (nlC_get f4).2 j y hy
      obtain ⟨u, p1, p2, p3, p4⟩ := q3 k e0 j x f3 f5
      refine ⟨u, by rw [e2]; exact p1, p2, ?_, fun hc => ?_⟩
      · rcases f6 with rfl | ⟨rfl, n, rfl⟩
        · rcases idsR_get hr r row' h1 with hc | hc
          · have := e4 hc
            rw [Bool.or_eq_true] at this
            rcases this with h | h
            · exact .cl (hC _ _ (p4 h))
            · exact .cl (hC _ _ (isC_ok p3 (List.all_eq_true.1 (List.all_eq_true.1 h e0 (List.mem_of_getElem? f3)) x (List.mem_of_getElem? f5))))
          · refine p3.sub2 (fun r' hr' => ?_) hh hC
            have := hc e (List.mem_of_getElem? he)
            exact List.all_eq_true.1 this r' (idsL_mem hy r' hr')
        · have := G.nil2 (n := n) p3
          rw [p3.v_inv]
          exact .cl (.nilsl _)
      · rcases f6 with rfl | ⟨rfl, n, rfl⟩
        · have := e4 hc
          rw [Bool.or_eq_true] at this
          rcases this with h | h
          · exact hC _ _ (p4 h)
          · exact hC _ _ (isC_ok p3 (List.all_eq_true.1 (List.all_eq_true.1 h e0 (List.mem_of_getElem? f3)) x (List.mem_of_getElem? f5)))
        · rw [p3.v_inv]
          exact .nilsl _
  · obtain ⟨row1, g3, _⟩ := leN_get hh r row h1
    obtain ⟨row2, g4, _⟩ := leN_get hh r' row' h2
    exact hR.inj r r' row1 row2 b c c' g3 g4 h3 h4
  · obtain ⟨row1, g3, _⟩ := leN_get hh r row' h1
    exact hR.own r row1 b c g3 h2

end Go.Proofs.YtccifbbjbnjcfaaGreatDoor
/-
  The abstract machine: own rows read as data, whatever rows stand beside them; at a call, too.
-/
namespace Go.Proofs.YtccifbbjbnjcfaaGreatDoor
open Go Go.RowKit Go.Proofs
def frwRow (ids : List Nat) (h : Hp) (row : Row) : Row := if (row.es.all fun e => e.all fun x => (idsA x).all fun r => !hasN ids r) = true then row else ⟨row.E, row.sz, row.es.map (·.map (viewN 3 h)), true⟩
def frwH (ids : List Nat) (h : Hp) : Hp → Hp
  | [] => []
  | (r, row) :: l => (r, frwRow ids h row) :: frwH ids h l
def frwS (ids : List Nat) (s : AS) : AS := ⟨s.t.map (frzT ids s.h), frwH ids s.h (delL s.h ids)⟩
theorem at_callW {P : Program} {w0 : World} {lent : Lent} {Q : Exit → Act → World → Prop} {f : FuncId} {args : List AV} {dst : Option Tmp} {k : List It} {s : AS} (ids : List Nat) (h : Wk ⟨s.t ++ args, s.h⟩ (frwS ids ⟨s.t ++ args, s.h⟩))
    (hk : RWp P w0 lent Q (.call f (args.map (frzT ids s.h)) dst k (frwS ids s))) : RWp P w0 lent Q (.call f args dst k s) := by
  intro loc a w hR vs hs hg
  have hR1 : Rel w0 lent ⟨s.t ++ args, s.h⟩ loc { a with tmps := a.tmps ++ vs } w := by
    refine ⟨by simp [hR.tsz, hs], fun i x hx => ?_, hR.df, hR.rw, hR.inj, hR.own, hR.os, hR.tape, hR.output, hR.size, hR.keep, hR.fbe, hR.fbl, hR.pn, hR.pl⟩
    have htsz := hR.tsz
    rcases Nat.lt_or_ge i s.t.length with h1 | h1
    · rw [List.getElem?_append_left h1] at hx
      have := hR.tm i x hx
      have e : (a.tmps ++ vs).getD i undef = a.tmps.getD i undef := by
        simp only [Array.getD_eq_getD_getElem?]
        rw [Array.getElem?_append_left (by omega)]
      rw [e]; exact this
    · rw [List.getElem?_append_right h1] at hx
      have := hg (i - s.t.length) x hx
      have e : (a.tmps ++ vs).getD i undef = vs.getD (i - s.t.length) undef := by
        simp only [Array.getD_eq_getD_getElem?]
        rw [Array.getElem?_append_right (by omega), htsz]
      rw [e]; exact this
  obtain ⟨loc', hR2⟩ := h w0 lent loc _ w hR1
  have ht : (frwS ids ⟨s.t ++ args, s.h⟩).t = (frwS ids s).t ++ args.map (frzT ids s.h) := by simp [frwS]
  have hh : (frwS ids ⟨s.t ++ args, s.h⟩).h = (frwS ids s).h := rfl
  have hl : (frwS ids s).t.length = s.t.length := by simp [frwS]
  have htsz := hR.tsz
  have hR3 : Rel w0 lent (frwS ids s) loc' a w := by
    refine ⟨by rw [hl]; exact htsz, fun i x hx => ?_, hR.df, hR2.rw, hR2.inj, hR2.own, hR2.os, hR2.tape, hR2.output, hR2.size, hR2.keep, hR2.fbe, hR2.fbl, hR2.pn, hR2.pl⟩
    have hi := lt_of_some hx
    have := hR2.tm i x (by rw [ht, List.getElem?_append_left hi]; exact hx)
    have e : (a.tmps ++ vs).getD i undef = a.tmps.getD i undef := by
      simp only [Array.getD_eq_getD_getElem?]
      rw [Array.getElem?_append_left (by omega)]
    rw [hh] at this
    dsimp only at this
    rw [e] at this; exact this
  refine hk loc' a w hR3 vs (by simp [hs]) fun j x hx => ?_
  have := hR2.tm (s.t.length + j) x (by rw [ht, List.getElem?_append_right (by omega), hl, Nat.add_sub_cancel_left]; exact hx)
  have e : (a.tmps ++ vs).getD (s.t.length + j) undef = vs.getD j undef := by
    simp only [Array.getD_eq_getD_getElem?]
    rw [Array.getElem?_append_right (by omega), htsz, Nat.add_sub_cancel_left]
  rw [hh] at this
  dsimp only at this
  rw [e] at this; exact this
def nlCell (n : Nat) : AV → AV
  | .v (.slice none 0 0) => .sl n []
  | x => x
def nilH (r n : Nat) : Hp → Hp
  | [] => []
  | (k, row) :: l => (k, if k = r then ⟨row.E, row.sz, row.es.map (·.map (nlCell n)), row.cl⟩ else row) :: nilH r n l
def nilR (r n : Nat) (s : AS) : AS := ⟨s.t, nilH r n s.h⟩
/-- The nil slices in a row, read as empty ones. -/
theorem at_nilR {P : Program} {w0 : World} {lent : Lent} {Q : Exit → Act → World → Prop} {k : List It} {s : AS} (r n : Nat) (h : Wk s (nilR r n s)) (h' : AW P w0 lent Q k (nilR r n s)) : AW P w0 lent Q k s := AW.wk h h'
theorem at_callV {P : Program} {w0 : World} {lent : Lent} {Q : Exit → Act → World → Prop} {f : FuncId} {args : List AV} {dst : Option Tmp} {k : List It} {s : AS} (g : AV → AV) (h' : Hp) (h : Wk ⟨s.t ++ args, s.h⟩ ⟨(s.t ++ args).map g, h'⟩)
    (hk : RWp P w0 lent Q (.call f (args.map g) dst k ⟨s.t.map g, h'⟩)) : RWp P w0 lent Q (.call f args dst k s) := by
  intro loc a w hR vs hs hg
  have hR1 : Rel w0 lent ⟨s.t ++ args, s.h⟩ loc { a with tmps := a.tmps ++ vs } w := by
    refine ⟨by simp [hR.tsz, hs], fun i x hx => ?_, hR.df, hR.rw, hR.inj, hR.own, hR.os, hR.tape, hR.output, hR.size, hR.keep, hR.fbe, hR.fbl, hR.pn, hR.pl⟩
    have htsz := hR.tsz
    rcases Nat.lt_or_ge i s.t.length with h1 | h1
    · rw [List.getElem?_append_left h1] at hx
      have := hR.tm i x hx
      have e : (a.tmps ++ vs).getD i undef = a.tmps.getD i undef := by
        simp only [Array.getD_eq_getD_getElem?]
        rw [Array.getElem?_append_left (by omega)]
      rw [e]; exact this
    · rw [List.getElem?_append_right h1] at hx
      have := hg (i - s.t.length) x hx
      have e : (a.tmps ++ vs).getD i undef = vs.getD (i - s.t.length) undef := by
        simp only [Array.getD_eq_getD_getElem?]
        rw [Array.getElem?_append_right (by omega), htsz]
      rw [e]; exact this
  obtain ⟨loc', hR2⟩ := h w0 lent loc _ w hR1
  have ht : (s.t ++ args).map g = s.t.map g ++ args.map g := List.map_append
  have hl : (s.t.map g).length = s.t.length := List.length_map _
  have htsz := hR.tsz
  have hR3 : Rel w0 lent ⟨s.t.map g, h'⟩ loc' a w := by
    refine ⟨by simpa using htsz, fun i x hx => ?_, hR.df, hR2.rw, hR2.inj, hR2.own, hR2.os, hR2.tape, hR2.output, hR2.size, hR2.keep, hR2.fbe, hR2.fbl, hR2.pn, hR2.pl⟩
    have hi := lt_of_some hx
    dsimp only at hi
    rw [hl] at hi
    have := hR2.tm i x (by dsimp only; rw [ht, List.getElem?_append_left (by omega)]; exact hx)
    have e : (a.tmps ++ vs).getD i undef = a.tmps.getD i undef := by
      simp only [Array.getD_eq_getD_getElem?]
      rw [Array.getElem?_append_left (by omega)]
    dsimp only at this
    rw [e] at this; exact this
  refine hk loc' a w hR3 vs (by simp [hs]) fun j x hx => ?_
  have := hR2.tm (s.t.length + j) x (by dsimp only; rw [ht, List.getElem?_append_right (by omega), hl, Nat.add_sub_cancel_left]; exact hx)
  have e : (a.tmps ++ vs).getD (s.t.length + j) undef = vs.getD j undef := by
    simp only [Array.getD_eq_getD_getElem?]
    rw [Array.getElem?_append_right (by omega), htsz, Nat.add_sub_cancel_left]
  dsimp only at this
  rw [e] at this; exact this
theorem at_callN {P : Program} {w0 : World} {lent : Lent} {Q : Exit → Act → World → Prop} {f : FuncId} {args : List AV} {dst : Option Tmp} {k : List It} {s : AS} (r n : Nat) (h : Wk ⟨s.t ++ args, s.h⟩ ⟨s.t ++ args, nilH r n s.h⟩)
    (hk : RWp P w0 lent Q (.call f args dst k (nilR r n s))) : RWp P w0 lent Q (.call f args dst k s) := at_callV id (nilH r n s.h) (by rw [List.map_id]; exact h) (by simpa [nilR] using hk)
end Go.Proofs.YtccifbbjbnjcfaaGreatDoor
/-
  Walks: disks: the reference's DiskWrite.
-/
namespace Go.Proofs.YtccifbbjbnjcfaaGreatDoor
open Go Go.RowKit Go.Proofs
theorem writeD_false {bs : List BD} {nm : Int} {xs : List Int} (h : (diskB bs && bytesB xs && inB nm 1 3 && diskB (withB bs (wrB bs nm xs))) = false) : writeD bs nm xs = ([], false) := by
  unfold writeD; rw [h]; rfl
theorem insB_mem {bs : List BD} {d x : BD} (h : x ∈ withB bs d) : x = d ∨ x ∈ bs := by
  rcases mem_with.1 h with h | h
  · exact .inl h
  · exact .inr h.1
theorem withB_len (bs : List BD) (d : BD) : (withB bs d).length ≤ bs.length + 1 := by
  unfold withB
  rw [insB_len]
  have := List.length_filter_le (fun x : BD => decide (x.name ≠ d.name)) bs
  omega
theorem withB_sm {bs : List BD} {d : BD} (h : SmB bs) (hn : bs.length ≤ 1000) (hd : SmD d) : SmB (withB bs d) := by
  have := withB_len bs d
  refine ⟨by omega, fun x hx => ?_⟩
  rcases insB_mem hx with rfl | hx
  · exact hd
  · exact h.d x hx
attribute [local irreducible] RWp AW run kPe pe Kt effA gd gu br retR RDp runD kPeD brW gW effD
set_option maxRecDepth 100000
theorem specDiskWrite_d (bs : List BD) (hs : SmB bs) (nm : Int) (xs : List Int) (hx : xs.length ≤ 2000000) (hd2 : ∀ d ∈ bs, d.fresh.length ≤ 2000000) : PC Tryz.prog 38 [blsA bs, iA nm, intsA xs] (vX (.tup [blsA (writeD bs nm xs).1, bA (writeD bs nm xs).2])) := by
  have hV := specDiskValid_pc bs hs
  have hB := l4Bytes_pc xs (by omega)
  have hn := hs.n
  have emp : ∀ {q : PC Tryz.prog 38 [blsA bs, iA nm, intsA xs] (rX (.tup [.o 0 0, bA false]) [rowB []])}, PC Tryz.prog 38 [blsA bs, iA nm, intsA xs] (vX (.tup [blsA [], bA false])) := fun {q} => by
    have := q.frzX
    simp [viewN, hpOf, hget, isC, tk] at this
    exact this
  cases hv : diskB bs with
  | false =>
    rw [writeD_false (by simp [hv])]
    refine emp (q := ?_)
    refine pc_enter Tryz.func38 rfl rfl fun w0 fb => go_on ?_; (try simp only [Tryz.ntmps38, push_cast, simprocAttr])
    (refine at_call ?_; (try simp only [push_cast, simprocAttr]); refine rwc_v (hV) (go_on ?_); (try simp only [push_cast, simprocAttr]))
    (try simp only [hv, Bool.not_false, push_cast, simprocAttr])
    refine at_ret ?_; simp only [Tryz.results38, push_cast, simprocAttr]
    simp [rX, ixOf]
  | true =>
    have h3n := disk_len hv
    cases hxb : bytesB xs with
    | false =>
      rw [writeD_false (by simp [hxb])]
      refine emp (q := ?_)
      refine pc_enter Tryz.func38 rfl rfl fun w0 fb => go_on ?_; (try simp only [Tryz.ntmps38, push_cast, simprocAttr])
      (refine at_call ?_; (try simp only [push_cast, simprocAttr]); refine rwc_v (hV) (go_on ?_); (try simp only [push_cast, simprocAttr]))
      (try simp only [hv, Bool.not_true, push_cast, simprocAttr])
      (refine at_call ?_; (try simp only [push_cast, simprocAttr]); refine rwc_v (hB) (go_on ?_); (try simp only [push_cast, simprocAttr]))
      (try simp only [hxb, Bool.not_false, push_cast, simprocAttr])
      refine at_ret ?_; simp only [Tryz.results38, push_cast, simprocAttr]
      simp [rX, ixOf]
    | true =>
      have hF := l31Find_pc bs hs.n nm
      obtain ⟨D, hD⟩ : ∃ D, D = wrB bs nm xs := ⟨_, rfl⟩
      have hDs : SmD D := by
        rw [hD]
        unfold wrB
        cases hg : getB bs nm with
        | none => exact ⟨by simp, by simp only; omega⟩
        | some d =>
          have hm := (getB_name hg).2
          exact ⟨(hs.d d hm).s, by have := hd2 d hm; simp only [List.length_append]; omega⟩
      have hW := l31With_d bs hs (by omega) D hDs
      have hwl := withB_len bs D
      have hws := withB_sm hs (by omega) hDs
      have hV2 := specDiskValid_pc (withB bs D) hws
      have hok : (diskB (withB bs D)) = (diskB bs && bytesB xs && inB nm 1 3 && diskB (withB bs (wrB bs nm xs))) := by
        rw [hv, hxb, ← hD]
        cases h : diskB (withB bs D) with
        | false => simp
        | true =>
          have := disk_with_ok h
          simp only [okF, Bool.and_eq_true] at this
          have e : D.name = nm := by rw [hD]; exact wrB_name bs nm xs
          rw [e] at this
          simp [this.1.1.1]
      rcases ixB_cases bs nm with ⟨h1, h2⟩ | ⟨j, d, h1, h2, h3⟩
      · have hDe : D = ⟨nm, [], xs⟩ := by rw [hD]; unfold wrB; rw [h2]
        rw [hDe] at hW
        unfold blobA at hW
        simp only [bC, List.map_nil] at hW
        rw [← hDe] at hW
        cases hV3 : diskB (withB bs D) with
        | false =>
          rw [writeD_false (by rw [← hok, hV3])]
          refine emp (q := ?_)
          refine pc_enter Tryz.func38 rfl rfl fun w0 fb => go_on ?_; (try simp only [Tryz.ntmps38, push_cast, simprocAttr])
          (refine at_call ?_; (try simp only [push_cast, simprocAttr]); refine rwc_v (hV) (go_on ?_); (try simp only [push_cast, simprocAttr]))
          (try simp only [hv, Bool.not_true, push_cast, simprocAttr])
          (refine at_call ?_; (try simp only [push_cast, simprocAttr]); refine rwc_v (hB) (go_on ?_); (try simp only [push_cast, simprocAttr]))
          (try simp only [hxb, Bool.not_true, push_cast, simprocAttr])
          refine at_call ?_
          (try simp only [push_cast, simprocAttr])
          refine rwc_v hF ?_
          (try simp only [push_cast, simprocAttr])
          refine at_nilR 8 1 (by refine wk_nil ?_ ?_ ?_ ?_ <;> simp [nilR, nilH, nlCell, leL, leN, rowN2, nlE, nlC, nlv, idsL, idsA, idsR, inH, hget]) ?_
          simp only [nilR, nilH, nlCell, Nat.reduceEqDiff, if_true, if_false, List.map_cons, List.map_nil, simprocAttr]
          refine go_on ?_
          (try simp only [h1, show leI 0 (-1) = false from rfl, push_cast, simprocAttr])
          refine at_chk (by simp) ?_
          (try simp only [push_cast, simprocAttr])
          refine at_chk (by omega) ?_
          (try simp only [Nat.zero_add, push_cast, simprocAttr])
          (refine at_callW [32] (by refine wk_frz ?_ ?_ ?_ ?_ <;> simp [frwS, frwH, frwRow, frzT, hasN, delL, hdel, leF, leHF, rowF, frzB, idsL, idsA, idsR, inH, hget, sameRow, viewN, tk]) ?_; simp only [frwS, frwH, frwRow, frzT, hasN, delL, hdel, idsA, idsL, viewN, hget, tk, isC, List.map_cons, List.map_nil, List.all_cons, List.all_nil, List.append_nil, List.drop, List.getElem?_cons_zero, List.getElem?_cons_succ, Bool.not_false, Bool.not_true, Bool.and_true, if_true, if_false, Nat.zero_add, List.length_map, simprocAttr])
          ((try simp only [push_cast, simprocAttr]); refine at_share2 (by simp [isC2, isC]) (by first | rfl | simp [ren]) (hW) (go_on ?_); (try simp only [push_cast, simprocAttr]))
          (refine at_call ?_; (try simp only [push_cast, simprocAttr]); refine rwc_v (hV2) (go_on ?_); (try simp only [push_cast, simprocAttr]))
          (try simp only [hV3, Bool.not_false, push_cast, simprocAttr])
          refine at_ret ?_; simp only [Tryz.results38, push_cast, simprocAttr]
          simp [rX, ixOf]
        | true =>
          have hr : writeD bs nm xs = (withB bs D, true) := by unfold writeD; rw [← hok, hV3, hD]; rfl
          rw [hr]
          refine pc_enter Tryz.func38 rfl rfl fun w0 fb => go_on ?_; (try simp only [Tryz.ntmps38, push_cast, simprocAttr])
          (refine at_call ?_; (try simp only [push_cast, simprocAttr]); refine rwc_v (hV) (go_on ?_); (try simp only [push_cast, simprocAttr]))
          (try simp only [hv, Bool.not_true, push_cast, simprocAttr])
          (refine at_call ?_; (try simp only [push_cast, simprocAttr]); refine rwc_v (hB) (go_on ?_); (try simp only [push_cast, simprocAttr]))
          (try simp only [hxb, Bool.not_true, push_cast, simprocAttr])
          refine at_call ?_
          (try simp only [push_cast, simprocAttr])
          refine rwc_v hF ?_
          (try simp only [push_cast, simprocAttr])
          refine at_nilR 8 1 (by refine wk_nil ?_ ?_ ?_ ?_ <;> simp [nilR, nilH, nlCell, leL, leN, rowN2, nlE, nlC, nlv, idsL, idsA, idsR, inH, hget]) ?_
          simp only [nilR, nilH, nlCell, Nat.reduceEqDiff, if_true, if_false, List.map_cons, List.map_nil, simprocAttr]
          refine go_on ?_
          (try simp only [h1, show leI 0 (-1) = false from rfl, push_cast, simprocAttr])
          refine at_chk (by simp) ?_
          (try simp only [push_cast, simprocAttr])
          refine at_chk (by omega) ?_
          (try simp only [Nat.zero_add, push_cast, simprocAttr])
          (refine at_callW [32] (by refine wk_frz ?_ ?_ ?_ ?_ <;> simp [frwS, frwH, frwRow, frzT, hasN, delL, hdel, leF, leHF, rowF, frzB, idsL, idsA, idsR, inH, hget, sameRow, viewN, tk]) ?_; simp only [frwS, frwH, frwRow, frzT, hasN, delL, hdel, idsA, idsL, viewN, hget, tk, isC, List.map_cons, List.map_nil, List.all_cons, List.all_nil, List.append_nil, List.drop, List.getElem?_cons_zero, List.getElem?_cons_succ, Bool.not_false, Bool.not_true, Bool.and_true, if_true, if_false, Nat.zero_add, List.length_map, simprocAttr])
          ((try simp only [push_cast, simprocAttr]); refine at_share2 (by simp [isC2, isC]) (by first | rfl | simp [ren]) (hW) (go_on ?_); (try simp only [push_cast, simprocAttr]))
          (refine at_call ?_; (try simp only [push_cast, simprocAttr]); refine rwc_v (hV2) (go_on ?_); (try simp only [push_cast, simprocAttr]))
          (try simp only [hV3, Bool.not_true, push_cast, simprocAttr])
          refine at_ret ?_; simp only [Tryz.results38, push_cast, simprocAttr]
          simp [vX]
      · have hDe : D = ⟨nm, d.safe, d.fresh ++ xs⟩ := by rw [hD]; unfold wrB; rw [h3]
        have hdn := (getB_name h3).1
        have hdm := (getB_name h3).2
        have hdf := hd2 d hdm
        have i1 := ix_n h2
        have i2 := map_get bC h2
        have j1 : leI 0 (j : Int) = true := leI_t (by omega)
        have hC := l31Copy_d d (hs.d d hdm)
        rw [hDe] at hW
        unfold blobA at hW hC
        simp only [bC, List.map_append] at hW hC i2
        rw [← hDe, ← hdn] at hW
        cases hV3 : diskB (withB bs D) with
        | false =>
          rw [writeD_false (by rw [← hok, hV3])]
          refine emp (q := ?_)
          refine pc_enter Tryz.func38 rfl rfl fun w0 fb => go_on ?_; (try simp only [Tryz.ntmps38, push_cast, simprocAttr])
          (refine at_call ?_; (try simp only [push_cast, simprocAttr]); refine rwc_v (hV) (go_on ?_); (try simp only [push_cast, simprocAttr]))
          (try simp only [hv, Bool.not_true, push_cast, simprocAttr])
          (refine at_call ?_; (try simp only [push_cast, simprocAttr]); refine rwc_v (hB) (go_on ?_); (try simp only [push_cast, simprocAttr]))
          (try simp only [hxb, Bool.not_true, push_cast, simprocAttr])
          (refine at_call ?_; (try simp only [push_cast, simprocAttr]); refine rwc_v (hF) (go_on ?_); (try simp only [push_cast, simprocAttr]))
          (try simp only [h1, j1, push_cast, simprocAttr])
          (refine at_call ?_; (try simp only [push_cast, simprocAttr]); refine rwc_v (hF) (go_on ?_); (try simp only [push_cast, simprocAttr]))
          (try simp only [h1, i1, i2, push_cast, simprocAttr])
          ((try simp only [push_cast, simprocAttr]); refine at_share2 (by simp [isC2, isC]) (by first | rfl | simp [ren]) (hC) (go_on ?_); (try simp only [push_cast, simprocAttr]))
          refine at_chk (by omega) ?_
          (try simp only [Nat.zero_add, push_cast, simprocAttr])
          refine at_chk (by omega) ?_
          (try simp only [Nat.zero_add, push_cast, simprocAttr])
          (refine at_callW [32] (by refine wk_frz ?_ ?_ ?_ ?_ <;> simp [← List.map_append, List.length_append, eq_self, frwS, frwH, frwRow, frzT, hasN, delL, hdel, leF, leHF, rowF, frzB, idsL, idsA, idsR, inH, hget, sameRow, viewN, tk]) ?_; simp only [← List.map_append, List.length_append, eq_self, frwS, frwH, frwRow, frzT, hasN, delL, hdel, idsA, idsL, viewN, hget, tk, isC, List.map_cons, List.map_nil, List.all_cons, List.all_nil, List.append_nil, List.drop, List.getElem?_cons_zero, List.getElem?_cons_succ, Bool.not_false, Bool.not_true, Bool.and_true, if_true, if_false, Nat.zero_add, List.length_map, simprocAttr])
          ((try simp only [push_cast, simprocAttr]); refine at_share2 (by simp [isC2, isC]) (by first | rfl | simp [ren]) (hW) (go_on ?_); (try simp only [push_cast, simprocAttr]))
          (refine at_call ?_; (try simp only [push_cast, simprocAttr]); refine rwc_v (hV2) (go_on ?_); (try simp only [push_cast, simprocAttr]))
          (try simp only [hV3, Bool.not_false, push_cast, simprocAttr])
          refine at_ret ?_; simp only [Tryz.results38, push_cast, simprocAttr]
          simp [rX, ixOf]
        | true =>
          have hr : writeD bs nm xs = (withB bs D, true) := by unfold writeD; rw [← hok, hV3, hD]; rfl
          rw [hr]
          refine pc_enter Tryz.func38 rfl rfl fun w0 fb => go_on ?_; (try simp only [Tryz.ntmps38, push_cast, simprocAttr])
          (refine at_call ?_; (try simp only [push_cast, simprocAttr]); refine rwc_v (hV) (go_on ?_); (try simp only [push_cast, simprocAttr]))
          (try simp only [hv, Bool.not_true, push_cast, simprocAttr])
          (refine at_call ?_; (try simp only [push_cast, simprocAttr]); refine rwc_v (hB) (go_on ?_); (try simp only [push_cast, simprocAttr]))
          (try simp only [hxb, Bool.not_true, push_cast, simprocAttr])
          (refine at_call ?_; (try simp only [push_cast, simprocAttr]); refine rwc_v (hF) (go_on ?_); (try simp only [push_cast, simprocAttr]))
          (try simp only [h1, j1, push_cast, simprocAttr])
          (refine at_call ?_; (try simp only [push_cast, simprocAttr]); refine rwc_v (hF) (go_on ?_); (try simp only [push_cast, simprocAttr]))
          (try simp only [h1, i1, i2, push_cast, simprocAttr])
          ((try simp only [push_cast, simprocAttr]); refine at_share2 (by simp [isC2, isC]) (by first | rfl | simp [ren]) (hC) (go_on ?_); (try simp only [push_cast, simprocAttr]))
          refine at_chk (by omega) ?_
          (try simp only [Nat.zero_add, push_cast, simprocAttr])
          refine at_chk (by omega) ?_
          (try simp only [Nat.zero_add, push_cast, simprocAttr])
          (refine at_callW [32] (by refine wk_frz ?_ ?_ ?_ ?_ <;> simp [← List.map_append, List.length_append, eq_self, frwS, frwH, frwRow, frzT, hasN, delL, hdel, leF, leHF, rowF, frzB, idsL, idsA, idsR, inH, hget, sameRow, viewN, tk]) ?_; simp only [← List.map_append, List.length_append, eq_self, frwS, frwH, frwRow, frzT, hasN, delL, hdel, idsA, idsL, viewN, hget, tk, isC, List.map_cons, List.map_nil, List.all_cons, List.all_nil, List.append_nil, List.drop, List.getElem?_cons_zero, List.getElem?_cons_succ, Bool.not_false, Bool.not_true, Bool.and_true, if_true, if_false, Nat.zero_add, List.length_map, simprocAttr])
          ((try simp only [push_cast, simprocAttr]); refine at_share2 (by simp [isC2, isC]) (by first | rfl | simp [ren]) (hW) (go_on ?_); (try simp only [push_cast, simprocAttr]))
          (refine at_call ?_; (try simp only [push_cast, simprocAttr]); refine rwc_v (hV2) (go_on ?_); (try simp only [push_cast, simprocAttr]))
          (try simp only [hV3, Bool.not_true, push_cast, simprocAttr])
          refine at_ret ?_; simp only [Tryz.results38, push_cast, simprocAttr]
          simp [vX]
end Go.Proofs.YtccifbbjbnjcfaaGreatDoor
/-
  The abstract machine: memory set aside ('fb'), and the world anew: calls that make or write memory of which no row speaks.
-/
namespace Go.Proofs.YtccifbbjbnjcfaaGreatDoor
open Go Go.RowKit

def nf : List It → Bool
  | [] => true
  | .fin _ :: _ => false
  | _ :: k => nf k
theorem Kt_nf {P : Program} {w0 w1 : World} {lent lent1 : Lent} {Q : Exit → Act → World → Prop} : ∀ {k : List It}, nf k = true → Kt P w0 lent Q k = Kt P w1 lent1 Q k
  | [], _ => by funext e a w; simp only [Kt]
  | .fin _ :: _, h => by cases h
  | .code c :: k, h => by
    have ih := Kt_nf (P := P) (w0 := w0) (w1 := w1) (lent := lent) (lent1 := lent1) (Q := Q) (k := k) h
    funext e a w; cases e <;> simp only [Kt, ih]
  | .ops l :: k, h => by
    have ih := Kt_nf (P := P) (w0 := w0) (w1 := w1) (lent := lent) (lent1 := lent1) (Q := Q) (k := k) h
    funext e a w; cases e <;> simp only [Kt, ih]
  | .inBlock id :: k, h => by
    have ih := Kt_nf (P := P) (w0 := w0) (w1 := w1) (lent := lent) (lent1 := lent1) (Q := Q) (k := k) h
    funext e a w; cases e <;> simp only [Kt, ih]
/-- Only these blocks were written. -/
structure Mut (X : Nat → Prop) (w w' : World) : Prop where
  os : w'.os = w.os
  tape : w'.tape = w.tape
  output : w'.output = w.output
  size : w.heap.size ≤ w'.heap.size
  keep : ∀ b, b < w.heap.size → ¬ X b → w'.heap[b]? = w.heap[b]?
/-- What the base of a relation owes an older world; 'X': what may have been written of that. -/
structure ChX (X : Nat → Prop) (w0 w1 : World) (lent : Lent) : Prop where
  os : w1.os = w0.os
  tape : w1.tape = w0.tape
  output : w1.output = w0.output
  size : w0.heap.size ≤ w1.heap.size
  keep : ∀ b, b < w0.heap.size → ¬ X b → w1.heap[b]? = w0.heap[b]?
  bk : ∀ b, lent.bk b → X b ∨ w0.heap.size ≤ b
  fb : ∀ b, lent.fb b → X b ∨ w0.heap.size ≤ b
abbrev Ch (w0 w1 : World) (lent : Lent) : Prop := ChX (fun _ => False) w0 w1 lent
theorem Ch.refl (w : World) : Ch w w ⟨fun _ => False, fun _ => False, fun _ => none⟩ := ⟨rfl, rfl, rfl, Nat.le_refl _, fun _ _ _ => rfl, fun _ h => h.elim, fun _ h => h.elim⟩
section
variable {P : Program} {w0 w1 : World} {lent1 : Lent} {Q : Exit → Act → World → Prop} {s : AS} {loc : Loc} {a : Act} {w : World}
theorem ChX.mut {X : Nat → Prop} (h : ChX X w0 w1 lent1) (hR : Rel w1 lent1 s loc a w) : Mut X w0 w :=
  ⟨hR.os.trans h.os, hR.tape.trans h.tape, hR.output.trans h.output, Nat.le_trans h.size hR.size, fun b hb hx => (hR.keep b (Nat.lt_of_lt_of_le hb h.size) fun hk => (h.bk b hk).elim hx fun h2 => by omega).trans (h.keep b hb hx)⟩
theorem ChX.below (h : Ch w0 w1 lent1) (hR : Rel w1 lent1 s loc a w) : Below w0.heap.size w0 w := by
  have := h.mut hR
  exact ⟨this.os, this.tape, this.output, this.size, fun b hb => this.keep b hb fun h => h⟩
theorem ChX.fb' (h : Ch w0 w1 lent1) {b : Nat} (hb : lent1.fb b) : w0.heap.size ≤ b := (h.fb b hb).resolve_left fun h => h
theorem ChX.bk' (h : Ch w0 w1 lent1) {b : Nat} (hb : lent1.bk b) : w0.heap.size ≤ b := (h.bk b hb).resolve_left fun h => h
theorem ChX.own {X : Nat → Prop} (h : ChX X w0 w1 lent1) (hR : Rel w1 lent1 s loc a w) {r : Nat} {row : Row} {b c : Nat} (h1 : hget s.h r = some row) (h2 : loc r = some (b, c)) : X b ∨ w0.heap.size ≤ b := by
  rcases hR.own r row b c h1 h2 with h4 | h4
  · exact .inr (Nat.le_trans h.size h4)
  · exact h.bk b h4
theorem Rel.fbk (hR : Rel w1 lent1 s loc a w) {b : Nat} (hb : lent1.fb b) : w.heap[b]? = w1.heap[b]? := hR.keep b (hR.fbl b hb).1 (hR.fbl b hb).2
theorem Rel.nfb (hR : Rel w1 lent1 s loc a w) {r : Nat} {row : Row} {b c : Nat} (h1 : hget s.h r = some row) (h2 : loc r = some (b, c)) : ¬ lent1.fb b := fun hf => by
  obtain ⟨h3, h4⟩ := hR.fbl b hf
  rcases hR.own r row b c h1 h2 with h5 | h5
  · omega
  · exact h4 h5
theorem Rel.liveLt (hR : Rel w1 lent1 s loc a w) {b : Nat} (hb : Live s.h loc b) : b < w.heap.size := by
  rcases hb with hb | hb
  · exact Live.lt hR.rw hb
  · rw [hR.fbe] at hb
    exact Nat.lt_of_lt_of_le (hR.fbl b hb).1 hR.size
theorem AW.re {k : List It} (hk : nf k = true) (h : ∀ loc a w, Rel w1 lent1 s loc a w → ∃ w2 lent2 s2 loc2, Rel w2 lent2 s2 loc2 a w ∧ AW P w2 lent2 Q k s2) : AW P w1 lent1 Q k s := fun loc a w hR => by
  obtain ⟨w2, lent2, s2, loc2, h1, h2⟩ := h loc a w hR
  rw [Kt_nf (w1 := w2) (lent1 := lent2) hk]
  exact h2 loc2 a w h1
theorem loop_re {c : Code} {k : List It} {X : Type} (S : X → AS) (J : X → World → Lent → Prop) (μ : X → Nat) (hk : nf k = true)
    (h0 : ∀ loc a w, Rel w1 lent1 s loc a w → ∃ x w2 lent2 loc2, J x w2 lent2 ∧ Rel w2 lent2 (S x) loc2 a w)
    (hr : ∀ x w2 lent2, J x w2 lent2 → AW P w2 lent2 Q (.code c :: .fin (fun s' => ∀ loc a w, Rel w2 lent2 s' loc a w → ∃ y w3 lent3 loc3, J y w3 lent3 ∧ μ y < μ x ∧ Rel w3 lent3 (S y) loc3 a w) :: k) (S x)) : RWp P w1 lent1 Q (.loop c k s) := by
  intro loc a w hR
  obtain ⟨x0, w2, lent2, loc0, hj, hR0⟩ := h0 loc a w hR
  have least : ∀ p : Nat → Prop, (∃ n, p n) → ∃ n, p n ∧ ∀ m, p m → n ≤ m := by
    intro p ⟨n, hn⟩
    induction n using Nat.strongRecOn with
    | _ n ih =>
      by_cases h : ∃ m, m < n ∧ p m
      · obtain ⟨m, h1, h2⟩ := h
        exact ih m h1 h2
      · exact ⟨n, hn, fun m hm => by
          rcases Nat.lt_or_ge m n with h1 | h1
          · exact absurd ⟨m, h1, hm⟩ h
          · exact h1⟩
  classical
  let p : Act → World → Nat → Prop := fun a w n => ∃ x w2 lent2 loc, J x w2 lent2 ∧ Rel w2 lent2 (S x) loc a w ∧ μ x = n
  let m : Act → World → Nat := fun a w => if h : ∃ n, p a w n then Classical.choose (least _ h) else 0
  have hm : ∀ a w n, p a w n → p a w (m a w) ∧ m a w ≤ n := by
    intro a w n hn
    have h : ∃ n, p a w n := ⟨n, hn⟩
    have hc := Classical.choose_spec (least _ h)
    simp only [m, dif_pos h]
    exact ⟨hc.1, hc.2 n hn⟩
  refine wp_loop (fun a w => ∃ n, p a w n) m ⟨μ x0, x0, w2, lent2, loc0, hj, hR0, rfl⟩ fun a w ⟨n, hn⟩ => ?_
  obtain ⟨⟨x, w2, lent2, loc, hx, hR, hmx⟩, _⟩ := hm a w n hn
  refine wp_mono (hr x w2 lent2 hx loc a w hR) fun e a' w' hkk => ?_
  rw [Kt_nf (w1 := w2) (lent1 := lent2) hk]
  cases e with
  | normal =>
    obtain ⟨s', loc1, hK, hR1⟩ := hkk
    obtain ⟨y, w3, lent3, loc3, hy, hlt, hR2⟩ := hK loc1 a' w' hR1
    have h1 : p a' w' (μ y) := ⟨y, w3, lent3, loc3, hy, hR2, rfl⟩
    exact ⟨⟨_, h1⟩, by have := (hm a' w' _ h1).2; omega⟩
  | _ => exact hkk

theorem at_loopR {c : Code} {k : List It} {X : Type} (f : X → List (Nat × AV)) (g : X → Hp) (J : X → World → Lent → Prop) (μ : X → Nat) (hk : nf k = true)
    (h0 : ∀ loc a w, Rel w1 lent1 s loc a w → ∃ x w2 lent2 loc2, J x w2 lent2 ∧ Rel w2 lent2 ⟨upA (hvA s.t (dsts c)) (f x), g x⟩ loc2 a w)
    (hr : ∀ x w2 lent2, J x w2 lent2 → AW P w2 lent2 Q (.code c :: .fin (fun s' => ∀ loc a w, Rel w2 lent2 s' loc a w → ∃ y w3 lent3 loc3, J y w3 lent3 ∧ μ y < μ x ∧ Rel w3 lent3 ⟨upA (hvA s.t (dsts c)) (f y), g y⟩ loc3 a w) :: k) ⟨upA (hvA s.t (dsts c)) (f x), g x⟩) : RWp P w1 lent1 Q (.loop c k s) :=
  loop_re (fun x => ⟨upA (hvA s.t (dsts c)) (f x), g x⟩) J μ hk h0 hr
theorem from_wk {X : Type} {S : X → AS} {J : X → World → Lent → Prop} (x0 : X) (hj : J x0 w1 lent1) (h : Wk s (S x0)) : ∀ loc a w, Rel w1 lent1 s loc a w → ∃ x w2 lent2 loc2, J x w2 lent2 ∧ Rel w2 lent2 (S x) loc2 a w := fun loc a w hR => by
  obtain ⟨loc', h'⟩ := h w1 lent1 loc a w hR
  exact ⟨x0, w1, lent1, loc', hj, h'⟩
theorem from_wk2 {X : Type} {S : X → AS} {J : X → World → Lent → Prop} {μ : X → Nat} {m : Nat} (hR : Rel w1 lent1 s loc a w) (y : X) (hj : J y w1 lent1) (hm : μ y < m) (h : Wk s (S y)) : ∃ y w3 lent3 loc3, J y w3 lent3 ∧ μ y < m ∧ Rel w3 lent3 (S y) loc3 a w := by
  obtain ⟨loc', h'⟩ := h w1 lent1 loc a w hR
  exact ⟨y, w1, lent1, loc', hj, hm, h'⟩
/-- A relation anew, at the present world: other rows stand for the same memory. -/
theorem Rel.re {s2 : AS} {loc2 : Loc} (hR : Rel w1 lent1 s loc a w) (hlen : s2.t.length = s.t.length) (hlive : ∀ b, Live s2.h loc2 b → Live s.h loc b)
    (ht : ∀ (i : Nat) y, s2.t[i]? = some y → y = .any ∨ ∃ x, s.t[i]? = some x ∧ ((x = y ∧ isC x = true) ∨ ∀ u, G s.h loc w x u → G s2.h loc2 w y u))
    (hrw : ∀ r row, hget s2.h r = some row → RowOk s2.h loc2 w r row)
    (hinj : ∀ r r' row row' b c c', hget s2.h r = some row → hget s2.h r' = some row' → loc2 r = some (b, c) → loc2 r' = some (b, c') → r = r')
    (hfb : ∀ b, loc2.fb b → ¬ LiveR s2.h loc2 b) (pin : Nat → Option (Option (Nat × Nat))) (hpin : ∀ r p, pin r = some p → loc2 r = p ∧ 500000 ≤ r ∧ r < 600000) : Rel w ⟨LiveR s2.h loc2, loc2.fb, pin⟩ s2 loc2 a w := by
  refine ⟨hR.tsz.trans hlen.symm, fun i y hy => ?_, hR.df, hrw, hinj, fun r row b c h1 h2 => .inr ⟨r, row, c, h1, h2⟩, rfl, rfl, rfl, Nat.le_refl _, fun _ _ _ => rfl, rfl, fun b hb => ⟨hR.liveLt (hlive b (.inr hb)), hfb b hb⟩, fun r p hp => (hpin r p hp).1, fun r p hp => (hpin r p hp).2⟩
  rcases ht i y hy with rfl | ⟨x, hx, ⟨rfl, hc⟩ | h⟩
  · exact .cl .any
  · exact .cl ((isC_ok (hR.tm i x hx) hc).mono (Nat.le_refl _) (Nat.le_refl _) fun b _ _ hnl => ⟨fun hl => hnl (hlive b hl), rfl⟩)
  · exact h _ (hR.tm i x hx)
/-- A row whose cells stand for the same values. -/
theorem RowOk.re {h h2 : Hp} {loc2 : Loc} {r r2 : Nat} {row row2 : Row} (ho : RowOk h loc w r row) (hE : row2.E = row.E) (hz : row2.sz = row.sz) (hl : row2.es.length = row.es.length) (hloc : loc2 r2 = loc r)
    (hc : ∀ (k : Nat) e2, row2.es[k]? = some e2 → ∃ e, row.es[k]? = some e ∧ e.length = e2.length ∧ ∀ (j : Nat) y, e2[j]? = some y → ∃ x, e[j]? = some x ∧ ∀ u, G h loc w x u → (row.cl = true → C (Live h loc) 0 w x u) → G h2 loc2 w y u ∧ (row2.cl = true → C (Live h2 loc2) 0 w y u)) : RowOk h2 loc2 w r2 row2 := by
  obtain ⟨q1, xs, q2, q3⟩ := ho
  refine ⟨fun k e2 he => ?_, xs, ?_, fun k e2 j y he hy => ?_⟩
  · obtain ⟨e, h1, h2, _⟩ := hc k e2 he
    rw [hz, ← h2]; exact q1 k e h1
  · have : rowVal loc2 r2 row.es.length = rowVal loc r row.es.length := by simp only [rowVal, hloc]
    rw [hE, hz, hl, this]
    exact q2
  · obtain ⟨e, h1, _, h3⟩ := hc k e2 he
    obtain ⟨x, h4, h5⟩ := h3 j y hy
    obtain ⟨u, p1, p2, p3, p4⟩ := q3 k e j x h1 h4
    obtain ⟨g1, g2⟩ := h5 u p3 p4
    exact ⟨u, by rw [hz]; exact p1, p2, g1, g2⟩

def leQ (q : AV → AV → Prop) : List AV → List AV → Prop
  | [], [] => True
  | x :: l, y :: l' => (y = .any ∨ (x = y ∧ isC x = true) ∨ q x y) ∧ leQ q l l'
  | _, _ => False
theorem leQ_get {q : AV → AV → Prop} : ∀ {l l' : List AV}, leQ q l l' → l'.length = l.length ∧ ∀ (i : Nat) y, l'[i]? = some y → y = .any ∨ ∃ x, l[i]? = some x ∧ ((x = y ∧ isC x = true) ∨ q x y)
  | [], [], _ => ⟨rfl, fun i y h => by simp at h⟩
  | x :: l, y :: l', ⟨h1, h2⟩ => by
    obtain ⟨g1, g2⟩ := leQ_get h2
    refine ⟨by simp [g1], fun i z hz => ?_⟩
    cases i with
    | zero =>
      simp at hz; subst hz
      rcases h1 with h | h
      · exact .inl h
      · exact .inr ⟨x, rfl, h⟩
    | succ i => exact g2 i z (by simpa using hz)
  | [], _ :: _, h => h.elim
  | _ :: _, [], h => h.elim

/-! ### Contracts of functions that return memory set aside -/
def PO (P : Program) (f : FuncId) (args : List AV) (D : World → (Nat → Prop) → AV → Prop) : Prop :=
  (∀ (vs : Array Value) (W : World), (callFunc f vs).run P W = .ok (.enter f vs) W) ∧
  ∀ (w : World) (vs : Array Value), vs.size = args.length → (∀ (j : Nat) x, args[j]? = some x → C (fun _ => False) 0 w x (vs.getD j undef)) →
    Calls P f vs w fun e w' => ∃ x v, e = .returned v ∧ (∀ lv lo W, C lv lo W x v) ∧ Below w.heap.size w w' ∧ D w' (fun b => w.heap.size ≤ b ∧ b < w'.heap.size) x
def POpost (w0 : World) (D : World → (Nat → Prop) → AV → Prop) (e : Ending) (w' : World) : Prop :=
  ∃ x v, e = .returned v ∧ (∀ lv lo W, C lv lo W x v) ∧ Below w0.heap.size w0 w' ∧ D w' (fun b => w0.heap.size ≤ b ∧ b < w'.heap.size) x
theorem po_enter {f : FuncId} {fn : Func} {c : Code} {args : List AV} {D : World → (Nat → Prop) → AV → Prop} (hf : P.funcs[f]? = some fn) (hn : (fn.name == "runtime.NumGoroutine") = false) (hb : fn.body = some c)
    (h : ∀ w0, AW P w0 ⟨fun _ => False, fun _ => False, fun _ => none⟩ (bodyPost P fn (POpost w0 D)) [.code c] ⟨args ++ List.replicate (fn.ntmps - args.length) .any, []⟩) : PO P f args D := by
  have hn' : ¬ fn.name = "runtime.NumGoroutine" := by simpa using hn
  refine ⟨fun vs W => by simp [callFunc, hf, hn', hb], fun w vs hs hg => ?_⟩
  refine calls_of_wp hf hb ?_
  refine h w ⟨fun _ => none, fun _ => False⟩ _ w ⟨?_, fun i x hx => ?_, rfl, fun r row hr => (by cases hr), fun r r' row row' b c c' hr => (by cases hr), fun r row b c hr => (by cases hr), rfl, rfl, rfl, Nat.le_refl _, fun _ _ _ => rfl, rfl, fun b hb => hb.elim, fun r p h => (by cases h), fun r p h => (by cases h)⟩
  · simp [hs]
  · by_cases hi : i < args.length
    · simp only at hx
      rw [List.getElem?_append_left hi] at hx
      refine .cl ?_
      have := hg i x hx
      have e : (vs ++ Array.replicate (fn.ntmps - vs.size) undef).getD i undef = vs.getD i undef := by
        rw [Array.getD_eq_getD_getElem?, Array.getElem?_append, if_pos (by omega), ← Array.getD_eq_getD_getElem?]
      rw [e]
      exact this.mono (Nat.le_refl _) (Nat.le_refl _) fun b _ _ hnl => ⟨fun h => by
        rcases h with ⟨r, row, c, h1, _⟩ | h
        · cases h1
        · exact hnl h, rfl⟩
    · simp only at hx
      rw [List.getElem?_append_right (by omega), List.getElem?_replicate] at hx
      split at hx
      · cases hx; exact .cl .any
      · cases hx
theorem at_retO {fn : Func} {D : World → (Nat → Prop) → AV → Prop} {l : List AV} (hch : Ch w0 w1 lent1) (hl : resL P s fn.results.toList = some l)
    (h : ∀ loc a w v, Rel w1 lent1 s loc a w → G s.h loc w (retV l) v → ∃ x, (∀ lv lo W, C lv lo W x v) ∧ D w (fun b => w0.heap.size ≤ b ∧ b < w.heap.size) x) : RWp P w1 lent1 (bodyPost P fn (POpost w0 D)) (.ret s) := fun loc a w hR => by
  obtain ⟨v, h1, h2⟩ := retV_ok hR hl
  obtain ⟨x, h3, h4⟩ := h loc a w v hR h2
  exact ⟨hR.df, v, h1, x, v, rfl, h3, hch.below hR, h4⟩
/-- A contract with a plain result. -/
theorem PO.pc {f : FuncId} {args : List AV} {v0 : Value} (h : PO P f args fun _ _ x => x = .v v0) : PC P f args (vX (.v v0)) := by
  refine ⟨h.1, fun w fb vs h1 h2 h3 => (h.2 w vs h2 fun j x hx => (h3 j x hx).mono (Nat.le_refl _) (Nat.le_refl _) fun b _ _ _ => ⟨fun h => h, rfl⟩).mono ?_⟩
  rintro e w' ⟨x, v, rfl, hc, hb, rfl⟩
  exact ⟨_, [], v, ⟨rfl, rfl⟩, rfl, hb, ⟨fun _ => none, fb⟩, rfl, .cl (hc _ _ _), fun r row hr => (by cases hr), fun r r' row row' b c c' hr => (by cases hr), fun r row b c hr => (by cases hr)⟩

/-- Arguments as the callee reads them. -/
def gaOk (w1 : World) (lent1 : Lent) (s : AS) : List AV → List AV → Prop
  | [], [] => True
  | y :: l, x :: l' => (∀ loc a w, Rel w1 lent1 s loc a w → ∀ v, G s.h loc w x v → C (fun _ => False) 0 w y v) ∧ gaOk w1 lent1 s l l'
  | _, _ => False
theorem gaOk_get : ∀ {ga args : List AV}, gaOk w1 lent1 s ga args → ga.length = args.length ∧ ∀ (j : Nat) y, ga[j]? = some y → ∃ x, args[j]? = some x ∧ ∀ loc a w, Rel w1 lent1 s loc a w → ∀ v, G s.h loc w x v → C (fun _ => False) 0 w y v
  | [], [], _ => ⟨rfl, fun j y h => by simp at h⟩
  | y :: l, x :: l', ⟨h1, h2⟩ => by
    obtain ⟨g1, g2⟩ := gaOk_get h2
    refine ⟨by simp [g1], fun j z hz => ?_⟩
    cases j with
    | zero => simp at hz; subst hz; exact ⟨x, rfl, h1⟩
    | succ j => exact g2 j z (by simpa using hz)
  | [], _ :: _, h => h.elim
  | _ :: _, [], h => h.elim
theorem ga_c {x : AV} (hc : isC x = true) : ∀ loc a w, Rel w1 lent1 s loc a w → ∀ v, G s.h loc w x v → C (fun _ => False) 0 w x v := fun _ _ _ _ _ hg =>
  (isC_ok hg hc).mono (Nat.le_refl _) (Nat.le_refl _) fun _ _ _ _ => ⟨fun h => h, rfl⟩
theorem ga_v {x y : AV} (hy : viewN 3 s.h x = y) : ∀ loc a w, Rel w1 lent1 s loc a w → ∀ v, G s.h loc w x v → C (fun _ => False) 0 w y v := fun _ _ _ hR _ hg => by
  rw [← hy]
  exact (view_ok hR 3 x _ hg).mono (Nat.le_refl _) (Nat.le_refl _) fun _ _ _ _ => ⟨fun h => h, rfl⟩
theorem ga_g {u : Value} {y : AV} (h : ∀ w, (∀ b, lent1.fb b → w.heap[b]? = w1.heap[b]?) → C (fun _ => False) 0 w y u) : ∀ loc a w, Rel w1 lent1 s loc a w → ∀ v, G s.h loc w (.v u) v → C (fun _ => False) 0 w y v := fun loc a w hR v hg => by
  have := (isC_ok hg rfl)
  cases this
  exact h w fun b hb => hR.fbk hb
theorem call_gh {f : FuncId} {args : List AV} {dst : Option Tmp} {k : List It} {D : AV → List Row → Prop} (ga : List AV) (hga : gaOk w1 lent1 s ga args) (hpc : PC P f ga D)
    (hk : ∀ rv rows, D rv rows → flatV rv = true ∧ FlatR rows ∧ frB s.h (baseOf dst) rows.length = true ∧ AW P w1 lent1 Q k (backTo s dst rv rows)) : RWp P w1 lent1 Q (.call f args dst k s) := by
  intro loc a w hR vs hs hg
  obtain ⟨g1, g2⟩ := gaOk_get hga
  refine ⟨hpc.1 vs w, (hpc.2 w (fun _ => False) vs (fun b hb => hb.elim) (by omega) fun j y hy => ?_).mono ?_⟩
  · obtain ⟨x, hx, h⟩ := g2 j y hy
    exact h loc a w hR _ (hg j x hx)
  · rintro e w' ⟨rv, rows, v, hd, rfl, hb, hres⟩
    obtain ⟨h1, h2, h3, h4⟩ := hk rv rows hd
    obtain ⟨loc', hR', hv⟩ := Rel.join false (baseOf dst) hR hb hres h3 (fun h => by cases h) (.inr ⟨h1, h2⟩)
    exact ⟨v, rfl, h4 loc' _ w' (hR'.put dst hv)⟩
/-- From base to base. -/
structure Nx (w1 : World) (lent1 : Lent) (w2 : World) (lent2 : Lent) (X : Nat → Prop) : Prop where
  ch : ∀ X w0, ChX X w0 w1 lent1 → ChX X w0 w2 lent2
  keep : ∀ b, lent1.fb b → w2.heap[b]? = w1.heap[b]?
  fb : ∀ b, lent1.fb b → lent2.fb b
  xfb : ∀ b, X b → lent2.fb b
  xge : ∀ b, X b → w1.heap.size ≤ b
  flt : ∀ b, lent1.fb b → b < w1.heap.size
  size : w1.heap.size ≤ w2.heap.size
theorem call_PO {f : FuncId} {args : List AV} {dst : Option Tmp} {k : List It} {D : World → (Nat → Prop) → AV → Prop} (hnf : nf k = true) (ga : List AV) (hga : gaOk w1 lent1 s ga args) (hpo : PO P f ga D)
    (hk : ∀ w2 lent2 X x, Nx w1 lent1 w2 lent2 X → D w2 X x → AW P w2 lent2 Q k (AS.put s dst x)) : RWp P w1 lent1 Q (.call f args dst k s) := by
  intro loc a w hR vs hs hg
  obtain ⟨g1, g2⟩ := gaOk_get hga
  refine ⟨hpo.1 vs w, (hpo.2 w vs (by omega) fun j y hy => ?_).mono ?_⟩
  · obtain ⟨x, hx, h⟩ := g2 j y hy
    exact h loc a w hR _ (hg j x hx)
  · rintro e w' ⟨x, v, rfl, hc, hb, hd⟩
    refine ⟨v, rfl, ?_⟩
    let X : Nat → Prop := fun b => w.heap.size ≤ b ∧ b < w'.heap.size
    let loc2 : Loc := ⟨loc.at_, fun b => lent1.fb b ∨ X b⟩
    let lent2 : Lent := ⟨LiveR s.h loc, fun b => lent1.fb b ∨ X b, fun _ => none⟩
    have hfl : ∀ b, lent1.fb b → b < w.heap.size := fun b h => Nat.lt_of_lt_of_le (hR.fbl b h).1 hR.size
    have hnl : ∀ b, b < w.heap.size → ¬ Live s.h loc b → ¬ Live s.h loc2 b ∧ w'.heap[b]? = w.heap[b]? := fun b hb' hn => ⟨fun h => by
      rcases h with h | h | h
      · exact hn (.inl h)
      · exact hn (.inr (by rw [hR.fbe]; exact h))
      · have := h.1; omega, hb.block b hb'⟩
    have hG : ∀ x u, G s.h loc w x u → G s.h loc2 w' x u := fun x u hx => hx.mono hb.size (fun q row hq => ⟨rfl, row, hq, rfl, Nat.le_refl _⟩) hnl
    have hC : ∀ x u, C (Live s.h loc) 0 w x u → C (Live s.h loc2) 0 w' x u := fun x u hx => hx.mono (Nat.le_refl _) hb.size fun b _ hb' hn => hnl b hb' hn
    have hlr : ∀ b, LiveR s.h loc b → b < w.heap.size := fun b h => Live.lt hR.rw h
    have hRel : Rel w' lent2 s loc2 a w' := by
      refine ⟨hR.tsz, fun i x hx => hG _ _ (hR.tm i x hx), hR.df, fun r row hr => ?_, hR.inj, fun r row b c h1 h2 => .inr ⟨r, row, c, h1, h2⟩, rfl, rfl, rfl, Nat.le_refl _, fun _ _ _ => rfl, rfl, fun b h => ⟨?_, fun hl => ?_⟩, fun r p hp => (by cases hp), fun r p hp => (by cases hp)⟩
      · exact row_else (hR.rw r row hr) rfl (fun b c hl => hb.block b (hlr b ⟨r, row, c, hr, hl⟩)) hG hC
      · rcases h with h | h
        · have := hfl b h; have := hb.size; omega
        · exact h.2
      · obtain ⟨r, row, c, h1, h2⟩ := hl
        rcases h with h | h
        · exact hR.nfb h1 h2 h
        · have := hlr b ⟨r, row, c, h1, h2⟩; have := h.1; omega
    rw [Kt_nf (w1 := w') (lent1 := lent2) hnf]
    refine hk w' lent2 X x ⟨fun Y w0 h => ?_, fun b h => (hb.block b (hfl b h)).trans (hR.fbk h), fun b h => .inl h, fun b h => .inr h, fun b h => Nat.le_trans hR.size h.1, fun b h => (hR.fbl b h).1, Nat.le_trans hR.size hb.size⟩ hd loc2 _ w' (hRel.put dst (.cl (hc _ _ _)))
    have h0 := h.mut hR
    have hs0 := h0.size
    refine ⟨hb.os.trans h0.os, hb.tape.trans h0.tape, hb.output.trans h0.output, Nat.le_trans h0.size hb.size, fun b hb' hx => (hb.block b (by omega)).trans (h0.keep b hb' hx), fun b h1 => ?_, fun b h1 => ?_⟩
    · obtain ⟨r, row, c, h2, h3⟩ := h1
      exact h.own hR h2 h3
    · rcases h1 with h1 | h1
      · exact h.fb b h1
      · exact .inr (Nat.le_trans h0.size h1.1)
structure NxM (w1 : World) (lent1 : Lent) (w2 : World) (lent2 : Lent) (X : Nat → Prop) : Prop where
  ch : ∀ X w0, ChX X w0 w1 lent1 → ChX X w0 w2 lent2
  keep : ∀ b, lent1.fb b → ¬ X b → w2.heap[b]? = w1.heap[b]?
  fb : lent2.fb = lent1.fb
  size : w1.heap.size ≤ w2.heap.size
theorem call_mut {f : FuncId} {args : List AV} {dst : Option Tmp} {k : List It} {Z : World → AV → Prop} (X : Nat → Prop) (hnf : nf k = true) (hX : ∀ b, X b → lent1.fb b) (hen : ∀ (vs : Array Value) (W : World), (callFunc f vs).run P W = .ok (.enter f vs) W)
    (hcall : ∀ (w : World) (vs : Array Value), (∀ b, lent1.fb b → w.heap[b]? = w1.heap[b]?) → vs.size = args.length → (∀ (j : Nat) u, args[j]? = some (.v u) → vs.getD j undef = u) →
      Calls P f vs w fun e w' => ∃ x v, e = .returned v ∧ (∀ lv lo W, C lv lo W x v) ∧ Mut X w w' ∧ Z w' x)
    (hk : ∀ w2 lent2 x, NxM w1 lent1 w2 lent2 X → Z w2 x → AW P w2 lent2 Q k (AS.put s dst x)) : RWp P w1 lent1 Q (.call f args dst k s) := by
  intro loc a w hR vs hs hg
  refine ⟨hen vs w, (hcall w vs (fun b hb => hR.fbk hb) hs fun j u hu => ?_).mono ?_⟩
  · have := isC_ok (hg j _ hu) rfl
    generalize vs.getD j undef = z at this
    cases this
    rfl
  · rintro e w' ⟨x, v, rfl, hc, hb, hd⟩
    refine ⟨v, rfl, ?_⟩
    let lent2 : Lent := ⟨LiveR s.h loc, lent1.fb, fun _ => none⟩
    have hnl : ∀ b, b < w.heap.size → ¬ Live s.h loc b → ¬ Live s.h loc b ∧ w'.heap[b]? = w.heap[b]? := fun b hb' hn => ⟨hn, hb.keep b hb' fun h => hn (.inr (by rw [hR.fbe]; exact hX b h))⟩
    have hG : ∀ x u, G s.h loc w x u → G s.h loc w' x u := fun x u hx => hx.mono hb.size (fun q row hq => ⟨rfl, row, hq, rfl, Nat.le_refl _⟩) hnl
    have hC : ∀ x u, C (Live s.h loc) 0 w x u → C (Live s.h loc) 0 w' x u := fun x u hx => hx.mono (Nat.le_refl _) hb.size fun b _ hb' hn => hnl b hb' hn
    have hlr : ∀ b, LiveR s.h loc b → b < w.heap.size := fun b h => Live.lt hR.rw h
    have hRel : Rel w' lent2 s loc a w' := by
      refine ⟨hR.tsz, fun i x hx => hG _ _ (hR.tm i x hx), hR.df, fun r row hr => ?_, hR.inj, fun r row b c h1 h2 => .inr ⟨r, row, c, h1, h2⟩, rfl, rfl, rfl, Nat.le_refl _, fun _ _ _ => rfl, hR.fbe, fun b h => ⟨?_, fun hl => ?_⟩, fun r p hp => (by cases hp), fun r p hp => (by cases hp)⟩
      · exact row_else (hR.rw r row hr) rfl (fun b c hl => hb.keep b (hlr b ⟨r, row, c, hr, hl⟩) fun h => hR.nfb hr hl (hX b h)) hG hC
      · have := (hR.fbl b h).1; have := hR.size; have := hb.size; omega
      · obtain ⟨r, row, c, h1, h2⟩ := hl
        exact hR.nfb h1 h2 h
    rw [Kt_nf (w1 := w') (lent1 := lent2) hnf]
    refine hk w' lent2 x ⟨fun Y w0 h => ?_, fun b h hx => (hb.keep b (by have := (hR.fbl b h).1; have := hR.size; omega) hx).trans (hR.fbk h), rfl, Nat.le_trans hR.size hb.size⟩ hd loc _ w' (hRel.put dst (.cl (hc _ _ _)))
    have h0 := h.mut hR
    have hs0 := h0.size
    refine ⟨hb.os.trans h0.os, hb.tape.trans h0.tape, hb.output.trans h0.output, Nat.le_trans h0.size hb.size, fun b hb' hy => (hb.keep b (by omega) fun hx => ?_).trans (h0.keep b hb' hy), fun b h1 => ?_, fun b h1 => h.fb b h1⟩
    · rcases h.fb b (hX b hx) with h1 | h1
      · exact hy h1
      · omega
    · obtain ⟨r, row, c, h2, h3⟩ := h1
      exact h.own hR h2 h3
end
end Go.Proofs.YtccifbbjbnjcfaaGreatDoor
/-
  Trees of files set aside: every slice in a block of its own.
-/
namespace Go.Proofs.YtccifbbjbnjcfaaGreatDoor
open Go Go.RowKit Go.Proofs

theorem own_same {w w' : World} {base : Nat} {e : TypeId} {sz n : Nat} {v : Value} {xs : List Value} (h : w.ownsRow base e sz v n xs) (hs : ∀ g, v.ownBlock = some g → w'.heap[g]? = w.heap[g]?) : w'.ownsRow base e sz v n xs :=
  ⟨h.1, h.2.imp id fun ⟨g, cap, cur, e1, e2, e3, e4⟩ => ⟨g, cap, cur, e1, e2, (hs g (by rw [e1]; rfl)).trans e3, e4⟩⟩
theorem own_lt {w : World} {base : Nat} {e : TypeId} {sz n : Nat} {v : Value} {xs : List Value} (h : w.ownsRow base e sz v n xs) {g : Nat} (hg : v.ownBlock = some g) : g < w.heap.size := (h.lt g hg).2
def vOf (p : Option (Nat × Nat)) (n : Nat) : Value := match p with
  | none => .slice none 0 0
  | some (b, c) => .slice (some ⟨b, 0, none⟩) n c
theorem vOf_blk {p : Option (Nat × Nat)} {n g : Nat} (h : (vOf p n).ownBlock = some g) : ∃ c, p = some (g, c) := by
  unfold vOf at h
  split at h
  · cases h
  · simp only [Value.ownBlock, Option.some.injEq] at h
    subst h
    exact ⟨_, rfl⟩
theorem own_vOf {w : World} {base : Nat} {e : TypeId} {sz n : Nat} {v : Value} {xs : List Value} (h : w.ownsRow base e sz v n xs) : ∃ p, v = vOf p n := by
  rcases h.2 with ⟨rfl, rfl⟩ | ⟨g, cap, cur, rfl, _⟩
  · exact ⟨none, rfl⟩
  · exact ⟨some (g, cap), rfl⟩
/-- A row of plain values lies in memory. -/
theorem row_of {α : Type} {h : Hp} {loc : Loc} {w : World} {r : Nat} {E : TypeId} {sz : Nat} {cl : Bool} (f : α → List Value) (hf : ∀ x, (f x).length = sz) (l : List α) (h1 : ∀ x ∈ l, ∀ v ∈ f x, v.oneCell' = true)
    (ho : w.ownsRow 0 E sz (rowVal loc r l.length) l.length (l.flatMap f)) : RowOk h loc w r ⟨E, sz, l.map fun x => (f x).map .v, cl⟩ := by
  refine ⟨fun k e he => ?_, l.flatMap f, by simpa using ho, fun k e j a he ha => ?_⟩
  · simp only [List.getElem?_map, Option.map_eq_some_iff] at he
    obtain ⟨x, _, rfl⟩ := he
    rw [List.length_map]; exact hf x
  · simp only [List.getElem?_map, Option.map_eq_some_iff] at he
    obtain ⟨x, hx, rfl⟩ := he
    rw [List.getElem?_map, Option.map_eq_some_iff] at ha
    obtain ⟨v, hv, rfl⟩ := ha
    have hj := lt_of_some hv
    rw [hf] at hj
    exact ⟨v, by show (l.flatMap f)[k * sz + j]? = _; rw [flatMap_get f sz hf l k j x hx hj]; exact hv, h1 x (List.mem_of_getElem? hx) v (List.mem_of_getElem? hv), .cl .v, fun _ => .v⟩
theorem of_row {α : Type} {h : Hp} {loc : Loc} {w : World} {r : Nat} {E : TypeId} {sz : Nat} {cl : Bool} (f : α → List Value) (hf : ∀ x, (f x).length = sz) (l : List α) (ho : RowOk h loc w r ⟨E, sz, l.map fun x => (f x).map .v, cl⟩) : w.ownsRow 0 E sz (rowVal loc r l.length) l.length (l.flatMap f) := by
  obtain ⟨q1, vs, q2, q3⟩ := ho
  simp only [List.length_map] at q2
  have e : vs = l.flatMap f := by
    apply List.ext_getElem?
    intro i
    have hl := q2.1
    have hl2 := flatMap_len f sz hf l
    rcases Nat.lt_or_ge i (l.length * sz) with hi | hi
    · have hz : 0 < sz := by
        rcases Nat.eq_zero_or_pos sz with h | h
        · rw [h] at hi; omega
        · exact h
      have hk : i / sz < l.length := Nat.div_lt_of_lt_mul (by rw [Nat.mul_comm]; exact hi)
      have hj := Nat.mod_lt i hz
      have hx := List.getElem?_eq_getElem hk
      have hij : i / sz * sz + i % sz = i := by rw [Nat.mul_comm]; exact Nat.div_add_mod i sz
      have hv : (f l[i / sz])[i % sz]? = some ((f l[i / sz])[i % sz]'(by rw [hf]; exact hj)) := List.getElem?_eq_getElem _
      obtain ⟨u, p1, _, p3, _⟩ := q3 (i / sz) ((f l[i / sz]).map .v) (i % sz) (.v ((f l[i / sz])[i % sz]'(by rw [hf]; exact hj))) (by simp [hx]) (by rw [List.getElem?_map, hv]; rfl)
      dsimp only at p1
      rw [hij] at p1
      have := flatMap_get f sz hf l (i / sz) (i % sz) _ hx hj
      rw [hij, hv] at this
      rw [p1, this, p3.v_inv]
    · rw [List.getElem?_eq_none (by omega), List.getElem?_eq_none (by omega)]
  rw [← e]; exact q2

/-! ### Lists of numbers -/
def OwI (w : World) (X : Nat → Prop) (u : Value) (xs : List Int) : Prop := w.ownsRow 0 3 1 u xs.length (ints xs) ∧ ∀ g, u.ownBlock = some g → X g
theorem ints_fm (xs : List Int) : xs.flatMap (fun n => [Value.int .i64 n]) = ints xs := by
  unfold ints
  induction xs with
  | nil => rfl
  | cons x l ih => rw [List.flatMap_cons, List.map_cons, ih]; rfl
theorem own_rowZ {h : Hp} {loc : Loc} {w : World} {r : Nat} {xs : List Int} (ho : w.ownsRow 0 3 1 (rowVal loc r xs.length) xs.length (ints xs)) : RowOk h loc w r (rowZ xs) :=
  row_of (fun n : Int => [Value.int .i64 n]) (fun _ => rfl) xs (fun x _ v hv => by simp at hv; subst hv; rfl) (by rw [ints_fm]; exact ho)
theorem rowZ_own {h : Hp} {loc : Loc} {w : World} {r : Nat} {xs : List Int} (ho : RowOk h loc w r (rowZ xs)) : w.ownsRow 0 3 1 (rowVal loc r xs.length) xs.length (ints xs) := by
  have := of_row (fun n : Int => [Value.int .i64 n]) (fun _ => rfl) xs ho
  rwa [ints_fm] at this
theorem OwI.same {w w' : World} {X X' : Nat → Prop} {u : Value} {xs : List Int} (h : OwI w X u xs) (hs : ∀ b, X b → w'.heap[b]? = w.heap[b]?) (hx : ∀ b, X b → X' b) : OwI w' X' u xs := ⟨own_same h.1 fun g hg => hs g (h.2 g hg), fun g hg => hx g (h.2 g hg)⟩
theorem OwI.one {w : World} {X : Nat → Prop} {u : Value} {xs : List Int} (h : OwI w X u xs) : u.oneCell' = true := by
  rcases h.1.2 with ⟨rfl, _⟩ | ⟨g, cap, cur, rfl, _⟩ <;> rfl
theorem OwI.c {w : World} {X : Nat → Prop} {u : Value} {xs : List Int} (h : OwI w X u xs) {lv : Nat → Prop} (hx : ∀ b, X b → ¬ lv b) : C lv 0 w (intsA xs) u := by
  have hu : ∃ A c, u = .slice A xs.length c ∧ xs.length ≤ c ∧ c ≤ maxLen ∧ Rd w 0 1 A xs.length (ints xs) ∧ (0 < xs.length → ∀ ad, A = some ad → ¬ lv ad.block) := by
    rcases h.1.2 with ⟨rfl, h0⟩ | ⟨g, cap, cur, rfl, h1, h2, h3, h4, h5, h6⟩
    · have : xs = [] := List.eq_nil_of_length_eq_zero h0
      subst this
      exact ⟨none, 0, rfl, Nat.le_refl _, Nat.zero_le _, ⟨rfl, fun h => absurd h (by simp)⟩, fun h => absurd h (by simp)⟩
    · refine ⟨_, cap, rfl, h3, h4, ⟨h.1.1, fun _ => ⟨g, 0, rfl, Nat.zero_le _, own_lt h.1 rfl, fun j v hv => ?_⟩⟩, fun _ ad had => by cases had; exact hx g (h.2 g rfl)⟩
      rw [Nat.zero_add]
      rw [← h6, List.getElem?_take] at hv
      split at hv
      · simpa [World.cell?, h2] using hv
      · cases hv
  obtain ⟨A, c, rfl, h3, h4, h5, h6⟩ := hu
  have := C.sl (lv := lv) (lo := 0) (w := w) (sz := 1) (es := xs.map inC) (A := A) (c := c) (ints xs) (fun k _ => .int .i64 ((xs[k]?).getD 0)) (by simpa using h5) (by simpa using h6) (by simpa using h3) h4
    (fun k e he => by simp only [List.getElem?_map, Option.map_eq_some_iff] at he; obtain ⟨x, _, rfl⟩ := he; rfl)
    (fun k e j he hj => by
      simp only [List.getElem?_map, Option.map_eq_some_iff] at he
      obtain ⟨x, hx', rfl⟩ := he
      have : j = 0 := by simp [inC] at hj; exact hj
      subst this
      refine ⟨?_, rfl⟩
      simp [ints, hx'])
    (fun k e j a he ha => by
      simp only [List.getElem?_map, Option.map_eq_some_iff] at he
      obtain ⟨x, hx', rfl⟩ := he
      have hj := lt_of_some ha
      have : j = 0 := by simp [inC] at hj; exact hj
      subst this
      simp [inC] at ha
      subst ha
      rw [hx']
      exact .v)
  simpa using this

/-! ### Files -/
abbrev UU := List (Value × Value)
def cellV (x : BD × Value × Value) : List Value := [.int .i64 x.1.name, x.2.1, x.2.2]
def flU (us : UU) : List Value := us.flatMap fun p => [p.1, p.2]
def esT (bs : List BD) (us : UU) : List (List AV) := (bs.zip us).map fun x => (cellV x).map .v
def rowT (bs : List BD) (us : UU) : Row := ⟨79, 3, esT bs us, true⟩
structure Gh (w : World) (X : Nat → Prop) (bs : List BD) (us : UU) : Prop where
  len : us.length = bs.length
  inn : ∀ (k : Nat) d p, bs[k]? = some d → us[k]? = some p → OwI w X p.1 d.safe ∧ OwI w X p.2 d.fresh
  apart : (flU us).Pairwise fun a b => ∀ g, a.ownBlock = some g → b.ownBlock ≠ some g
structure OT (w : World) (X : Nat → Prop) (u : Value) (bs : List BD) (us : UU) : Prop where
  gh : Gh w X bs us
  row : w.ownsRow 0 79 3 u bs.length ((bs.zip us).flatMap cellV)
  blk : ∀ g, u.ownBlock = some g → X g
theorem Gh.same {w w' : World} {X X' : Nat → Prop} {bs : List BD} {us : UU} (h : Gh w X bs us) (hs : ∀ b, X b → w'.heap[b]? = w.heap[b]?) (hx : ∀ b, X b → X' b) : Gh w' X' bs us :=
  ⟨h.len, fun k d p h1 h2 => ⟨(h.inn k d p h1 h2).1.same hs hx, (h.inn k d p h1 h2).2.same hs hx⟩, h.apart⟩
theorem OT.same {w w' : World} {X X' : Nat → Prop} {u : Value} {bs : List BD} {us : UU} (h : OT w X u bs us) (hs : ∀ b, X b → w'.heap[b]? = w.heap[b]?) (hx : ∀ b, X b → X' b) : OT w' X' u bs us :=
  ⟨h.gh.same hs hx, own_same h.row fun g hg => hs g (h.blk g hg), fun g hg => hx g (h.blk g hg)⟩
theorem Gh.at {w : World} {X : Nat → Prop} {bs : List BD} {us : UU} (h : Gh w X bs us) {k : Nat} {d : BD} (hd : bs[k]? = some d) : ∃ p, us[k]? = some p := by
  have := lt_of_some hd
  exact ⟨us[k]'(by rw [h.len]; exact this), List.getElem?_eq_getElem _⟩
theorem Gh.one {w : World} {X : Nat → Prop} {bs : List BD} {us : UU} (h : Gh w X bs us) : ∀ x ∈ bs.zip us, ∀ v ∈ cellV x, v.oneCell' = true := fun x hx v hv => by
  obtain ⟨k, hk, rfl⟩ := List.mem_iff_getElem.1 hx
  have hz := List.getElem?_eq_getElem hk
  rw [List.getElem?_zip_eq_some] at hz
  have := h.inn k _ _ hz.1 hz.2
  simp only [cellV, List.mem_cons, List.not_mem_nil, or_false] at hv
  rcases hv with rfl | rfl | rfl
  · rfl
  · exact this.1.one
  · exact this.2.one
theorem zip_len {bs : List BD} {us : UU} (h : us.length = bs.length) : (bs.zip us).length = bs.length := by rw [List.length_zip]; omega
theorem own_rowT {h : Hp} {loc : Loc} {w : World} {X : Nat → Prop} {r : Nat} {bs : List BD} {us : UU} (hg : Gh w X bs us) (ho : w.ownsRow 0 79 3 (rowVal loc r bs.length) bs.length ((bs.zip us).flatMap cellV)) : RowOk h loc w r (rowT bs us) :=
  row_of cellV (fun _ => rfl) (bs.zip us) hg.one (by rw [zip_len hg.len]; exact ho)
theorem rowT_own {h : Hp} {loc : Loc} {w : World} {r : Nat} {bs : List BD} {us : UU} (hl : us.length = bs.length) (ho : RowOk h loc w r (rowT bs us)) : w.ownsRow 0 79 3 (rowVal loc r bs.length) bs.length ((bs.zip us).flatMap cellV) := by
  have := of_row cellV (fun _ => rfl) (bs.zip us) ho
  rwa [zip_len hl] at this
theorem OT.c {w : World} {X : Nat → Prop} {u : Value} {bs : List BD} {us : UU} (h : OT w X u bs us) {lv : Nat → Prop} (hx : ∀ b, X b → ¬ lv b) : C lv 0 w (blsA bs) u := by
  have hzl := zip_len h.gh.len
  have hu : ∃ A c, u = .slice A bs.length c ∧ bs.length ≤ c ∧ c ≤ maxLen ∧ Rd w 0 3 A bs.length ((bs.zip us).flatMap cellV) ∧ (0 < bs.length → ∀ ad, A = some ad → ¬ lv ad.block) := by
    rcases h.row.2 with ⟨rfl, h0⟩ | ⟨g, cap, cur, rfl, h1, h2, h3, h4, h5, h6⟩
    · have : bs = [] := List.eq_nil_of_length_eq_zero h0
      subst this
      exact ⟨none, 0, rfl, Nat.le_refl _, Nat.zero_le _, ⟨rfl, fun h => absurd h (by simp)⟩, fun h => absurd h (by simp)⟩
    · refine ⟨_, cap, rfl, h3, h4, ⟨h.row.1, fun _ => ⟨g, 0, rfl, Nat.zero_le _, own_lt h.row rfl, fun j v hv => ?_⟩⟩, fun _ ad had => by cases had; exact hx g (h.blk g rfl)⟩
      rw [Nat.zero_add]
      rw [← h6, List.getElem?_take] at hv
      split at hv
      · simpa [World.cell?, h2] using hv
      · cases hv
  obtain ⟨A, c, rfl, h3, h4, h5, h6⟩ := hu
  have key : ∀ (k : Nat) (e : List AV), (bs.map bC)[k]? = some e → ∃ d p, bs[k]? = some d ∧ us[k]? = some p ∧ e = bC d ∧ (bs.zip us)[k]? = some (d, p) := fun k e he => by
    rw [List.getElem?_map, Option.map_eq_some_iff] at he
    obtain ⟨d, hd, rfl⟩ := he
    obtain ⟨p, hp⟩ := h.gh.at hd
    exact ⟨d, p, hd, hp, rfl, by rw [List.getElem?_zip_eq_some]; exact ⟨hd, hp⟩⟩
  have := C.sl (lv := lv) (lo := 0) (w := w) (sz := 3) (es := bs.map bC) (A := A) (c := c) ((bs.zip us).flatMap cellV) (fun k j => (((bs.zip us).flatMap cellV)[k * 3 + j]?).getD undef) (by simpa using h5) (by simpa using h6) (by simpa using h3) h4
    (fun k e he => by obtain ⟨d, p, _, _, rfl, _⟩ := key k e he; rfl)
    (fun k e j he hj => by
      obtain ⟨d, p, h7, h8, rfl, h9⟩ := key k e he
      have hj3 : j < 3 := hj
      have hg := flatMap_get cellV 3 (fun _ => rfl) _ k j _ h9 hj3
      have hlt : (cellV (d, p))[j]? = some ((cellV (d, p))[j]'(by exact hj3)) := List.getElem?_eq_getElem _
      rw [hg, hlt]
      exact ⟨rfl, h.gh.one _ (List.mem_of_getElem? h9) _ (List.mem_of_getElem? hlt)⟩)
    (fun k e j a he ha => by
      obtain ⟨d, p, h7, h8, rfl, h9⟩ := key k e he
      have hj3 : j < 3 := lt_of_some ha
      have hg := flatMap_get cellV 3 (fun _ => rfl) _ k j _ h9 hj3
      have hi := h.gh.inn k d p h7 h8
      rw [hg]
      rcases j with _ | _ | _ | j
      · simp [bC] at ha; subst ha; exact .v
      · simp [bC] at ha; subst ha; exact hi.1.c hx
      · simp [bC] at ha; subst ha; exact hi.2.c hx
      · omega)
  simpa using this
end Go.Proofs.YtccifbbjbnjcfaaGreatDoor
/-
  Trees of files set aside: into rows and back.
-/
namespace Go.Proofs.YtccifbbjbnjcfaaGreatDoor
open Go Go.RowKit Go.Proofs
section
variable {w0 w1 : World} {lent1 : Lent} {s : AS} {loc : Loc} {a : Act} {w : World}

theorem G.o_val {h : Hp} {A n : Nat} {u : Value} (hg : G h loc w (.o A n) u) : u = rowVal loc A n := by
  generalize hx : AV.o A n = x at hg
  cases hg with
  | cl hc => subst hx; cases hc
  | o h1 h2 h3 => cases hx; simp only [rowVal, h2]
  | onil h1 h2 => cases hx; simp only [rowVal, h2]
  | _ => cases hx
/-- A list of numbers in a cell: a row of its own, or none. -/
inductive Lf (h : Hp) : AV → List Int → Prop
  | o {A : Nat} {zs : List Int} : hget h A = some (rowZ zs) → Lf h (.o A zs.length) zs
  | nil : Lf h (.v (.slice none 0 0)) []
theorem Lf.own {x : AV} {zs : List Int} (hR : Rel w1 lent1 s loc a w) (hf : Lf s.h x zs) : ∃ u, (∀ u', G s.h loc w x u' → u' = u) ∧ w.ownsRow 0 3 1 u zs.length (ints zs) ∧ (∀ g, u.ownBlock = some g → ∃ A row c, A ∈ idsA x ∧ hget s.h A = some row ∧ loc A = some (g, c)) ∧
    (∀ A n p, x = .o A n → lent1.pin A = some p → u = vOf p zs.length) := by
  cases hf with
  | @o A _ h =>
    refine ⟨rowVal loc A zs.length, fun u' hg => hg.o_val, rowZ_own (hR.rw A _ h), fun g hg => ?_, fun A' n p e hp => ?_⟩
    · obtain ⟨c, hc⟩ := vOf_blk (show (vOf (loc A) zs.length).ownBlock = some g from hg)
      exact ⟨A, _, c, by simp [idsA], h, hc⟩
    · cases e
      rw [show rowVal loc A zs.length = vOf (loc A) zs.length from rfl, hR.pn A p hp]
  | nil => exact ⟨.slice none 0 0, fun u' hg => hg.v_inv, World.ownsRow_nil _ _ _ _, fun g hg => (by cases hg), fun A n p e => (by cases e)⟩
theorem G.oR {h h2 : Hp} {loc2 : Loc} {R n : Nat} {u : Value} {row row2 : Row} (hg : G h loc w (.o R n) u) (h1 : hget h R = some row) (h2' : hget h2 R = some row2) (hl : loc2 R = loc R) (hn : row.es.length ≤ row2.es.length) : G h2 loc2 w (.o R n) u := by
  cases hg with
  | cl hc => cases hc
  | o g1 g2 g3 => rw [h1] at g1; cases g1; exact .o h2' (hl.trans g2) (by omega)
  | onil g1 g2 => exact .onil h2' (hl.trans g2)
/-- What stays of a slot where but one row stays. -/
def clS (R : Nat) (x : AV) : AV := match x with
  | .o r n => if r = R then .o r n else .any
  | y => if isC y = true then y else .any
theorem leQ_cls {R : Nat} : ∀ t : List AV, leQ (fun p q => ∃ n, p = .o R n ∧ q = .o R n) t (t.map (clS R))
  | [] => trivial
  | x :: l => by
    refine ⟨?_, leQ_cls l⟩
    unfold clS
    split
    · split
      · rename_i n e; subst e; exact .inr (.inr ⟨n, rfl, rfl⟩)
      · exact .inl rfl
    · split
      · rename_i h; exact .inr (.inl ⟨rfl, h⟩)
      · exact .inl rfl
/-- Two lists of a file are set aside. -/
theorem Rel.unlink (hR : Rel w1 lent1 s loc a w) {R : Nat} {row1 : Row} {x y : AV} {nm : Int} {xs ys : List Int} (hr : hget s.h R = some row1) (hE : row1.E = 79) (hz : row1.sz = 3) (hx : Lf s.h x xs) (hy : Lf s.h y ys) (hxy : ∀ q ∈ idsA x, q ∉ idsA y) (hxR : R ∉ idsA x) (hyR : R ∉ idsA y)
    (E2 : Value → Value → List (List AV)) (h2 : ∀ u1 u2, (E2 u1 u2).length = row1.es.length ∧ ∀ (k : Nat) e, (E2 u1 u2)[k]? = some e → (row1.es[k]? = some e ∧ e.all isC = true) ∨ (row1.es[k]? = some [iA nm, x, y] ∧ e = [iA nm, .v u1, .v u2])) :
    ∃ u1 u2 lent2 loc2, Rel w lent2 ⟨s.t.map (clS R), [(R, ⟨79, 3, E2 u1 u2, true⟩)]⟩ loc2 a w ∧ OwI w lent2.fb u1 xs ∧ OwI w lent2.fb u2 ys ∧ (∀ g, u1.ownBlock = some g → u2.ownBlock ≠ some g) ∧ (∀ g, u1.ownBlock = some g → ¬ lent1.fb g) ∧ (∀ g, u2.ownBlock = some g → ¬ lent1.fb g) ∧
      (∀ b, lent1.fb b → lent2.fb b) ∧ (∀ b, lent1.fb b → w.heap[b]? = w1.heap[b]?) ∧ (∀ X w0, ChX X w0 w1 lent1 → ChX X w0 w lent2) ∧ (∀ A n p, x = .o A n → lent1.pin A = some p → u1 = vOf p xs.length) ∧ (∀ A n p, y = .o A n → lent1.pin A = some p → u2 = vOf p ys.length) ∧ lent2.pin = (fun q => if q = R ∧ 500000 ≤ R ∧ R < 600000 then some (loc R) else none) ∧ (∀ p, lent1.pin R = some p → loc R = p) ∧ loc2 R = loc R := by
  obtain ⟨u1, v1, o1, b1, p1⟩ := hx.own hR
  obtain ⟨u2, v2, o2, b2, p2⟩ := hy.own hR
  obtain ⟨e0, e1⟩ := h2 u1 u2
  obtain ⟨t2, ht2⟩ : ∃ t2, t2 = s.t.map (clS R) := ⟨_, rfl⟩
  obtain ⟨g0, g1⟩ := leQ_get (leQ_cls (R := R) s.t)
  rw [← ht2] at g0 g1 ⊢
  let h3 : Hp := [(R, ⟨79, 3, E2 u1 u2, true⟩)]
  let loc2 : Loc := ⟨fun q => if q = R then loc R else none, fun b => lent1.fb b ∨ u1.ownBlock = some b ∨ u2.ownBlock = some b⟩
  have hl2 : ∀ b, LiveR h3 loc2 b → ∃ c, loc R = some (b, c) := by
    rintro b ⟨q, row, c, k1, k2⟩
    simp only [h3, hget] at k1
    split at k1
    · rename_i e; subst e
      exact ⟨c, by simpa [loc2] using k2⟩
    · cases k1
  have hlive : ∀ b, Live h3 loc2 b → Live s.h loc b := by
    rintro b (h | h | h | h)
    · obtain ⟨c, hc⟩ := hl2 b h
      exact .inl ⟨R, _, c, hr, hc⟩
    · exact .inr (by rw [hR.fbe]; exact h)
    · obtain ⟨A, row, c, _, k1, k2⟩ := b1 b h
      exact .inl ⟨A, row, c, k1, k2⟩
    · obtain ⟨A, row, c, _, k1, k2⟩ := b2 b h
      exact .inl ⟨A, row, c, k1, k2⟩
  have hg3 : hget h3 R = some ⟨79, 3, E2 u1 u2, true⟩ := by simp [h3, hget]
  have hnf1 : ∀ g, u1.ownBlock = some g → ¬ lent1.fb g := fun g h => by obtain ⟨A, row, c, _, k1, k2⟩ := b1 g h; exact hR.nfb k1 k2
  have hnf2 : ∀ g, u2.ownBlock = some g → ¬ lent1.fb g := fun g h => by obtain ⟨A, row, c, _, k1, k2⟩ := b2 g h; exact hR.nfb k1 k2
  have hap : ∀ g, u1.ownBlock = some g → u2.ownBlock ≠ some g := fun g k1 k2 => by
    obtain ⟨A, row, c, m1, k3, k4⟩ := b1 g k1
    obtain ⟨B, row', c', m2, k5, k6⟩ := b2 g k2
    have := hR.inj A B row row' g c c' k3 k5 k4 k6
    subst this
    exact hxy A m1 m2
  refine ⟨u1, u2, _, loc2, hR.re (s2 := ⟨t2, h3⟩) (loc2 := loc2) g0 hlive (fun i z hz => ?_) (fun r row hrr => ?_) (fun r r' row row' b c c' k1 k2 k3 k4 => ?_) (fun b hb hl => ?_) (fun q => if q = R ∧ 500000 ≤ R ∧ R < 600000 then some (loc R) else none) (fun r p hp => ?_), ⟨o1, fun g h => .inr (.inl h)⟩, ⟨o2, fun g h => .inr (.inr h)⟩, hap, hnf1, hnf2, fun b h => .inl h, fun b h => hR.fbk h, fun Y w0 h => ?_, p1, p2, rfl, fun p hp => hR.pn R p hp, by simp [loc2]⟩
  · rcases g1 i z hz with h | ⟨z0, k1, k2 | ⟨n, rfl, rfl⟩⟩
    · exact .inl h
    · exact .inr ⟨z0, k1, .inl k2⟩
    · exact .inr ⟨_, k1, .inr fun u hg => hg.oR hr hg3 (by simp [loc2]) (by show row1.es.length ≤ (E2 u1 u2).length; omega)⟩
  · simp only [h3, hget] at hrr
    split at hrr
    · rename_i e
      subst e
      cases hrr
      refine (hR.rw R row1 hr).re hE.symm hz.symm e0 (by simp [loc2]) fun k e2 he2 => ?_
      rcases e1 k e2 he2 with ⟨k1, k2⟩ | ⟨k1, rfl⟩
      · refine ⟨e2, k1, rfl, fun j y' hy' => ⟨y', hy', fun u hg _ => ?_⟩⟩
        have hcy := List.all_eq_true.1 k2 y' (List.mem_of_getElem? hy')
        have := (isC_ok hg hcy).mono (lv' := Live h3 loc2) (Nat.le_refl 0) (Nat.le_refl _) fun b _ _ hnl => ⟨fun hl => hnl (hlive b hl), rfl⟩
        exact ⟨.cl this, fun _ => this⟩
      · refine ⟨_, k1, rfl, fun j y' hy' => ?_⟩
        rcases j with _ | _ | _ | j
        · simp at hy'; subst hy'
          exact ⟨_, rfl, fun u hg _ => by rw [hg.v_inv]; exact ⟨.cl .v, fun _ => .v⟩⟩
        · simp at hy'; subst hy'
          exact ⟨_, rfl, fun u hg _ => by rw [v1 u hg]; exact ⟨.cl .v, fun _ => .v⟩⟩
        · simp at hy'; subst hy'
          exact ⟨_, rfl, fun u hg _ => by rw [v2 u hg]; exact ⟨.cl .v, fun _ => .v⟩⟩
        · simp at hy'
    · cases hrr
  · simp only [h3, hget] at k1 k2
    split at k1
    · split at k2
      · rename_i e1 e2; exact e1.symm.trans e2
      · cases k2
    · cases k1
  · obtain ⟨c, hc⟩ := hl2 b hl
    rcases hb with hb | hb | hb
    · exact hR.nfb hr hc hb
    · obtain ⟨A, row, c', m1, k3, k4⟩ := b1 b hb
      have := hR.inj A R row row1 b c' c k3 hr k4 hc
      subst this; exact hxR m1
    · obtain ⟨A, row, c', m1, k3, k4⟩ := b2 b hb
      have := hR.inj A R row row1 b c' c k3 hr k4 hc
      subst this; exact hyR m1
  · split at hp
    · rename_i e
      cases hp
      exact ⟨by simp [loc2, e.1], by omega⟩
    · cases hp
  · have h0 := h.mut hR
    refine ⟨h0.os, h0.tape, h0.output, h0.size, h0.keep, fun b hb => ?_, fun b hb => ?_⟩
    · obtain ⟨c, hc⟩ := hl2 b hb
      exact h.own hR hr hc
    · rcases hb with hb | hb | hb
      · exact h.fb b hb
      · obtain ⟨A, row, c, _, k1, k2⟩ := b1 b hb; exact h.own hR k1 k2
      · obtain ⟨A, row, c, _, k1, k2⟩ := b2 b hb; exact h.own hR k1 k2
/-- Two lists of a file, that were set aside, as rows. -/
theorem Rel.link (hR : Rel w1 lent1 s loc a w) {R : Nat} {E0 : List (List AV)} {k : Nat} {nm : Int} {u1 u2 : Value} {xs ys : List Int} (hr : hget s.h R = some ⟨79, 3, E0, true⟩) (hC0 : ∀ e ∈ E0, e.all isC = true) (hk : E0[k]? = some [iA nm, .v u1, .v u2]) (hRn : R ≠ 500001 ∧ R ≠ 500002)
    (h1 : OwI w lent1.fb u1 xs) (h2 : OwI w lent1.fb u2 ys) (hap : ∀ g, u1.ownBlock = some g → u2.ownBlock ≠ some g) :
    ∃ p1 p2 lent2 loc2, Rel w lent2 ⟨s.t.map (clS R), [(R, ⟨79, 3, E0.set k [iA nm, .o 500001 xs.length, .o 500002 ys.length], false⟩), (500001, rowZ xs), (500002, rowZ ys)]⟩ loc2 a w ∧ u1 = vOf p1 xs.length ∧ u2 = vOf p2 ys.length ∧
      lent2.fb = (fun b => lent1.fb b ∧ u1.ownBlock ≠ some b ∧ u2.ownBlock ≠ some b) ∧ (∀ b, lent1.fb b → w.heap[b]? = w1.heap[b]?) ∧ (∀ X w0, ChX X w0 w1 lent1 → ChX X w0 w lent2) ∧ lent2.pin 500001 = some p1 ∧ lent2.pin 500002 = some p2 ∧ (500000 ≤ R ∧ R < 600000 → lent2.pin R = some (loc R)) ∧ (∀ p, lent1.pin R = some p → loc R = p) := by
  obtain ⟨p1, rfl⟩ := own_vOf h1.1
  obtain ⟨p2, rfl⟩ := own_vOf h2.1
  obtain ⟨t2, ht2⟩ : ∃ t2, t2 = s.t.map (clS R) := ⟨_, rfl⟩
  obtain ⟨g0, g1⟩ := leQ_get (leQ_cls (R := R) s.t)
  rw [← ht2] at g0 g1 ⊢
  have hkl := lt_of_some hk
  let h3 : Hp := [(R, ⟨79, 3, E0.set k [iA nm, .o 500001 xs.length, .o 500002 ys.length], false⟩), (500001, rowZ xs), (500002, rowZ ys)]
  let loc2 : Loc := ⟨fun q => if q = R then loc R else if q = 500001 then p1 else if q = 500002 then p2 else none, fun b => lent1.fb b ∧ (vOf p1 xs.length).ownBlock ≠ some b ∧ (vOf p2 ys.length).ownBlock ≠ some b⟩
  have hb1 : ∀ b c, p1 = some (b, c) → lent1.fb b := fun b c e => h1.2 b (by rw [e]; rfl)
  have hb2 : ∀ b c, p2 = some (b, c) → lent1.fb b := fun b c e => h2.2 b (by rw [e]; rfl)
  have hcs : ∀ q row b c, hget h3 q = some row → loc2 q = some (b, c) → (q = R ∧ loc R = some (b, c)) ∨ (q = 500001 ∧ p1 = some (b, c)) ∨ (q = 500002 ∧ p2 = some (b, c)) := fun q row b c k1 k2 => by
    simp only [h3, hget] at k1
    simp only [loc2] at k2
    by_cases e1 : q = R
    · subst e1; rw [if_pos rfl] at k2; exact .inl ⟨rfl, k2⟩
    · rw [if_neg e1] at k2
      by_cases e2 : q = 500001
      · rw [if_pos e2] at k2; exact .inr (.inl ⟨e2, k2⟩)
      · rw [if_neg e2] at k2
        by_cases e3 : q = 500002
        · rw [if_pos e3] at k2; exact .inr (.inr ⟨e3, k2⟩)
        · rw [if_neg e3] at k2; cases k2
  have hlive : ∀ b, Live h3 loc2 b → Live s.h loc b := by
    rintro b (⟨q, row, c, k1, k2⟩ | h)
    · rcases hcs q row b c k1 k2 with ⟨_, h⟩ | ⟨_, h⟩ | ⟨_, h⟩
      · exact .inl ⟨R, _, c, hr, h⟩
      · exact .inr (by rw [hR.fbe]; exact hb1 b c h)
      · exact .inr (by rw [hR.fbe]; exact hb2 b c h)
    · exact .inr (by rw [hR.fbe]; exact h.1)
  have hg3 : hget h3 R = some ⟨79, 3, E0.set k [iA nm, .o 500001 xs.length, .o 500002 ys.length], false⟩ := by simp [h3, hget]
  have hg4 : hget h3 500001 = some (rowZ xs) := by simp [h3, hget, hRn.1]
  have hg5 : hget h3 500002 = some (rowZ ys) := by simp [h3, hget, hRn.2]
  have l4 : loc2 500001 = p1 := by simp [loc2, Ne.symm hRn.1]
  have l5 : loc2 500002 = p2 := by simp [loc2, Ne.symm hRn.2]
  have hoG : ∀ (A : Nat) (p : Option (Nat × Nat)) (zs : List Int) (u : Value), hget h3 A = some (rowZ zs) → loc2 A = p → w.ownsRow 0 3 1 (vOf p zs.length) zs.length (ints zs) → u = vOf p zs.length → G h3 loc2 w (.o A zs.length) u := fun A p zs u k1 k2 k3 k4 => by
    subst k4
    cases p with
    | none =>
      rcases k3.2 with ⟨_, h⟩ | ⟨g, cap, cur, e, _⟩
      · rw [h]; exact .onil k1 k2
      · cases e
    | some bc => obtain ⟨b, c⟩ := bc; exact .o k1 k2 (by simp)
  refine ⟨p1, p2, _, loc2, hR.re (s2 := ⟨t2, h3⟩) (loc2 := loc2) g0 hlive (fun i z hz => ?_) (fun r row hrr => ?_) (fun r r' row row' b c c' k1 k2 k3 k4 => ?_) (fun b hb hl => ?_) (fun q => if q = 500001 then some p1 else if q = 500002 then some p2 else if q = R ∧ 500000 ≤ R ∧ R < 600000 then some (loc R) else none) (fun r p hp => ?_), rfl, rfl, rfl, fun b h => hR.fbk h, fun Y w0 h => ?_, by simp, by simp, fun h => ?_, fun p hp => hR.pn R p hp⟩
  · rcases g1 i z hz with h | ⟨z0, k1, k2 | ⟨n, rfl, rfl⟩⟩
    · exact .inl h
    · exact .inr ⟨z0, k1, .inl k2⟩
    · exact .inr ⟨_, k1, .inr fun u hg => hg.oR hr hg3 (by simp [loc2]) (by simp)⟩
  · simp only [h3, hget] at hrr
    split at hrr
    · rename_i e
      subst e
      cases hrr
      refine (hR.rw R _ hr).re rfl rfl (by simp) (by simp [loc2]) fun i e2 he2 => ?_
      rw [List.getElem?_set] at he2
      split at he2
      · rename_i hik
        subst hik
        cases he2
        refine ⟨_, hk, rfl, fun j y' hy' => ?_⟩
        rcases j with _ | _ | _ | j
        · simp at hy'; subst hy'
          exact ⟨_, rfl, fun u hg _ => by rw [hg.v_inv]; exact ⟨.cl .v, fun h => by cases h⟩⟩
        · simp at hy'; subst hy'
          exact ⟨_, rfl, fun u hg _ => ⟨hoG 500001 p1 xs u hg4 l4 h1.1 hg.v_inv, fun h => by cases h⟩⟩
        · simp at hy'; subst hy'
          exact ⟨_, rfl, fun u hg _ => ⟨hoG 500002 p2 ys u hg5 l5 h2.1 hg.v_inv, fun h => by cases h⟩⟩
        · simp at hy'
      · refine ⟨e2, he2, rfl, fun j y' hy' => ⟨y', hy', fun u hg _ => ⟨?_, fun h => by cases h⟩⟩⟩
        have hcy := List.all_eq_true.1 (hC0 e2 (List.mem_of_getElem? he2)) y' (List.mem_of_getElem? hy')
        exact .cl ((isC_ok hg hcy).mono (Nat.le_refl 0) (Nat.le_refl _) fun b _ _ hnl => ⟨fun hl => hnl (hlive b hl), rfl⟩)
    · split at hrr
      · rename_i e
        subst e
        cases hrr
        exact own_rowZ (by rw [show rowVal loc2 500001 xs.length = vOf (loc2 500001) xs.length from rfl, l4]; exact h1.1)
      · split at hrr
        · rename_i e
          subst e
          cases hrr
          exact own_rowZ (by rw [show rowVal loc2 500002 ys.length = vOf (loc2 500002) ys.length from rfl, l5]; exact h2.1)
        · cases hrr
  · have hne : ∀ c c', p1 = some (b, c) → p2 = some (b, c') → False := fun c c' e1 e2 => hap b (by rw [e1]; rfl) (by rw [e2]; rfl)
    rcases hcs r row b c k1 k3 with ⟨rfl, m1⟩ | ⟨rfl, m1⟩ | ⟨rfl, m1⟩ <;> rcases hcs r' row' b c' k2 k4 with ⟨rfl, m2⟩ | ⟨rfl, m2⟩ | ⟨rfl, m2⟩
    · rfl
    · exact (hR.nfb hr m1 (hb1 _ _ m2)).elim
    · exact (hR.nfb hr m1 (hb2 _ _ m2)).elim
    · exact (hR.nfb hr m2 (hb1 _ _ m1)).elim
    · rfl
    · exact (hne _ _ m1 m2).elim
    · exact (hR.nfb hr m2 (hb2 _ _ m1)).elim
    · exact (hne _ _ m2 m1).elim
    · rfl
  · obtain ⟨q, row, c, k1, k2⟩ := hl
    rcases hcs q row b c k1 k2 with ⟨_, h⟩ | ⟨_, h⟩ | ⟨_, h⟩
    · exact hR.nfb hr h hb.1
    · exact hb.2.1 (by rw [h]; rfl)
    · exact hb.2.2 (by rw [h]; rfl)
  · split at hp
    · rename_i e; cases hp; exact ⟨by rw [e, l4], by omega⟩
    · split at hp
      · rename_i e; cases hp; exact ⟨by rw [e, l5], by omega⟩
      · split at hp
        · rename_i e; cases hp; exact ⟨by simp [loc2, e.1], by omega⟩
        · cases hp
  · have h0 := h.mut hR
    refine ⟨h0.os, h0.tape, h0.output, h0.size, h0.keep, fun b hb => ?_, fun b hb => h.fb b hb.1⟩
    obtain ⟨q, row, c, k1, k2⟩ := hb
    rcases hcs q row b c k1 k2 with ⟨_, m⟩ | ⟨_, m⟩ | ⟨_, m⟩
    · exact h.own hR hr m
    · exact h.fb b (hb1 b c m)
    · exact h.fb b (hb2 b c m)
  · simp [hRn.1, hRn.2, h]
/-- A tree that was set aside: its head as a row. -/
theorem Rel.adopt {t : List AV} (hR : Rel w1 lent1 ⟨t, []⟩ loc a w) {u : Value} {bs : List BD} {us : UU} {X : Nat → Prop} {t2 : List AV} (hO : OT w1 X u bs us) (hX : ∀ b, X b → lent1.fb b) (ht : leQ (fun p q => p = .v u ∧ q = .o 500000 bs.length) t t2) :
    ∃ lent2 loc2, Rel w lent2 ⟨t2, [(500000, rowT bs us)]⟩ loc2 a w ∧ Gh w lent2.fb bs us ∧ (∀ X w0, ChX X w0 w1 lent1 → ChX X w0 w lent2) ∧ (∀ b, lent2.fb b → lent1.fb b) ∧ (∀ b, lent1.fb b → w.heap[b]? = w1.heap[b]?) ∧ (∀ b, lent1.fb b → ¬ X b → lent2.fb b) := by
  have hO2 : OT w lent1.fb u bs us := hO.same (fun b hb => hR.fbk (hX b hb)) hX
  have hrow := hO2.row
  obtain ⟨p, rfl⟩ := own_vOf hrow
  obtain ⟨g0, g1⟩ := leQ_get ht
  let h3 : Hp := [(500000, rowT bs us)]
  let loc2 : Loc := ⟨fun q => if q = 500000 then p else none, fun b => lent1.fb b ∧ (vOf p bs.length).ownBlock ≠ some b⟩
  have hl2 : ∀ b, LiveR h3 loc2 b → ∃ c, p = some (b, c) := by
    rintro b ⟨q, row, c, k1, k2⟩
    simp only [h3, hget] at k1
    split at k1
    · rename_i e; subst e
      exact ⟨c, by simpa [loc2] using k2⟩
    · cases k1
  have hpb : ∀ b c, p = some (b, c) → lent1.fb b := fun b c e => hO2.blk b (by rw [e]; rfl)
  have hlive : ∀ b, Live h3 loc2 b → Live [] loc b := by
    rintro b (h | h)
    · obtain ⟨c, hc⟩ := hl2 b h
      exact .inr (by rw [hR.fbe]; exact hpb b c hc)
    · exact .inr (by rw [hR.fbe]; exact h.1)
  have hg3 : hget h3 500000 = some (rowT bs us) := rfl
  have hes : (rowT bs us).es.length = bs.length := by simp only [rowT, esT, List.length_map]; exact zip_len hO2.gh.len
  have hne : ∀ (k : Nat) d q, bs[k]? = some d → us[k]? = some q → ∀ v, (v = q.1 ∨ v = q.2) → ∀ g, v.ownBlock = some g → (vOf p bs.length).ownBlock ≠ some g := fun k d q hd hq v hv g hg hpg => by
    have hi := hO2.gh.inn k d q hd hq
    have h3 : ∃ n xs, w.ownsRow 0 3 1 v n xs := by
      rcases hv with rfl | rfl
      · exact ⟨_, _, hi.1.1⟩
      · exact ⟨_, _, hi.2.1⟩
    obtain ⟨n, xs, h4⟩ := h3
    rcases h4.2 with ⟨rfl, _⟩ | ⟨g1, cap, cur, rfl, _, e1, _⟩
    · cases hg
    · simp only [Value.ownBlock, Option.some.injEq] at hg
      subst hg
      rcases hrow.2 with ⟨e2, _⟩ | ⟨g2, cap2, cur2, e2, _, e3, _⟩
      · rw [e2] at hpg; cases hpg
      · rw [e2] at hpg
        simp only [Value.ownBlock, Option.some.injEq] at hpg
        subst hpg
        rw [e1] at e3
        cases e3
  refine ⟨_, loc2, hR.re (s2 := ⟨t2, h3⟩) (loc2 := loc2) g0 hlive (fun i z hz => ?_) (fun r row hrr => ?_) (fun r r' row row' b c c' k1 k2 k3 k4 => ?_) (fun b hb hl => ?_) (fun _ => none) (fun r p hp => by cases hp), ⟨hO2.gh.len, fun k d q hd hq => ?_, hO2.gh.apart⟩, fun Y w0 h => ?_, fun b hb => hb.1, fun b hb => hR.fbk hb, fun b hb hx => ⟨hb, fun e => hx (hO.blk b e)⟩⟩
  · rcases g1 i z hz with h | ⟨z0, k1, k2 | ⟨rfl, rfl⟩⟩
    · exact .inl h
    · exact .inr ⟨z0, k1, .inl k2⟩
    · refine .inr ⟨_, k1, .inr fun u hg => ?_⟩
      rw [hg.v_inv]
      cases p with
      | none =>
        rcases hrow.2 with ⟨_, h⟩ | ⟨g, cap, cur, e, _⟩
        · rw [h]; exact .onil hg3 (by simp [loc2])
        · cases e
      | some bc => obtain ⟨b, c⟩ := bc; exact .o hg3 (by simp [loc2]) (by omega)
  · simp only [h3, hget] at hrr
    split at hrr
    · rename_i e
      subst e
      cases hrr
      exact own_rowT hO2.gh hrow
    · cases hrr
  · simp only [h3, hget] at k1 k2
    split at k1
    · split at k2
      · rename_i e1 e2; exact e1.symm.trans e2
      · cases k2
    · cases k1
  · obtain ⟨c, hc⟩ := hl2 b hl
    exact hb.2 (by rw [hc]; rfl)
  · have hi := hO2.gh.inn k d q hd hq
    exact ⟨⟨hi.1.1, fun g hg => ⟨hi.1.2 g hg, hne k d q hd hq _ (.inl rfl) g hg⟩⟩, ⟨hi.2.1, fun g hg => ⟨hi.2.2 g hg, hne k d q hd hq _ (.inr rfl) g hg⟩⟩⟩
  · have h0 := h.mut hR
    refine ⟨h0.os, h0.tape, h0.output, h0.size, h0.keep, fun b hb => ?_, fun b hb => h.fb b hb.1⟩
    obtain ⟨c, hc⟩ := hl2 b hb
    exact h.fb b (hpb b c hc)
theorem G.tupOB {h : Hp} {R n : Nat} {ok : Bool} {v : Value} (hG : G h loc w (.tup [.o R n, .v (.bool ok)]) v) : ∃ v0, v0 = rowVal loc R n ∧ ∀ lv lo W, C lv lo W (.tup [.v v0, .v (.bool ok)]) v := by
  have key : ∀ vs : Array Value, vs.size = 2 → G h loc w (.o R n) (vs.getD 0 undef) → G h loc w (.v (.bool ok)) (vs.getD 1 undef) → ∃ v0, v0 = rowVal loc R n ∧ ∀ lv lo W, C lv lo W (.tup [.v v0, .v (.bool ok)]) (.tuple vs) := fun vs hs h0 h1 => by
    refine ⟨_, rfl, fun lv lo W => .tup vs (by simpa using hs) fun j a ha => ?_⟩
    rcases j with _ | _ | j
    · simp at ha; subst ha; rw [h0.o_val]; exact .v
    · simp at ha; subst ha; rw [h1.v_inv]; exact .v
    · simp at ha
  cases hG with
  | cl hc =>
    cases hc with
    | tup vs hs hg => cases hg 0 _ rfl
  | tup vs hs hg => exact key vs (by simpa using hs) (hg 0 _ rfl) (hg 1 _ rfl)
/-- What is returned: a tree. -/
theorem Rel.toOT (hR : Rel w1 lent1 s loc a w) (hch : Ch w0 w1 lent1) {R : Nat} {bs : List BD} {us : UU} (hr : hget s.h R = some (rowT bs us)) (hgh : Gh w1 lent1.fb bs us) {v : Value} (hv : v = rowVal loc R bs.length) : OT w (fun b => w0.heap.size ≤ b ∧ b < w.heap.size) v bs us := by
  subst hv
  refine ⟨hgh.same (fun b hb => hR.fbk hb) fun b hb => ⟨hch.fb' hb, Nat.lt_of_lt_of_le (hR.fbl b hb).1 hR.size⟩, rowT_own hgh.len (hR.rw R _ hr), fun g hg => ?_⟩
  obtain ⟨c, hc⟩ := vOf_blk (show (vOf (loc R) bs.length).ownBlock = some g from hg)
  refine ⟨?_, Live.lt hR.rw ⟨R, _, c, hr, hc⟩⟩
  rcases hR.own R _ g c hr hc with h4 | h4
  · exact Nat.le_trans hch.size h4
  · exact hch.bk' h4
end
end Go.Proofs.YtccifbbjbnjcfaaGreatDoor
/-
  Walks: the marks that the laws write, and read again.
-/
namespace Go.Proofs.YtccifbbjbnjcfaaGreatDoor
open Go Go.RowKit Go.Proofs
def digS (k : Nat) (o : Str) : Str := if h : k = 0 then o else digS (k / 10) (UInt8.ofNat (48 + k % 10) :: o)
termination_by k
decreasing_by omega
theorem digS_0 (o : Str) : digS 0 o = o := by rw [digS]; simp
theorem digS_s {k : Nat} (h : 0 < k) (o : Str) : digS k o = digS (k / 10) (UInt8.ofNat (48 + k % 10) :: o) := by
  rw [digS, dif_neg (by omega)]
def mkT (k : Nat) : Str := 109 :: digS k []
def mkC : Nat → List Cm → List Cm
  | _, [] => []
  | k, _ :: l => ⟨mkT k, ⟨(k : Int) + 1, (k : Int) + 1 + 1⟩, ⟨(k : Int) + 1 + 1 + 1, (k : Int) + 1 + 1 + 1 + 1⟩⟩ :: mkC (k + 5) l
theorem mkC_len : ∀ (l : List Cm) (k : Nat), (mkC k l).length = l.length
  | [], _ => rfl
  | _ :: l, k => by simp [mkC, mkC_len l]
theorem mkC_get : ∀ (l : List Cm) (k i : Nat), i < l.length → (mkC k l)[i]? = some ⟨mkT (k + 5 * i), ⟨((k + 5 * i : Nat) : Int) + 1, ((k + 5 * i : Nat) : Int) + 1 + 1⟩, ⟨((k + 5 * i : Nat) : Int) + 1 + 1 + 1, ((k + 5 * i : Nat) : Int) + 1 + 1 + 1 + 1⟩⟩
  | [], _, _, h => by simp at h
  | x :: l, k, 0, _ => by simp [mkC]
  | x :: l, k, i + 1, h => by
    rw [mkC, List.getElem?_cons_succ, mkC_get l (k + 5) i (by simpa using h), show k + 5 + 5 * i = k + 5 * (i + 1) from by omega]
def upC (k : Nat) (l : List Cm) (i : Nat) : List Cm := (mkC k l).take i ++ l.drop i
theorem upC_len (k : Nat) (l : List Cm) (i : Nat) (h : i ≤ l.length) : (upC k l i).length = l.length := by simp [upC, mkC_len]; omega
theorem up_get {α : Type} {m l : List α} {i : Nat} (h : i ≤ m.length) : (m.take i ++ l.drop i)[i]? = l[i]? := by
  rw [List.getElem?_append_right (by simp; omega), List.getElem?_drop, List.length_take, Nat.min_eq_left h]
  congr 1; omega
theorem up_set {α : Type} {m l : List α} {i : Nat} {y : α} (hm : m[i]? = some y) (hl : i < l.length) : (m.take i ++ l.drop i).set i y = m.take (i + 1) ++ l.drop (i + 1) := by
  have h := lt_of_some hm
  rw [List.set_append_right _ _ (by simp; omega), List.length_take, Nat.min_eq_left (by omega), Nat.sub_self, List.take_add_one, hm]
  obtain ⟨x, hx⟩ := get_of_lt hl
  rw [drop_of_get hx]
  simp
attribute [local irreducible] RWp AW run kPe pe Kt effA gd gu br retR RDp runD kPeD brW gW effD
set_option maxRecDepth 100000
theorem markText_pc (k : Nat) (h0 : 0 < k) (hk : k ≤ 4611686018427387904) : PC Tryz.prog 104 [iA k] (vS (mkT k)) := by
  have i0 : leI (k : Int) 0 = false := leI_f (by omega)
  refine pc_enter Tryz.func104 rfl rfl fun w0 fb => go_on ?_; (try simp only [Tryz.ntmps104, push_cast, simprocAttr])
  (try simp only [i0, push_cast, simprocAttr])
  refine at_loop (X := Nat × Str) (fun x => [(0, iA x.1), (3, sA x.2)]) (fun _ => []) (fun x => x.2.length + x.1 ≤ k ∧ digS k [] = digS x.1 x.2) (fun x => x.1) (k, []) ⟨by simp, rfl⟩ ?_ ?_
  · (refine wk_ok ?_ ?_ ?_ ?_ <;> simp [leL, leH, idsL, idsA, idsR, inH, hget, sameRow, upA, hvA, dsts, dstO, setA_0, setA_1, setA_8, List.append, List.cons_append, List.nil_append])
  · rintro ⟨q, o⟩ ⟨q1, q2⟩
    simp only at q1 q2
    simp only [upA, hvA, dsts, dstO, setA_0, setA_1, setA_8, List.append, List.cons_append, List.nil_append]
    refine go_on ?_
    (try simp only [push_cast, simprocAttr])
    by_cases hq : 0 < q
    · have i1 : ltI 0 (q : Int) = true := ltI_t (by omega)
      have t1 : Int.tmod (q : Int) 10 = (q : Int) % 10 := Int.tmod_eq_emod_of_nonneg (by omega)
      have t2 : Int.tdiv (q : Int) 10 = (q : Int) / 10 := Int.tdiv_eq_ediv_of_nonneg (by omega)
      have w1 : IntKind.i64.wrap (48 + (q : Int) % 10) = 48 + (q : Int) % 10 := wr _ (by omega)
      have w2 : IntKind.i64.wrap ((q : Int) / 10) = (q : Int) / 10 := wr _ (by omega)
      have w3 : IntKind.u8.wrap (48 + (q : Int) % 10) = 48 + (q : Int) % 10 := by simp [IntKind.wrap, IntKind.bits, IntKind.signed]; omega
      have w4 : (48 + (q : Int) % 10).toNat = 48 + q % 10 := by omega
      have w5 : 1 + o.length ≤ 9223372036854775807 := by omega
      have z0 : ((10 : Int) = 0) = False := by simp
      (try simp only [i1, t1, t2, w1, w2, w3, w4, w5, z0, push_cast, simprocAttr])
      refine at_fin ⟨(q / 10, UInt8.ofNat (48 + q % 10) :: o), ⟨?_, ?_⟩, ?_, ?_⟩
      · simp only [List.length_cons]; omega
      · simp only; rw [q2, digS_s hq]
      · simp only; omega
      · (refine wk_ok ?_ ?_ ?_ ?_ <;> simp [leL, leH, idsL, idsA, idsR, inH, hget, sameRow, upA, hvA, dsts, dstO, setA_0, setA_1, setA_8, List.append, List.cons_append, List.nil_append])
    · have i1 : ltI 0 (q : Int) = false := ltI_f (by omega)
      obtain rfl : q = 0 := by omega
      have w5 : 1 + o.length ≤ 9223372036854775807 := by omega
      (try simp only [i1, w5, push_cast, simprocAttr])
      refine at_ret ?_; simp only [Tryz.results104, push_cast, simprocAttr]
      rw [digS_0] at q2
      simp [vX, mkT, q2]
end Go.Proofs.YtccifbbjbnjcfaaGreatDoor
/-
  Walks: the laws' own helpers at disks: sizes, copies, equalities, what is marked.
-/
namespace Go.Proofs.YtccifbbjbnjcfaaGreatDoor
open Go Go.RowKit Go.Proofs
/-- Numbers from k on. -/
def mkZ : Nat → List Int → List Int
  | _, [] => []
  | k, _ :: l => (k : Int) :: mkZ (k + 1) l
theorem mkZ_len : ∀ (l : List Int) (k : Nat), (mkZ k l).length = l.length
  | [], _ => rfl
  | _ :: l, k => by simp [mkZ, mkZ_len l]
theorem mkZ_get : ∀ (l : List Int) (k i : Nat), i < l.length → (mkZ k l)[i]? = some ((k + i : Nat) : Int)
  | [], _, _, h => by simp at h
  | x :: l, k, 0, _ => by simp [mkZ]
  | x :: l, k, i + 1, h => by
    rw [mkZ, List.getElem?_cons_succ, mkZ_get l (k + 1) i (by simpa using h), show k + 1 + i = k + (i + 1) from by omega]
def upZ (k : Nat) (l : List Int) (i : Nat) : List Int := (mkZ k l).take i ++ l.drop i
theorem upZ_len (k : Nat) (l : List Int) (i : Nat) (h : i ≤ l.length) : (upZ k l i).length = l.length := by simp [upZ, mkZ_len]; omega
def mkD1 (k : Nat) (d : BD) : BD := ⟨k, mkZ (k + 1) d.safe, mkZ (k + 1 + d.safe.length) d.fresh⟩
def tot1 (d : BD) : Nat := 1 + d.safe.length + d.fresh.length
/-- A marked disk. -/
def mkB : Nat → List BD → List BD
  | _, [] => []
  | k, d :: l => mkD1 k d :: mkB (k + tot1 d) l
def tot : List BD → Nat
  | [] => 0
  | d :: l => tot1 d + tot l
theorem mkB_len : ∀ (l : List BD) (k : Nat), (mkB k l).length = l.length
  | [], _ => rfl
  | _ :: l, k => by simp [mkB, mkB_len l]
theorem tot_take : ∀ (l : List BD) (i : Nat) (d : BD), l[i]? = some d → tot (l.take (i + 1)) = tot (l.take i) + tot1 d
  | [], i, d, h => by simp at h
  | x :: l, 0, d, h => by simp at h; subst h; simp [tot]
  | x :: l, i + 1, d, h => by
    have := tot_take l i d (by simpa using h)
    simp only [List.take_succ_cons, tot, this]
    omega
theorem tot_le : ∀ (l : List BD) (i : Nat), tot (l.take i) ≤ tot l
  | [], i => by simp
  | x :: l, 0 => by simp [tot]
  | x :: l, i + 1 => by have := tot_le l i; simp only [List.take_succ_cons, tot]; omega
theorem tot_ge : ∀ l : List BD, l.length ≤ tot l
  | [] => Nat.le_refl _
  | d :: l => by have := tot_ge l; simp only [tot, tot1, List.length_cons]; omega
theorem mkB_get : ∀ (l : List BD) (k i : Nat) (d : BD), l[i]? = some d → (mkB k l)[i]? = some (mkD1 (k + tot (l.take i)) d)
  | [], _, _, _, h => by simp at h
  | x :: l, k, 0, d, h => by simp at h; subst h; simp [mkB, tot]
  | x :: l, k, i + 1, d, h => by
    rw [mkB, List.getElem?_cons_succ, mkB_get l (k + tot1 x) i d (by simpa using h), List.take_succ_cons, tot]
    congr 2
    omega
theorem tot_of {l : List BD} {left : Int} (h0 : 0 ≤ left) (h : 0 ≤ szS left (l.map fun d => d.safe.length + d.fresh.length)) : (tot l : Int) ≤ left := by
  have key : ∀ (l : List BD) (r : Int), 0 ≤ r → 0 ≤ szF r (l.map fun d => d.safe.length + d.fresh.length) → (tot l : Int) - l.length ≤ r := fun l => by
    induction l with
    | nil => intro r h1 h2; simpa [tot] using h1
    | cons d l ih =>
      intro r h1 h2
      rw [List.map_cons, szF] at h2
      split at h2
      · omega
      · have := ih _ (by omega) h2
        simp only [tot, tot1, List.length_cons]
        omega
  unfold szS at h
  split at h
  · omega
  · rename_i h1
    rw [List.length_map] at h h1
    have := key l _ (by omega) h
    omega
attribute [local irreducible] RWp AW run kPe pe Kt effA gd gu br retR RDp runD kPeD brW gW effD
set_option maxRecDepth 100000
theorem szIntS_pc (l : List Int) (left : Int) (h0 : 0 ≤ left) (h1 : left ≤ 1048576) (hp : l.length ≤ 9223372036854775807) : PC Tryz.prog 77 [intsA l, iA left] (vI (sz1 left l.length)) := by
  have w1 := wr (left - (l.length : Int)) (by omega)
  refine pc_enter Tryz.func77 rfl rfl fun w0 fb => go_on ?_; (try simp only [Tryz.ntmps77, push_cast, simprocAttr])
  repeat' first | (refine at_b (fun hb => ?_) (fun hb => ?_) <;> simp only [w1, hb, push_cast, simprocAttr]) | (refine at_ret ?_; simp only [w1, Tryz.results77, push_cast, simprocAttr]) | (show RWp _ _ _ _ _; simp only [w1, push_cast, simprocAttr])
  · have := of_ltI_t hb; rw [w1] at this; simp [vX, sz1, this]
  · have := of_ltI_f hb; rw [w1] at this; simp [vX, sz1]; omega
theorem szBlob_pc (d : BD) (left : Int) (h0 : 0 ≤ left) (h1 : left ≤ 1048576) (hp : d.safe.length ≤ 9223372036854775807) (hq : d.fresh.length ≤ 9223372036854775807) : PC Tryz.prog 33 [blobA d, iA left] (vI (sz1 left (d.safe.length + d.fresh.length))) := by
  have hA := szIntS_pc d.safe left h0 h1 hp
  unfold blobA bC
  by_cases hz : left - (d.safe.length : Int) < 0
  · have e2 : sz1 left d.safe.length = -1 := by unfold sz1; rw [if_pos hz]
    rw [e2] at hA
    refine pc_enter Tryz.func33 rfl rfl fun w0 fb => go_on ?_; (try simp only [Tryz.ntmps33, push_cast, simprocAttr])
    (refine at_call ?_; (try simp only [push_cast, simprocAttr]); refine rwc_v (hA) (go_on ?_); (try simp only [push_cast, simprocAttr]))
    (try simp only [show ltI (-1) 0 = true from rfl, push_cast, simprocAttr])
    refine at_ret ?_; simp only [Tryz.results33, push_cast, simprocAttr]
    simp only [vX, sz1, and_true]
    rw [if_pos (by omega)]
  · have e2 : sz1 left d.safe.length = left - d.safe.length := by unfold sz1; rw [if_neg hz]
    have e3 : ltI (left - (d.safe.length : Int)) 0 = false := ltI_f (by omega)
    have hB := szIntS_pc d.fresh (left - d.safe.length) (by omega) (by omega) hq
    rw [e2] at hA
    by_cases hz2 : left - (d.safe.length : Int) - (d.fresh.length : Int) < 0
    · have e4 : sz1 (left - d.safe.length) d.fresh.length = -1 := by unfold sz1; rw [if_pos hz2]
      rw [e4] at hB
      refine pc_enter Tryz.func33 rfl rfl fun w0 fb => go_on ?_; (try simp only [Tryz.ntmps33, push_cast, simprocAttr])
      (refine at_call ?_; (try simp only [push_cast, simprocAttr]); refine rwc_v (hA) (go_on ?_); (try simp only [push_cast, simprocAttr]))
      (try simp only [e3, push_cast, simprocAttr])
      (refine at_call ?_; (try simp only [push_cast, simprocAttr]); refine rwc_v (hB) (go_on ?_); (try simp only [push_cast, simprocAttr]))
      (try simp only [show ltI (-1) 0 = true from rfl, push_cast, simprocAttr])
      refine at_ret ?_; simp only [Tryz.results33, push_cast, simprocAttr]
      simp only [vX, sz1, and_true]
      rw [if_pos (by omega)]
    · have e4 : sz1 (left - d.safe.length) d.fresh.length = left - d.safe.length - d.fresh.length := by unfold sz1; rw [if_neg hz2]
      have e5 : ltI (left - (d.safe.length : Int) - (d.fresh.length : Int)) 0 = false := ltI_f (by omega)
      have e6 : left - (d.safe.length : Int) - (d.fresh.length : Int) = left - ((d.safe.length : Int) + (d.fresh.length : Int)) := by omega
      rw [e4] at hB
      refine pc_enter Tryz.func33 rfl rfl fun w0 fb => go_on ?_; (try simp only [Tryz.ntmps33, push_cast, simprocAttr])
      (refine at_call ?_; (try simp only [push_cast, simprocAttr]); refine rwc_v (hA) (go_on ?_); (try simp only [push_cast, simprocAttr]))
      (try simp only [e3, push_cast, simprocAttr])
      (refine at_call ?_; (try simp only [push_cast, simprocAttr]); refine rwc_v (hB) (go_on ?_); (try simp only [push_cast, simprocAttr]))
      (try simp only [e5, push_cast, simprocAttr])
      refine at_ret ?_; simp only [Tryz.results33, push_cast, simprocAttr]
      simp only [vX, sz1, and_true]
      rw [if_neg (by omega), e6]
theorem szBlobS_pc (l : List BD) (left : Int) (h0 : 0 ≤ left) (h1 : left ≤ 1048576) (hl : l.length ≤ 9223372036854775807) (hp : ∀ d ∈ l, d.safe.length ≤ 9223372036854775807 ∧ d.fresh.length ≤ 9223372036854775807) :
    PC Tryz.prog 8 [blsA l, iA left] (vI (szS left (l.map fun d => d.safe.length + d.fresh.length))) := by
  have w1 := wr (left - (l.length : Int)) (by omega)
  refine pc_enter Tryz.func8 rfl rfl fun w0 fb => go_on ?_; (try simp only [Tryz.ntmps8, push_cast, simprocAttr])
  (try simp only [w1, push_cast, simprocAttr])
  refine at_b (fun hb => ?_) (fun hb => ?_)
  · have := of_ltI_t hb
    (try simp only [hb, push_cast, simprocAttr])
    refine at_ret ?_; simp only [Tryz.results8, push_cast, simprocAttr]
    simp [vX, szS, this]
  · have h2 := of_ltI_f hb
    have e : szS left (l.map fun d => d.safe.length + d.fresh.length) = szF (left - l.length) (l.map fun d => d.safe.length + d.fresh.length) := by unfold szS; rw [if_neg (by simp; omega), List.length_map]
    rw [e]
    (try simp only [hb, push_cast, simprocAttr])
    refine at_loop (X := Nat × Int) (fun x => [(1, iA x.2), (5, iA x.1)]) (fun _ => []) (fun x => x.1 ≤ l.length ∧ 0 ≤ x.2 ∧ x.2 ≤ 1048576 ∧ szF (left - l.length) (l.map fun d => d.safe.length + d.fresh.length) = szF x.2 ((l.drop x.1).map fun d => d.safe.length + d.fresh.length)) (fun x => l.length - x.1) (0, left - l.length) ⟨Nat.zero_le _, h2, by dsimp only; omega, rfl⟩ ?_ ?_
    · (refine wk_ok ?_ ?_ ?_ ?_ <;> simp [leL, leH, idsL, idsA, idsR, inH, hget, sameRow, upA, hvA, dsts, dstO, setA_0, setA_1, setA_8, List.append, List.cons_append, List.nil_append])
    · rintro ⟨k, r⟩ ⟨q1, q2, q3, q4⟩
      simp only at q1 q2 q3 q4
      simp only [upA, hvA, dsts, dstO, setA_0, setA_1, setA_8, List.append, List.cons_append, List.nil_append]
      refine go_on ?_
      (try simp only [push_cast, simprocAttr])
      refine at_b (fun hg => ?_) (fun hg => ?_)
      · have hlt := lt_tt hg
        obtain ⟨x, hk⟩ := get_of_lt hlt
        have i1 := ix_n hk
        have i2 := map_get bC hk
        have hS := szBlob_pc x r q2 q3 (hp x (mem_of_get hk)).1 (hp x (mem_of_get hk)).2
        unfold blobA at hS
        simp only [bC] at i2 hS
        rw [drop_of_get hk, List.map_cons, szF] at q4
        have w2 := wr ((k : Int) + 1) (by omega)
        (try simp only [hg, i1, i2, push_cast, simprocAttr])
        (refine at_call ?_; (try simp only [push_cast, simprocAttr]); refine rwc_v (hS) (go_on ?_); (try simp only [push_cast, simprocAttr]))
        by_cases hz : r - ((x.safe.length + x.fresh.length : Nat) : Int) < 0
        · have e2 : sz1 r ((x.safe.length : Int) + (x.fresh.length : Int)) = -1 := by unfold sz1; rw [if_pos (by push_cast at hz; omega)]
          rw [if_pos hz] at q4
          (try simp only [e2, show ltI (-1) 0 = true from rfl, push_cast, simprocAttr])
          refine at_ret ?_; simp only [Tryz.results8, push_cast, simprocAttr]
          simp [vX, q4]
        · have e2 : sz1 r ((x.safe.length : Int) + (x.fresh.length : Int)) = r - ((x.safe.length : Int) + (x.fresh.length : Int)) := by unfold sz1; rw [if_neg (by push_cast at hz; omega)]
          have e3 : ltI (r - ((x.safe.length + x.fresh.length : Nat) : Int)) 0 = false := ltI_f (by omega)
          rw [if_neg hz] at q4
          push_cast at e3
          (try simp only [e2, e3, w2, push_cast, simprocAttr])
          refine at_fin ⟨(k + 1, r - (x.safe.length + x.fresh.length : Nat)), ⟨by dsimp only; omega, by dsimp only; omega, by dsimp only; omega, q4⟩, by dsimp only; omega, ?_⟩
          push_cast
          (refine wk_ok ?_ ?_ ?_ ?_ <;> simp [leL, leH, idsL, idsA, idsR, inH, hget, sameRow, upA, hvA, dsts, dstO, setA_0, setA_1, setA_8, List.append, List.cons_append, List.nil_append])
      · have h3 := lt_ff hg
        (try simp only [hg, push_cast, simprocAttr])
        refine at_ret ?_; simp only [Tryz.results8, push_cast, simprocAttr]
        rw [List.drop_of_length_le (by omega)] at q4
        simp [vX, q4, szF]
theorem eqIntS_pc' (a b : List Int) (hl : a.length < 8589934590) : PC Tryz.prog 100 [intsA a, intsA b] (vB (decide (a = b))) := by
  refine pc_enter Tryz.func100 rfl rfl fun w0 fb => go_on ?_; (try simp only [Tryz.ntmps100, push_cast, simprocAttr])
  refine at_b (fun hb => ?_) (fun hb => ?_)
  · have h1 := of_eqI_f (not_t hb)
    have h2 : a ≠ b := by rintro rfl; exact h1 rfl
    (try simp only [hb, push_cast, simprocAttr])
    refine at_ret ?_; simp only [Tryz.results100, push_cast, simprocAttr]
    simp [vX, h2]
  · have h1 : a.length = b.length := by have := of_eqI_t (not_f hb); omega
    (try simp only [hb, push_cast, simprocAttr])
    refine at_loop (X := Nat) (fun k => [(5, iA k)]) (fun _ => []) (fun k => k ≤ a.length ∧ decide (a = b) = decide (a.drop k = b.drop k)) (fun k => a.length - k) 0 ⟨Nat.zero_le _, rfl⟩ ?_ ?_
    · (refine wk_ok ?_ ?_ ?_ ?_ <;> simp [leL, leH, idsL, idsA, idsR, inH, hget, sameRow, upA, hvA, dsts, dstO, setA_0, setA_1, setA_8, List.append, List.cons_append, List.nil_append])
    · rintro k ⟨q1, q2⟩
      simp only [upA, hvA, dsts, dstO, setA_0, setA_1, setA_8, List.append, List.cons_append, List.nil_append]
      refine go_on ?_
      (try simp only [push_cast, simprocAttr])
      refine at_b (fun hg => ?_) (fun hg => ?_)
      · have hlt := lt_tt hg
        obtain ⟨x, hx⟩ := get_of_lt hlt
        obtain ⟨y, hy⟩ := get_of_lt (l := b) (k := k) (by omega)
        have i1 := ix_n hx
        have i3 := ix_n hy
        have i2 := map_get inC hx
        have i4 := map_get inC hy
        simp only [inC] at i2 i4
        rw [drop_of_get hx, drop_of_get hy] at q2
        have w2 := wr ((k : Int) + 1) (by omega)
        (try simp only [hg, push_cast, simprocAttr])
        refine at_draw rfl (by kernel_rfl) ?_
        (try simp only [i1, i2, i3, i4, push_cast, simprocAttr])
        refine at_done (by kernel_rfl) (by kernel_rfl) (go_on ?_)
        (try simp only [push_cast, simprocAttr])
        refine at_b (fun hn => ?_) (fun hn => ?_)
        · have hxy : x ≠ y := of_eqI_f (not_t hn)
          (try simp only [hn, push_cast, simprocAttr])
          refine at_ret ?_; simp only [Tryz.results100, push_cast, simprocAttr]
          simp [vX, q2, hxy]
        · have hxy : x = y := of_eqI_t (not_f hn)
          (try simp only [hn, w2, push_cast, simprocAttr])
          refine at_fin ⟨k + 1, ⟨by omega, ?_⟩, by omega, ?_⟩
          · rw [q2]; simp [hxy]
          · (refine wk_ok ?_ ?_ ?_ ?_ <;> simp [leL, leH, idsL, idsA, idsR, inH, hget, sameRow, upA, hvA, dsts, dstO, setA_0, setA_1, setA_8, List.append, List.cons_append, List.nil_append])
      · have h3 := lt_ff hg
        (try simp only [hg, push_cast, simprocAttr])
        refine at_ret ?_; simp only [Tryz.results100, push_cast, simprocAttr]
        rw [List.drop_of_length_le (by omega), List.drop_of_length_le (by omega)] at q2
        simp [vX, q2]
theorem bd_ext (a b : BD) : a = b ↔ a.name = b.name ∧ a.safe = b.safe ∧ a.fresh = b.fresh := by
  obtain ⟨a1, a2, a3⟩ := a
  obtain ⟨b1, b2, b3⟩ := b
  simp
theorem eqBlob_pc (a b : BD) (h1 : a.safe.length < 8589934590) (h2 : a.fresh.length < 8589934590) : PC Tryz.prog 52 [blobA a, blobA b] (vB (decide (a = b))) := by
  have hA := eqIntS_pc' a.safe b.safe h1
  have hB := eqIntS_pc' a.fresh b.fresh h2
  unfold blobA bC
  refine pc_enter Tryz.func52 rfl rfl fun w0 fb => go_on ?_; (try simp only [Tryz.ntmps52, push_cast, simprocAttr])
  repeat' first | (refine at_b (fun hb => ?_) (fun hb => ?_) <;> simp only [hb, push_cast, simprocAttr]) | (refine at_ret ?_; simp only [Tryz.results52, push_cast, simprocAttr]) | (refine at_call ?_; (try simp only [push_cast, simprocAttr]); refine rwc_v (by first | exact hA | exact hB) (go_on ?_); simp only [push_cast, simprocAttr]) | (show RWp _ _ _ _ _; simp only [push_cast, simprocAttr])
  all_goals simp only [Bool.not_eq_true', Bool.not_eq_false', eqI_d, decide_eq_true_eq, decide_eq_false_iff_not] at *
  all_goals simp [vX, bd_ext a b, *]
theorem eqBlobS_pc (a b : List BD) (hl : a.length < 8589934590) (hd : ∀ d ∈ a, d.safe.length < 8589934590 ∧ d.fresh.length < 8589934590) : PC Tryz.prog 14 [blsA a, blsA b] (vB (decide (a = b))) := by
  refine pc_enter Tryz.func14 rfl rfl fun w0 fb => go_on ?_; (try simp only [Tryz.ntmps14, push_cast, simprocAttr])
  refine at_b (fun hb => ?_) (fun hb => ?_)
  · have h1 := of_eqI_f (not_t hb)
    have h2 : a ≠ b := by rintro rfl; exact h1 rfl
    (try simp only [hb, push_cast, simprocAttr])
    refine at_ret ?_; simp only [Tryz.results14, push_cast, simprocAttr]
    simp [vX, h2]
  · have h1 : a.length = b.length := by have := of_eqI_t (not_f hb); omega
    (try simp only [hb, push_cast, simprocAttr])
    refine at_loop (X := Nat) (fun k => [(5, iA k)]) (fun _ => []) (fun k => k ≤ a.length ∧ decide (a = b) = decide (a.drop k = b.drop k)) (fun k => a.length - k) 0 ⟨Nat.zero_le _, rfl⟩ ?_ ?_
    · (refine wk_ok ?_ ?_ ?_ ?_ <;> simp [leL, leH, idsL, idsA, idsR, inH, hget, sameRow, upA, hvA, dsts, dstO, setA_0, setA_1, setA_8, List.append, List.cons_append, List.nil_append])
    · rintro k ⟨q1, q2⟩
      simp only [upA, hvA, dsts, dstO, setA_0, setA_1, setA_8, List.append, List.cons_append, List.nil_append]
      refine go_on ?_
      (try simp only [push_cast, simprocAttr])
      refine at_b (fun hg => ?_) (fun hg => ?_)
      · have hlt := lt_tt hg
        obtain ⟨x, hx⟩ := get_of_lt hlt
        obtain ⟨y, hy⟩ := get_of_lt (l := b) (k := k) (by omega)
        have i1 := ix_n hx
        have i3 := ix_n hy
        have i2 := map_get bC hx
        have i4 := map_get bC hy
        have hm := hd x (mem_of_get hx)
        have hE := eqBlob_pc x y hm.1 hm.2
        unfold blobA at hE
        simp only [bC] at i2 i4 hE
        rw [drop_of_get hx, drop_of_get hy] at q2
        have w2 := wr ((k : Int) + 1) (by omega)
        (try simp only [hg, push_cast, simprocAttr])
        refine at_draw rfl (by kernel_rfl) ?_
        (try simp only [i1, i2, i3, i4, push_cast, simprocAttr])
        (refine at_callD (by simp [clB, idsL, idsA, hget]) ?_; (try simp only [push_cast, simprocAttr]); refine rcd_v hE ?_; (try simp only [push_cast, simprocAttr]))
        refine at_done (by kernel_rfl) (by kernel_rfl) (go_on ?_)
        (try simp only [push_cast, simprocAttr])
        by_cases hxy : x = y
        · have e1 : decide (x = y) = true := decide_eq_true hxy
          (try simp only [e1, Bool.not_true, w2, push_cast, simprocAttr])
          refine at_fin ⟨k + 1, ⟨by omega, ?_⟩, by omega, ?_⟩
          · rw [q2]; simp [hxy]
          · (refine wk_ok ?_ ?_ ?_ ?_ <;> simp [leL, leH, idsL, idsA, idsR, inH, hget, sameRow, upA, hvA, dsts, dstO, setA_0, setA_1, setA_8, List.append, List.cons_append, List.nil_append])
        · have e1 : decide (x = y) = false := decide_eq_false hxy
          (try simp only [e1, Bool.not_false, push_cast, simprocAttr])
          refine at_ret ?_; simp only [Tryz.results14, push_cast, simprocAttr]
          simp [vX, q2, hxy]
      · have h3 := lt_ff hg
        (try simp only [hg, push_cast, simprocAttr])
        refine at_ret ?_; simp only [Tryz.results14, push_cast, simprocAttr]
        rw [List.drop_of_length_le (by omega), List.drop_of_length_le (by omega)] at q2
        simp [vX, q2]
end Go.Proofs.YtccifbbjbnjcfaaGreatDoor
/-
  Walks: copies of disks, set aside.
-/
namespace Go.Proofs.YtccifbbjbnjcfaaGreatDoor
open Go Go.RowKit Go.Proofs
theorem esT_c {bs : List BD} {us : UU} : ∀ e ∈ esT bs us, e.all isC = true := fun e he => by
  obtain ⟨x, _, rfl⟩ := List.mem_map.1 he
  rfl
theorem esT_len {bs : List BD} {us : UU} (h : us.length = bs.length) : (esT bs us).length = bs.length := by simp only [esT, List.length_map]; exact zip_len h
theorem esT_snoc {bs : List BD} {us : UU} (h : us.length = bs.length) (d : BD) (p : Value × Value) : esT (bs ++ [d]) (us ++ [p]) = esT bs us ++ [[iA d.name, .v p.1, .v p.2]] := by
  unfold esT
  rw [List.zip_append h.symm, List.map_append]
  rfl
theorem set_rel {E0 : List (List AV)} {k : Nat} {z1 z2 : List AV} (hc : ∀ e ∈ E0, e.all isC = true) (hk : k < E0.length) : (E0.set k z2).length = (E0.set k z1).length ∧ ∀ (i : Nat) e, (E0.set k z2)[i]? = some e → ((E0.set k z1)[i]? = some e ∧ e.all isC = true) ∨ ((E0.set k z1)[i]? = some z1 ∧ e = z2) := by
  refine ⟨by simp, fun i e he => ?_⟩
  rw [List.getElem?_set] at he
  rw [List.getElem?_set]
  by_cases e1 : k = i
  · subst e1
    simp only [if_true, hk] at he ⊢
    exact .inr ⟨trivial, (Option.some.inj he).symm⟩
  · rw [if_neg e1] at he ⊢
    exact .inl ⟨he, hc e (List.mem_of_getElem? he)⟩
theorem app_rel {E0 : List (List AV)} {z1 z2 : List AV} (hc : ∀ e ∈ E0, e.all isC = true) : (E0 ++ [z2]).length = (E0 ++ [z1]).length ∧ ∀ (i : Nat) e, (E0 ++ [z2])[i]? = some e → ((E0 ++ [z1])[i]? = some e ∧ e.all isC = true) ∨ ((E0 ++ [z1])[i]? = some z1 ∧ e = z2) := by
  refine ⟨by simp, fun i e he => ?_⟩
  rcases Nat.lt_or_ge i E0.length with h | h
  · rw [List.getElem?_append_left h] at he ⊢
    exact .inl ⟨he, hc e (List.mem_of_getElem? he)⟩
  · rw [List.getElem?_append_right h] at he ⊢
    have : i - E0.length = 0 := by have := lt_of_some he; simp at this; omega
    rw [this] at he ⊢
    exact .inr ⟨rfl, by simp at he; exact he.symm⟩
theorem flU_snoc (us : UU) (p : Value × Value) : flU (us ++ [p]) = flU us ++ [p.1, p.2] := by unfold flU; simp
theorem Gh.mem {w : World} {X : Nat → Prop} {bs : List BD} {us : UU} (h : Gh w X bs us) {v : Value} (hv : v ∈ flU us) {g : Nat} (hg : v.ownBlock = some g) : X g := by
  obtain ⟨p, hp, hv⟩ := List.mem_flatMap.1 hv
  obtain ⟨k, hk, rfl⟩ := List.mem_iff_getElem.1 hp
  have hd := List.getElem?_eq_getElem (show k < bs.length by have := h.len; omega)
  have := h.inn k _ _ hd (List.getElem?_eq_getElem hk)
  simp only [List.mem_cons, List.not_mem_nil, or_false] at hv
  rcases hv with rfl | rfl
  · exact this.1.2 g hg
  · exact this.2.2 g hg
theorem Gh.nil {w : World} {X : Nat → Prop} : Gh w X [] [] := ⟨rfl, fun k d p h => by simp at h, List.Pairwise.nil⟩
theorem Gh.snoc {w1 w : World} {X X' : Nat → Prop} {bs : List BD} {us : UU} {d : BD} {u1 u2 : Value} (h : Gh w1 X bs us) (hs : ∀ b, X b → w.heap[b]? = w1.heap[b]?) (hx : ∀ b, X b → X' b) (o1 : OwI w X' u1 d.safe) (o2 : OwI w X' u2 d.fresh)
    (hap : ∀ g, u1.ownBlock = some g → u2.ownBlock ≠ some g) (n1 : ∀ g, u1.ownBlock = some g → ¬ X g) (n2 : ∀ g, u2.ownBlock = some g → ¬ X g) : Gh w X' (bs ++ [d]) (us ++ [(u1, u2)]) := by
  refine ⟨by simp [h.len], fun k e p h1 h2 => ?_, ?_⟩
  · rcases Nat.lt_or_ge k bs.length with hk | hk
    · rw [List.getElem?_append_left hk] at h1
      rw [List.getElem?_append_left (by have := h.len; omega)] at h2
      have := h.inn k e p h1 h2
      exact ⟨this.1.same hs hx, this.2.same hs hx⟩
    · rw [List.getElem?_append_right hk] at h1
      rw [List.getElem?_append_right (by have := h.len; omega), h.len] at h2
      have : k - bs.length = 0 := by have := lt_of_some h1; simp at this; omega
      rw [this] at h1 h2
      simp at h1 h2
      subst h1; subst h2
      exact ⟨o1, o2⟩
  · rw [flU_snoc, List.pairwise_append]
    refine ⟨h.apart, ?_, fun a ha b hb g hg => ?_⟩
    · simp only [List.pairwise_cons, List.mem_cons, List.not_mem_nil, or_false]
      exact ⟨fun a ha => by subst ha; exact hap, ⟨fun _ h => h.elim, List.Pairwise.nil⟩⟩
    · have hX := h.mem ha hg
      simp only [List.mem_cons, List.not_mem_nil, or_false] at hb
      rcases hb with rfl | rfl
      · exact fun e => n1 g e hX
      · exact fun e => n2 g e hX
def otD (bs : List BD) (w : World) (X : Nat → Prop) (x : AV) : Prop := ∃ u us, x = .v u ∧ OT w X u bs us
def otB (bs : List BD) (ok : Bool) (w : World) (X : Nat → Prop) (x : AV) : Prop := ∃ u us, x = .tup [.v u, bA ok] ∧ OT w X u bs us
theorem flat_z (a b : List Int) : FlatR [rowZ a, rowZ b] := fun row h e he x hx => by
  simp only [List.mem_cons, List.not_mem_nil, or_false] at h
  rcases h with rfl | rfl
  · obtain ⟨n, _, rfl⟩ := List.mem_map.1 he; simp [inC] at hx; subst hx; rfl
  · obtain ⟨n, _, rfl⟩ := List.mem_map.1 he; simp [inC] at hx; subst hx; rfl
attribute [local irreducible] RWp AW run kPe pe Kt effA gd gu br retR RDp runD kPeD brW gW effD
set_option maxRecDepth 100000
theorem toIntS_pc (l : List Int) (hl : l.length ≤ 1048576) : PC Tryz.prog 90 [intsA l] (rX (.o 0 l.length) [rowZ l]) := by
  refine pc_enter Tryz.func90 rfl rfl fun w0 fb => go_on ?_; (try simp only [Tryz.ntmps90, push_cast, simprocAttr])
  refine at_chk ⟨by omega, by omega⟩ ?_
  refine at_loop (X := Nat) (fun k => [(4, iA k)]) (fun k => [(2, rowZ []), (7, ⟨3, 1, (l.take k).map inC ++ List.replicate (l.length - k) [iA 0], true⟩)]) (fun k => k ≤ l.length) (fun k => l.length - k) 0 (Nat.zero_le _) ?_ ?_
  · (refine wk_ok ?_ ?_ ?_ ?_ <;> simp [leL, leH, idsL, idsA, idsR, inH, hget, sameRow, upA, hvA, dsts, dstO, setA_0, setA_1, setA_8, List.append, List.cons_append, List.nil_append])
  · intro k h1
    simp only [upA, hvA, dsts, dstO, setA_0, setA_1, setA_8, List.append, List.cons_append, List.nil_append]
    refine go_on ?_
    (try simp only [push_cast, simprocAttr])
    refine at_b (fun hg => ?_) (fun hg => ?_)
    · have hlt := lt_tt hg
      obtain ⟨x, hk⟩ := get_of_lt hlt
      have i1 := ix_n hk
      have i2 := map_get inC hk
      simp only [inC] at i2
      have w2 := wr ((k : Int) + 1) (by omega)
      obtain ⟨es, hes⟩ : ∃ es, es = (l.take k).map inC ++ List.replicate (l.length - k) [iA 0] := ⟨_, rfl⟩
      have hlen : ((l.take k).map inC).length = k := by rw [List.length_map, List.length_take]; omega
      have i3 : es[k]? = some [iA 0] := by rw [hes, List.getElem?_append_right (by omega), hlen, Nat.sub_self, List.getElem?_replicate, if_pos (by omega)]
      have hset : es.set k [iA x] = (l.take (k + 1)).map inC ++ List.replicate (l.length - (k + 1)) [iA 0] := by
        rw [hes, List.set_append_right _ _ (by omega), hlen, Nat.sub_self, List.take_add_one, hk, show l.length - k = (l.length - (k + 1)) + 1 by omega, List.replicate_succ, List.set_cons_zero]
        simp [inC]
      rw [← hes]
      (try simp only [hg, i1, i2, i3, List.length_replicate, w2, push_cast, simprocAttr])
      refine at_fin ⟨k + 1, by omega, by omega, ?_⟩
      rw [hset]
      (refine wk_ok ?_ ?_ ?_ ?_ <;> simp [leL, leH, idsL, idsA, idsR, inH, hget, sameRow, upA, hvA, dsts, dstO, setA_0, setA_1, setA_8, List.append, List.cons_append, List.nil_append])
    · have h3 := lt_ff hg
      have hk : k = l.length := by omega
      subst hk
      (try simp only [hg, push_cast, simprocAttr])
      refine at_ret ?_; simp only [Tryz.results90, push_cast, simprocAttr]
      simp [rX, ixOf]
theorem toBlob_pc (d : BD) (h1 : d.safe.length ≤ 1048576) (h2 : d.fresh.length ≤ 1048576) : PC Tryz.prog 42 [blobA d] (rX (.agg [iA d.name, .o 0 d.safe.length, .o 1 d.fresh.length]) [rowZ d.safe, rowZ d.fresh]) := by
  have hA := toIntS_pc d.safe h1
  have hB := toIntS_pc d.fresh h2
  unfold blobA bC
  refine pc_enter Tryz.func42 rfl rfl fun w0 fb => go_on ?_; (try simp only [Tryz.ntmps42, push_cast, simprocAttr])
  (refine at_call ?_; (try simp only [push_cast, simprocAttr]); refine rwc_r (hA) rfl (flat_i _) (by simp [frB, baseOf]) (go_on ?_); (try simp only [push_cast, simprocAttr]))
  (refine at_call ?_; (try simp only [push_cast, simprocAttr]); refine rwc_r (hB) rfl (flat_i _) (by simp [frB, baseOf]) (go_on ?_); (try simp only [push_cast, simprocAttr]))
  refine at_ret ?_; simp only [Tryz.results42, push_cast, simprocAttr]
  simp [rX, ixOf]
/-- Disks that are not too great. -/
structure SzB (bs : List BD) : Prop where
  n : bs.length ≤ 1048576
  d : ∀ d ∈ bs, d.safe.length ≤ 1048576 ∧ d.fresh.length ≤ 1048576
abbrev zBC : List AV := [iA 0, .v (.slice none 0 0), .v (.slice none 0 0)]
theorem toBlobS_o (bs : List BD) (hs : SzB bs) : PO Tryz.prog 11 [blsA bs] (otD bs) := by
  have hn := hs.n
  refine po_enter Tryz.func11 rfl rfl fun w0 => go_on ?_; (try simp only [Tryz.ntmps11, push_cast, simprocAttr])
  refine at_chk ⟨by omega, by omega⟩ ?_
  refine at_loopR (X := Nat × UU) (fun x => [(2, .any), (4, iA x.1)]) (fun x => [(7, ⟨79, 3, esT (bs.take x.1) x.2 ++ List.replicate (bs.length - x.1) zBC, true⟩)]) (fun x w lent => x.1 ≤ bs.length ∧ Ch w0 w lent ∧ Gh w lent.fb (bs.take x.1) x.2) (fun x => bs.length - x.1) rfl (from_wk (0, []) ⟨Nat.zero_le _, Ch.refl w0, by simpa using Gh.nil⟩ ?_) ?_
  · (refine wk_ok ?_ ?_ ?_ ?_ <;> simp [esT, leL, leH, idsL, idsA, idsR, inH, hget, sameRow, upA, hvA, dsts, dstO, setA_0, setA_1, setA_8, List.append, List.cons_append, List.nil_append])
  · rintro ⟨k, us⟩ w2 lent2 ⟨h1, hch, hgh⟩
    dsimp only at h1 hgh
    simp only [upA, hvA, dsts, dstO, setA_0, setA_1, setA_8, List.append, List.cons_append, List.nil_append]
    refine go_on ?_
    (try simp only [push_cast, simprocAttr])
    refine at_b (fun hg => ?_) (fun hg => ?_)
    · have hlt := lt_tt hg
      obtain ⟨x, hk⟩ := get_of_lt hlt
      have i1 := ix_n hk
      have i2 := map_get bC hk
      have hT := toBlob_pc x (hs.d x (mem_of_get hk)).1 (hs.d x (mem_of_get hk)).2
      unfold blobA at hT
      simp only [bC] at i2 hT
      have w2' := wr ((k : Int) + 1) (by omega)
      have htk : bs.take (k + 1) = bs.take k ++ [x] := by rw [List.take_add_one, hk]; rfl
      have hel := esT_len hgh.len
      rw [List.length_take, Nat.min_eq_left h1] at hel
      obtain ⟨es, hes⟩ : ∃ es, es = esT (bs.take k) us ++ List.replicate (bs.length - k) zBC := ⟨_, rfl⟩
      have i3 : es[k]? = some zBC := by rw [hes, List.getElem?_append_right (by omega), hel, Nat.sub_self, List.getElem?_replicate, if_pos (by omega)]
      have hce : ∀ e ∈ es, e.all isC = true := fun e he => by
        rw [hes, List.mem_append] at he
        rcases he with he | he
        · exact esT_c e he
        · rw [(List.mem_replicate.1 he).2]; rfl
      have hset : ∀ u1 u2, es.set k [iA x.name, .v u1, .v u2] = esT (bs.take (k + 1)) (us ++ [(u1, u2)]) ++ List.replicate (bs.length - (k + 1)) zBC := fun u1 u2 => by
        rw [htk, esT_snoc (by rw [hgh.len]), hes, List.set_append_right _ _ (by omega), hel, Nat.sub_self, show bs.length - k = (bs.length - (k + 1)) + 1 by omega, List.replicate_succ, List.set_cons_zero]
        simp
      rw [← hes]
      (try simp only [hg, i1, i2, push_cast, simprocAttr])
      (refine at_call ?_; (try simp only [push_cast, simprocAttr]); refine rwc_r (hT) (by simp [flatV, flatL]) (flat_z _ _) (by simp [frB, baseOf]) (go_on ?_); (try simp only [push_cast, simprocAttr]))
      (try simp only [List.length_replicate, i1, i3, w2', push_cast, simprocAttr])
      refine at_fin fun loc a w hR => ?_
      have hkl : k < es.length := lt_of_some i3
      obtain ⟨u1, u2, lent3, loc3, hR3, o1, o2, hap, n1, n2, hsub, hkp, hch3, _⟩ := hR.unlink (R := 7) (x := .o 21000 x.safe.length) (y := .o 21001 x.fresh.length) (nm := x.name) rfl rfl rfl (.o rfl) (.o rfl) (by simp [idsA]) (by simp [idsA]) (by simp [idsA])
        (fun u1 u2 => es.set k [iA x.name, .v u1, .v u2]) (fun u1 u2 => set_rel hce hkl)
      rw [hset] at hR3
      refine from_wk2 hR3 (k + 1, us ++ [(u1, u2)]) ⟨by dsimp only; omega, hch3 _ _ hch, ?_⟩ (by dsimp only; omega) ?_
      · dsimp only
        rw [htk]
        exact hgh.snoc hkp hsub o1 o2 hap n1 n2
      · (refine wk_ok ?_ ?_ ?_ ?_ <;> simp [clS, isC, leL, leH, idsL, idsA, idsR, inH, hget, sameRow, upA, hvA, dsts, dstO, setA_0, setA_1, setA_8, List.append, List.cons_append, List.nil_append])
    · have h3 := lt_ff hg
      have hk : k = bs.length := by omega
      subst hk
      rw [List.take_length] at hgh
      (try simp only [hg, List.take_length, Nat.sub_self, List.replicate_zero, List.append_nil, List.length_replicate, push_cast, simprocAttr])
      (refine at_retO hch (l := [.o 7 bs.length]) (by simp only [Tryz.results11, push_cast, simprocAttr]) ?_)
      exact fun loc a w v hR hG => ⟨.v v, fun _ _ _ => .v, v, us, rfl, hR.toOT hch rfl hgh hG.o_val⟩
end Go.Proofs.YtccifbbjbnjcfaaGreatDoor
/-
  Walks: cloneDisk, set aside; marks read again.
-/
namespace Go.Proofs.YtccifbbjbnjcfaaGreatDoor
open Go Go.RowKit Go.Proofs
theorem C.vEq {lv : Nat → Prop} {lo : Nat} {w : World} {x u : Value} (h : C lv lo w (.v x) u) : u = x := by
  cases h
  rfl
theorem esT_kill (r : Nat) (bs : List BD) (us : UU) : (esT bs us).map (fun x => x.map (killA r)) = esT bs us := by
  unfold esT
  rw [List.map_map]
  congr 1
  funext x
  simp [cellV, killA]
theorem PO.d {P : Program} {f : FuncId} {args : List AV} {bs : List BD} (h : PO P f args (otD bs)) : PC P f args (vX (blsA bs)) := by
  refine ⟨h.1, fun w fb vs h1 h2 h3 => (h.2 w vs h2 fun j x hx => (h3 j x hx).mono (Nat.le_refl _) (Nat.le_refl _) fun b _ _ _ => ⟨fun h => h, rfl⟩).mono ?_⟩
  rintro e w' ⟨x, v, rfl, hc, hb, u, us, rfl, hO⟩
  have hv : v = u := (hc (fun _ => False) 0 w').vEq
  subst hv
  exact ⟨_, [], v, ⟨rfl, rfl⟩, rfl, hb, ⟨fun _ => none, fb⟩, rfl, .cl (hO.c fun b hb' hl => by
    rcases hl with ⟨r, row, c, h, _⟩ | h
    · cases h
    · have := h1 b h; have := hb'.1; omega), fun r row hr => (by cases hr), fun r r' row row' b c c' hr => (by cases hr), fun r row b c hr => (by cases hr)⟩
attribute [local irreducible] RWp AW run kPe pe Kt effA gd gu br retR RDp runD kPeD brW gW effD
set_option maxRecDepth 100000
theorem toBlobS_d (bs : List BD) (hs : SzB bs) : PC Tryz.prog 11 [blsA bs] (vX (blsA bs)) := (toBlobS_o bs hs).d
theorem cloneDisk_o (bs : List BD) (hs : SmB bs) : PO Tryz.prog 62 [blsA bs] (otD bs) := by
  have hn := hs.n
  refine po_enter Tryz.func62 rfl rfl fun w0 => go_on ?_; (try simp only [Tryz.ntmps62, push_cast, simprocAttr])
  refine at_loopR (X := Nat × UU) (fun x => [(2, .any), (3, .o 3 x.1), (8, iA x.1)]) (fun x => [(3, ⟨79, 3, esT (bs.take x.1) x.2, true⟩)]) (fun x w lent => x.1 ≤ bs.length ∧ Ch w0 w lent ∧ Gh w lent.fb (bs.take x.1) x.2) (fun x => bs.length - x.1) rfl (from_wk (0, []) ⟨Nat.zero_le _, Ch.refl w0, by simpa using Gh.nil⟩ ?_) ?_
  · (refine wk_ok ?_ ?_ ?_ ?_ <;> simp [esT, leL, leH, idsL, idsA, idsR, inH, hget, sameRow, upA, hvA, dsts, dstO, setA_0, setA_1, setA_8, List.append, List.cons_append, List.nil_append])
  · rintro ⟨k, us⟩ w2 lent2 ⟨h1, hch, hgh⟩
    dsimp only at h1 hgh
    simp only [upA, hvA, dsts, dstO, setA_0, setA_1, setA_8, List.append, List.cons_append, List.nil_append]
    refine go_on ?_
    (try simp only [push_cast, simprocAttr])
    refine at_b (fun hg => ?_) (fun hg => ?_)
    · have hlt := lt_tt hg
      obtain ⟨x, hk⟩ := get_of_lt hlt
      have i1 := ix_n hk
      have i2 := map_get bC hk
      have hT := blobClone_pc x (hs.d x (mem_of_get hk))
      unfold blobA at hT
      simp only [bC] at i2 hT
      have w2' := wr ((k : Int) + 1) (by omega)
      have htk : bs.take (k + 1) = bs.take k ++ [x] := by rw [List.take_add_one, hk]; rfl
      have hel := esT_len hgh.len
      rw [List.length_take, Nat.min_eq_left h1] at hel
      obtain ⟨es, hes⟩ : ∃ es, es = esT (bs.take k) us := ⟨_, rfl⟩
      rw [← hes] at hel
      have hce : ∀ e ∈ es, e.all isC = true := fun e he => by rw [hes] at he; exact esT_c e he
      have hset : ∀ u1 u2, es ++ [[iA x.name, .v u1, .v u2]] = esT (bs.take (k + 1)) (us ++ [(u1, u2)]) := fun u1 u2 => by
        rw [htk, esT_snoc (by rw [hgh.len]), hes]
      rw [← hes]
      (try simp only [hg, i1, i2, push_cast, simprocAttr])
      (refine at_call ?_; (try simp only [push_cast, simprocAttr]); refine rwc_r (hT) (by simp [flatV, flatL]) (flat_z _ _) (by simp [frB, baseOf]) (go_on ?_); (try simp only [push_cast, simprocAttr]))
      refine at_chk (by omega) ?_
      (try simp only [w2', List.take_of_length_le (Nat.le_of_eq hel), push_cast, simprocAttr])
      have hkill : List.map (fun x => List.map (killA 3) x) (es ++ [[iA x.name, .o 15000 x.safe.length, .o 15001 x.fresh.length]]) = es ++ [[iA x.name, .o 15000 x.safe.length, .o 15001 x.fresh.length]] := by
        rw [List.map_append, hes, esT_kill]
        simp [killA]
      rw [hkill]
      refine at_fin fun loc a w hR => ?_
      obtain ⟨u1, u2, lent3, loc3, hR3, o1, o2, hap, n1, n2, hsub, hkp, hch3, _⟩ := hR.unlink (R := 3) (x := .o 15000 x.safe.length) (y := .o 15001 x.fresh.length) (nm := x.name) rfl rfl rfl (.o rfl) (.o rfl) (by simp [idsA]) (by simp [idsA]) (by simp [idsA])
        (fun u1 u2 => es ++ [[iA x.name, .v u1, .v u2]]) (fun u1 u2 => app_rel hce)
      rw [hset] at hR3
      refine from_wk2 hR3 (k + 1, us ++ [(u1, u2)]) ⟨by dsimp only; omega, hch3 _ _ hch, ?_⟩ (by dsimp only; omega) ?_
      · dsimp only
        rw [htk]
        exact hgh.snoc hkp hsub o1 o2 hap n1 n2
      · (refine wk_ok ?_ ?_ ?_ ?_ <;> simp [clS, isC, leL, leH, idsL, idsA, idsR, inH, hget, sameRow, upA, hvA, dsts, dstO, setA_0, setA_1, setA_8, List.append, List.cons_append, List.nil_append])
    · have h3 := lt_ff hg
      have hk : k = bs.length := by omega
      subst hk
      rw [List.take_length] at hgh
      (try simp only [hg, List.take_length, push_cast, simprocAttr])
      (refine at_retO hch (l := [.o 3 bs.length]) (by simp only [Tryz.results62, push_cast, simprocAttr]) ?_)
      exact fun loc a w v hR hG => ⟨.v v, fun _ _ _ => .v, v, us, rfl, hR.toOT hch rfl hgh hG.o_val⟩
end Go.Proofs.YtccifbbjbnjcfaaGreatDoor
/-
  Walks: marks of disks: written into what is set aside, and read again.
-/
namespace Go.Proofs.YtccifbbjbnjcfaaGreatDoor
open Go Go.RowKit Go.Proofs
def markZD (n : Nat) (l' : Row) (rv : AV) (lr' rows : List Row) : Prop := rv = iA n ∧ lr' = [l'] ∧ rows = []
section
variable {P : Program} {w0 w1 : World} {lent1 : Lent} {s : AS} {loc : Loc} {a : Act} {w : World}
theorem at_retW {fn : Func} {Post : Ending → World → Prop} {l : List AV} (hl : resL P s fn.results.toList = some l) (h : ∀ loc a w v, Rel w1 lent1 s loc a w → G s.h loc w (retV l) v → Post (.returned v) w) : RWp P w1 lent1 (bodyPost P fn Post) (.ret s) := fun loc a w hR => by
  obtain ⟨v, h1, h2⟩ := retV_ok hR hl
  exact ⟨hR.df, v, h1, h loc a w v hR h2⟩
theorem Rel.cls (hR : Rel w1 lent1 s loc a w) (R : Nat) : Rel w1 lent1 ⟨s.t.map (clS R), s.h⟩ loc a w := by
  refine ⟨by simpa using hR.tsz, fun i y hy => ?_, hR.df, hR.rw, hR.inj, hR.own, hR.os, hR.tape, hR.output, hR.size, hR.keep, hR.fbe, hR.fbl, hR.pn, hR.pl⟩
  simp only [List.getElem?_map, Option.map_eq_some_iff] at hy
  obtain ⟨x, hx, rfl⟩ := hy
  have := hR.tm i x hx
  unfold clS
  split
  · split
    · exact this
    · exact .cl .any
  · split
    · exact this
    · exact .cl .any
theorem wk_t {h : Hp} {t t2 : List AV} (hl : leL t t2) : Wk ⟨t, h⟩ ⟨t2, h⟩ := fun w0 lent loc a w hR => by
  obtain ⟨g1, g2⟩ := leL_get hl
  refine ⟨loc, hR.tsz.trans g1, fun i y hy => ?_, hR.df, hR.rw, hR.inj, hR.own, hR.os, hR.tape, hR.output, hR.size, hR.keep, hR.fbe, hR.fbl, hR.pn, hR.pl⟩
  rcases g2 i y hy with rfl | h
  · exact .cl .any
  · exact hR.tm i y h
theorem apart_ne {us : UU} (h : (flU us).Pairwise fun a b => ∀ g, a.ownBlock = some g → b.ownBlock ≠ some g) {i j : Nat} {p q : Value × Value} (hi : us[i]? = some p) (hj : us[j]? = some q) (hne : i ≠ j) {v v' : Value} (hv : v = p.1 ∨ v = p.2) (hv' : v' = q.1 ∨ v' = q.2) : ∀ g, v.ownBlock = some g → v'.ownBlock ≠ some g := by
  have key : ∀ (i : Nat) (p : Value × Value), us[i]? = some p → ∀ v, (v = p.1 ∨ v = p.2) → ∃ c, c < 2 ∧ (flU us)[i * 2 + c]? = some v := fun i p hi v hv => by
    have f := fun c hc => flatMap_get (fun p : Value × Value => [p.1, p.2]) 2 (fun _ => rfl) us i c p hi hc
    rcases hv with rfl | rfl
    · exact ⟨0, by omega, f 0 (by omega)⟩
    · exact ⟨1, by omega, f 1 (by omega)⟩
  obtain ⟨c, hc, h1⟩ := key i p hi v hv
  obtain ⟨d, hd, h2⟩ := key j q hj v' hv'
  rw [List.pairwise_iff_getElem] at h
  have l1 := lt_of_some h1
  have l2 := lt_of_some h2
  rw [List.getElem?_eq_getElem l1] at h1
  rw [List.getElem?_eq_getElem l2] at h2
  cases h1
  cases h2
  intro g e1 e2
  rcases Nat.lt_or_ge (i * 2 + c) (j * 2 + d) with h3 | h3
  · exact h _ _ l1 l2 h3 g e1 e2
  · exact h _ _ l2 l1 (by omega) g e2 e1
/-- A function that is handed a tree set aside and writes it. -/
theorem pm_enter {f : FuncId} {fn : Func} {c : Code} {Post : Ending → World → Prop} {X : Nat → Prop} {u v2 : Value} {bs : List BD} {us : UU} (hf : P.funcs[f]? = some fn) (hb : fn.body = some c) (hO : OT w X u bs us)
    (h : ∀ lent1, ChX X w w lent1 → Gh w lent1.fb bs us → (∃ p, lent1.pin 500000 = some p ∧ u = vOf p bs.length) → AW P w lent1 (bodyPost P fn Post) [.code c] ⟨[.o 500000 bs.length, .v v2] ++ List.replicate (fn.ntmps - 2) .any, [(500000, rowT bs us)]⟩) : Calls P f #[u, v2] w Post := by
  obtain ⟨p, hp⟩ := own_vOf hO.row
  refine calls_of_wp hf hb ?_
  let fb : Nat → Prop := fun b => ∃ v ∈ flU us, v.ownBlock = some b
  let loc1 : Loc := ⟨fun q => if q = 500000 then p else none, fb⟩
  let lent1 : Lent := ⟨fun b => ∃ c, p = some (b, c), fb, fun q => if q = 500000 then some p else none⟩
  have hgh : Gh w fb bs us := ⟨hO.gh.len, fun k d q hd hq => by
    have := hO.gh.inn k d q hd hq
    have hm : q ∈ us := List.mem_of_getElem? hq
    exact ⟨⟨this.1.1, fun g hg => ⟨q.1, List.mem_flatMap.2 ⟨q, hm, by simp⟩, hg⟩⟩, ⟨this.2.1, fun g hg => ⟨q.2, List.mem_flatMap.2 ⟨q, hm, by simp⟩, hg⟩⟩⟩, hO.gh.apart⟩
  have hfbX : ∀ b, fb b → X b := fun b ⟨v, hv, hg⟩ => hO.gh.mem hv hg
  have hown : ∀ v ∈ flU us, ∃ n xs, w.ownsRow 0 3 1 v n xs := fun v hv => by
    obtain ⟨q, hq, hv⟩ := List.mem_flatMap.1 hv
    obtain ⟨k, hk, rfl⟩ := List.mem_iff_getElem.1 hq
    have := hO.gh.inn k _ _ (List.getElem?_eq_getElem (show k < bs.length by have := hO.gh.len; omega)) (List.getElem?_eq_getElem hk)
    simp only [List.mem_cons, List.not_mem_nil, or_false] at hv
    rcases hv with rfl | rfl
    · exact ⟨_, _, this.1.1⟩
    · exact ⟨_, _, this.2.1⟩
  have hpX : ∀ b c, p = some (b, c) → X b := fun b c e => hO.blk b (by rw [hp, e]; rfl)
  have hpf : ∀ b c, p = some (b, c) → ¬ fb b := fun b c e ⟨v, hv, hg⟩ => by
    obtain ⟨n, xs, h4⟩ := hown v hv
    rcases h4.2 with ⟨rfl, _⟩ | ⟨g1, cap, cur, rfl, _, e1, _⟩
    · cases hg
    · simp only [Value.ownBlock, Option.some.injEq] at hg
      subst hg
      rcases hO.row.2 with ⟨e2, _⟩ | ⟨g2, cap2, cur2, e2, _, e3, _⟩
      · rw [hp, e] at e2; cases e2
      · rw [hp, e] at e2
        cases e2
        rw [e1] at e3
        cases e3
  have hlt : ∀ b, fb b → b < w.heap.size := fun b ⟨v, hv, hg⟩ => by
    obtain ⟨n, xs, h4⟩ := hown v hv
    exact own_lt h4 hg
  have hg3 : hget [(500000, rowT bs us)] 500000 = some (rowT bs us) := rfl
  have hcs : ∀ q row, hget [(500000, rowT bs us)] q = some row → q = 500000 ∧ row = rowT bs us := fun q row k1 => by
    simp only [hget] at k1
    split at k1
    · rename_i e; cases k1; exact ⟨e.symm, rfl⟩
    · cases k1
  have hes : (rowT bs us).es.length = bs.length := by simp only [rowT, esT, List.length_map]; exact zip_len hO.gh.len
  refine h lent1 ⟨rfl, rfl, rfl, Nat.le_refl _, fun _ _ _ => rfl, fun b ⟨c, hc⟩ => .inl (hpX b c hc), fun b hb => .inl (hfbX b hb)⟩ hgh ⟨p, by simp [lent1], hp⟩ loc1 _ w ⟨?_, fun i x hx => ?_, rfl, fun r row hr => ?_, fun r r' row row' b c c' h1 h2 h3 h4 => ?_, fun r row b c h1 h2 => ?_, rfl, rfl, rfl, Nat.le_refl _, fun _ _ _ => rfl, rfl, fun b hb => ⟨hlt b hb, fun ⟨c, hc⟩ => hpf b c hc hb⟩, fun r q hq => ?_, fun r q hq => ?_⟩
  · simp
    omega
  · rcases i with _ | _ | i
    · simp at hx; subst hx
      have e : (#[u, v2] ++ Array.replicate (fn.ntmps - (#[u, v2] : Array Value).size) undef).getD 0 undef = u := by simp [Array.getD_eq_getD_getElem?, Array.getElem?_append]
      rw [e, hp]
      cases p with
      | none =>
        rcases hO.row.2 with ⟨_, h0⟩ | ⟨g, cap, cur, e, _⟩
        · rw [h0]; exact .onil hg3 (by simp [loc1])
        · rw [hp] at e; cases e
      | some bc => obtain ⟨b, c⟩ := bc; exact .o hg3 (by simp [loc1]) (by omega)
    · simp at hx; subst hx
      have e : (#[u, v2] ++ Array.replicate (fn.ntmps - (#[u, v2] : Array Value).size) undef).getD 1 undef = v2 := by simp [Array.getD_eq_getD_getElem?, Array.getElem?_append]
      rw [e]
      exact .cl .v
    · simp [List.getElem?_replicate] at hx
      rw [← hx.2]
      exact .cl .any
  · obtain ⟨rfl, rfl⟩ := hcs r row hr
    refine own_rowT hgh ?_
    have : rowVal loc1 500000 bs.length = u := by rw [hp]; show vOf (if 500000 = 500000 then p else none) bs.length = _; rw [if_pos rfl]
    rw [this]; exact hO.row
  · obtain ⟨rfl, rfl⟩ := hcs r row h1
    obtain ⟨rfl, rfl⟩ := hcs r' row' h2
    rfl
  · obtain ⟨rfl, rfl⟩ := hcs r row h1
    exact .inr ⟨c, by simpa [loc1] using h2⟩
  · simp only [lent1] at hq
    split at hq
    · rename_i e; cases hq; simp [loc1, e]
    · cases hq
  · simp only [lent1] at hq
    split at hq
    · rename_i e; omega
    · cases hq
end
def bsU (k : Nat) (bs : List BD) (i : Nat) : List BD := (mkB k bs).take i ++ bs.drop i
theorem bsU_len (k : Nat) (bs : List BD) (i : Nat) (h : i ≤ bs.length) : (bsU k bs i).length = bs.length := by simp [bsU, mkB_len]; omega
theorem bsU_at {k i : Nat} {bs : List BD} {d : BD} (hd : bs[i]? = some d) : (bsU k bs i)[i]? = some d := by
  have hi := lt_of_some hd
  unfold bsU
  rw [up_get (by rw [mkB_len]; omega)]; exact hd
theorem bsU_set {k i : Nat} {bs : List BD} {d : BD} (hd : bs[i]? = some d) : (bsU k bs i).set i (mkD1 (k + tot (bs.take i)) d) = bsU k bs (i + 1) := up_set (mkB_get bs k i d hd) (lt_of_some hd)
theorem bsU_0 (k : Nat) (bs : List BD) : bsU k bs 0 = bs := by simp [bsU]
theorem bsU_n (k : Nat) (bs : List BD) : bsU k bs bs.length = mkB k bs := by
  unfold bsU; rw [List.drop_length, List.append_nil, List.take_of_length_le (by rw [mkB_len]; exact Nat.le_refl _)]
theorem esT_at {bs : List BD} {us : UU} {i : Nat} {d : BD} {p : Value × Value} (hd : bs[i]? = some d) (hp : us[i]? = some p) : (esT bs us)[i]? = some [iA d.name, .v p.1, .v p.2] := by
  unfold esT
  rw [List.getElem?_map, show (bs.zip us)[i]? = some (d, p) from by rw [List.getElem?_zip_eq_some]; exact ⟨hd, hp⟩]
  rfl
theorem esT_set {bs : List BD} {us : UU} {i : Nat} {d : BD} {p : Value × Value} (hp : us[i]? = some p) (hi : i < bs.length) : (esT bs us).set i [iA d.name, .v p.1, .v p.2] = esT (bs.set i d) us := by
  unfold esT
  apply List.ext_getElem?
  intro j
  rw [List.getElem?_set, List.getElem?_map, List.getElem?_map]
  by_cases e : i = j
  · subst e
    have hl : i < (List.map (fun x => List.map AV.v (cellV x)) (bs.zip us)).length := by
      have := lt_of_some hp
      simp only [List.length_map, List.length_zip]; omega
    rw [if_pos rfl, if_pos hl]
    rw [show ((bs.set i d).zip us)[i]? = some (d, p) from by rw [List.getElem?_zip_eq_some]; exact ⟨by simp [hi], hp⟩]
    rfl
  · rw [if_neg e]
    congr 1
    rw [List.zip_eq_zipWith, List.zip_eq_zipWith, List.getElem?_zipWith, List.getElem?_zipWith, List.getElem?_set_ne e]
attribute [local irreducible] RWp AW run kPe pe Kt effA gd gu br retR RDp runD kPeD brW gW effD
set_option maxRecDepth 100000
theorem markZ_pcl (l : List Int) (k : Nat) (h0 : 0 < k) (hk : k + l.length ≤ 4611686018427387904) : PCL Tryz.prog 53 [rowZ l] (mvF none) [.o 0 l.length, iA k] (markZD (k + l.length) (rowZ (mkZ k l))) := by
  refine pcl_enter Tryz.func53 rfl rfl (by simp) fun w0 fb loc => go_on ?_; simp only [Tryz.ntmps53, hpL, nmL, mvF, renL, decide_true, decide_false, push_cast, simprocAttr]
  refine at_loop (X := Nat) (fun i => [(1, iA ((k + i : Nat) : Int)), (5, iA i)]) (fun i => [(500000, rowZ (upZ k l i))]) (fun i => i ≤ l.length) (fun i => l.length - i) 0 (Nat.zero_le _) ?_ ?_
  · (refine wk_frz ?_ ?_ ?_ ?_ <;> simp [upZ, leF, leHF, frzB, idsL, idsA, idsR, inH, hget, sameRow, viewN, tk, upA, hvA, dsts, dstO, setA_0, setA_1, setA_8, List.append, List.cons_append, List.nil_append])
  · rintro i hi
    simp only [upA, hvA, dsts, dstO, setA_0, setA_1, setA_8, List.append, List.cons_append, List.nil_append]
    refine go_on ?_
    (try simp only [push_cast, simprocAttr])
    by_cases hlt : i < l.length
    · have i0 : ltI (i : Int) l.length = true := ltI_t (by omega)
      have hlen := upZ_len k l i hi
      obtain ⟨x, hx⟩ := get_of_lt hlt
      have hux : (upZ k l i)[i]? = some x := by unfold upZ; rw [up_get (by rw [mkZ_len]; exact hi)]; exact hx
      have i1 := ix_n hx
      have i2 := map_get inC hux
      have hs : (List.map inC (upZ k l i)).set i [iA ((k + i : Nat) : Int)] = List.map inC (upZ k l (i + 1)) := by
        unfold upZ
        rw [← up_set (mkZ_get l k i hlt) hlt, List.map_set]
        rfl
      have w1 : IntKind.i64.wrap ((k : Int) + (i : Int) + 1) = (k : Int) + (i : Int) + 1 := wr _ (by omega)
      have w4 : IntKind.i64.wrap ((i : Int) + 1) = (i : Int) + 1 := wr _ (by omega)
      push_cast at hs
      simp only [inC] at i2
      (try simp only [i0, i1, i2, w1, w4, List.set_set, hs, push_cast, simprocAttr])
      have e5 : (k : Int) + ((i + 1 : Nat) : Int) = (k : Int) + (i : Int) + 1 := by omega
      refine at_fin ⟨i + 1, by omega, by omega, ?_⟩
      simp only [e5]
      (refine wk_frz ?_ ?_ ?_ ?_ <;> simp [leF, leHF, frzB, idsL, idsA, idsR, inH, hget, sameRow, viewN, tk, upA, hvA, dsts, dstO, setA_0, setA_1, setA_8, List.append, List.cons_append, List.nil_append])
    · have i0 : ltI (i : Int) l.length = false := ltI_f (by omega)
      obtain rfl : i = l.length := by omega
      have e : upZ k l l.length = mkZ k l := by unfold upZ; rw [List.drop_length, List.append_nil, List.take_of_length_le (by rw [mkZ_len]; exact Nat.le_refl _)]
      have hfin : markZD (k + l.length) (rowZ (mkZ k l)) (iA ((k + l.length : Nat) : Int)) [rowZ (mkZ k l)] [] := ⟨rfl, rfl, rfl⟩
      (try simp only [i0, e, push_cast, simprocAttr])
      (refine at_retL ?_; simp only [Tryz.results53, retL, push_cast, simprocAttr]; simpa [show List.range 1 = [0] from rfl, show List.range 2 = [0, 1] from rfl, show List.range 3 = [0, 1, 2] from rfl, nmL, mvF, ndB, ixOf, rowsOf, hget, rdR, rowS, rowN, rowC] using  hfin)
theorem heldZ_pc (l : List Int) (k : Nat) (h0 : 0 < k) (hk : k + l.length ≤ 4611686018427387904) : PC Tryz.prog 54 [intsA (mkZ k l), iA k] (vI ((k + l.length : Nat) : Int)) := by
  have hN := mkZ_len l k
  refine pc_enter Tryz.func54 rfl rfl fun w0 fb => go_on ?_; (try simp only [Tryz.ntmps54, push_cast, simprocAttr])
  refine at_loop (X := Nat) (fun i => [(1, iA ((k + i : Nat) : Int)), (5, iA i)]) (fun _ => []) (fun i => i ≤ l.length) (fun i => l.length - i) 0 (Nat.zero_le _) ?_ ?_
  · (refine wk_ok ?_ ?_ ?_ ?_ <;> simp [leL, leH, idsL, idsA, idsR, inH, hget, sameRow, upA, hvA, dsts, dstO, setA_0, setA_1, setA_8, List.append, List.cons_append, List.nil_append])
  · rintro i hi
    simp only [upA, hvA, dsts, dstO, setA_0, setA_1, setA_8, List.append, List.cons_append, List.nil_append]
    refine go_on ?_
    (try simp only [hN, push_cast, simprocAttr])
    by_cases hlt : i < l.length
    · have i0 : ltI (i : Int) l.length = true := ltI_t (by omega)
      have hx := mkZ_get l k i hlt
      have i1 := ix_n hx
      rw [hN] at i1
      have i2 := map_get inC hx
      simp only [inC] at i2
      have e4 : eqI ((k : Int) + (i : Int)) ((k : Int) + (i : Int)) = true := eqI_self _
      have w1 : IntKind.i64.wrap ((k : Int) + (i : Int) + 1) = (k : Int) + (i : Int) + 1 := wr _ (by omega)
      have w4 : IntKind.i64.wrap ((i : Int) + 1) = (i : Int) + 1 := wr _ (by omega)
      push_cast at i2
      have e5 : (k : Int) + ((i + 1 : Nat) : Int) = (k : Int) + (i : Int) + 1 := by omega
      (try simp only [i0, i1, i2, hN, e4, Bool.not_true, w1, w4, push_cast, simprocAttr])
      refine at_fin ⟨i + 1, by omega, by omega, ?_⟩
      simp only [e5]
      (refine wk_ok ?_ ?_ ?_ ?_ <;> simp [leL, leH, idsL, idsA, idsR, inH, hget, sameRow, upA, hvA, dsts, dstO, setA_0, setA_1, setA_8, List.append, List.cons_append, List.nil_append])
    · have i0 : ltI (i : Int) l.length = false := ltI_f (by omega)
      obtain rfl : i = l.length := by omega
      (try simp only [i0, push_cast, simprocAttr])
      refine at_ret ?_; simp only [Tryz.results54, push_cast, simprocAttr]
      simp [vX]
theorem heldBlobS_pc (l : List BD) (k : Nat) (h0 : 0 < k) (hk : k + tot l ≤ 4611686018427387904) : PC Tryz.prog 16 [blsA (mkB k l), iA k] (vI ((k + tot l : Nat) : Int)) := by
  have hN := mkB_len l k
  refine pc_enter Tryz.func16 rfl rfl fun w0 fb => go_on ?_; (try simp only [Tryz.ntmps16, push_cast, simprocAttr])
  refine at_loop (X := Nat) (fun i => [(1, iA ((k + tot (l.take i) : Nat) : Int)), (5, iA i)]) (fun _ => []) (fun i => i ≤ l.length) (fun i => l.length - i) 0 (Nat.zero_le _) ?_ ?_
  · (refine wk_ok ?_ ?_ ?_ ?_ <;> simp [tot, leL, leH, idsL, idsA, idsR, inH, hget, sameRow, upA, hvA, dsts, dstO, setA_0, setA_1, setA_8, List.append, List.cons_append, List.nil_append])
  · rintro i hi
    simp only [upA, hvA, dsts, dstO, setA_0, setA_1, setA_8, List.append, List.cons_append, List.nil_append]
    refine go_on ?_
    (try simp only [hN, push_cast, simprocAttr])
    by_cases hlt : i < l.length
    · have i0 : ltI (i : Int) l.length = true := ltI_t (by omega)
      obtain ⟨d, hd⟩ := get_of_lt hlt
      have hx := mkB_get l k i d hd
      have ht := tot_take l i d hd
      have hle := tot_le l (i + 1)
      have hge := tot_ge l
      have i1 := ix_n hx
      rw [hN] at i1
      have i2 := map_get bC hx
      obtain ⟨m, hm⟩ : ∃ m, m = k + tot (l.take i) := ⟨_, rfl⟩
      have ht1 : tot1 d = 1 + d.safe.length + d.fresh.length := rfl
      have hA := heldZ_pc d.safe (m + 1) (by omega) (by omega)
      have hB := heldZ_pc d.fresh (m + 1 + d.safe.length) (by omega) (by omega)
      rw [← hm] at i2
      have hm' : (k : Int) + (tot (List.take i l) : Int) = (m : Int) := by omega
      rw [hm']
      simp only [bC, mkD1] at i2
      have e4 : eqI (m : Int) (m : Int) = true := eqI_self _
      have w1 : IntKind.i64.wrap ((m : Int) + 1) = (m : Int) + 1 := wr _ (by omega)
      have w4 : IntKind.i64.wrap ((i : Int) + 1) = (i : Int) + 1 := wr _ (by omega)
      have l1 : ltI ((m : Int) + 1 + d.safe.length) 0 = false := ltI_f (by omega)
      have l2 : ltI ((m : Int) + 1 + d.safe.length + d.fresh.length) 0 = false := ltI_f (by omega)
      push_cast at hA hB
      (try simp only [i0, i1, i2, hN, e4, Bool.not_true, w1, push_cast, simprocAttr])
      (refine at_call ?_; (try simp only [push_cast, simprocAttr]); refine rwc_v (hA) (go_on ?_); (try simp only [push_cast, simprocAttr]))
      (try simp only [l1, i0, i1, i2, hN, push_cast, simprocAttr])
      (refine at_call ?_; (try simp only [push_cast, simprocAttr]); refine rwc_v (hB) (go_on ?_); (try simp only [push_cast, simprocAttr]))
      (try simp only [l2, w4, push_cast, simprocAttr])
      refine at_fin ⟨i + 1, by omega, by omega, ?_⟩
      rw [ht, ht1]
      have e5 : (k : Int) + ((tot (List.take i l) + (1 + d.safe.length + d.fresh.length) : Nat) : Int) = (m : Int) + 1 + d.safe.length + d.fresh.length := by omega
      simp only [e5]
      (refine wk_ok ?_ ?_ ?_ ?_ <;> simp [leL, leH, idsL, idsA, idsR, inH, hget, sameRow, upA, hvA, dsts, dstO, setA_0, setA_1, setA_8, List.append, List.cons_append, List.nil_append])
    · have i0 : ltI (i : Int) l.length = false := ltI_f (by omega)
      obtain rfl : i = l.length := by omega
      (try simp only [i0, List.take_length, push_cast, simprocAttr])
      refine at_ret ?_; simp only [Tryz.results16, push_cast, simprocAttr]
      simp [vX]
/-- Between two files: the state of the marking. -/
structure MJ (u : Value) (bs : List BD) (us : UU) (X : Nat → Prop) (w00 : World) (k0 x : Nat) (w2 : World) (lent2 : Lent) : Prop where
  le : x ≤ bs.length
  ch : ChX X w00 w2 lent2
  pin : ∃ p, lent2.pin 500000 = some p ∧ u = vOf p bs.length
  inn : ∀ (i : Nat) d q, (bsU k0 bs x)[i]? = some d → us[i]? = some q → i ≠ x → OwI w2 lent2.fb q.1 d.safe ∧ OwI w2 lent2.fb q.2 d.fresh
  at_ : ∀ d q, bs[x]? = some d → us[x]? = some q → ∃ p1 p2, lent2.pin 500001 = some p1 ∧ lent2.pin 500002 = some p2 ∧ q.1 = vOf p1 d.safe.length ∧ q.2 = vOf p2 d.fresh.length
def mjH (bs : List BD) (us : UU) (k0 x : Nat) : Hp := match bs[x]? with
  | some d => [(500000, ⟨79, 3, (esT (bsU k0 bs x) us).set x [iA d.name, .o 500001 d.safe.length, .o 500002 d.fresh.length], false⟩), (500001, rowZ d.safe), (500002, rowZ d.fresh)]
  | none => [(500000, rowT (bsU k0 bs x) us)]
theorem mark_link {u : Value} {bs : List BD} {us : UU} {X : Nat → Prop} {w00 w1 w : World} {lent1 : Lent} {t : List AV} {loc : Loc} {a : Act} {k0 x : Nat} (hlen : us.length = bs.length) (hap : (flU us).Pairwise fun a b => ∀ g, a.ownBlock = some g → b.ownBlock ≠ some g) (hx : x ≤ bs.length) (hR : Rel w1 lent1 ⟨t, [(500000, rowT (bsU k0 bs x) us)]⟩ loc a w)
    (hgh : ∀ (i : Nat) d q, (bsU k0 bs x)[i]? = some d → us[i]? = some q → OwI w lent1.fb q.1 d.safe ∧ OwI w lent1.fb q.2 d.fresh) (hch : ChX X w00 w1 lent1) (hpin : ∃ p, lent1.pin 500000 = some p ∧ u = vOf p bs.length) (hsame : ∀ b, lent1.fb b → w.heap[b]? = w1.heap[b]?) :
    ∃ w3 lent3 loc3, MJ u bs us X w00 k0 x w3 lent3 ∧ Rel w3 lent3 ⟨t.map (clS 500000), mjH bs us k0 x⟩ loc3 a w := by
  cases hb : bs[x]? with
  | none =>
    refine ⟨w1, lent1, loc, ⟨hx, hch, hpin, fun i d q h1 h2 _ => ?_, fun d q h => by rw [hb] at h; cases h⟩, ?_⟩
    · have := hgh i d q h1 h2
      exact ⟨this.1.same (fun b h => (hsame b h).symm) fun _ h => h, this.2.same (fun b h => (hsame b h).symm) fun _ h => h⟩
    · have := hR.cls 500000
      unfold mjH
      rw [hb]
      exact this
  | some d =>
    have hxl := lt_of_some hb
    obtain ⟨q, hq⟩ : ∃ q, us[x]? = some q := ⟨us[x]'(by omega), List.getElem?_eq_getElem _⟩
    have hd := bsU_at (k := k0) hb
    obtain ⟨o1, o2⟩ := hgh x d q hd hq
    have hqm : (flU us).Pairwise fun a b => ∀ g, a.ownBlock = some g → b.ownBlock ≠ some g := hap
    have hq12 : ∀ g, q.1.ownBlock = some g → q.2.ownBlock ≠ some g := by
      have f := fun c hc => flatMap_get (fun p : Value × Value => [p.1, p.2]) 2 (fun _ => rfl) us x c q hq hc
      have f0 : (flU us)[x * 2 + 0]? = some q.1 := f 0 (by omega)
      have f1 : (flU us)[x * 2 + 1]? = some q.2 := f 1 (by omega)
      have l0 := lt_of_some f0
      have l1 := lt_of_some f1
      rw [List.getElem?_eq_getElem l0] at f0
      rw [List.getElem?_eq_getElem l1] at f1
      have := (List.pairwise_iff_getElem.1 hap) _ _ l0 l1 (by omega)
      rw [Option.some.inj f0, Option.some.inj f1] at this
      exact this
    obtain ⟨p1, p2, lent2, loc2, k1, k2, k3, k4, k5, k6, k7, k8, k9, k10⟩ := hR.link (R := 500000) (E0 := esT (bsU k0 bs x) us) (k := x) (nm := d.name) (u1 := q.1) (u2 := q.2) rfl esT_c (esT_at hd hq) (by decide) o1 o2 hq12
    refine ⟨w, lent2, loc2, ⟨hx, k6 _ _ hch, ?_, fun i e r h1 h2 hne => ?_, fun e r h1 h2 => ?_⟩, ?_⟩
    · obtain ⟨p, h1, h2⟩ := hpin
      exact ⟨p, by rw [k9 (by omega), k10 p h1], h2⟩
    · have := hgh i e r h1 h2
      have hne1 := fun v (hv : v = r.1 ∨ v = r.2) => apart_ne hap h2 hq hne hv (v' := q.1) (.inl rfl)
      have hne2 := fun v (hv : v = r.1 ∨ v = r.2) => apart_ne hap h2 hq hne hv (v' := q.2) (.inr rfl)
      rw [k4]
      exact ⟨⟨this.1.1, fun g hg => ⟨this.1.2 g hg, hne1 _ (.inl rfl) g hg, hne2 _ (.inl rfl) g hg⟩⟩, ⟨this.2.1, fun g hg => ⟨this.2.2 g hg, hne1 _ (.inr rfl) g hg, hne2 _ (.inr rfl) g hg⟩⟩⟩
    · rw [hb] at h1
      rw [hq] at h2
      cases h1
      cases h2
      exact ⟨p1, p2, k7, k8, k2, k3⟩
    · unfold mjH
      rw [hb]
      exact k1
theorem markBlobS_m {w : World} {X : Nat → Prop} {u : Value} {bs : List BD} {us : UU} (hO : OT w X u bs us) (k0 : Nat) (h0 : 0 < k0) (hk : k0 + tot bs ≤ 4611686018427387904) :
    Calls Tryz.prog 15 #[u, .int .i64 k0] w fun e w' => e = .returned (.int .i64 ((k0 + tot bs : Nat) : Int)) ∧ Mut X w w' ∧ OT w' X u (mkB k0 bs) us := by
  have hlen := hO.gh.len
  have hge := tot_ge bs
  refine pm_enter Tryz.func15 rfl hO fun lent1 hch hgh hpin => go_on ?_
  (try simp only [Tryz.ntmps15, push_cast, simprocAttr])
  refine at_loopR (X := Nat) (fun x => [(1, iA ((k0 + tot (bs.take x) : Nat) : Int)), (5, iA x)]) (fun x => mjH bs us k0 x) (fun x w2 lent2 => MJ u bs us X w k0 x w2 lent2) (fun x => bs.length - x) rfl (fun loc a w1 hR => ?_) ?_
  · obtain ⟨w3, lent3, loc3, h1, h2⟩ := mark_link (k0 := k0) (x := 0) hlen hO.gh.apart (Nat.zero_le _) (by rw [bsU_0]; exact hR) (fun i d q h1 h2 => by
      rw [bsU_0] at h1
      have := hgh.inn i d q h1 h2
      exact ⟨this.1.same (fun b h => hR.fbk h) fun _ h => h, this.2.same (fun b h => hR.fbk h) fun _ h => h⟩) hch hpin (fun b h => hR.fbk h)
    refine from_wk 0 h1 (wk_t ?_) loc3 a w1 h2
    simp [leL, clS, isC, tot, upA, hvA, dsts, dstO, setA_0, setA_1, setA_8, List.append, List.cons_append, List.nil_append]
  · intro x w2 lent2 hJ
    have hx := hJ.le
    simp only [upA, hvA, dsts, dstO, setA_0, setA_1, setA_8, List.append, List.cons_append, List.nil_append]
    refine go_on ?_
    by_cases hlt : x < bs.length
    · obtain ⟨d, hd⟩ := get_of_lt hlt
      have hmj : mjH bs us k0 x = [(500000, ⟨79, 3, (esT (bsU k0 bs x) us).set x [iA d.name, .o 500001 d.safe.length, .o 500002 d.fresh.length], false⟩), (500001, rowZ d.safe), (500002, rowZ d.fresh)] := by unfold mjH; rw [hd]
      rw [hmj]
      obtain ⟨m, hm⟩ : ∃ m, m = k0 + tot (bs.take x) := ⟨_, rfl⟩
      have hm' : (k0 : Int) + (tot (List.take x bs) : Int) = (m : Int) := by omega
      have ht := tot_take bs x d hd
      have ht1 : tot1 d = 1 + d.safe.length + d.fresh.length := rfl
      have hle := tot_le bs (x + 1)
      have i0 : ltI (x : Int) bs.length = true := ltI_t (by omega)
      have i1 := ix_n hd
      have hel : (esT (bsU k0 bs x) us).length = bs.length := by rw [esT_len (by rw [hlen, bsU_len k0 bs x hx]), bsU_len k0 bs x hx]
      have hE : ∀ z, ((esT (bsU k0 bs x) us).set x z)[x]? = some z := fun z => by rw [List.getElem?_set_self (by omega)]
      have hM1 := markZ_pcl d.safe (m + 1) (by omega) (by omega)
      have hM2 := markZ_pcl d.fresh (m + 1 + d.safe.length) (by omega) (by omega)
      have w1 : IntKind.i64.wrap ((m : Int) + 1) = (m : Int) + 1 := wr _ (by omega)
      have w4 : IntKind.i64.wrap ((x : Int) + 1) = (x : Int) + 1 := wr _ (by omega)
      push_cast at hM1 hM2
      rw [← hm]
      (try simp only [i0, i1, hE, List.set_set, w1, push_cast, simprocAttr])
      (try simp only [push_cast, simprocAttr]); refine call_lend [500001] none (lr := [rowZ d.safe]) (by simp [ndB]) (by first | rfl | simp [rowsOf, hget, rdR, rowS, rowN, rowC, sC, ndC, cmC]) (by simp [idsL, idsA]) (by simp [mvN]) (by simpa [rnA, ixOf] using hM1) ?_
      rintro rv lr' rows ⟨rfl, rfl, rfl⟩
      (refine ⟨by simp [shB, mvF, rdR, rowS, rowN, rowC, mkZ_len], by simp [frB, baseOf], go_on ?_⟩; simp only [killA, killH, killRow, push_cast, simprocAttr])
      (try simp only [i1, hE, List.set_set, push_cast, simprocAttr])
      (try simp only [push_cast, simprocAttr]); refine call_lend [500002] none (lr := [rowZ d.fresh]) (by simp [ndB]) (by first | rfl | simp [rowsOf, hget, rdR, rowS, rowN, rowC, sC, ndC, cmC]) (by simp [idsL, idsA]) (by simp [mvN]) (by simpa [rnA, ixOf] using hM2) ?_
      rintro rv lr' rows ⟨rfl, rfl, rfl⟩
      (refine ⟨by simp [shB, mvF, rdR, rowS, rowN, rowC, mkZ_len], by simp [frB, baseOf], go_on ?_⟩; simp only [killA, killH, killRow, push_cast, simprocAttr])
      (try simp only [w4, push_cast, simprocAttr])
      refine at_fin fun loc a w3 hR => ?_
      obtain ⟨q, hq⟩ : ∃ q, us[x]? = some q := ⟨us[x]'(by omega), List.getElem?_eq_getElem _⟩
      obtain ⟨p1, p2, g1, g2, g3, g4⟩ := hJ.at_ d q hd hq
      have hl1 := mkZ_len d.safe (m + 1)
      have hl2 := mkZ_len d.fresh (m + 1 + d.safe.length)
      obtain ⟨u1, u2, lent3, loc3, hR3, o1, o2, hap, n1, n2, hsub, hkp, hch3, e1, e2, e3, e4, _⟩ := hR.unlink (R := 500000) (x := .o 500001 d.safe.length) (y := .o 500002 d.fresh.length) (nm := (m : Int)) (xs := mkZ (m + 1) d.safe) (ys := mkZ (m + 1 + d.safe.length) d.fresh) rfl rfl rfl (by rw [← hl1]; exact .o rfl) (by rw [← hl2]; exact .o rfl) (by simp [idsA]) (by simp [idsA]) (by simp [idsA])
        (fun u1 u2 => (esT (bsU k0 bs x) us).set x [iA (m : Int), .v u1, .v u2]) (fun u1 u2 => set_rel esT_c (by omega))
      have hu1 : u1 = q.1 := by rw [e1 _ _ _ rfl g1, g3, hl1]
      have hu2 : u2 = q.2 := by rw [e2 _ _ _ rfl g2, g4, hl2]
      subst hu1
      subst hu2
      have hset : (esT (bsU k0 bs x) us).set x [iA (m : Int), .v q.1, .v q.2] = esT (bsU k0 bs (x + 1)) us := by
        rw [← bsU_set hd, ← hm, ← esT_set hq (by rw [bsU_len k0 bs x hx]; exact hlt)]
        rfl
      rw [hset] at hR3
      obtain ⟨w4', lent4, loc4, hJ4, hR4⟩ := mark_link (X := X) (w00 := w) (u := u) (k0 := k0) (x := x + 1) hlen hO.gh.apart hlt hR3 (fun i d' q' h1 h2 => by
        by_cases hi : i = x
        · subst hi
          rw [← bsU_set hd, ← hm, List.getElem?_set_self (by rw [bsU_len k0 bs i hx]; exact hlt)] at h1
          rw [hq] at h2
          cases h1
          cases h2
          exact ⟨o1, o2⟩
        · rw [← bsU_set hd, List.getElem?_set_ne (Ne.symm hi)] at h1
          have := hJ.inn i d' q' h1 h2 hi
          exact ⟨this.1.same hkp hsub, this.2.same hkp hsub⟩) (hch3 _ _ hJ.ch) (by
        obtain ⟨p, h1, h2⟩ := hJ.pin
        exact ⟨p, by rw [e3]; simp [e4 p h1], h2⟩) (fun _ _ => rfl)
      refine from_wk2 hR4 (x + 1) hJ4 (by omega) (wk_t ?_)
      rw [ht, ht1]
      have e5 : ((k0 + (tot (List.take x bs) + (1 + d.safe.length + d.fresh.length)) : Nat) : Int) = (m : Int) + 1 + d.safe.length + d.fresh.length := by omega
      simp only [e5]
      simp [leL, clS, isC, upA, hvA, dsts, dstO, setA_0, setA_1, setA_8, List.append, List.cons_append, List.nil_append]
      omega
    · obtain rfl : x = bs.length := by omega
      have i0 : ltI (bs.length : Int) bs.length = false := ltI_f (by omega)
      have hmj : mjH bs us k0 bs.length = [(500000, rowT (mkB k0 bs) us)] := by
        unfold mjH
        rw [List.getElem?_eq_none (Nat.le_refl _), bsU_n]
      rw [hmj]
      (try simp only [i0, List.take_length, push_cast, simprocAttr])
      refine at_retW (l := [iA ((k0 + tot bs : Nat) : Int)]) (by simp only [Tryz.results15, push_cast, simprocAttr]) fun loc a w3 v hR hG => ?_
      have hm := hJ.ch.mut hR
      refine ⟨by rw [hG.v_inv]; push_cast; rfl, hm, ⟨⟨by rw [mkB_len]; exact hlen, fun k d q h1 h2 => ?_, hO.gh.apart⟩, ?_, hO.blk⟩⟩
      · rw [← bsU_n] at h1
        have hkl := lt_of_some h1
        rw [bsU_len k0 bs _ (Nat.le_refl _)] at hkl
        have h3 := hJ.inn k d q h1 h2 (by omega)
        obtain ⟨d0, h4⟩ := get_of_lt hkl
        have h5 := hO.gh.inn k d0 q h4 h2
        exact ⟨⟨own_same h3.1.1 fun g hg => hR.fbk (h3.1.2 g hg), h5.1.2⟩, ⟨own_same h3.2.1 fun g hg => hR.fbk (h3.2.2 g hg), h5.2.2⟩⟩
      · obtain ⟨p, h1, h2⟩ := hJ.pin
        have := rowT_own (by rw [mkB_len]; exact hlen) (hR.rw 500000 _ rfl)
        rw [show rowVal loc 500000 (mkB k0 bs).length = vOf (loc 500000) (mkB k0 bs).length from rfl, hR.pn _ p h1, mkB_len, ← h2] at this
        rw [mkB_len]
        exact this
end Go.Proofs.YtccifbbjbnjcfaaGreatDoor
/-
  Trees of files set aside: one file's lists read as data; another file in its place.
-/
namespace Go.Proofs.YtccifbbjbnjcfaaGreatDoor
open Go Go.RowKit Go.Proofs
section
variable {w0 w1 : World} {lent1 : Lent} {s : AS} {loc : Loc} {a : Act} {w : World}
theorem leQ_set {q : AV → AV → Prop} : ∀ {t t2 : List AV} {i : Nat} {x y : AV}, leQ q t t2 → t[i]? = some x → q x y → leQ q t (t2.set i y)
  | [], [], i, x, y, _, h, _ => by simp at h
  | z :: l, z2 :: l2, 0, x, y, ⟨h1, h2⟩, h, hq => by
    simp at h; subst h
    exact ⟨.inr (.inr hq), h2⟩
  | z :: l, z2 :: l2, i + 1, x, y, ⟨h1, h2⟩, h, hq => ⟨h1, leQ_set h2 (by simpa using h) hq⟩
  | [], _ :: _, _, _, _, h, _, _ => h.elim
  | _ :: _, [], _, _, _, h, _, _ => h.elim
/-- Closed slots alone. -/
def cl0 (x : AV) : AV := if isC x = true then x else .any
theorem leQ_cl0 {q : AV → AV → Prop} : ∀ t : List AV, leQ q t (t.map cl0)
  | [] => trivial
  | x :: l => by
    refine ⟨?_, leQ_cl0 l⟩
    unfold cl0
    split
    · rename_i h; exact .inr (.inl ⟨rfl, h⟩)
    · exact .inl rfl
theorem Rel.adopt' {t : List AV} (hR : Rel w1 lent1 ⟨t, []⟩ loc a w) {u : Value} {bs : List BD} {us : UU} {X : Nat → Prop} (i : Nat) (ht : t[i]? = some (.v u)) (hO : OT w1 X u bs us) (hX : ∀ b, X b → lent1.fb b) :
    ∃ lent2 loc2, Rel w lent2 ⟨(t.map cl0).set i (.o 500000 bs.length), [(500000, rowT bs us)]⟩ loc2 a w ∧ Gh w lent2.fb bs us ∧ (∀ X w0, ChX X w0 w1 lent1 → ChX X w0 w lent2) ∧ (∀ b, lent2.fb b → lent1.fb b) ∧ (∀ b, lent1.fb b → w.heap[b]? = w1.heap[b]?) ∧ (∀ b, lent1.fb b → ¬ X b → lent2.fb b) :=
  hR.adopt hO hX (leQ_set (leQ_cl0 t) ht ⟨rfl, rfl⟩)
/-- Two lists of a file, that were set aside, as data; and a nil row. -/
theorem Rel.free (hR : Rel w1 lent1 s loc a w) {R : Nat} {E0 : List (List AV)} {k : Nat} {nm : Int} {u1 u2 : Value} {xs ys : List Int} (hr : hget s.h R = some ⟨79, 3, E0, true⟩) (hRn : R ≠ 500003) (hC0 : ∀ e ∈ E0, e.all isC = true) (hk : E0[k]? = some [iA nm, .v u1, .v u2])
    (h1 : OwI w lent1.fb u1 xs) (h2 : OwI w lent1.fb u2 ys) :
    ∃ lent2 loc2, Rel w lent2 ⟨s.t.map (clS R), [(R, ⟨79, 3, E0.set k [iA nm, intsA xs, intsA ys], true⟩), (500003, rowZ [])]⟩ loc2 a w ∧ lent2.fb = (fun b => lent1.fb b ∧ u1.ownBlock ≠ some b ∧ u2.ownBlock ≠ some b) ∧ (∀ b, lent1.fb b → w.heap[b]? = w1.heap[b]?) ∧ (∀ X w0, ChX X w0 w1 lent1 → ChX X w0 w lent2) ∧ lent2.pin 500003 = some none := by
  obtain ⟨t2, ht2⟩ : ∃ t2, t2 = s.t.map (clS R) := ⟨_, rfl⟩
  obtain ⟨g0, g1⟩ := leQ_get (leQ_cls (R := R) s.t)
  rw [← ht2] at g0 g1 ⊢
  have hkl := lt_of_some hk
  let h3 : Hp := [(R, ⟨79, 3, E0.set k [iA nm, intsA xs, intsA ys], true⟩), (500003, rowZ [])]
  let loc2 : Loc := ⟨fun q => if q = R then loc R else none, fun b => lent1.fb b ∧ u1.ownBlock ≠ some b ∧ u2.ownBlock ≠ some b⟩
  have hl0 : ∀ q b c, loc2 q = some (b, c) → q = R ∧ loc R = some (b, c) := fun q b c k2 => by
    simp only [loc2] at k2
    split at k2
    · rename_i e; exact ⟨e, k2⟩
    · cases k2
  have hl2 : ∀ b, LiveR h3 loc2 b → ∃ c, loc R = some (b, c) := by
    rintro b ⟨q, row, c, k1, k2⟩
    exact ⟨c, (hl0 q b c k2).2⟩
  have hlive : ∀ b, Live h3 loc2 b → Live s.h loc b := by
    rintro b (h | h)
    · obtain ⟨c, hc⟩ := hl2 b h
      exact .inl ⟨R, _, c, hr, hc⟩
    · exact .inr (by rw [hR.fbe]; exact h.1)
  have hg3 : hget h3 R = some ⟨79, 3, E0.set k [iA nm, intsA xs, intsA ys], true⟩ := by simp [h3, hget]
  have hc1 : C (Live h3 loc2) 0 w (intsA xs) u1 := by
    have h1' : OwI w (fun b => u1.ownBlock = some b) u1 xs := ⟨h1.1, fun g hg => hg⟩
    refine h1'.c fun b hb hl => ?_
    rcases hl with hl | hl
    · obtain ⟨c, hc⟩ := hl2 b hl
      exact hR.nfb hr hc (h1.2 b hb)
    · exact hl.2.1 hb
  have hc2 : C (Live h3 loc2) 0 w (intsA ys) u2 := by
    have h2' : OwI w (fun b => u2.ownBlock = some b) u2 ys := ⟨h2.1, fun g hg => hg⟩
    refine h2'.c fun b hb hl => ?_
    rcases hl with hl | hl
    · obtain ⟨c, hc⟩ := hl2 b hl
      exact hR.nfb hr hc (h2.2 b hb)
    · exact hl.2.2 hb
  refine ⟨_, loc2, hR.re (s2 := ⟨t2, h3⟩) (loc2 := loc2) g0 hlive (fun i z hz => ?_) (fun r row hrr => ?_) (fun r r' row row' b c c' k1 k2 k3 k4 => ?_) (fun b hb hl => ?_) (fun q => if q = 500003 then some none else none) (fun r p hp => ?_), rfl, fun b h => hR.fbk h, fun Y w0 h => ?_, by simp⟩
  · rcases g1 i z hz with h | ⟨z0, k1, k2 | ⟨n, rfl, rfl⟩⟩
    · exact .inl h
    · exact .inr ⟨z0, k1, .inl k2⟩
    · exact .inr ⟨_, k1, .inr fun u hg => hg.oR hr hg3 (by simp [loc2]) (by simp)⟩
  · simp only [h3, hget] at hrr
    split at hrr
    · rename_i e
      subst e
      cases hrr
      refine (hR.rw R _ hr).re rfl rfl (by simp) (by simp [loc2]) fun i e2 he2 => ?_
      rw [List.getElem?_set] at he2
      split at he2
      · rename_i hik
        subst hik
        first | rw [if_pos hkl] at he2 | skip
        cases he2
        refine ⟨_, hk, rfl, fun j y' hy' => ?_⟩
        rcases j with _ | _ | _ | j
        · simp at hy'; subst hy'
          exact ⟨_, rfl, fun u hg _ => by rw [hg.v_inv]; exact ⟨.cl .v, fun _ => .v⟩⟩
        · simp at hy'; subst hy'
          exact ⟨_, rfl, fun u hg _ => by rw [hg.v_inv]; exact ⟨.cl hc1, fun _ => hc1⟩⟩
        · simp at hy'; subst hy'
          exact ⟨_, rfl, fun u hg _ => by rw [hg.v_inv]; exact ⟨.cl hc2, fun _ => hc2⟩⟩
        · simp at hy'
      · refine ⟨e2, he2, rfl, fun j y' hy' => ⟨y', hy', fun u hg _ => ?_⟩⟩
        have hcy := List.all_eq_true.1 (hC0 e2 (List.mem_of_getElem? he2)) y' (List.mem_of_getElem? hy')
        have := (isC_ok hg hcy).mono (lv' := Live h3 loc2) (Nat.le_refl 0) (Nat.le_refl _) fun b _ _ hnl => ⟨fun hl => hnl (hlive b hl), rfl⟩
        exact ⟨.cl this, fun _ => this⟩
    · split at hrr
      · rename_i e
        subst e
        cases hrr
        refine own_rowZ ?_
        rw [show rowVal loc2 500003 ([] : List Int).length = .slice none 0 0 by simp [rowVal, loc2, Ne.symm hRn]]
        exact World.ownsRow_nil _ _ _ _
      · cases hrr
  · rw [(hl0 r b c k3).1, (hl0 r' b c' k4).1]
  · obtain ⟨c, hc⟩ := hl2 b hl
    exact hR.nfb hr hc hb.1
  · split at hp
    · rename_i e
      cases hp
      exact ⟨by simp [loc2, e, Ne.symm hRn], by omega⟩
    · cases hp
  · have h0 := h.mut hR
    refine ⟨h0.os, h0.tape, h0.output, h0.size, h0.keep, fun b hb => ?_, fun b hb => h.fb b hb.1⟩
    obtain ⟨c, hc⟩ := hl2 b hb
    exact h.own hR hr hc
theorem aw_storeN {P : Program} {Q : Exit → Act → World → Prop} {lent : Lent} {k : List It} {tD : Tmp} {t ty : TypeId} {l : List SO} (r0 : Nat) {row0 : Row} {h' : Hp} (hpin : lent.pin r0 = some none) (hrow : hget s.h r0 = some row0) (hst : stA P s.h t (getA s.t tD) (.o r0 0) = some h')
    (h : AW P w0 lent Q (.ops l :: k) ⟨s.t, h'⟩) : AW P w0 lent Q (.ops (⟨none, .store t (.tmp tD) (.const (.slice none 0 0)), ty, none⟩ :: l) :: k) s := by
  intro loc a w hR
  obtain ⟨w', hr, hR'⟩ := stA_ok hR (evA_ok hR (.tmp tD)) (.onil hrow (hR.pn r0 none hpin)) hst
  show wpSO P (Kt P w0 lent Q k) _ a w
  unfold wpSO
  simp only
  unfold Oper.wp
  have : (execOp a.eval (SO.oper ⟨none, .store t (.tmp tD) (.const (.slice none 0 0)), ty, none⟩)).run P w = .ok .skip w' := by
    simp only [Act.eval, Array.getD_eq_getD_getElem?] at hr
    simp [execOp, SO.oper, Act.eval, hr]
  rw [this]
  exact h loc _ w' hR'
end
theorem apart_mk : ∀ {us : UU}, (∀ (i : Nat) p, us[i]? = some p → ∀ g, p.1.ownBlock = some g → p.2.ownBlock ≠ some g) → (∀ (i j : Nat) p q, us[i]? = some p → us[j]? = some q → i < j → ∀ v v', (v = p.1 ∨ v = p.2) → (v' = q.1 ∨ v' = q.2) → ∀ g, v.ownBlock = some g → v'.ownBlock ≠ some g) → (flU us).Pairwise fun a b => ∀ g, a.ownBlock = some g → b.ownBlock ≠ some g
  | [], _, _ => List.Pairwise.nil
  | p :: l, h1, h2 => by
    have ih := apart_mk (us := l) (fun i p h => h1 (i + 1) p (by simpa using h)) (fun i j p q hi hj hij => h2 (i + 1) (j + 1) p q (by simpa using hi) (by simpa using hj) (by omega))
    have key : ∀ v ∈ flU l, ∀ v0, (v0 = p.1 ∨ v0 = p.2) → ∀ g, v0.ownBlock = some g → v.ownBlock ≠ some g := fun v hv v0 h0 => by
      obtain ⟨q, hq, hv⟩ := List.mem_flatMap.1 hv
      obtain ⟨j, hj, rfl⟩ := List.mem_iff_getElem.1 hq
      exact h2 0 (j + 1) p l[j] rfl (by rw [List.getElem?_cons_succ]; exact List.getElem?_eq_getElem hj) (by omega) v0 v h0 (by simpa using hv)
    show ([p.1, p.2] ++ flU l).Pairwise _
    rw [List.cons_append, List.cons_append, List.nil_append, List.pairwise_cons, List.pairwise_cons]
    refine ⟨fun v hv => ?_, fun v hv => key v hv _ (.inr rfl), ih⟩
    rcases List.mem_cons.1 hv with rfl | hv
    · exact h1 0 p rfl
    · exact key v hv _ (.inl rfl)
theorem apart_in {us : UU} (h : (flU us).Pairwise fun a b => ∀ g, a.ownBlock = some g → b.ownBlock ≠ some g) {x : Nat} {q : Value × Value} (hq : us[x]? = some q) : ∀ g, q.1.ownBlock = some g → q.2.ownBlock ≠ some g := by
  have f := fun c hc => flatMap_get (fun p : Value × Value => [p.1, p.2]) 2 (fun _ => rfl) us x c q hq hc
  have f0 : (flU us)[x * 2 + 0]? = some q.1 := f 0 (by omega)
  have f1 : (flU us)[x * 2 + 1]? = some q.2 := f 1 (by omega)
  have l0 := lt_of_some f0
  have l1 := lt_of_some f1
  rw [List.getElem?_eq_getElem l0] at f0
  rw [List.getElem?_eq_getElem l1] at f1
  have := (List.pairwise_iff_getElem.1 h) _ _ l0 l1 (by omega)
  rw [Option.some.inj f0, Option.some.inj f1] at this
  exact this
/-- Another file in the place of one. -/
theorem Gh.set {w1 w : World} {X X' : Nat → Prop} {bs : List BD} {us : UU} {j : Nat} {d : BD} {u1 u2 : Value} (hlen : us.length = bs.length) (hj : j < bs.length) (hin : ∀ (i : Nat) e q, bs[i]? = some e → us[i]? = some q → i ≠ j → OwI w1 X q.1 e.safe ∧ OwI w1 X q.2 e.fresh)
    (hap : (flU us).Pairwise fun a b => ∀ g, a.ownBlock = some g → b.ownBlock ≠ some g) (hs : ∀ b, X b → w.heap[b]? = w1.heap[b]?) (hx : ∀ b, X b → X' b) (o1 : OwI w X' u1 d.safe) (o2 : OwI w X' u2 d.fresh)
    (h12 : ∀ g, u1.ownBlock = some g → u2.ownBlock ≠ some g) (n1 : ∀ g, u1.ownBlock = some g → ¬ X g) (n2 : ∀ g, u2.ownBlock = some g → ¬ X g) : Gh w X' (bs.set j d) (us.set j (u1, u2)) := by
  have hju : j < us.length := by omega
  have cs : ∀ (i : Nat) q, (us.set j (u1, u2))[i]? = some q → (i = j ∧ q = (u1, u2)) ∨ (i ≠ j ∧ us[i]? = some q) := fun i q h => by
    by_cases e : i = j
    · subst e
      rw [List.getElem?_set_self hju] at h
      exact .inl ⟨rfl, (Option.some.inj h).symm⟩
    · rw [List.getElem?_set_ne (Ne.symm e)] at h
      exact .inr ⟨e, h⟩
  have inX : ∀ (i : Nat) q, us[i]? = some q → i ≠ j → ∀ v, (v = q.1 ∨ v = q.2) → ∀ g, v.ownBlock = some g → X g := fun i q h hne v hv g hg => by
    have hb := List.getElem?_eq_getElem (show i < bs.length by have := lt_of_some h; omega)
    have := hin i _ q hb h hne
    rcases hv with rfl | rfl
    · exact this.1.2 g hg
    · exact this.2.2 g hg
  refine ⟨by simp [hlen], fun i e q h1 h2 => ?_, apart_mk (fun i p hp => ?_) fun i i' p q hp hq hii v v' hv hv' g hg hg' => ?_⟩
  · rcases cs i q h2 with ⟨rfl, rfl⟩ | ⟨hne, h3⟩
    · rw [List.getElem?_set_self hj] at h1
      cases h1
      exact ⟨o1, o2⟩
    · rw [List.getElem?_set_ne (Ne.symm hne)] at h1
      have := hin i e q h1 h3 hne
      exact ⟨this.1.same hs hx, this.2.same hs hx⟩
  · rcases cs i p hp with ⟨rfl, rfl⟩ | ⟨hne, h3⟩
    · exact h12
    · exact apart_in hap h3
  · rcases cs i p hp with ⟨rfl, rfl⟩ | ⟨hne, h3⟩ <;> rcases cs i' q hq with ⟨e2, rfl⟩ | ⟨hne2, h4⟩
    · omega
    · have hX := inX i' q h4 hne2 v' hv' g hg'
      rcases hv with rfl | rfl
      · exact n1 g hg hX
      · exact n2 g hg hX
    · have hX := inX i p h3 hne v hv g hg
      rcases hv' with rfl | rfl
      · exact n1 g hg' hX
      · exact n2 g hg' hX
    · exact apart_ne hap h3 h4 (by omega) hv hv' g hg hg'
theorem esT_set2 {bs : List BD} {us : UU} {i : Nat} {d : BD} {p : Value × Value} (hlen : us.length = bs.length) (hi : i < bs.length) : (esT bs us).set i [iA d.name, .v p.1, .v p.2] = esT (bs.set i d) (us.set i p) := by
  unfold esT
  apply List.ext_getElem?
  intro j
  rw [List.getElem?_set, List.getElem?_map, List.getElem?_map]
  by_cases e : i = j
  · subst e
    have hl : i < (List.map (fun x => List.map AV.v (cellV x)) (bs.zip us)).length := by simp only [List.length_map, List.length_zip]; omega
    rw [if_pos rfl, if_pos hl]
    rw [show ((bs.set i d).zip (us.set i p))[i]? = some (d, p) from by rw [List.getElem?_zip_eq_some]; exact ⟨by simp [hi], by simp [hlen, hi]⟩]
    rfl
  · rw [if_neg e]
    congr 1
    rw [List.zip_eq_zipWith, List.zip_eq_zipWith, List.getElem?_zipWith, List.getElem?_zipWith, List.getElem?_set_ne e, List.getElem?_set_ne e]
/-! ### Plain: a file in its own place -/
theorem asc_names : ∀ {x y : List BD}, x.map BD.name = y.map BD.name → ascB x = ascB y
  | [], [], _ => rfl
  | [], _ :: _, h => by simp at h
  | _ :: _, [], h => by simp at h
  | d :: r, e :: s, h => by
    simp only [List.map_cons, List.cons.injEq] at h
    have ih := asc_names h.2
    have hall : ∀ (l m : List BD), l.map BD.name = m.map BD.name → (l.all fun x => decide (d.name < x.name)) = (m.all fun x => decide (d.name < x.name)) := fun l => by
      induction l with
      | nil => intro m hm; cases m with
        | nil => rfl
        | cons => simp at hm
      | cons a l ih2 => intro m hm; cases m with
        | nil => simp at hm
        | cons b m =>
          simp only [List.map_cons, List.cons.injEq] at hm
          simp only [List.all_cons, ih2 m hm.2, hm.1]
    unfold ascB
    rw [ih, ← h.1, hall r s h.2]
theorem set_with {bs : List BD} {k : Nat} {d d' : BD} (ha : ascB bs = true) (hd : bs[k]? = some d) (hn : d'.name = d.name) : bs.set k d' = withB bs d' := by
  have hk := lt_of_some hd
  have hdk : bs[k] = d := by rw [List.getElem?_eq_getElem hk] at hd; exact Option.some.inj hd
  have hy : ascB (withB bs d') = true := by
    unfold withB
    exact ascB_ins (ascB_sub _ ha) fun x hx => by simpa using (List.mem_filter.1 hx).2
  have hnm : (bs.set k d').map BD.name = bs.map BD.name := by
    rw [List.map_set]
    apply List.ext_getElem?
    intro i
    rw [List.getElem?_set]
    split
    · rename_i e
      subst e
      simp [hk, hn, hdk]
    · rfl
  refine ext_mem ((asc_names hnm).trans ha) hy fun x => ?_
  rw [mem_with]
  constructor
  · intro hx
    obtain ⟨i, hi, e⟩ := List.mem_iff_getElem.1 hx
    simp only [List.length_set] at hi
    rw [List.getElem_set] at e
    split at e
    · exact .inl e.symm
    · rename_i hki
      refine .inr ⟨List.mem_iff_getElem.2 ⟨i, hi, e⟩, fun hxn => ?_⟩
      have hp := List.pairwise_iff_getElem.1 (asc_pw ha)
      rcases Nat.lt_or_gt_of_ne hki with h1 | h1
      · exact hp k i hk hi h1 (by rw [hdk, e, hxn, hn])
      · exact hp i k hi hk h1 (by rw [hdk, e, hxn, hn])
  · rintro (rfl | ⟨h1, h2⟩)
    · exact List.mem_iff_getElem.2 ⟨k, by simpa using hk, by simp⟩
    · obtain ⟨i, hi, e⟩ := List.mem_iff_getElem.1 h1
      refine List.mem_iff_getElem.2 ⟨i, by simpa using hi, ?_⟩
      rw [List.getElem_set, if_neg, e]
      rintro rfl
      rw [hdk] at e
      rw [← e] at h2
      exact h2 hn.symm
/-- What DiskSync returns. -/
def syncP (bs : List BD) (nm : Int) : List BD × Bool := if diskB bs then (match getB bs nm with
  | some d => (withB bs ⟨nm, d.safe ++ d.fresh, []⟩, true)
  | none => ([], false)) else ([], false)
end Go.Proofs.YtccifbbjbnjcfaaGreatDoor
/-
  Plain laws of disks: a crash.
-/
namespace Go.Proofs.YtccifbbjbnjcfaaGreatDoor
open Go Go.RowKit Go.Proofs
/-- How much of a file's fresh bytes is kept. -/
def keepN (keep : List Int) (d : BD) : Nat := if d.name ≤ keep.length then min ((keep[(d.name - 1).toNat]?).getD 0).toNat d.fresh.length else 0
def crF (keep : List Int) (d : BD) : BD := ⟨d.name, d.safe ++ d.fresh.take (keepN keep d), []⟩
def okK (keep : List Int) : Bool := decide (keep.length ≤ 3) && keep.all fun n => inR n 0 400
/-- What DiskCrash returns. -/
def crashP (bs : List BD) (keep : List Int) : List BD × Bool := if diskB bs && okK keep then (bs.map (crF keep), true) else ([], false)
theorem bytesB_take {l : List Int} (h : bytesB l = true) (n : Nat) : bytesB (l.take n) = true := by
  unfold bytesB at *
  rw [List.all_eq_true] at *
  exact fun x hx => h x (List.mem_of_mem_take hx)
theorem crF_ok {keep : List Int} {d : BD} (h : okF d = true) : okF (crF keep d) = true := by
  unfold crF
  simp only [okF, bytesB_app, Bool.and_eq_true, decide_eq_true_eq] at h ⊢
  obtain ⟨⟨⟨h1, h2⟩, h3⟩, h4⟩ := h
  refine ⟨⟨⟨h1, h2, bytesB_take h3 _⟩, rfl⟩, ?_⟩
  have : (d.fresh.take (keepN keep d)).length ≤ d.fresh.length := by rw [List.length_take]; omega
  simp only [List.length_append, List.length_nil]; omega
theorem crash_valid {bs : List BD} (keep : List Int) (h : diskB bs = true) : diskB (bs.map (crF keep)) = true := by
  rw [diskB_iff] at h ⊢
  refine ⟨?_, ?_⟩
  · rw [List.all_map, List.all_eq_true]
    exact fun d hd => crF_ok (List.all_eq_true.1 h.1 d hd)
  · refine (asc_names ?_).trans h.2
    rw [List.map_map]
    rfl
theorem crashP_ok {bs : List BD} {keep : List Int} (h : (diskB bs && okK keep) = true) : crashP bs keep = (bs.map (crF keep), true) := by unfold crashP; rw [h]; rfl
theorem syncP_disk {bs : List BD} {nm : Int} {Y : List BD} {ok : Bool} (h : (Y, ok) = syncP bs nm) : diskB Y = true ∨ Y = [] := by
  unfold syncP at h
  split at h
  · rename_i hv
    split at h
    · rename_i d hg
      cases h
      refine .inl (disk_with hv ?_)
      have hm := getB_name hg
      have := disk_okF hv hm.2
      simp only [okF, bytesB_app, Bool.and_eq_true, decide_eq_true_eq] at this ⊢
      obtain ⟨⟨⟨h1, h2⟩, h3⟩, h4⟩ := this
      rw [hm.1] at h1
      exact ⟨⟨⟨h1, h2, h3⟩, by rfl⟩, by simpa using h4⟩
    · cases h; exact .inr rfl
  · cases h; exact .inr rfl
theorem renD_disk {bs : List BD} {a b : Int} {Y : List BD} {ok : Bool} (h : (Y, ok) = renD bs a b) : diskB Y = true ∨ Y = [] := by
  cases hk : ok with
  | false =>
    refine .inr ?_
    subst hk
    unfold renD at h
    split at h
    · split at h <;> cases h
      rfl
    · cases h; rfl
  | true =>
    subst hk
    have h2 : (renD bs a b).2 = true := by rw [← h]
    obtain ⟨d, h3, h4, h5, h6⟩ := renD_ok h2
    have : Y = (renD bs a b).1 := by rw [← h]
    exact .inl (by rw [this]; exact h6.2)
end Go.Proofs.YtccifbbjbnjcfaaGreatDoor
/-
  Plain data of books: frames, bytes of commands, logs, books.
-/
namespace Go.Proofs.YtccifbbjbnjcfaaGreatDoor
open Go Go.RowKit
structure Bk where
  ep : Int
  log : List Cm
deriving DecidableEq
def sumB (b : List Int) : Int := b.foldl (fun s x => (31 * s + x) % 251) 7
def bodyB (b : List Int) : Bool := bytesB b && inR b.length 1 16
def frameB (b : List Int) : List Int := if bodyB b then (b.length : Int) :: (b ++ [sumB b]) else []
/-- The body of the frame with which a list begins. -/
def headF : List Int → Option (List Int)
  | [] => none
  | n :: r => if inR n 1 16 && decide (n.toNat + 1 ≤ r.length) && bytesB (r.take n.toNat) && decide (r[n.toNat]? = some (sumB (r.take n.toNat))) then some (r.take n.toNat) else none
theorem headF_spec {l b : List Int} (h : headF l = some b) : bodyB b = true ∧ ∃ rest, l = frameB b ++ rest ∧ l.drop (b.length + 2) = rest := by
  unfold headF at h
  split at h
  · cases h
  · rename_i n r
    split at h
    · rename_i hc
      simp only [Bool.and_eq_true, decide_eq_true_eq, inR] at hc
      obtain ⟨⟨⟨⟨h1, h2⟩, h3⟩, h4⟩, h5⟩ := hc
      cases h
      have hl : (r.take n.toNat).length = n.toNat := by rw [List.length_take]; omega
      have hb : bodyB (r.take n.toNat) = true := by
        unfold bodyB inR
        rw [h4, hl]
        simp only [Bool.true_and, Bool.and_eq_true, decide_eq_true_eq]
        omega
      refine ⟨hb, r.drop (n.toNat + 1), ?_, ?_⟩
      · unfold frameB
        rw [if_pos hb, hl]
        have hn : ((n.toNat : Nat) : Int) = n := by omega
        rw [hn]
        simp only [List.cons_append, List.append_assoc, List.nil_append, List.cons.injEq, true_and]
        have hg := List.getElem?_eq_some_iff.1 h5
        obtain ⟨hlt, he⟩ := hg
        conv => lhs; rw [← List.take_append_drop n.toNat r]
        rw [List.drop_eq_getElem_cons hlt, he]
      · rw [hl]; rfl
    · cases h
theorem headF_app {b : List Int} (h : bodyB b = true) (rest : List Int) : headF (frameB b ++ rest) = some b := by
  unfold frameB
  rw [if_pos h]
  have h0 := h
  unfold bodyB inR at h
  simp only [Bool.and_eq_true, decide_eq_true_eq] at h
  obtain ⟨h1, h2, h3⟩ := h
  simp only [List.cons_append, List.append_assoc, headF, Int.toNat_natCast]
  have ht : (b ++ (sumB b :: rest)).take b.length = b := List.take_left
  have hg : (b ++ (sumB b :: rest))[b.length]? = some (sumB b) := by rw [List.getElem?_append_right (Nat.le_refl _), Nat.sub_self]; rfl
  simp only [List.nil_append, ht, hg, inR, h1]
  rw [if_pos]
  simp
  omega
theorem frameB_len {b : List Int} (h : bodyB b = true) : (frameB b).length = b.length + 2 := by unfold frameB; rw [if_pos h]; simp
theorem frameB_drop {b : List Int} (h : bodyB b = true) (rest : List Int) : (frameB b ++ rest).drop (b.length + 2) = rest := by rw [← frameB_len h, List.drop_left]
theorem headF_lt {l b : List Int} (h : headF l = some b) : (l.drop (b.length + 2)).length < l.length := by
  obtain ⟨h1, rest, h2, h3⟩ := headF_spec h
  rw [h3]
  conv => rhs; rw [h2]
  rw [List.length_append, frameB_len h1]; omega
/-- All frames from the beginning on. -/
def scanF (l : List Int) : List (List Int) :=
  match h : headF l with
  | none => []
  | some b => b :: scanF (l.drop (b.length + 2))
termination_by l.length
decreasing_by exact headF_lt h
theorem scanF_none {l : List Int} (h : headF l = none) : scanF l = [] := by
  rw [scanF.eq_def]
  split
  · rfl
  · rename_i b h2; rw [h] at h2; cases h2
theorem scanF_some {l b : List Int} (h : headF l = some b) : scanF l = b :: scanF (l.drop (b.length + 2)) := by
  rw [scanF.eq_def]
  split
  · rename_i h2; rw [h] at h2; cases h2
  · rename_i b2 h2; rw [h] at h2; cases h2; rfl
theorem scanF_app {b : List Int} (h : bodyB b = true) (rest : List Int) : scanF (frameB b ++ rest) = b :: scanF rest := by
  rw [scanF_some (headF_app h rest), frameB_drop h]

/-! ### Commands -/
def strI (s : Str) : List Int := s.map fun b => (b.toNat : Int)
def iStr (l : List Int) : Str := l.map fun x => UInt8.ofNat x.toNat
def cmdB (c : Cm) : List Int := if cmV c then c.a.k :: c.a.v :: c.b.k :: c.b.v :: strI c.p else []
def cmdF : List Int → Option Cm
  | x0 :: x1 :: x2 :: x3 :: p => if bodyB (x0 :: x1 :: x2 :: x3 :: p) && cmV ⟨iStr p, ⟨x0, x1⟩, ⟨x2, x3⟩⟩ then some ⟨iStr p, ⟨x0, x1⟩, ⟨x2, x3⟩⟩ else none
  | _ => none
theorem iStr_strI (s : Str) : iStr (strI s) = s := by
  unfold iStr strI
  rw [List.map_map]
  conv => rhs; rw [← List.map_id s]
  congr 1
  funext b
  simp
theorem strI_iStr {l : List Int} (h : bytesB l = true) : strI (iStr l) = l := by
  unfold iStr strI
  rw [List.map_map]
  conv => rhs; rw [← List.map_id l]
  refine List.map_congr_left fun x hx => ?_
  have := List.all_eq_true.1 h x hx
  simp only [byteB, inB, Bool.and_eq_true, decide_eq_true_eq] at this
  simp only [Function.comp, id, UInt8.toNat_ofNat']
  omega
theorem ctV_bytes {c : Ct} (h : ctV c = true) : byteB c.k = true ∧ byteB c.v = true := by
  unfold ctV at h
  simp only [Bool.or_eq_true, Bool.and_eq_true, decide_eq_true_eq, inR] at h
  simp only [byteB, inB, Bool.and_eq_true, decide_eq_true_eq]
  omega
theorem cmdB_body {c : Cm} (h : cmV c = true) : bodyB (cmdB c) = true := by
  unfold cmdB
  rw [if_pos h]
  unfold cmV at h
  simp only [Bool.and_eq_true, decide_eq_true_eq] at h
  obtain ⟨⟨⟨⟨h1, h2⟩, h3⟩, h4⟩, _⟩ := h
  have hp := (pV_len h1 h2).2
  obtain ⟨a1, a2⟩ := ctV_bytes h3
  obtain ⟨b1, b2⟩ := ctV_bytes h4
  unfold bodyB bytesB
  simp only [List.all_cons, a1, a2, b1, b2, Bool.true_and, Bool.and_eq_true, inR, decide_eq_true_eq, List.length_cons]
  refine ⟨?_, ?_, ?_⟩
  · rw [List.all_eq_true]
    intro x hx
    obtain ⟨b, _, rfl⟩ := List.mem_map.1 hx
    have := b.toNat_lt
    simp only [byteB, inB, Bool.and_eq_true, decide_eq_true_eq]; omega
  · omega
  · unfold strI; rw [List.length_map]; omega
theorem cmdF_cmdB {c : Cm} (h : cmV c = true) : cmdF (cmdB c) = some c := by
  have hb := cmdB_body h
  unfold cmdB at hb ⊢
  rw [if_pos h] at hb ⊢
  unfold cmdF
  simp only [iStr_strI, hb, Bool.true_and]
  rw [if_pos h]
theorem cmdF_spec {b : List Int} {c : Cm} (h : cmdF b = some c) : cmV c = true ∧ cmdB c = b ∧ bodyB b = true := by
  unfold cmdF at h
  split at h
  · rename_i x0 x1 x2 x3 p
    split at h
    · rename_i hc
      rw [Bool.and_eq_true] at hc
      cases h
      refine ⟨hc.2, ?_, hc.1⟩
      unfold cmdB
      rw [if_pos hc.2]
      have hb := hc.1
      unfold bodyB bytesB at hb
      simp only [List.all_cons, Bool.and_eq_true] at hb
      rw [strI_iStr hb.1.2.2.2.2]
    · cases h
  · cases h

/-! ### Logs -/
def logB (l : List Cm) : List Int × Bool := if lV l then (l.flatMap fun c => frameB (cmdB c), true) else ([], false)
def takeC : Nat → List (List Int) → List Cm
  | 0, _ => []
  | _ + 1, [] => []
  | n + 1, b :: r => match cmdF b with
    | some c => c :: takeC n r
    | none => []
def loadC (l : List Int) : List Cm := takeC 20 (scanF l)
theorem takeC_len : ∀ (n : Nat) (l : List (List Int)), (takeC n l).length ≤ n
  | 0, _ => by simp [takeC]
  | _ + 1, [] => by simp [takeC]
  | n + 1, b :: r => by
    unfold takeC
    split
    · have := takeC_len n r; simp only [List.length_cons]; omega
    · simp
theorem takeC_app : ∀ (l : List Cm) (n : Nat) (rest : List Int), l.all cmV = true → l.length ≤ n → takeC n (scanF ((l.flatMap fun c => frameB (cmdB c)) ++ rest)) = l ++ takeC (n - l.length) (scanF rest)
  | [], n, rest, _, _ => by simp
  | c :: l, n, rest, h, hn => by
    rw [List.all_cons, Bool.and_eq_true] at h
    cases n with
    | zero => simp at hn
    | succ n =>
      rw [List.flatMap_cons, List.append_assoc, scanF_app (cmdB_body h.1), takeC, cmdF_cmdB h.1]
      simp only
      rw [takeC_app l n rest h.2 (by simpa using hn)]
      simp
theorem takeC_spec : ∀ (n : Nat) (l : List Int), (takeC n (scanF l)).all cmV = true ∧ ∃ rest, l = ((takeC n (scanF l)).flatMap fun c => frameB (cmdB c)) ++ rest
  | 0, l => ⟨rfl, l, by simp [takeC]⟩
  | n + 1, l => by
    cases hh : headF l with
    | none => rw [scanF_none hh]; exact ⟨rfl, l, by simp [takeC]⟩
    | some b =>
      rw [scanF_some hh, takeC]
      cases hc : cmdF b with
      | none => exact ⟨rfl, l, by simp⟩
      | some c =>
        simp only
        obtain ⟨h1, h2, h3⟩ := cmdF_spec hc
        obtain ⟨_, rest, g2, g3⟩ := headF_spec hh
        obtain ⟨i1, rest2, i2⟩ := takeC_spec n (l.drop (b.length + 2))
        refine ⟨by simp [h1, i1], rest2, ?_⟩
        rw [List.flatMap_cons, h2, List.append_assoc, ← i2, g3]
        exact g2

/-! ### Books -/
def bookB (b : Bk) : List Int × Bool := if lV b.log && inR b.ep 0 99 then (frameB [b.ep] ++ (logB b.log).1, true) else ([], false)
def bookL (l : List Int) : Option Bk := match headF l with
  | some [e] => if inR e 0 99 then some ⟨e, loadC (l.drop 3)⟩ else none
  | _ => none
def bookO (bs : List BD) : Option Bk := if (readD bs 1).2 then bookL (readD bs 1).1 else none
def stepsP (bs : List BD) (b : Bk) : List (List BD) × Bool :=
  if (bookB b).2 && diskB bs then (let w := writeD (bs.filter fun x => decide (x.name ≠ 2)) 2 (bookB b).1
    if w.2 then ([w.1, (syncP w.1 2).1, (renD (syncP w.1 2).1 2 1).1], true) else ([], false)) else ([], false)
theorem ep_body {e : Int} (h : inR e 0 99 = true) : bodyB [e] = true := by
  unfold inR at h
  simp only [Bool.and_eq_true, decide_eq_true_eq] at h
  unfold bodyB bytesB inR
  simp only [List.all_cons, List.all_nil, byteB, inB, Bool.and_eq_true, decide_eq_true_eq, List.length_cons, List.length_nil, and_true]
  refine ⟨by omega, by omega, by omega⟩
theorem bookL_app {b : Bk} (h : (bookB b).2 = true) (more : List Cm) (hm : more.all cmV = true) (hl : b.log.length + more.length ≤ 20) : bookL ((bookB b).1 ++ more.flatMap fun c => frameB (cmdB c)) = some ⟨b.ep, b.log ++ more⟩ := by
  unfold bookB at h ⊢
  split at h
  · rename_i hc
    rw [if_pos hc]
    rw [Bool.and_eq_true] at hc
    have hv := hc.1
    unfold lV at hv
    rw [Bool.and_eq_true, decide_eq_true_eq] at hv
    have hd : (frameB [b.ep] ++ ((logB b.log).1 ++ more.flatMap fun c => frameB (cmdB c))).drop 3 = (logB b.log).1 ++ more.flatMap fun c => frameB (cmdB c) := frameB_drop (ep_body hc.2) _
    simp only [List.append_assoc]
    unfold bookL
    rw [headF_app (ep_body hc.2)]
    simp only [hc.2, if_true, hd]
    unfold loadC logB
    rw [hc.1]
    simp only [if_true]
    rw [← List.flatMap_append]
    have := takeC_app (b.log ++ more) 20 [] (by rw [List.all_append, hv.1, hm]; rfl) (by rw [List.length_append]; omega)
    rw [List.append_nil] at this
    rw [this, scanF_none rfl]
    cases 20 - (b.log ++ more).length <;> simp [takeC]
  · cases h
theorem bookL_bookB {b : Bk} (h : (bookB b).2 = true) : bookL (bookB b).1 = some b := by
  have hl : b.log.length ≤ 20 := by
    unfold bookB at h
    split at h
    · rename_i hc
      simp only [lV, Bool.and_eq_true, decide_eq_true_eq] at hc
      exact hc.1.2
    · cases h
  have := bookL_app h [] rfl (by simpa using hl)
  simpa using this
theorem bookL_spec {l : List Int} {b : Bk} (h : bookL l = some b) : (bookB b).2 = true ∧ b.log.length ≤ 20 ∧ ∃ rest, l = (bookB b).1 ++ rest := by
  unfold bookL at h
  split at h
  · rename_i e hh
    split at h
    · rename_i he
      cases h
      obtain ⟨_, rest, g2, g3⟩ := headF_spec hh
      obtain ⟨i1, rest2, i2⟩ := takeC_spec 20 (l.drop 3)
      have hv : lV (loadC (l.drop 3)) = true := by
        unfold lV loadC
        rw [i1]
        simpa using takeC_len 20 (scanF (l.drop 3))
      refine ⟨?_, ?_, rest2, ?_⟩
      · unfold bookB
        simp [hv, he]
      · exact takeC_len _ _
      · unfold bookB logB
        simp only [hv, he, Bool.and_self, if_true, List.append_assoc]
        unfold loadC
        rw [← i2, show l.drop 3 = rest from g3]
        exact g2
    · cases h
  · cases h
/-! ### The laws -/
theorem getB_map (keep : List Int) (bs : List BD) (nm : Int) : getB (bs.map (crF keep)) nm = (getB bs nm).map (crF keep) := by
  unfold getB
  rw [List.find?_map]
  rfl
theorem syncP_read {bs : List BD} {nm : Int} (h : (syncP bs nm).2 = true) : diskB (syncP bs nm).1 = true ∧ ∀ o, getB (syncP bs nm).1 o = if o = nm then (getB bs nm).map (fun d => ⟨nm, d.safe ++ d.fresh, []⟩) else getB bs o := by
  obtain ⟨⟨Y, ok⟩, hY⟩ : ∃ Y, Y = syncP bs nm := ⟨_, rfl⟩
  have hd := syncP_disk hY
  rw [← hY] at h ⊢
  simp only at h ⊢
  subst h
  unfold syncP at hY
  split at hY
  · rename_i hv
    split at hY
    · rename_i d hg
      cases hY
      refine ⟨?_, fun o => ?_⟩
      · rcases hd with h | h
        · exact h
        · unfold withB at h
          have := congrArg List.length h
          have hne : ∀ l : List BD, insB ⟨nm, d.safe ++ d.fresh, []⟩ l ≠ [] := fun l => by
            cases l with
            | nil => simp [insB]
            | cons x r => unfold insB; split <;> simp
          exact absurd h (hne _)
      · rw [getB_with, hg]
        rfl
    · cases hY
  · cases hY
end Go.Proofs.YtccifbbjbnjcfaaGreatDoor
/-
  Plain laws of books.
-/
namespace Go.Proofs.YtccifbbjbnjcfaaGreatDoor
open Go Go.RowKit
theorem readD_get {bs : List BD} (h : diskB bs = true) {nm : Int} {d : BD} (hg : getB bs nm = some d) : readD bs nm = (d.safe ++ d.fresh, true) := by rw [readD_v h, hg]
theorem readD_true {bs : List BD} {nm : Int} (h : (readD bs nm).2 = true) : diskB bs = true ∧ ∃ d, getB bs nm = some d ∧ (readD bs nm).1 = d.safe ++ d.fresh := by
  unfold readD at h ⊢
  split at h
  · rename_i hv
    split at h
    · rename_i d hg
      rw [if_pos hv]
      exact ⟨hv, d, hg, rfl⟩
    · cases h
  · cases h
theorem sync_ok {bs : List BD} {nm : Int} (h : (readD bs nm).2 = true) : (syncP bs nm).2 = true ∧ diskB (syncP bs nm).1 = true ∧ getB (syncP bs nm).1 nm = some ⟨nm, (readD bs nm).1, []⟩ := by
  obtain ⟨hv, d, hg, hr⟩ := readD_true h
  have h2 : (syncP bs nm).2 = true := by unfold syncP; rw [if_pos hv, hg]
  obtain ⟨h3, h4⟩ := syncP_read h2
  refine ⟨h2, h3, ?_⟩
  rw [h4, if_pos rfl, hg, hr]
  rfl
/-- A disk whose file has no fresh bytes, after a crash that keeps nothing. -/
theorem crash_read {bs : List BD} {nm : Int} {xs : List Int} (hv : diskB bs = true) (hg : getB bs nm = some ⟨nm, xs, []⟩) : (crashP bs []).2 = true ∧ readD (crashP bs []).1 nm = (xs, true) ∧ readD bs nm = (xs, true) := by
  have hc : (diskB bs && okK []) = true := by rw [hv]; rfl
  rw [crashP_ok hc]
  refine ⟨rfl, ?_, ?_⟩
  · have hg2 := getB_map [] bs nm
    rw [hg] at hg2
    rw [readD_get (crash_valid [] hv) hg2]
    simp [crF]
  · rw [readD_get hv hg]; simp
theorem law_bookSteps {bs : List BD} {b : Bk} (h : (stepsP bs b).2 = true) : ∃ w s z, (stepsP bs b).1 = [w, s, z] ∧ bookO z = some b ∧ (crashP z []).2 = true ∧ bookO (crashP z []).1 = some b ∧ diskB bs = true ∧ diskB w = true ∧ diskB s = true ∧ getB w 1 = getB bs 1 ∧ getB s 1 = getB bs 1 := by
  unfold stepsP at h ⊢
  split at h
  · rename_i hc
    rw [if_pos hc]
    rw [Bool.and_eq_true] at hc
    obtain ⟨hb, hv⟩ := hc
    simp only at h ⊢
    split at h
    · rename_i hw
      rw [if_pos hw]
      obtain ⟨f, hf⟩ : ∃ f, f = bs.filter fun x => decide (x.name ≠ 2) := ⟨_, rfl⟩
      rw [← hf] at hw ⊢
      have hfv : diskB f = true := by rw [hf]; exact disk_filter _ hv
      have hf1 : getB f 1 = getB bs 1 := by rw [hf, getB_filter]; simp
      have hf2 : getB f 2 = none := by rw [hf, getB_filter]; simp
      obtain ⟨W, hW⟩ : ∃ W, W = writeD f 2 (bookB b).1 := ⟨_, rfl⟩
      obtain ⟨k1, k2, k3, k4, k5⟩ := writeD_ok hw
      obtain ⟨g1, g2, _⟩ := law_write hw
      rw [← hW] at hw g1 g2 k5 ⊢
      have hWv : diskB W.1 = true := by rw [k5]; exact k4
      have hW1 : getB W.1 1 = getB bs 1 := by
        rw [k5, getB_with, wrB_name, ← hf1]
        simp
      have hr2 : (readD f 2).1 = [] := by rw [readD_v hfv, hf2]
      rw [hr2, List.nil_append] at g2
      obtain ⟨s1, s2, s3⟩ := sync_ok g1
      rw [g2] at s3
      obtain ⟨_, s4⟩ := syncP_read s1
      have hS1 : getB (syncP W.1 2).1 1 = getB bs 1 := by rw [s4, ← hW1]; simp
      have hrr : renD (syncP W.1 2).1 2 1 = (withB ((syncP W.1 2).1.filter fun x => decide (x.name ≠ 2)) ⟨1, (bookB b).1, []⟩, true) := by
        unfold renD
        rw [s2, s3]
        rfl
      have hr2' : (renD (syncP W.1 2).1 2 1).2 = true := by rw [hrr]
      obtain ⟨_, _, _, _, hzv⟩ := renD_ok hr2'
      have hzg : getB (renD (syncP W.1 2).1 2 1).1 1 = some ⟨1, (bookB b).1, []⟩ := by rw [hrr]; simp only; rw [getB_with]; simp
      have hzv2 : diskB (renD (syncP W.1 2).1 2 1).1 = true := by
        rcases renD_disk (bs := (syncP W.1 2).1) (a := 2) (b := 1) (Y := (renD (syncP W.1 2).1 2 1).1) (ok := (renD (syncP W.1 2).1 2 1).2) rfl with h | h
        · exact h
        · rw [h] at hzg; cases hzg
      obtain ⟨c1, c2, c3⟩ := crash_read hzv2 hzg
      refine ⟨_, _, _, rfl, ?_, c1, ?_, hv, hWv, s2, hW1, hS1⟩
      · unfold bookO; rw [c3]; exact bookL_bookB hb
      · unfold bookO; rw [c2]; exact bookL_bookB hb
    · cases h
  · cases h
end Go.Proofs.YtccifbbjbnjcfaaGreatDoor
