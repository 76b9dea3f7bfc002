/- A part of the proof of FnRoundOrder: texts W62 VFnRoundOrder. -/
import Derived.Test.YtdjglbedimpldaaGreatDoorG7
set_option linter.unusedSimpArgs false
set_option linter.unusedVariables false
/-
  Walks: own rows read as data at a call; what points into them is forgotten.
-/
namespace Go.Proofs.YtdjglbedimpldaaGreatDoor
open Go Go.RowKit Go.Proofs
theorem at_callG {P : Program} {w0 : World} {lent : Lent} {Q : Exit → Act → World → Prop} {f : FuncId} {args : List AV} {dst : Option Tmp} {k : List It} {s : AS} (g : AV → AV) (h' : Hp) (h : Wk ⟨s.t ++ args, s.h⟩ ⟨(s.t ++ args).map g, h'⟩)
    (hk : RWp P w0 lent Q (.call f (args.map g) dst k ⟨s.t.map g, h'⟩)) : RWp P w0 lent Q (.call f args dst k s) := by
  intro loc a w hR vs hs hg
  have hR1 : Rel w0 lent ⟨s.t ++ args, s.h⟩ loc { a with tmps := a.tmps ++ vs } w := by
    refine ⟨by simp [hR.tsz, hs], fun i x hx => ?_, hR.df, hR.rw, hR.inj, hR.own, hR.os, hR.tape, hR.output, hR.size, hR.keep, hR.fbe, hR.fbl, hR.pn, hR.pl⟩
    have htsz := hR.tsz
    rcases Nat.lt_or_ge i s.t.length with h1 | h1
    · rw [List.getElem?_append_left h1] at hx
      have := hR.tm i x hx
      have e : (a.tmps ++ vs).getD i undef = a.tmps.getD i undef := by
        simp only [Array.getD_eq_getD_getElem?]
        rw [Array.getElem?_append_left (by omega)]
      rw [e]; exact this
    · rw [List.getElem?_append_right h1] at hx
      have := hg (i - s.t.length) x hx
      have e : (a.tmps ++ vs).getD i undef = vs.getD (i - s.t.length) undef := by
        simp only [Array.getD_eq_getD_getElem?]
        rw [Array.getElem?_append_right (by omega), htsz]
      rw [e]; exact this
  obtain ⟨loc', hR2⟩ := h w0 lent loc _ w hR1
  have ht : (s.t ++ args).map g = s.t.map g ++ args.map g := List.map_append
  have hl : (s.t.map g).length = s.t.length := List.length_map _
  have htsz := hR.tsz
  have hR3 : Rel w0 lent ⟨s.t.map g, h'⟩ loc' a w := by
    refine ⟨by simpa using htsz, fun i x hx => ?_, hR.df, hR2.rw, hR2.inj, hR2.own, hR2.os, hR2.tape, hR2.output, hR2.size, hR2.keep, hR2.fbe, hR2.fbl, hR2.pn, hR2.pl⟩
    have hi := lt_of_some hx
    dsimp only at hi
    rw [hl] at hi
    have := hR2.tm i x (by dsimp only; rw [ht, List.getElem?_append_left (by omega)]; exact hx)
    have e : (a.tmps ++ vs).getD i undef = a.tmps.getD i undef := by
      simp only [Array.getD_eq_getD_getElem?]
      rw [Array.getElem?_append_left (by omega)]
    dsimp only at this
    rw [e] at this; exact this
  refine hk loc' a w hR3 vs (by simp [hs]) fun j x hx => ?_
  have := hR2.tm (s.t.length + j) x (by dsimp only; rw [ht, List.getElem?_append_right (by omega), hl, Nat.add_sub_cancel_left]; exact hx)
  have e : (a.tmps ++ vs).getD (s.t.length + j) undef = vs.getD j undef := by
    simp only [Array.getD_eq_getD_getElem?]
    rw [Array.getElem?_append_right (by omega), htsz, Nat.add_sub_cancel_left]
  dsimp only at this
  rw [e] at this; exact this
/-- Read as data; what points into such a row is forgotten. -/
def frzT3 (ids : List Nat) (h : Hp) : AV → AV
  | .p r k o => if hasN ids r then .any else .p r k o
  | x => frzT ids h x
theorem at_callF3 {P : Program} {w0 : World} {lent : Lent} {Q : Exit → Act → World → Prop} {f : FuncId} {args : List AV} {dst : Option Tmp} {k : List It} {s : AS} (ids : List Nat) (h : Wk ⟨s.t ++ args, s.h⟩ ⟨(s.t ++ args).map (frzT3 ids s.h), frzH ids s.h (delL s.h ids)⟩)
    (hk : RWp P w0 lent Q (.call f (args.map (frzT3 ids s.h)) dst k ⟨s.t.map (frzT3 ids s.h), frzH ids s.h (delL s.h ids)⟩)) : RWp P w0 lent Q (.call f args dst k s) := at_callG _ _ h hk
end Go.Proofs.YtdjglbedimpldaaGreatDoor
/-
  Walks: FnRoundOrder.
-/
namespace Go.Proofs.YtdjglbedimpldaaGreatDoor
open Go Go.RowKit Go.Proofs
theorem swap_set {l : List Ev} {m : Nat} {e f : Ev} (he : l[m]? = some e) (hf : l[m + 1]? = some f) : ∃ a r, l = a ++ e :: f :: r ∧ (l.set m f).set (m + 1) e = a ++ f :: e :: r := by
  have h1 : l = l.take m ++ e :: f :: l.drop (m + 1 + 1) := by
    have := (List.take_append_drop m l).symm
    rwa [drop_of_get he, drop_of_get hf] at this
  have hl : (l.take m).length = m := by rw [List.length_take]; have := lt_of_some he; omega
  refine ⟨l.take m, l.drop (m + 1 + 1), h1, ?_⟩
  generalize l.take m = a at h1 hl
  generalize l.drop (m + 1 + 1) = r at h1
  subst h1
  subst hl
  simp [List.set_append]
attribute [local irreducible] RWp AW run kPe pe Kt effA gd gu br retR RDp runD kPeD brW gW effD
set_option maxRecDepth 100000
theorem FnRoundOrder_pc (z : List Int) (hz : BytesOk z) (z2 : List Int) (hz2 : BytesOk z2) : PC Tryz.prog 5 [byA z, byA z2] (vB true) := by
  refine pc_enter Tryz.func5 rfl rfl fun w0 fb => go_on ?_; (try simp only [Tryz.ntmps5, push_cast, simprocAttr])
  by_cases hb1 : ltI 1048576 (z.length : Int) = true
  · (try simp only [hb1, push_cast, simprocAttr])
    refine at_ret ?_; simp only [Tryz.results5, push_cast, simprocAttr]
    simp [vX]
  simp only [Bool.not_eq_true] at hb1
  (try simp only [hb1, push_cast, simprocAttr])
  refine at_b (fun hb => ?_) (fun hb => ?_)
  · (try simp only [hb, push_cast, simprocAttr])
    refine at_ret ?_; simp only [Tryz.results5, push_cast, simprocAttr]
    simp [vX]
  · (try simp only [hb, push_cast, simprocAttr])
    refine call_share (by simp [isC]) (DrawRoundPlay_pc z hz) ?_
    rintro rv rows ⟨t, l, ht, hl25, hlp, rfl, rfl⟩
    have hts := sm_tv ((tV_iff t).1 ht)
    have hl : SmE l := ⟨by omega, fun e he => by have := hlp e he; omega⟩
    have hD := RoundPlay_d t hts l hl
    have hE := specRoundPlay_d t hts l hl
    obtain ⟨hsx, hsy⟩ := rPlay_sm t l
    obtain ⟨x, hx⟩ : ∃ x, x = (rPlay t l).1 := ⟨_, rfl⟩
    obtain ⟨y, hy⟩ : ∃ y, y = (rPlay t l).2.1 := ⟨_, rfl⟩
    obtain ⟨n, hn⟩ : ∃ n, n = (rPlay t l).2.2 := ⟨_, rfl⟩
    rw [← hx] at hD hE hsx
    rw [← hy] at hD hE hsy
    rw [← hn] at hD hE
    have hS1 := sameSite_pc x x hsx.c1 hsx.c2
    have hS2 := sameSite_pc y y hsy.c1 hsy.c2
    rw [decide_eq_true rfl] at hS1 hS2
    have e0 : eqI n n = true := eqI_t rfl
    unfold stA' stC at hD hE hS1 hS2
    refine ⟨by simp [frB, baseOf], go_on ?_⟩
    (try simp only [push_cast, simprocAttr])
    ((try simp only [push_cast, simprocAttr]); refine at_share2 (by simp [isC2, isC]) (by first | rfl | simp [ren]) (hD) (go_on ?_); (try simp only [push_cast, simprocAttr]))
    ((try simp only [push_cast, simprocAttr]); refine at_share2 (by simp [isC2, isC]) (by first | rfl | simp [ren]) (hE) (go_on ?_); (try simp only [push_cast, simprocAttr]))
    (try simp only [e0, Bool.not_true, push_cast, simprocAttr])
    (refine at_call ?_; (try simp only [push_cast, simprocAttr]); refine rwc_v (hS1) (go_on ?_); (try simp only [push_cast, simprocAttr]))
    (try simp only [Bool.not_true, push_cast, simprocAttr])
    (refine at_call ?_; (try simp only [push_cast, simprocAttr]); refine rwc_v (hS2) (go_on ?_); (try simp only [push_cast, simprocAttr]))
    (try simp only [Bool.not_true, push_cast, simprocAttr])
    by_cases hn0 : n < 0
    · have i1 : ltI n 0 = true := ltI_t hn0
      (try simp only [i1, e0, push_cast, simprocAttr])
      (refine at_call ?_; (try simp only [push_cast, simprocAttr]); refine rwc_v (hS1) (go_on ?_); (try simp only [push_cast, simprocAttr]))
      (refine at_call ?_; (try simp only [push_cast, simprocAttr]); refine rwc_v (hS2) (go_on ?_); (try simp only [push_cast, simprocAttr]))
      refine at_ret ?_; simp only [Tryz.results5, push_cast, simprocAttr]
      simp [vX]
    · have i1 : ltI n 0 = false := ltI_f (by omega)
      have hge : 0 ≤ (rPlay t l).2.2 := by omega
      have hDn := RoundDone_d t hts l hl
      obtain ⟨ds, hds⟩ : ∃ ds, ds = rDone t l := ⟨_, rfl⟩
      have hdl := rDone_len t l
      have hin : ∀ j ∈ ds, 0 ≤ j ∧ j < l.length := fun j hj => rDone_in (hds ▸ hj)
      rw [← hds] at hDn hdl
      have hrd := (rdV_iff t l).1 (rd_ge hge)
      (try simp only [i1, push_cast, simprocAttr])
      by_cases hl2 : l.length < 2
      · have i2 : ltI (l.length : Int) 2 = true := ltI_t (by omega)
        (try simp only [i2, e0, push_cast, simprocAttr])
        (refine at_call ?_; (try simp only [push_cast, simprocAttr]); refine rwc_v (hS1) (go_on ?_); (try simp only [push_cast, simprocAttr]))
        (refine at_call ?_; (try simp only [push_cast, simprocAttr]); refine rwc_v (hS2) (go_on ?_); (try simp only [push_cast, simprocAttr]))
        refine at_ret ?_; simp only [Tryz.results5, push_cast, simprocAttr]
        simp [vX]
      · have i2 : ltI (l.length : Int) 2 = false := ltI_f (by omega)
        obtain ⟨m, hm⟩ : ∃ m, m = z2.length % (l.length - 1) := ⟨_, rfl⟩
        have hmod := Nat.mod_lt z2.length (show 0 < l.length - 1 by omega)
        have wl := wr ((l.length : Int) - 1) (by omega)
        have hz0 : ((l.length : Int) - 1 = 0) = False := eq_false (by omega)
        have hcast : ((l.length : Int) - 1) = ((l.length - 1 : Nat) : Int) := by omega
        have htm : Int.tmod (z2.length : Int) ((l.length : Int) - 1) = (m : Int) := by
          rw [hm, hcast]; exact (Int.ofNat_tmod z2.length (l.length - 1)).symm
        have w1 := wr ((m : Int) + 1) (by omega)
        obtain ⟨e, he⟩ := get_of_lt (l := l) (k := m) (by omega)
        obtain ⟨f, hf⟩ := get_of_lt (l := l) (k := m + 1) (by omega)
        have i3 := ix_n he
        have i4 := map_get evC he
        have i5 := ix_n hf
        rw [show ((m + 1 : Nat) : Int) = (m : Int) + 1 from by simp] at i5
        have i6 := map_get evC hf
        simp only [evC] at i4 i6
        have hek := evV_cases (hrd.1 e (List.mem_of_getElem? he))
        have hfk := evV_cases (hrd.1 f (List.mem_of_getElem? hf))
        have w2 := wr (e.k + f.k) (by omega)
        (try simp only [i2, wl, htm, hz0, push_cast, simprocAttr])
        refine at_draw rfl (by kernel_rfl) ?_; simp only [push_cast, simprocAttr]
        (try simp only [i3, i4, w1, i5, i6, w2, push_cast, simprocAttr])
        by_cases hs3 : e.k + f.k = 3
        · have k1 : eqI (e.k + f.k) 3 = true := eqI_t hs3
          have hne : e.k ≠ f.k := by omega
          have k2 : eqI e.k f.k = false := eqI_f hne
          have h12 : (e.k = 1 ∧ f.k = 2) ∨ (e.k = 2 ∧ f.k = 1) := by omega
          obtain ⟨a, r, hl1, hl3⟩ := swap_set he hf
          have hlaw := law_roundOrder (t := t) (l := a) (r := r) h12
          rw [← hl1, ← hl3] at hlaw
          have hmem : ∀ g ∈ (l.set m f).set (m + 1) e, g ∈ l := fun g hg => by
            rcases List.mem_or_eq_of_mem_set hg with hg | rfl
            · rcases List.mem_or_eq_of_mem_set hg with hg | rfl
              · exact hg
              · exact List.mem_of_getElem? hf
            · exact List.mem_of_getElem? he
          have hl' : SmE ((l.set m f).set (m + 1) e) := ⟨by simp; omega, fun g hg => hl.p g (hmem g hg)⟩
          have hD2 := RoundPlay_d t hts _ hl'
          rw [← hlaw, ← hx, ← hy, ← hn] at hD2
          unfold stA' stC at hD2
          have q1 : (l.map evC).set m [iA f.k, sA f.c.p, iA f.c.a.k, iA f.c.a.v, iA f.c.b.k, iA f.c.b.v] = (l.set m f).map evC := by rw [List.map_set]; rfl
          have q2 : ((l.set m f).map evC).set (m + 1) [iA e.k, sA e.c.p, iA e.c.a.k, iA e.c.a.v, iA e.c.b.k, iA e.c.b.v] = ((l.set m f).set (m + 1) e).map evC := (List.map_set (f := evC) (l := l.set m f) (i := m + 1) (a := e)).symm
          have q3 : ((l.set m f).map evC)[m + 1]? = some [iA f.k, sA f.c.p, iA f.c.a.k, iA f.c.a.v, iA f.c.b.k, iA f.c.b.v] := by
            rw [List.getElem?_map, List.getElem?_set_ne (by omega), hf]; rfl
          have q4 : (l.set m f).length = l.length := by simp
          (try simp only [k1, k2, i3, i4, w1, i5, i6, w2, Bool.not_true, push_cast, simprocAttr])
          refine at_done (by kernel_rfl) (by kernel_rfl) (go_on ?_)
          (try simp only [k1, k2, Bool.not_true, push_cast, simprocAttr])
          refine at_chk (by omega) ?_
          (try simp only [Nat.zero_add, w1, i3, i4, i5, i6, q1, q2, q3, q4, push_cast, simprocAttr])
          (refine at_callF3 [115] (by refine wk_frz ?_ ?_ ?_ ?_ <;> simp [rowN, rowC, frzT3, frzH, frzRow, frzT, hasN, delL, hdel, leF, leHF, rowF, frzB, idsL, idsA, idsR, inH, hget, sameRow, viewN, tk]) ?_; simp only [rowN, rowC, frzT3, frzH, frzRow, frzT, hasN, delL, hdel, idsA, idsL, viewN, hget, tk, isC, List.map_cons, List.map_nil, List.all_cons, List.all_nil, List.append_nil, List.drop, List.getElem?_cons_zero, List.getElem?_cons_succ, Bool.not_false, Bool.not_true, Bool.and_true, if_true, if_false, Nat.zero_add, List.length_map, List.length_set, simprocAttr])
          (try simp only [List.length_set, push_cast, simprocAttr])
          ((try simp only [push_cast, simprocAttr]); refine at_share2 (by simp [isC2, isC]) (by first | rfl | simp [ren]) (hD2) (go_on ?_); (try simp only [push_cast, simprocAttr]))
          (try simp only [e0, push_cast, simprocAttr])
          (refine at_call ?_; (try simp only [push_cast, simprocAttr]); refine rwc_v (hS1) (go_on ?_); (try simp only [push_cast, simprocAttr]))
          (refine at_call ?_; (try simp only [push_cast, simprocAttr]); refine rwc_v (hS2) (go_on ?_); (try simp only [push_cast, simprocAttr]))
          refine at_ret ?_; simp only [Tryz.results5, push_cast, simprocAttr]
          simp [vX]
        · have k1 : eqI (e.k + f.k) 3 = false := eqI_f hs3
          (try simp only [k1, Bool.not_false, push_cast, simprocAttr])
          refine at_done (by kernel_rfl) (by kernel_rfl) (go_on ?_)
          (try simp only [k1, Bool.not_false, push_cast, simprocAttr])
          refine at_ret ?_; simp only [Tryz.results5, push_cast, simprocAttr]
          simp [vX]
end Go.Proofs.YtdjglbedimpldaaGreatDoor
