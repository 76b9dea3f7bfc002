/- A part of the proof of FnRoundRefused: texts VFnRoundRefused. -/
import Derived.Test.YtdjglbedimpldaaGreatDoorG7
set_option linter.unusedSimpArgs false
set_option linter.unusedVariables false
/-
  Walks: FnRoundRefused.
-/
namespace Go.Proofs.YtdjglbedimpldaaGreatDoor
open Go Go.RowKit Go.Proofs
attribute [local irreducible] RWp AW run kPe pe Kt effA gd gu br retR RDp runD kPeD brW gW effD
set_option maxRecDepth 100000
theorem FnRoundRefused_pc (z : List Int) (hz : BytesOk z) : PC Tryz.prog 8 [byA z] (vB true) := by
  refine pc_enter Tryz.func8 rfl rfl fun w0 fb => go_on ?_; (try simp only [Tryz.ntmps8, push_cast, simprocAttr])
  refine at_b (fun hb => ?_) (fun hb => ?_)
  · (try simp only [hb, push_cast, simprocAttr])
    refine at_ret ?_; simp only [Tryz.results8, push_cast, simprocAttr]
    simp [vX]
  · (try simp only [hb, push_cast, simprocAttr])
    refine call_share (by simp [isC]) (DrawRoundPlay_pc z hz) ?_
    rintro rv rows ⟨t, l, ht, hl25, hlp, rfl, rfl⟩
    have hts := sm_tv ((tV_iff t).1 ht)
    have hl : SmE l := ⟨by omega, fun e he => by have := hlp e he; omega⟩
    have hD := RoundPlay_d t hts l hl
    have hE := specRoundPlay_d t hts l hl
    obtain ⟨hsx, hsy⟩ := rPlay_sm t l
    obtain ⟨x, hx⟩ : ∃ x, x = (rPlay t l).1 := ⟨_, rfl⟩
    obtain ⟨y, hy⟩ : ∃ y, y = (rPlay t l).2.1 := ⟨_, rfl⟩
    obtain ⟨n, hn⟩ : ∃ n, n = (rPlay t l).2.2 := ⟨_, rfl⟩
    rw [← hx] at hD hE hsx
    rw [← hy] at hD hE hsy
    rw [← hn] at hD hE
    have hS1 := sameSite_pc x x hsx.c1 hsx.c2
    have hS2 := sameSite_pc y y hsy.c1 hsy.c2
    rw [decide_eq_true rfl] at hS1 hS2
    have e0 : eqI n n = true := eqI_t rfl
    unfold stA' stC at hD hE hS1 hS2
    refine ⟨by simp [frB, baseOf], go_on ?_⟩
    (try simp only [push_cast, simprocAttr])
    ((try simp only [push_cast, simprocAttr]); refine at_share2 (by simp [isC2, isC]) (by first | rfl | simp [ren]) (hD) (go_on ?_); (try simp only [push_cast, simprocAttr]))
    ((try simp only [push_cast, simprocAttr]); refine at_share2 (by simp [isC2, isC]) (by first | rfl | simp [ren]) (hE) (go_on ?_); (try simp only [push_cast, simprocAttr]))
    (try simp only [e0, Bool.not_true, push_cast, simprocAttr])
    (refine at_call ?_; (try simp only [push_cast, simprocAttr]); refine rwc_v (hS1) (go_on ?_); (try simp only [push_cast, simprocAttr]))
    (try simp only [Bool.not_true, push_cast, simprocAttr])
    (refine at_call ?_; (try simp only [push_cast, simprocAttr]); refine rwc_v (hS2) (go_on ?_); (try simp only [push_cast, simprocAttr]))
    (try simp only [Bool.not_true, push_cast, simprocAttr])
    by_cases hn0 : n < 0
    · have i1 : ltI n 0 = true := ltI_t hn0
      (try simp only [i1, e0, push_cast, simprocAttr])
      (refine at_call ?_; (try simp only [push_cast, simprocAttr]); refine rwc_v (hS1) (go_on ?_); (try simp only [push_cast, simprocAttr]))
      (refine at_call ?_; (try simp only [push_cast, simprocAttr]); refine rwc_v (hS2) (go_on ?_); (try simp only [push_cast, simprocAttr]))
      refine at_ret ?_; simp only [Tryz.results8, push_cast, simprocAttr]
      simp [vX]
    · have i1 : ltI n 0 = false := ltI_f (by omega)
      have hge : 0 ≤ (rPlay t l).2.2 := by omega
      have hDn := RoundDone_d t hts l hl
      obtain ⟨ds, hds⟩ : ∃ ds, ds = rDone t l := ⟨_, rfl⟩
      have hdl := rDone_len t l
      have hin : ∀ j ∈ ds, 0 ≤ j ∧ j < l.length := fun j hj => rDone_in (hds ▸ hj)
      rw [← hds] at hDn hdl
      have hlaw := law_roundRefused hge
      rw [← hds, ← hx, ← hy] at hlaw
      have hev : SmE (evAt l ds) := ⟨by have := List.length_filterMap_le (fun j : Int => l[j.toNat]?) ds; unfold evAt; omega, fun e he => by
        unfold evAt at he
        obtain ⟨j, _, hj⟩ := List.mem_filterMap.1 he
        exact hl.p e (List.mem_of_getElem? hj)⟩
      have hD2 := RoundPlay_d t hts (evAt l ds) hev
      rw [hlaw] at hD2
      simp only at hD2
      unfold stA' stC at hD2
      (try simp only [i1, push_cast, simprocAttr])
      ((try simp only [push_cast, simprocAttr]); refine at_share2 (by simp [isC2, isC]) (by first | rfl | simp [ren]) (hDn) (go_on ?_); (try simp only [push_cast, simprocAttr]))
      refine at_loop (X := Nat × List Ev) (fun v => [(12, .o 74 v.2.length), (13, iA v.1), (74, .any)]) (fun v => [(5, ⟨26, 3, [[iA x.ep, ndA x.base, cmA x.log]], true⟩), (6, ⟨26, 3, [[iA y.ep, ndA y.base, cmA y.log]], true⟩), (8, ⟨26, 3, [[iA x.ep, ndA x.base, cmA x.log]], true⟩), (9, ⟨26, 3, [[iA y.ep, ndA y.base, cmA y.log]], true⟩), (74, ⟨55, 6, v.2.map evC, true⟩)]) (fun v => v.1 ≤ ds.length ∧ v.2.length ≤ v.1 ∧ evAt l ds = v.2 ++ evAt l (ds.drop v.1)) (fun v => ds.length - v.1) (0, []) ⟨Nat.zero_le _, Nat.le_refl _, by simp⟩ ?_ ?_
      · (refine wk_ok ?_ ?_ ?_ ?_ <;> simp [leL, leH, idsL, idsA, idsR, inH, hget, sameRow, upA, hvA, dsts, dstO, setA_0, setA_1, setA_8, List.append, List.cons_append, List.nil_append])
      · rintro ⟨i, es⟩ ⟨q1, q2, q3⟩
        simp only at q1 q2 q3
        simp only [upA, hvA, dsts, dstO, setA_0, setA_1, setA_8, List.append, List.cons_append, List.nil_append]
        refine go_on ?_
        (try simp only [List.length_map, push_cast, simprocAttr])
        refine at_b (fun hg => ?_) (fun hg => ?_)
        · have hlt := lt_tt hg
          obtain ⟨j, hj⟩ := get_of_lt hlt
          obtain ⟨hj0, hj1⟩ := hin j (List.mem_of_getElem? hj)
          obtain ⟨m, rfl⟩ : ∃ m : Nat, j = m := ⟨j.toNat, by omega⟩
          obtain ⟨e, he⟩ := get_of_lt (l := l) (k := m) (by omega)
          have i2 := ix_n hj
          have i3 := map_get inC hj
          simp only [inC] at i3
          have i5 := ix_n he
          have i7 := map_get evC he
          simp only [evC] at i7
          have w1 := wr ((i : Int) + 1) (by omega)
          have hmap : es.map evC ++ [[iA e.k, sA e.c.p, iA e.c.a.k, iA e.c.a.v, iA e.c.b.k, iA e.c.b.v]] = (es ++ [e]).map evC := by rw [List.map_append]; rfl
          rw [drop_of_get hj] at q3
          have q4 : evAt l ds = (es ++ [e]) ++ evAt l (ds.drop (i + 1)) := by
            rw [q3]
            unfold evAt
            simp [he]
          (try simp only [hg, i2, i3, i5, i7, push_cast, simprocAttr])
          refine at_chk (by omega) ?_
          (try simp only [hmap, w1, push_cast, simprocAttr])
          refine at_fin ⟨(i + 1, es ++ [e]), ⟨by dsimp only; omega, by simp; omega, q4⟩, by dsimp only; omega, ?_⟩
          simp only [List.length_append, List.length_cons, List.length_nil]
          (refine wk_ok ?_ ?_ ?_ ?_ <;> simp [evC, leL, leH, idsL, idsA, idsR, inH, hget, sameRow, upA, hvA, dsts, dstO, setA_0, setA_1, setA_8, List.append, List.cons_append, List.nil_append])
        · have h3 := lt_ff hg
          rw [List.drop_of_length_le h3] at q3
          have q5 : es = evAt l ds := by rw [q3]; simp [evAt]
          (try simp only [hg, push_cast, simprocAttr])
          (refine at_callF [74] (by refine wk_frz ?_ ?_ ?_ ?_ <;> simp [rowN, rowC, frzS2, frzH, frzRow, frzT, hasN, delL, hdel, leF, leHF, rowF, frzB, idsL, idsA, idsR, inH, hget, sameRow, viewN, tk]) ?_; simp only [rowN, rowC, frzS2, frzH, frzRow, frzT, hasN, delL, hdel, idsA, idsL, viewN, hget, tk, isC, List.map_cons, List.map_nil, List.all_cons, List.all_nil, List.append_nil, List.drop, List.getElem?_cons_zero, List.getElem?_cons_succ, Bool.not_false, Bool.not_true, Bool.and_true, if_true, if_false, Nat.zero_add, List.length_map, simprocAttr])
          rw [q5]
          ((try simp only [push_cast, simprocAttr]); refine at_share2 (by simp [isC2, isC]) (by first | rfl | simp [ren]) (hD2) (go_on ?_); (try simp only [push_cast, simprocAttr]))
          (try simp only [show eqI 0 0 = true from rfl, push_cast, simprocAttr])
          (refine at_call ?_; (try simp only [push_cast, simprocAttr]); refine rwc_v (hS1) (go_on ?_); (try simp only [push_cast, simprocAttr]))
          (refine at_call ?_; (try simp only [push_cast, simprocAttr]); refine rwc_v (hS2) (go_on ?_); (try simp only [push_cast, simprocAttr]))
          refine at_ret ?_; simp only [Tryz.results8, push_cast, simprocAttr]
          simp [vX]
end Go.Proofs.YtdjglbedimpldaaGreatDoor
