/- A part of the proof of FnRound: texts VFnRound. -/
import Derived.Test.YtdjglbedimpldaaGreatDoorG7
set_option linter.unusedSimpArgs false
set_option linter.unusedVariables false
/-
  Walks: FnRound.
-/
namespace Go.Proofs.YtdjglbedimpldaaGreatDoor
open Go Go.RowKit Go.Proofs
attribute [local irreducible] RWp AW run kPe pe Kt effA gd gu br retR RDp runD kPeD brW gW effD
set_option maxRecDepth 100000
theorem FnRound_pc (z : List Int) (hz : BytesOk z) : PC Tryz.prog 6 [byA z] (vB true) := by
  refine pc_enter Tryz.func6 rfl rfl fun w0 fb => go_on ?_; (try simp only [Tryz.ntmps6, push_cast, simprocAttr])
  refine at_b (fun hb => ?_) (fun hb => ?_)
  · (try simp only [hb, push_cast, simprocAttr])
    refine at_ret ?_; simp only [Tryz.results6, push_cast, simprocAttr]
    simp [vX]
  · (try simp only [hb, push_cast, simprocAttr])
    refine call_share (by simp [isC]) (DrawRoundPlay_pc z hz) ?_
    rintro rv rows ⟨t, l, ht, hl25, hlp, rfl, rfl⟩
    have hts := sm_tv ((tV_iff t).1 ht)
    have hl : SmE l := ⟨by omega, fun e he => by have := hlp e he; omega⟩
    have hD := RoundPlay_d t hts l hl
    have hE := specRoundPlay_d t hts l hl
    obtain ⟨hsx, hsy⟩ := rPlay_sm t l
    obtain ⟨x, hx⟩ : ∃ x, x = (rPlay t l).1 := ⟨_, rfl⟩
    obtain ⟨y, hy⟩ : ∃ y, y = (rPlay t l).2.1 := ⟨_, rfl⟩
    obtain ⟨n, hn⟩ : ∃ n, n = (rPlay t l).2.2 := ⟨_, rfl⟩
    rw [← hx] at hD hE hsx
    rw [← hy] at hD hE hsy
    rw [← hn] at hD hE
    have hS1 := sameSite_pc x x hsx.c1 hsx.c2
    have hS2 := sameSite_pc y y hsy.c1 hsy.c2
    rw [decide_eq_true rfl] at hS1 hS2
    have e0 : eqI n n = true := eqI_t rfl
    unfold stA' stC at hD hE hS1 hS2
    refine ⟨by simp [frB, baseOf], go_on ?_⟩
    (try simp only [push_cast, simprocAttr])
    ((try simp only [push_cast, simprocAttr]); refine at_share2 (by simp [isC2, isC]) (by first | rfl | simp [ren]) (hD) (go_on ?_); (try simp only [push_cast, simprocAttr]))
    ((try simp only [push_cast, simprocAttr]); refine at_share2 (by simp [isC2, isC]) (by first | rfl | simp [ren]) (hE) (go_on ?_); (try simp only [push_cast, simprocAttr]))
    (try simp only [e0, Bool.not_true, push_cast, simprocAttr])
    (refine at_call ?_; (try simp only [push_cast, simprocAttr]); refine rwc_v (hS1) (go_on ?_); (try simp only [push_cast, simprocAttr]))
    (try simp only [Bool.not_true, push_cast, simprocAttr])
    (refine at_call ?_; (try simp only [push_cast, simprocAttr]); refine rwc_v (hS2) (go_on ?_); (try simp only [push_cast, simprocAttr]))
    (try simp only [Bool.not_true, push_cast, simprocAttr])
    by_cases hn0 : n < 0
    · have i1 : ltI n 0 = true := ltI_t hn0
      (try simp only [i1, e0, push_cast, simprocAttr])
      (refine at_call ?_; (try simp only [push_cast, simprocAttr]); refine rwc_v (hS1) (go_on ?_); (try simp only [push_cast, simprocAttr]))
      (refine at_call ?_; (try simp only [push_cast, simprocAttr]); refine rwc_v (hS2) (go_on ?_); (try simp only [push_cast, simprocAttr]))
      refine at_ret ?_; simp only [Tryz.results6, push_cast, simprocAttr]
      simp [vX]
    · have i1 : ltI n 0 = false := ltI_f (by omega)
      have hge : 0 ≤ (rPlay t l).2.2 := by omega
      have hDn := RoundDone_d t hts l hl
      obtain ⟨ds, hds⟩ : ∃ ds, ds = rDone t l := ⟨_, rfl⟩
      have hdl := rDone_len t l
      have hin : ∀ j ∈ ds, 0 ≤ j ∧ j < l.length := fun j hj => rDone_in (hds ▸ hj)
      rw [← hds] at hDn hdl
      obtain ⟨e1, e2, e3, e4, e5, e6⟩ := law_round hge
      rw [← hx] at e1 e3 e4 e5
      rw [← hy] at e2 e3 e4
      rw [← hn, ← hds] at e6
      rw [← hds] at e5
      have hV1 := SiteValid_pc x hsx
      have hV2 := SiteValid_pc y hsy
      rw [e1] at hV1
      rw [e2] at hV2
      have hN := sameNodes_pc x.base y.base hsx.c1
      rw [decide_eq_true e3] at hN
      have w0n := wr (n + (ds.length : Int)) (by omega)
      have i4 : eqI x.ep y.ep = true := eqI_t e4
      have i6 : eqI (n + (ds.length : Int)) (l.length : Int) = true := eqI_t e6
      unfold stA' stC at hV1 hV2
      (try simp only [i1, push_cast, simprocAttr])
      ((try simp only [push_cast, simprocAttr]); refine at_share2 (by simp [isC2, isC]) (by first | rfl | simp [ren]) (hDn) (go_on ?_); (try simp only [push_cast, simprocAttr]))
      refine at_loop (X := Nat × Nat) (fun x => [(12, iA x.2), (13, iA x.1)]) (fun _ => [(5, ⟨26, 3, [[iA x.ep, ndA x.base, cmA x.log]], true⟩), (6, ⟨26, 3, [[iA y.ep, ndA y.base, cmA y.log]], true⟩), (8, ⟨26, 3, [[iA x.ep, ndA x.base, cmA x.log]], true⟩), (9, ⟨26, 3, [[iA y.ep, ndA y.base, cmA y.log]], true⟩)]) (fun x => x.1 ≤ ds.length ∧ x.2 ≤ x.1 ∧ cntS l ds = x.2 + cntS l (ds.drop x.1)) (fun x => ds.length - x.1) (0, 0) ⟨Nat.zero_le _, Nat.le_refl _, by simp⟩ ?_ ?_
      · (refine wk_ok ?_ ?_ ?_ ?_ <;> simp [leL, leH, idsL, idsA, idsR, inH, hget, sameRow, upA, hvA, dsts, dstO, setA_0, setA_1, setA_8, List.append, List.cons_append, List.nil_append])
      · rintro ⟨i, k⟩ ⟨q1, q2, q3⟩
        simp only at q1 q2 q3
        simp only [upA, hvA, dsts, dstO, setA_0, setA_1, setA_8, List.append, List.cons_append, List.nil_append]
        refine go_on ?_
        (try simp only [List.length_map, push_cast, simprocAttr])
        refine at_b (fun hg => ?_) (fun hg => ?_)
        · have hlt := lt_tt hg
          obtain ⟨j, hj⟩ := get_of_lt hlt
          obtain ⟨hj0, hj1⟩ := hin j (List.mem_of_getElem? hj)
          obtain ⟨m, rfl⟩ : ∃ m : Nat, j = m := ⟨j.toNat, by omega⟩
          obtain ⟨e, he⟩ := get_of_lt (l := l) (k := m) (by omega)
          have i2 := ix_n hj
          have i3 := map_get inC hj
          simp only [inC] at i3
          have i5 := ix_n he
          have i7 := map_get evC he
          simp only [evC] at i7
          have w1 := wr ((i : Int) + 1) (by omega)
          have w2 := wr ((k : Int) + 1) (by omega)
          rw [drop_of_get hj] at q3
          simp only [cntS, Int.toNat_natCast, he] at q3
          (try simp only [hg, i2, i3, i5, i7, push_cast, simprocAttr])
          by_cases h3 : e.k = 3
          · have j3 : eqI e.k 3 = true := eqI_t h3
            simp only [isS, h3, if_true] at q3
            (try simp only [j3, w1, w2, push_cast, simprocAttr])
            refine at_fin ⟨(i + 1, k + 1), ⟨by dsimp only; omega, by dsimp only; omega, by dsimp only; omega⟩, by dsimp only; omega, ?_⟩
            (refine wk_ok ?_ ?_ ?_ ?_ <;> simp [leL, leH, idsL, idsA, idsR, inH, hget, sameRow, upA, hvA, dsts, dstO, setA_0, setA_1, setA_8, List.append, List.cons_append, List.nil_append])
          · have j3 : eqI e.k 3 = false := eqI_f h3
            simp only [isS, h3, if_false] at q3
            (try simp only [j3, w1, push_cast, simprocAttr])
            refine at_fin ⟨(i + 1, k), ⟨by dsimp only; omega, by dsimp only; omega, by dsimp only; omega⟩, by dsimp only; omega, ?_⟩
            (refine wk_ok ?_ ?_ ?_ ?_ <;> simp [leL, leH, idsL, idsA, idsR, inH, hget, sameRow, upA, hvA, dsts, dstO, setA_0, setA_1, setA_8, List.append, List.cons_append, List.nil_append])
        · have h3 := lt_ff hg
          rw [List.drop_of_length_le h3] at q3
          simp only [cntS, Nat.add_zero] at q3
          have i8 : eqI x.ep (k : Int) = true := eqI_t (by rw [e5, q3])
          (try simp only [hg, push_cast, simprocAttr])
          (refine at_call ?_; (try simp only [push_cast, simprocAttr]); refine rwc_v (hV1) (go_on ?_); (try simp only [push_cast, simprocAttr]))
          (refine at_call ?_; (try simp only [push_cast, simprocAttr]); refine rwc_v (hV2) (go_on ?_); (try simp only [push_cast, simprocAttr]))
          (refine at_call ?_; (try simp only [push_cast, simprocAttr]); refine rwc_v (hN) (go_on ?_); (try simp only [push_cast, simprocAttr]))
          (try simp only [i4, i8, w0n, i6, List.length_map, push_cast, simprocAttr])
          refine at_ret ?_; simp only [Tryz.results6, push_cast, simprocAttr]
          simp [vX]
end Go.Proofs.YtdjglbedimpldaaGreatDoor
