/- A part of the proof of FnRoundBegin: texts VFnRoundBegin. -/
import Derived.Test.YtdjglbedimpldaaGreatDoorG7
set_option linter.unusedSimpArgs false
set_option linter.unusedVariables false
/-
  Walks: FnRoundBegin.
-/
namespace Go.Proofs.YtdjglbedimpldaaGreatDoor
open Go Go.RowKit Go.Proofs
attribute [local irreducible] RWp AW run kPe pe Kt effA gd gu br retR RDp runD kPeD brW gW effD
set_option maxRecDepth 100000
theorem FnRoundBegin_pc (z : List Int) (hz : BytesOk z) (z2 : List Int) (hz2 : BytesOk z2) : PC Tryz.prog 7 [byA z, byA z2] (vB true) := by
  refine pc_enter Tryz.func7 rfl rfl fun w0 fb => go_on ?_; (try simp only [Tryz.ntmps7, push_cast, simprocAttr])
  by_cases hb1 : ltI 1048576 (z.length : Int) = true
  · (try simp only [hb1, push_cast, simprocAttr])
    refine at_ret ?_; simp only [Tryz.results7, push_cast, simprocAttr]
    simp [vX]
  simp only [Bool.not_eq_true] at hb1
  (try simp only [hb1, push_cast, simprocAttr])
  refine at_b (fun hb => ?_) (fun hb => ?_)
  · (try simp only [hb, push_cast, simprocAttr])
    refine at_ret ?_; simp only [Tryz.results7, push_cast, simprocAttr]
    simp [vX]
  · (try simp only [hb, push_cast, simprocAttr])
    refine call_share (by simp [isC]) (DrawRoundPlay_pc z hz) ?_
    rintro rv rows ⟨t, l, ht, hl25, hlp, rfl, rfl⟩
    have hts := sm_tv ((tV_iff t).1 ht)
    have hl : SmE l := ⟨by omega, fun e he => by have := hlp e he; omega⟩
    have hD := RoundPlay_d t hts l hl
    have hE := specRoundPlay_d t hts l hl
    obtain ⟨hsx, hsy⟩ := rPlay_sm t l
    obtain ⟨x, hx⟩ : ∃ x, x = (rPlay t l).1 := ⟨_, rfl⟩
    obtain ⟨y, hy⟩ : ∃ y, y = (rPlay t l).2.1 := ⟨_, rfl⟩
    obtain ⟨n, hn⟩ : ∃ n, n = (rPlay t l).2.2 := ⟨_, rfl⟩
    rw [← hx] at hD hE hsx
    rw [← hy] at hD hE hsy
    rw [← hn] at hD hE
    have hS1 := sameSite_pc x x hsx.c1 hsx.c2
    have hS2 := sameSite_pc y y hsy.c1 hsy.c2
    rw [decide_eq_true rfl] at hS1 hS2
    have e0 : eqI n n = true := eqI_t rfl
    unfold stA' stC at hD hE hS1 hS2
    refine ⟨by simp [frB, baseOf], go_on ?_⟩
    (try simp only [push_cast, simprocAttr])
    ((try simp only [push_cast, simprocAttr]); refine at_share2 (by simp [isC2, isC]) (by first | rfl | simp [ren]) (hD) (go_on ?_); (try simp only [push_cast, simprocAttr]))
    ((try simp only [push_cast, simprocAttr]); refine at_share2 (by simp [isC2, isC]) (by first | rfl | simp [ren]) (hE) (go_on ?_); (try simp only [push_cast, simprocAttr]))
    (try simp only [e0, Bool.not_true, push_cast, simprocAttr])
    (refine at_call ?_; (try simp only [push_cast, simprocAttr]); refine rwc_v (hS1) (go_on ?_); (try simp only [push_cast, simprocAttr]))
    (try simp only [Bool.not_true, push_cast, simprocAttr])
    (refine at_call ?_; (try simp only [push_cast, simprocAttr]); refine rwc_v (hS2) (go_on ?_); (try simp only [push_cast, simprocAttr]))
    (try simp only [Bool.not_true, push_cast, simprocAttr])
    by_cases hn0 : n < 0
    · have i1 : ltI n 0 = true := ltI_t hn0
      (try simp only [i1, e0, push_cast, simprocAttr])
      (refine at_call ?_; (try simp only [push_cast, simprocAttr]); refine rwc_v (hS1) (go_on ?_); (try simp only [push_cast, simprocAttr]))
      (refine at_call ?_; (try simp only [push_cast, simprocAttr]); refine rwc_v (hS2) (go_on ?_); (try simp only [push_cast, simprocAttr]))
      refine at_ret ?_; simp only [Tryz.results7, push_cast, simprocAttr]
      simp [vX]
    · have i1 : ltI n 0 = false := ltI_f (by omega)
      have hge : 0 ≤ (rPlay t l).2.2 := by omega
      have hDn := RoundDone_d t hts l hl
      obtain ⟨ds, hds⟩ : ∃ ds, ds = rDone t l := ⟨_, rfl⟩
      have hdl := rDone_len t l
      have hin : ∀ j ∈ ds, 0 ≤ j ∧ j < l.length := fun j hj => rDone_in (hds ▸ hj)
      rw [← hds] at hDn hdl
      obtain ⟨m, hm⟩ : ∃ m, m = z2.length % (l.length + 1) := ⟨_, rfl⟩
      have hmod := Nat.mod_lt z2.length (show 0 < l.length + 1 by omega)
      have hml : m ≤ l.length := by omega
      have wl := wr ((l.length : Int) + 1) (by omega)
      have htm : Int.tmod (z2.length : Int) ((l.length : Int) + 1) = (m : Int) := by
        rw [hm]; exact (Int.ofNat_tmod z2.length (l.length + 1)).symm
      obtain ⟨r, hr1, hr2⟩ := law_roundBegin hge m hml
      have hlt : SmE (l.take m) := ⟨by rw [List.length_take]; omega, fun e he => hl.p e (List.mem_of_mem_take he)⟩
      have hDp := RoundDone_d t hts (l.take m) hlt
      obtain ⟨ps, hps⟩ : ∃ ps, ps = rDone t (l.take m) := ⟨_, rfl⟩
      rw [← hps] at hDp hr1
      rw [← hds] at hr1
      have hz0 : ((l.length : Int) + 1 = 0) = False := eq_false (by omega)
      have hpl : ps.length ≤ ds.length := by rw [hr1]; simp
      have hmL : ((m : Int) ≤ (l.length : Int)) = True := eq_true (by omega)
      simp only [evsA, List.map_take] at hDp
      have hps2 : ∀ (i : Nat) (j : Int), ps[i]? = some j → ds[i]? = some j := fun i j h => by
        rw [hr1, List.getElem?_append_left (lt_of_some h)]; exact h
      (try simp only [i1, wl, htm, hz0, push_cast, simprocAttr])
      ((try simp only [push_cast, simprocAttr]); refine at_share2 (by simp [isC2, isC]) (by first | rfl | simp [ren]) (hDn) (go_on ?_); (try simp only [push_cast, simprocAttr]))
      (try simp only [hmL, push_cast, simprocAttr])
      ((try simp only [push_cast, simprocAttr]); refine at_share2 (by simp [isC2, isC]) (by first | rfl | simp [ren]) (hDp) (go_on ?_); (try simp only [push_cast, simprocAttr]))
      refine at_loop (X := Nat) (fun i => [(16, iA i)]) (fun _ => [(7, ⟨26, 3, [[iA x.ep, ndA x.base, cmA x.log]], true⟩), (8, ⟨26, 3, [[iA y.ep, ndA y.base, cmA y.log]], true⟩), (10, ⟨26, 3, [[iA x.ep, ndA x.base, cmA x.log]], true⟩), (11, ⟨26, 3, [[iA y.ep, ndA y.base, cmA y.log]], true⟩)]) (fun i => i ≤ ps.length) (fun i => ps.length - i) 0 (Nat.zero_le _) ?_ ?_
      · (refine wk_ok ?_ ?_ ?_ ?_ <;> simp [leL, leH, idsL, idsA, idsR, inH, hget, sameRow, upA, hvA, dsts, dstO, setA_0, setA_1, setA_8, List.append, List.cons_append, List.nil_append])
      · intro i hi
        simp only [upA, hvA, dsts, dstO, setA_0, setA_1, setA_8, List.append, List.cons_append, List.nil_append]
        refine go_on ?_
        (try simp only [List.length_map, push_cast, simprocAttr])
        refine at_b (fun hg => ?_) (fun hg => ?_)
        · have hlt := lt_tt hg
          obtain ⟨j, hj⟩ := get_of_lt hlt
          have hj2 := hps2 i j hj
          have i2 := ix_n hj
          have i3 := map_get inC hj
          have i4 := ix_n hj2
          have i5 := map_get inC hj2
          simp only [inC] at i3 i5
          have w1 := wr ((i : Int) + 1) (by omega)
          have g1 : leI (ds.length : Int) (i : Int) = false := leI_f (by omega)
          have j0 : eqI j j = true := eqI_t rfl
          (try simp only [hg, push_cast, simprocAttr])
          refine at_draw rfl (by kernel_rfl) ?_; simp only [push_cast, simprocAttr]
          (try simp only [List.length_map, g1, i2, i3, i4, i5, j0, Bool.not_true, push_cast, simprocAttr])
          refine at_done (by kernel_rfl) (by kernel_rfl) (go_on ?_)
          (try simp only [w1, push_cast, simprocAttr])
          refine at_fin ⟨i + 1, by omega, by omega, ?_⟩
          (refine wk_ok ?_ ?_ ?_ ?_ <;> simp [leL, leH, idsL, idsA, idsR, inH, hget, sameRow, upA, hvA, dsts, dstO, setA_0, setA_1, setA_8, List.append, List.cons_append, List.nil_append])
        · have h3 := lt_ff hg
          (try simp only [hg, List.length_map, push_cast, simprocAttr])
          by_cases he : ps.length = ds.length
          · have g1 : eqI (ps.length : Int) (ds.length : Int) = true := eqI_t (by omega)
            (try simp only [g1, push_cast, simprocAttr])
            refine at_ret ?_; simp only [Tryz.results7, push_cast, simprocAttr]
            simp [vX]
          · have g1 : eqI (ps.length : Int) (ds.length : Int) = false := eqI_f (by omega)
            obtain ⟨j, hj⟩ := get_of_lt (l := ds) (k := ps.length) (by omega)
            have hjr : j ∈ r := by
              rw [hr1, List.getElem?_append_right (Nat.le_refl _), Nat.sub_self] at hj
              exact List.mem_of_getElem? hj
            have g2 : leI (m : Int) j = true := leI_t (hr2 j hjr)
            have i4 := ix_n hj
            have i5 := map_get inC hj
            simp only [inC] at i5
            (try simp only [g1, i4, i5, g2, push_cast, simprocAttr])
            refine at_ret ?_; simp only [Tryz.results7, push_cast, simprocAttr]
            simp [vX]
end Go.Proofs.YtdjglbedimpldaaGreatDoor
