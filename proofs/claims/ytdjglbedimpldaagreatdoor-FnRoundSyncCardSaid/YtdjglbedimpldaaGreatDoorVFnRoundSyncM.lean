/- A part of the proof of FnRoundSync: texts VFnRoundSync. -/
import Derived.Test.YtdjglbedimpldaaGreatDoorZx7
set_option linter.unusedSimpArgs false
set_option linter.unusedVariables false
/-
  Walks: FnRoundSync.
-/
namespace Go.Proofs.YtdjglbedimpldaaGreatDoor
open Go Go.RowKit Go.Proofs
theorem mrg_len : ∀ (a b : List Nd), (mrg a b).length ≤ a.length + b.length
  | [], b => by simp [mrg]
  | x :: a, [] => by simp [mrg]
  | x :: a, y :: b => by
    rw [mrg]
    split
    · have := mrg_len a (y :: b); simp at this ⊢; omega
    · split
      · have := mrg_len (x :: a) b; simp at this ⊢; omega
      · have := mrg_len a b; simp at this ⊢; omega
  termination_by a b => a.length + b.length
theorem rApart_len (t : List Nd) (l : List Ev) : (rApart t l).length < 8589934570 := by
  cases h : rdV t l with
  | false => rw [rApart_f h]; simp
  | true =>
    rw [rApart_t h]
    have hsm := rPlay_sm t l
    rw [rPlay_t h] at hsm
    have h1 := (siteT_sm hsm.1).n
    have h2 := (siteT_sm hsm.2).n
    dsimp only at h1 h2
    have h3 := mrg_len (siteT (pl t l).1) (siteT (pl t l).2.1)
    unfold chg
    split
    · have := List.length_filter_le (fun p => decide (getC (siteT (pl t l).1) p ≠ getC (siteT (pl t l).2.1) p)) (mrg (siteT (pl t l).1) (siteT (pl t l).2.1))
      omega
    · simp
attribute [local irreducible] RWp AW run kPe pe Kt effA gd gu br retR RDp runD kPeD brW gW effD
set_option maxRecDepth 100000
theorem FnRoundSync_pc (z : List Int) (hz : BytesOk z) : PC Tryz.prog 9 [byA z] (vB true) := by
  refine pc_enter Tryz.func9 rfl rfl fun w0 fb => go_on ?_; (try simp only [Tryz.ntmps9, push_cast, simprocAttr])
  refine at_b (fun hb => ?_) (fun hb => ?_)
  · (try simp only [hb, push_cast, simprocAttr])
    refine at_ret ?_; simp only [Tryz.results9, push_cast, simprocAttr]
    simp [vX]
  · (try simp only [hb, push_cast, simprocAttr])
    refine call_share (by simp [isC]) (DrawRoundPlay_pc z hz) ?_
    rintro rv rows ⟨t, l, ht, hl25, hlp, rfl, rfl⟩
    have hts := sm_tv ((tV_iff t).1 ht)
    have hl : SmE l := ⟨by omega, fun e he => by have := hlp e he; omega⟩
    have hD := RoundPlay_d t hts l hl
    have hE := specRoundPlay_d t hts l hl
    obtain ⟨hsx, hsy⟩ := rPlay_sm t l
    obtain ⟨x, hx⟩ : ∃ x, x = (rPlay t l).1 := ⟨_, rfl⟩
    obtain ⟨y, hy⟩ : ∃ y, y = (rPlay t l).2.1 := ⟨_, rfl⟩
    obtain ⟨n, hn⟩ : ∃ n, n = (rPlay t l).2.2 := ⟨_, rfl⟩
    rw [← hx] at hD hE hsx
    rw [← hy] at hD hE hsy
    rw [← hn] at hD hE
    have hS1 := sameSite_pc x x hsx.c1 hsx.c2
    have hS2 := sameSite_pc y y hsy.c1 hsy.c2
    rw [decide_eq_true rfl] at hS1 hS2
    have e0 : eqI n n = true := eqI_t rfl
    unfold stA' stC at hD hE hS1 hS2
    refine ⟨by simp [frB, baseOf], go_on ?_⟩
    (try simp only [push_cast, simprocAttr])
    ((try simp only [push_cast, simprocAttr]); refine at_share2 (by simp [isC2, isC]) (by first | rfl | simp [ren]) (hD) (go_on ?_); (try simp only [push_cast, simprocAttr]))
    ((try simp only [push_cast, simprocAttr]); refine at_share2 (by simp [isC2, isC]) (by first | rfl | simp [ren]) (hE) (go_on ?_); (try simp only [push_cast, simprocAttr]))
    (try simp only [e0, Bool.not_true, push_cast, simprocAttr])
    (refine at_call ?_; (try simp only [push_cast, simprocAttr]); refine rwc_v (hS1) (go_on ?_); (try simp only [push_cast, simprocAttr]))
    (try simp only [Bool.not_true, push_cast, simprocAttr])
    (refine at_call ?_; (try simp only [push_cast, simprocAttr]); refine rwc_v (hS2) (go_on ?_); (try simp only [push_cast, simprocAttr]))
    (try simp only [Bool.not_true, push_cast, simprocAttr])
    by_cases hn0 : n < 0
    · have i1 : ltI n 0 = true := ltI_t hn0
      (try simp only [i1, e0, push_cast, simprocAttr])
      (refine at_call ?_; (try simp only [push_cast, simprocAttr]); refine rwc_v (hS1) (go_on ?_); (try simp only [push_cast, simprocAttr]))
      (refine at_call ?_; (try simp only [push_cast, simprocAttr]); refine rwc_v (hS2) (go_on ?_); (try simp only [push_cast, simprocAttr]))
      refine at_ret ?_; simp only [Tryz.results9, push_cast, simprocAttr]
      simp [vX]
    · have i1 : ltI n 0 = false := ltI_f (by omega)
      have hge : 0 ≤ (rPlay t l).2.2 := by omega
      have hDn := RoundDone_d t hts l hl
      obtain ⟨ds, hds⟩ : ∃ ds, ds = rDone t l := ⟨_, rfl⟩
      have hdl := rDone_len t l
      have hin : ∀ j ∈ ds, 0 ≤ j ∧ j < l.length := fun j hj => rDone_in (hds ▸ hj)
      rw [← hds] at hDn hdl
      (try simp only [i1, push_cast, simprocAttr])
      by_cases h24 : l.length = 24
      · have i2 : eqI (l.length : Int) 24 = true := eqI_t (by omega)
        (try simp only [i2, e0, push_cast, simprocAttr])
        (refine at_call ?_; (try simp only [push_cast, simprocAttr]); refine rwc_v (hS1) (go_on ?_); (try simp only [push_cast, simprocAttr]))
        (refine at_call ?_; (try simp only [push_cast, simprocAttr]); refine rwc_v (hS2) (go_on ?_); (try simp only [push_cast, simprocAttr]))
        refine at_ret ?_; simp only [Tryz.results9, push_cast, simprocAttr]
        simp [vX]
      · have i2 : eqI (l.length : Int) 24 = false := eqI_f (by omega)
        obtain ⟨lw1, lw2⟩ := law_roundSync hge h24
        obtain ⟨l2, hl2⟩ : ∃ l2, l2 = l ++ [(⟨3, cm0⟩ : Ev)] := ⟨_, rfl⟩
        have hsl2 : SmE l2 := ⟨by rw [hl2]; simp; omega, fun e he => by
          rw [hl2] at he
          rcases List.mem_append.1 he with he | he
          · exact hl.p e he
          · simp only [List.mem_singleton] at he
            subst he
            simp [cm0]⟩
        have hD2 := RoundPlay_d t hts l2 hsl2
        have hAp := RoundApart_d t hts l2 hsl2
        obtain ⟨hsp, hsq⟩ := rPlay_sm t l2
        rw [← hl2, ← hx, ← hy, ← hn] at lw1
        rw [← hl2, ← hn] at lw2
        obtain ⟨p, hp⟩ : ∃ p, p = (rPlay t l2).1 := ⟨_, rfl⟩
        obtain ⟨q, hq⟩ : ∃ q, q = (rPlay t l2).2.1 := ⟨_, rfl⟩
        obtain ⟨m, hm⟩ : ∃ m, m = (rPlay t l2).2.2 := ⟨_, rfl⟩
        obtain ⟨ap, hap⟩ : ∃ ap, ap = rApart t l2 := ⟨_, rfl⟩
        rw [← hp] at hD2 lw1 lw2 hsp
        rw [← hq] at hD2 lw1 lw2 hsq
        rw [← hm] at hD2 lw1 lw2
        have hapl := rApart_len t l2
        rw [← hap] at hAp lw2 hapl
        have hmap : l.map evC ++ [[iA 3, .v (.string ⟨#[]⟩), iA 0, iA 0, iA 0, iA 0]] = l2.map evC := by rw [hl2, List.map_append]; rfl
        have hll : l2.length = l.length + 1 := by rw [hl2]; simp
        unfold stA' stC at hD2
        have hpl := hsp.l.n
        have hql := hsq.l.n
        (try simp only [i2, push_cast, simprocAttr])
        refine at_chk (by omega) ?_
        (try simp only [Nat.zero_add, push_cast, simprocAttr])
        refine at_chk (by omega) ?_
        (try simp only [hmap, ← hll, push_cast, simprocAttr])
        (refine at_callF3 [79] (by refine wk_frz ?_ ?_ ?_ ?_ <;> simp [rowN, rowC, frzT3, frzH, frzRow, frzT, hasN, delL, hdel, leF, leHF, rowF, frzB, idsL, idsA, idsR, inH, hget, sameRow, viewN, tk]) ?_; simp only [rowN, rowC, frzT3, frzH, frzRow, frzT, hasN, delL, hdel, idsA, idsL, viewN, hget, tk, isC, List.map_cons, List.map_nil, List.all_cons, List.all_nil, List.append_nil, List.drop, List.getElem?_cons_zero, List.getElem?_cons_succ, Bool.not_false, Bool.not_true, Bool.and_true, if_true, if_false, Nat.zero_add, List.length_map, simprocAttr])
        (try simp only [← hll, push_cast, simprocAttr])
        ((try simp only [push_cast, simprocAttr]); refine at_share2 (by simp [isC2, isC]) (by first | rfl | simp [ren]) (hD2) (go_on ?_); (try simp only [push_cast, simprocAttr]))
        by_cases hmn : m = n
        · have k1 : eqI m n = true := eqI_t hmn
          have lw := lw2 hmn
          (try simp only [k1, Bool.not_true, push_cast, simprocAttr])
          ((try simp only [push_cast, simprocAttr]); refine at_share2 (by simp [isC2, isC]) (by first | rfl | simp [ren]) (hAp) (go_on ?_); (try simp only [push_cast, simprocAttr]))
          obtain ⟨L, hL⟩ : ∃ L, L = p.log ++ q.log := ⟨_, rfl⟩
          have hLl : p.log.length + q.log.length = L.length := by rw [hL]; simp
          have hLm : p.log.map cmC ++ q.log.map cmC = L.map cmC := by rw [hL, List.map_append]
          rw [← hL] at lw
          refine at_draw rfl (by kernel_rfl) ?_; simp only [push_cast, simprocAttr]
          (try simp only [effD_app2, Nat.zero_add, push_cast, simprocAttr])
          refine at_chkD (by omega) ?_
          (try simp only [effD_app2, Nat.zero_add, push_cast, simprocAttr])
          refine at_chkD (by omega) ?_
          (try simp only [Nat.zero_add, hLl, hLm, push_cast, simprocAttr])
          refine at_done (by kernel_rfl) (by kernel_rfl) (go_on ?_)
          (try simp only [Nat.zero_add, hLl, hLm, push_cast, simprocAttr])
          refine at_loop (X := Nat) (fun i => [(17, iA i), (83, .any)]) (fun _ => [(5, ⟨26, 3, [[iA x.ep, ndA x.base, cmA x.log]], true⟩), (6, ⟨26, 3, [[iA y.ep, ndA y.base, cmA y.log]], true⟩), (8, ⟨26, 3, [[iA x.ep, ndA x.base, cmA x.log]], true⟩), (9, ⟨26, 3, [[iA y.ep, ndA y.base, cmA y.log]], true⟩), (12, ⟨26, 3, [[iA p.ep, ndA p.base, cmA p.log]], true⟩), (13, ⟨26, 3, [[iA q.ep, ndA q.base, cmA q.log]], true⟩), (106, ⟨53, 5, L.map cmC, true⟩)]) (fun i => i ≤ ap.length) (fun i => ap.length - i) 0 (Nat.zero_le _) ?_ ?_
          · (refine wk_ok ?_ ?_ ?_ ?_ <;> simp [leL, leH, idsL, idsA, idsR, inH, hget, sameRow, upA, hvA, dsts, dstO, setA_0, setA_1, setA_8, List.append, List.cons_append, List.nil_append])
          · intro i hi
            simp only [upA, hvA, dsts, dstO, setA_0, setA_1, setA_8, List.append, List.cons_append, List.nil_append]
            refine go_on ?_
            (try simp only [List.length_map, push_cast, simprocAttr])
            refine at_b (fun hg => ?_) (fun hg => ?_)
            · have hlt := lt_tt hg
              obtain ⟨s, hs⟩ := get_of_lt hlt
              have i3 := ix_n hs
              have i4 := map_get sC hs
              simp only [sC] at i4
              have w1 := wr ((i : Int) + 1) (by omega)
              (try simp only [hg, push_cast, simprocAttr])
              refine at_loop (X := Nat × Bool) (fun v => [(18, bA v.2), (19, iA v.1)]) (fun _ => [(5, ⟨26, 3, [[iA x.ep, ndA x.base, cmA x.log]], true⟩), (6, ⟨26, 3, [[iA y.ep, ndA y.base, cmA y.log]], true⟩), (8, ⟨26, 3, [[iA x.ep, ndA x.base, cmA x.log]], true⟩), (9, ⟨26, 3, [[iA y.ep, ndA y.base, cmA y.log]], true⟩), (12, ⟨26, 3, [[iA p.ep, ndA p.base, cmA p.log]], true⟩), (13, ⟨26, 3, [[iA q.ep, ndA q.base, cmA q.log]], true⟩), (106, ⟨53, 5, L.map cmC, true⟩)]) (fun v => v.1 ≤ L.length ∧ v.2 = (L.take v.1).any fun c => decide (c.p = s)) (fun v => L.length - v.1) (0, false) ⟨Nat.zero_le _, by simp⟩ ?_ ?_
              · (refine wk_ok ?_ ?_ ?_ ?_ <;> simp [leL, leH, idsL, idsA, idsR, inH, hget, sameRow, upA, hvA, dsts, dstO, setA_0, setA_1, setA_8, List.append, List.cons_append, List.nil_append])
              · rintro ⟨k, b⟩ ⟨q1, q2⟩
                simp only at q1 q2
                simp only [upA, hvA, dsts, dstO, setA_0, setA_1, setA_8, List.append, List.cons_append, List.nil_append]
                refine go_on ?_
                (try simp only [List.length_map, push_cast, simprocAttr])
                refine at_b (fun hk => ?_) (fun hk => ?_)
                · have hkl := lt_tt hk
                  obtain ⟨c, hc⟩ := get_of_lt hkl
                  have i5 := ix_n hc
                  have i6 := map_get cmC hc
                  simp only [cmC] at i6
                  have w2 := wr ((k : Int) + 1) (by omega)
                  have hst : (L.take (k + 1)).any (fun c => decide (c.p = s)) = ((L.take k).any (fun c => decide (c.p = s)) || decide (c.p = s)) := by
                    rw [List.take_add_one, hc]
                    simp
                  (try simp only [hk, push_cast, simprocAttr])
                  refine at_draw rfl (by kernel_rfl) ?_; simp only [push_cast, simprocAttr]
                  cases b with
                  | true =>
                    (try simp only [Bool.not_true, push_cast, simprocAttr])
                    refine at_done (by kernel_rfl) (by kernel_rfl) (go_on ?_)
                    (try simp only [w2, push_cast, simprocAttr])
                    refine at_fin ⟨(k + 1, true), ⟨by dsimp only; omega, by dsimp only; rw [hst, ← q2]; rfl⟩, by dsimp only; omega, ?_⟩
                    (refine wk_ok ?_ ?_ ?_ ?_ <;> simp [leL, leH, idsL, idsA, idsR, inH, hget, sameRow, upA, hvA, dsts, dstO, setA_0, setA_1, setA_8, List.append, List.cons_append, List.nil_append])
                  | false =>
                    (try simp only [i3, i4, i5, i6, push_cast, simprocAttr])
                    refine at_done (by kernel_rfl) (by kernel_rfl) (go_on ?_)
                    (try simp only [w2, push_cast, simprocAttr])
                    refine at_fin ⟨(k + 1, decide (c.p = s)), ⟨by dsimp only; omega, by dsimp only; rw [hst, ← q2]; rfl⟩, by dsimp only; omega, ?_⟩
                    (refine wk_ok ?_ ?_ ?_ ?_ <;> simp [leL, leH, idsL, idsA, idsR, inH, hget, sameRow, upA, hvA, dsts, dstO, setA_0, setA_1, setA_8, List.append, List.cons_append, List.nil_append])
                · have hkl := lt_ff hk
                  rw [List.take_of_length_le hkl] at q2
                  have hb1 : b = true := by
                    rw [q2, List.any_eq_true]
                    obtain ⟨c, hc, hcs⟩ := lw s (List.mem_of_getElem? hs)
                    exact ⟨c, hc, by simpa using hcs⟩
                  subst hb1
                  (try simp only [hk, Bool.not_true, w1, push_cast, simprocAttr])
                  refine at_fin ⟨i + 1, by omega, by omega, ?_⟩
                  (refine wk_ok ?_ ?_ ?_ ?_ <;> simp [leL, leH, idsL, idsA, idsR, inH, hget, sameRow, upA, hvA, dsts, dstO, setA_0, setA_1, setA_8, List.append, List.cons_append, List.nil_append])
            · (try simp only [hg, push_cast, simprocAttr])
              refine at_ret ?_; simp only [Tryz.results9, push_cast, simprocAttr]
              simp [vX]
        · have k1 : eqI m n = false := eqI_f hmn
          obtain ⟨h1, h2⟩ := lw1 hmn
          subst h1
          subst h2
          (try simp only [k1, Bool.not_false, push_cast, simprocAttr])
          (refine at_call ?_; (try simp only [push_cast, simprocAttr]); refine rwc_v (hS1) (go_on ?_); (try simp only [push_cast, simprocAttr]))
          (refine at_call ?_; (try simp only [push_cast, simprocAttr]); refine rwc_v (hS2) (go_on ?_); (try simp only [push_cast, simprocAttr]))
          refine at_ret ?_; simp only [Tryz.results9, push_cast, simprocAttr]
          simp [vX]
end Go.Proofs.YtdjglbedimpldaaGreatDoor
