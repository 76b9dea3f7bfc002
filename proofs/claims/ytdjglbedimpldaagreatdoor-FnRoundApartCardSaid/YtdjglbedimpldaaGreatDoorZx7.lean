/- A part of the proof of the session laws: texts D12 D13 W61 W62 W28 W63 W64 W65. -/
import Derived.Test.YtdjglbedimpldaaGreatDoorZx6
import Derived.Test.YtdjglbedimpldaaGreatDoorZx5
set_option linter.unusedSimpArgs false
set_option linter.unusedVariables false
/-
  Walks: the draws of rounds (DrawRoundPlay).
-/
namespace Go.Proofs.YtdjglbedimpldaaGreatDoor
open Go Go.RowKit Go.Proofs
def rowE (l : List Ev) : Row := ⟨55, 6, l.map evC, true⟩
def evD (z : List Int) (p c : Nat) (rv : AV) (lr' rows : List Row) : Prop := ∃ (t : List Nd) (l : List Ev), tV t = true ∧ l.length ≤ 25 ∧ (∀ e ∈ l, e.c.p.length ≤ 10) ∧ rv = .tup [ndA t, .o 1 l.length] ∧ RdD z p c lr' ∧ rows = [rowE l]
attribute [local irreducible] RWp AW run kPe pe Kt effA gd gu br retR RDp runD kPeD brW gW effD
set_option maxRecDepth 100000
set_option maxHeartbeats 1000000
theorem l92Events_pcl (z : List Int) (p : Nat) (hr : RdOk z (p + 800)) : PCL Tryz.prog 73 [rdR z p] (mvF none) [.p 0 0 0] (evD z p 800) := by
  have hrc : ∀ q, (rdR z q).cl = true := fun _ => rfl
  have hrE : ∀ q, ((rdR z q).es.all fun e => e.all fun x => (idsA x).all fun r => !hasN [28, 31, 35000, 35001] r) = true := fun _ => rfl
  refine pcl_enter Tryz.func73 rfl rfl (by simp) fun w0 fb loc => go_on ?_; simp only [Tryz.ntmps73, hpL, nmL, mvF, renL, decide_true, decide_false, push_cast, simprocAttr]
  (try simp only [push_cast, simprocAttr]); refine call_lend [500000] none (lr := [rdR z p]) (by simp [ndB]) (by first | rfl | simp [rowsOf, hget, rdR, rowS, rowN, rowC, sC, ndC, cmC]) (by simp [idsL, idsA]) (by simp [mvN]) (by simpa [rnA, ixOf] using pick_pcl z p 8 (hr.le (by omega)) (by omega)) ?_
  rintro rv lr' rows ⟨m8, rfl, hm8, rfl, rfl⟩
  have hm8 := hm8 (by omega)
  have w1 := wr (2 + (m8 : Int)) (by omega)
  (refine ⟨by simp [shB, mvF, rdR, rowS, rowN, rowC], by simp [frB, baseOf], go_on ?_⟩; simp only [w1, killA, killH, killRow, push_cast, simprocAttr])
  (try simp only [push_cast, simprocAttr]); refine call_lend [500000] none (lr := [rdR z (p + 1)]) (by simp [ndB]) (by first | rfl | simp [rowsOf, hget, rdR, rowS, rowN, rowC, sC, ndC, cmC]) (by simp [idsL, idsA]) (by simp [mvN]) (by simpa [rnA, ixOf] using l91Tree_pcl z (p + 1) (2 + m8) (by omega) (hr.le (by omega))) ?_
  rintro rv lr' rows ⟨t, ht, rfl, ⟨u, rfl, g1, g2⟩, rfl⟩
  have hu : u ≤ p + 109 := by omega
  have hts := sm_tv ((tV_iff t).1 ht)
  have htl := ((tV_iff t).1 ht).le
  have h0s : SmS ⟨0, t, []⟩ := ⟨hts, st0_sm.l⟩
  have hL := l41Copy_pc ⟨0, t, []⟩ (by simp only; omega) (by simp)
  unfold stA' stC stO at hL
  simp only [List.length_nil] at hL
  (refine ⟨by simp [shB, mvF, rdR, rowS, rowN, rowC], by simp [frB, baseOf], go_on ?_⟩; simp only [killA, killH, killRow, push_cast, simprocAttr])
  (try simp only [push_cast, simprocAttr]); refine call_lend [500000] none (lr := [rdR z u]) (by simp [ndB]) (by first | rfl | simp [rowsOf, hget, rdR, rowS, rowN, rowC, sC, ndC, cmC]) (by simp [idsL, idsA]) (by simp [mvN]) (by simpa [rnA, ixOf] using pick_pcl z u 14 (hr.le (by omega)) (by omega)) ?_
  rintro rv lr' rows ⟨n, rfl, hn, rfl, rfl⟩
  have hn := hn (by omega)
  (refine ⟨by simp [shB, mvF, rdR, rowS, rowN, rowC], by simp [frB, baseOf], go_on ?_⟩; simp only [killA, killH, killRow, push_cast, simprocAttr])
  (try simp only [push_cast, simprocAttr]); refine call_lend [500000] none (lr := [rdR z (u + 1)]) (by simp [ndB]) (by first | rfl | simp [rowsOf, hget, rdR, rowS, rowN, rowC, sC, ndC, cmC]) (by simp [idsL, idsA]) (by simp [mvN]) (by simpa [rnA, ixOf] using pick_pcl z (u + 1) 20 (hr.le (by omega)) (by omega)) ?_
  rintro rv lr' rows ⟨m20, rfl, hm20, rfl, rfl⟩
  (refine ⟨by simp [shB, mvF, rdR, rowS, rowN, rowC], by simp [frB, baseOf], go_on ?_⟩; simp only [killA, killH, killRow, push_cast, simprocAttr])
  refine at_b (fun hb0 => ?_) (fun hb0 => ?_)
  · (try simp only [hb0, push_cast, simprocAttr])
    (try simp only [push_cast, simprocAttr]); refine call_lend [500000] none (lr := [rdR z (u + 1 + 1)]) (by simp [ndB]) (by first | rfl | simp [rowsOf, hget, rdR, rowS, rowN, rowC, sC, ndC, cmC]) (by simp [idsL, idsA]) (by simp [mvN]) (by simpa [rnA, ixOf] using pick_pcl z (u + 1 + 1) 2 (hr.le (by omega)) (by omega)) ?_
    rintro rv lr' rows ⟨m2, rfl, hm2, rfl, rfl⟩
    have hm2 := hm2 (by omega)
    clear hn
    obtain ⟨n, hn⟩ : ∃ n, n = 24 + m2 := ⟨_, rfl⟩
    have w2 : IntKind.i64.wrap (24 + (m2 : Int)) = (n : Int) := by rw [wr (24 + (m2 : Int)) (by omega)]; omega
    have hn25 : n ≤ 25 := by omega
    (refine ⟨by simp [shB, mvF, rdR, rowS, rowN, rowC], by simp [frB, baseOf], go_on ?_⟩; simp only [w2, killA, killH, killRow, push_cast, simprocAttr])
    obtain ⟨q, hq⟩ : ∃ q, q = u + 1 + 1 + 1 := ⟨_, rfl⟩
    rw [← hq]
    have hq2 : p ≤ q ∧ q ≤ p + 120 := by omega
    clear hn w2
    refine at_chk (by omega) ?_
    (try simp only [hrc, push_cast, simprocAttr])
    refine at_call ?_
    (try simp only [Nat.zero_add, hrc, push_cast, simprocAttr])
    refine rwc_r hL (by simp [flatV, flatL]) (flat_nc _ _) (by simp [frB, baseOf]) ?_
    (try simp only [hrc, push_cast, simprocAttr])
    (refine at_frzS2 [28, 31, 35000, 35001] (by refine wk_frz ?_ ?_ ?_ ?_ <;> simp [rowN, rowC, rdR, frzS2, frzH, frzRow, frzT, hasN, delL, hdel, leF, leHF, rowF, frzB, idsL, idsA, idsR, inH, hget, sameRow, viewN, tk]) ?_; simp only [rowN, rowC, frzS2, frzH, frzRow, frzT, hasN, delL, hdel, idsA, idsL, viewN, hget, tk, isC, hrE, List.map_cons, List.map_nil, List.all_cons, List.all_nil, List.append_nil, List.drop, List.getElem?_cons_zero, List.getElem?_cons_succ, Bool.not_false, Bool.not_true, Bool.and_true, if_true, if_false, Nat.zero_add, List.length_map, simprocAttr])
    refine go_on ?_
    (try simp only [push_cast, simprocAttr])
    refine at_loop (X := Nat × St × St × List Ev × Nat) (fun x => [(5, .o 19 x.2.2.2.1.length), (9, iA x.1), (19, .any)]) (fun x => [(2, ⟨98, 3, [], true⟩), (3, ⟨55, 6, [], true⟩), (19, ⟨55, 6, x.2.2.2.1.map evC, true⟩), (7, ⟨26, 3, [[iA x.2.1.ep, ndA x.2.1.base, cmA x.2.1.log]], true⟩), (8, ⟨26, 3, [[iA x.2.2.1.ep, ndA x.2.2.1.base, cmA x.2.2.1.log]], true⟩), (500000, rdR z x.2.2.2.2)])
      (fun x => x.1 ≤ n ∧ SmS x.2.1 ∧ SmS x.2.2.1 ∧ x.2.2.2.1.length ≤ x.1 ∧ (∀ e ∈ x.2.2.2.1, e.c.p.length ≤ 10) ∧ p ≤ x.2.2.2.2 ∧ x.2.2.2.2 ≤ p + 120 + 21 * x.1) (fun x => n - x.1) (0, ⟨0, t, []⟩, ⟨0, t, []⟩, [], q) ⟨by omega, h0s, h0s, by simp, by simp, by dsimp only; omega, by dsimp only; omega⟩ ?_ ?_
    · (refine wk_frz ?_ ?_ ?_ ?_ <;> simp [rdR, leF, leHF, frzB, idsL, idsA, idsR, inH, hget, sameRow, viewN, tk, upA, hvA, dsts, dstO, setA_0, setA_1, setA_8, List.append, List.cons_append, List.nil_append])
    · rintro ⟨i, a, b, l, r⟩ ⟨q1, q2, q3, q4, q5, q6, q7⟩
      simp only at q1 q2 q3 q4 q5 q6 q7
      simp only [upA, hvA, dsts, dstO, setA_0, setA_1, setA_8, List.append, List.cons_append, List.nil_append]
      refine go_on ?_
      (try simp only [push_cast, simprocAttr])
      by_cases hlt : i < n
      · have i0 : ltI (i : Int) n = true := ltI_t (by omega)
        have w3 := wr ((i : Int) + 1) (by omega)
        (try simp only [i0, push_cast, simprocAttr])
        (try simp only [push_cast, simprocAttr]); refine call_lend [500000] none (lr := [rdR z r]) (by simp [ndB]) (by first | rfl | simp [rowsOf, hget, rdR, rowS, rowN, rowC, sC, ndC, cmC]) (by simp [idsL, idsA]) (by simp [mvN]) (by simpa [rnA, ixOf] using pick_pcl z r 5 (hr.le (by omega)) (by omega)) ?_
        rintro rv lr' rows ⟨m5, rfl, hm5, rfl, rfl⟩
        have hm5 := hm5 (by omega)
        obtain ⟨m, hm⟩ : ∃ m, m = m5 % 3 := ⟨_, rfl⟩
        have ht3 : Int.tmod (m5 : Int) 3 = (m : Int) := by rw [hm]; exact (Int.ofNat_tmod m5 3).symm
        have w4 := wr (1 + (m : Int)) (by omega)
        have hm3 : m < 3 := by omega
        (refine ⟨by simp [shB, mvF, rdR, rowS, rowN, rowC], by simp [frB, baseOf], go_on ?_⟩; simp only [ht3, w4, killA, killH, killRow, push_cast, simprocAttr])
        have hbody : ∀ (c : Cm) (k : Int) (a' b' : St) (ok : Bool), evDo a b ⟨k, c⟩ = (a', b', ok) → c.p.length ≤ 10 → SmS a' ∧ SmS b' ∧ (∀ e ∈ l ++ [(⟨k, c⟩ : Ev)], e.c.p.length ≤ 10) := fun c k a' b' ok he hc => by
          have := evDo_sm q2 q3 (e := ⟨k, c⟩) (by simp only; omega)
          rw [he] at this
          exact ⟨this.1, this.2, fun e h => by
            rcases List.mem_append.1 h with h | h
            · exact q5 e h
            · simp only [List.mem_singleton] at h
              subst h
              exact hc⟩
        have hL1 : (l ++ [(⟨0, cm0⟩ : Ev)]).length = l.length + 1 := by simp
        obtain rfl | rfl | rfl : m = 0 ∨ m = 1 ∨ m = 2 := by omega
        · have hT := specSiteTree_pc a q2
          unfold stA' stC at hT
          have k1 : (1 : Int) + ((0 : Nat) : Int) = 1 := rfl
          (try simp only [k1, show eqI 1 1 = true from rfl, push_cast, simprocAttr])
          ((try simp only [push_cast, simprocAttr]); refine at_share2 (by simp [isC2, isC]) (by first | rfl | simp [ren]) (hT) (go_on ?_); (try simp only [push_cast, simprocAttr]))
          (try simp only [push_cast, simprocAttr]); refine call_lend [500000] none (lr := [rdR z (r + 1)]) (by simp [ndB]) (by first | rfl | simp [rowsOf, hget, rdR, rowS, rowN, rowC, sC, ndC, cmC]) (by simp [idsL, idsA]) (by simp [mvN]) (by simpa [rnA, ixOf] using l91Command_pcl z (r + 1) (siteT a) (tV_siteT a) (hr.le (by omega))) ?_
          rintro rv lr' rows ⟨c, hc, rfl, ⟨u, rfl, g3, g4⟩, rfl⟩
          have hC := specCommandValid_pc c (by omega)
          obtain ⟨a', b', ok, he⟩ : ∃ a' b' ok, evDo a b ⟨1, c⟩ = (a', b', ok) := ⟨_, _, _, rfl⟩
          obtain ⟨h5, h6, h7⟩ := hbody c 1 a' b' ok he hc
          have hD := l43Do_d a b ⟨1, c⟩ q2 q3 (by simp only; omega)
          rw [he] at hD
          simp only at hD
          have hmap : l.map evC ++ [[iA 1, sA c.p, iA c.a.k, iA c.a.v, iA c.b.k, iA c.b.v]] = (l ++ [(⟨1, c⟩ : Ev)]).map evC := by rw [List.map_append]; rfl
          unfold cmdA cmC at hC ⊢
          unfold stA' stC at hD
          unfold evtA evC at hD
          simp only at hD
          (refine ⟨by simp [shB, mvF, rdR, rowS, rowN, rowC], by simp [frB, baseOf], go_on ?_⟩; simp only [show eqI 1 3 = false from rfl, w3, killA, killH, killRow, push_cast, simprocAttr])
          (refine at_call ?_; (try simp only [push_cast, simprocAttr]); refine rwc_v (hC) (go_on ?_); (try simp only [push_cast, simprocAttr]))
          cases hv : cmV c with
          | false =>
            (try simp only [hv, w3, push_cast, simprocAttr])
            refine at_fin ⟨(i + 1, a, b, l, u), ⟨by dsimp only; omega, q2, q3, by dsimp only; omega, q5, by dsimp only; omega, by dsimp only; omega⟩, by dsimp only; omega, ?_⟩
            (refine wk_frz ?_ ?_ ?_ ?_ <;> simp [rdR, leF, leHF, frzB, idsL, idsA, idsR, inH, hget, sameRow, viewN, tk, upA, hvA, dsts, dstO, setA_0, setA_1, setA_8, List.append, List.cons_append, List.nil_append])
          | true =>
            (try simp only [hv, w3, push_cast, simprocAttr])
            refine at_chk (by omega) ?_
            (try simp only [hmap, hrc, push_cast, simprocAttr])
            ((try simp only [push_cast, simprocAttr]); refine at_share2 (by simp [isC2, isC]) (by first | rfl | simp [ren]) (hD) (go_on ?_); (try simp only [push_cast, simprocAttr]))
            (try simp only [w3, push_cast, simprocAttr])
            refine at_fin ⟨(i + 1, a', b', l ++ [⟨1, c⟩], u), ⟨by dsimp only; omega, h5, h6, by simp; omega, h7, by dsimp only; omega, by dsimp only; omega⟩, by dsimp only; omega, ?_⟩
            simp only [List.length_append, List.length_cons, List.length_nil]
            (refine wk_frz ?_ ?_ ?_ ?_ <;> simp [rdR, evC, leF, leHF, frzB, idsL, idsA, idsR, inH, hget, sameRow, viewN, tk, upA, hvA, dsts, dstO, setA_0, setA_1, setA_8, List.append, List.cons_append, List.nil_append])
        · have hT := specSiteTree_pc b q3
          unfold stA' stC at hT
          have k1 : (1 : Int) + ((1 : Nat) : Int) = 2 := rfl
          (try simp only [k1, show eqI 2 1 = false from rfl, show eqI 2 2 = true from rfl, push_cast, simprocAttr])
          ((try simp only [push_cast, simprocAttr]); refine at_share2 (by simp [isC2, isC]) (by first | rfl | simp [ren]) (hT) (go_on ?_); (try simp only [push_cast, simprocAttr]))
          (try simp only [push_cast, simprocAttr]); refine call_lend [500000] none (lr := [rdR z (r + 1)]) (by simp [ndB]) (by first | rfl | simp [rowsOf, hget, rdR, rowS, rowN, rowC, sC, ndC, cmC]) (by simp [idsL, idsA]) (by simp [mvN]) (by simpa [rnA, ixOf] using l91Command_pcl z (r + 1) (siteT b) (tV_siteT b) (hr.le (by omega))) ?_
          rintro rv lr' rows ⟨c, hc, rfl, ⟨u, rfl, g3, g4⟩, rfl⟩
          have hC := specCommandValid_pc c (by omega)
          obtain ⟨a', b', ok, he⟩ : ∃ a' b' ok, evDo a b ⟨2, c⟩ = (a', b', ok) := ⟨_, _, _, rfl⟩
          obtain ⟨h5, h6, h7⟩ := hbody c 2 a' b' ok he hc
          have hD := l43Do_d a b ⟨2, c⟩ q2 q3 (by simp only; omega)
          rw [he] at hD
          simp only at hD
          have hmap : l.map evC ++ [[iA 2, sA c.p, iA c.a.k, iA c.a.v, iA c.b.k, iA c.b.v]] = (l ++ [(⟨2, c⟩ : Ev)]).map evC := by rw [List.map_append]; rfl
          unfold cmdA cmC at hC ⊢
          unfold stA' stC at hD
          unfold evtA evC at hD
          simp only at hD
          (refine ⟨by simp [shB, mvF, rdR, rowS, rowN, rowC], by simp [frB, baseOf], go_on ?_⟩; simp only [show eqI 2 3 = false from rfl, w3, killA, killH, killRow, push_cast, simprocAttr])
          (refine at_call ?_; (try simp only [push_cast, simprocAttr]); refine rwc_v (hC) (go_on ?_); (try simp only [push_cast, simprocAttr]))
          cases hv : cmV c with
          | false =>
            (try simp only [hv, w3, push_cast, simprocAttr])
            refine at_fin ⟨(i + 1, a, b, l, u), ⟨by dsimp only; omega, q2, q3, by dsimp only; omega, q5, by dsimp only; omega, by dsimp only; omega⟩, by dsimp only; omega, ?_⟩
            (refine wk_frz ?_ ?_ ?_ ?_ <;> simp [rdR, leF, leHF, frzB, idsL, idsA, idsR, inH, hget, sameRow, viewN, tk, upA, hvA, dsts, dstO, setA_0, setA_1, setA_8, List.append, List.cons_append, List.nil_append])
          | true =>
            (try simp only [hv, w3, push_cast, simprocAttr])
            refine at_chk (by omega) ?_
            (try simp only [hmap, hrc, push_cast, simprocAttr])
            ((try simp only [push_cast, simprocAttr]); refine at_share2 (by simp [isC2, isC]) (by first | rfl | simp [ren]) (hD) (go_on ?_); (try simp only [push_cast, simprocAttr]))
            (try simp only [w3, push_cast, simprocAttr])
            refine at_fin ⟨(i + 1, a', b', l ++ [⟨2, c⟩], u), ⟨by dsimp only; omega, h5, h6, by simp; omega, h7, by dsimp only; omega, by dsimp only; omega⟩, by dsimp only; omega, ?_⟩
            simp only [List.length_append, List.length_cons, List.length_nil]
            (refine wk_frz ?_ ?_ ?_ ?_ <;> simp [rdR, evC, leF, leHF, frzB, idsL, idsA, idsR, inH, hget, sameRow, viewN, tk, upA, hvA, dsts, dstO, setA_0, setA_1, setA_8, List.append, List.cons_append, List.nil_append])
        · have k1 : (1 : Int) + ((2 : Nat) : Int) = 3 := rfl
          obtain ⟨a', b', ok, he⟩ : ∃ a' b' ok, evDo a b ⟨3, cm0⟩ = (a', b', ok) := ⟨_, _, _, rfl⟩
          obtain ⟨h5, h6, h7⟩ := hbody cm0 3 a' b' ok he (by simp [cm0])
          have hD := l43Do_d a b ⟨3, cm0⟩ q2 q3 (by simp [cm0])
          rw [he] at hD
          simp only at hD
          have hmap : l.map evC ++ [[iA 3, .v (.string ⟨#[]⟩), iA 0, iA 0, iA 0, iA 0]] = (l ++ [(⟨3, cm0⟩ : Ev)]).map evC := by rw [List.map_append]; rfl
          unfold stA' stC at hD
          unfold evtA at hD
          have hE3 : evC ⟨3, cm0⟩ = [iA 3, .v (.string ⟨#[]⟩), iA 0, iA 0, iA 0, iA 0] := rfl
          rw [hE3] at hD
          (try simp only [k1, show eqI 3 1 = false from rfl, show eqI 3 2 = false from rfl, show eqI 3 3 = true from rfl, push_cast, simprocAttr])
          refine at_chk (by omega) ?_
          (try simp only [hmap, hrc, push_cast, simprocAttr])
          ((try simp only [push_cast, simprocAttr]); refine at_share2 (by simp [isC2, isC]) (by first | rfl | simp [ren]) (hD) (go_on ?_); (try simp only [push_cast, simprocAttr]))
          (try simp only [w3, push_cast, simprocAttr])
          refine at_fin ⟨(i + 1, a', b', l ++ [⟨3, cm0⟩], r + 1), ⟨by dsimp only; omega, h5, h6, by simp; omega, h7, by dsimp only; omega, by dsimp only; omega⟩, by dsimp only; omega, ?_⟩
          simp only [List.length_append, List.length_cons, List.length_nil]
          (refine wk_frz ?_ ?_ ?_ ?_ <;> simp [rdR, evC, leF, leHF, frzB, idsL, idsA, idsR, inH, hget, sameRow, viewN, tk, upA, hvA, dsts, dstO, setA_0, setA_1, setA_8, List.append, List.cons_append, List.nil_append])
      · have i0 : ltI (i : Int) n = false := ltI_f (by omega)
        (try simp only [i0, push_cast, simprocAttr])
        by_cases hl0 : l = []
        · subst hl0
          have hfin : evD z p 800 (.tup [ndA t, .o 1 0]) [rdR z r] [rowE []] := ⟨t, [], ht, by simp, by simp, rfl, ⟨_, rfl, by omega, by omega⟩, rfl⟩
          (try simp only [List.length_nil, show ltI 0 ((0 : Nat) : Int) = false from rfl, push_cast, simprocAttr])
          unfold rowE at hfin
          (refine at_retL ?_; simp only [Tryz.results73, retL, push_cast, simprocAttr]; simpa [show List.range 1 = [0] from rfl, show List.range 2 = [0, 1] from rfl, show List.range 3 = [0, 1, 2] from rfl, nmL, mvF, ndB, ixOf, rowsOf, hget, rdR, rowS, rowN, rowC] using  hfin)
        · have hl1 : 0 < l.length := List.length_pos_iff.2 hl0
          have i1 : ltI 0 (l.length : Int) = true := ltI_t (by omega)
          (try simp only [i1, push_cast, simprocAttr])
          (try simp only [push_cast, simprocAttr]); refine call_lend [500000] none (lr := [rdR z r]) (by simp [ndB]) (by first | rfl | simp [rowsOf, hget, rdR, rowS, rowN, rowC, sC, ndC, cmC]) (by simp [idsL, idsA]) (by simp [mvN]) (by simpa [rnA, ixOf] using pick_pcl z r 24 (hr.le (by omega)) (by omega)) ?_
          rintro rv lr' rows ⟨m24, rfl, hm24, rfl, rfl⟩
          (refine ⟨by simp [shB, mvF, rdR, rowS, rowN, rowC], by simp [frB, baseOf], go_on ?_⟩; simp only [killA, killH, killRow, push_cast, simprocAttr])
          refine at_b (fun hb => ?_) (fun hb => ?_)
          · (try simp only [hb, push_cast, simprocAttr])
            (try simp only [push_cast, simprocAttr]); refine call_lend [500000] none (lr := [rdR z (r + 1)]) (by simp [ndB]) (by first | rfl | simp [rowsOf, hget, rdR, rowS, rowN, rowC, sC, ndC, cmC]) (by simp [idsL, idsA]) (by simp [mvN]) (by simpa [rnA, ixOf] using pick_pcl z (r + 1) l.length (hr.le (by omega)) (by omega)) ?_
            rintro rv lr' rows ⟨j, rfl, hj, rfl, rfl⟩
            have hj := hj hl1
            (refine ⟨by simp [shB, mvF, rdR, rowS, rowN, rowC], by simp [frB, baseOf], go_on ?_⟩; simp only [killA, killH, killRow, push_cast, simprocAttr])
            (try simp only [push_cast, simprocAttr]); refine call_lend [500000] none (lr := [rdR z (r + 1 + 1)]) (by simp [ndB]) (by first | rfl | simp [rowsOf, hget, rdR, rowS, rowN, rowC, sC, ndC, cmC]) (by simp [idsL, idsA]) (by simp [mvN]) (by simpa [rnA, ixOf] using pick_pcl z (r + 1 + 1) 5 (hr.le (by omega)) (by omega)) ?_
            rintro rv lr' rows ⟨k5, rfl, hk5, rfl, rfl⟩
            obtain ⟨e, he⟩ := get_of_lt hj
            have i2 := ix_n he
            have i3 := map_get evC he
            simp only [evC] at i3
            have hset : (l.map evC).set j [iA k5, sA e.c.p, iA e.c.a.k, iA e.c.a.v, iA e.c.b.k, iA e.c.b.v] = (l.set j ⟨k5, e.c⟩).map evC := by rw [List.map_set]; rfl
            have hfin : evD z p 800 (.tup [ndA t, .o 1 l.length]) [rdR z (r + 1 + 1 + 1)] [rowE (l.set j ⟨k5, e.c⟩)] := ⟨t, l.set j ⟨k5, e.c⟩, ht, by simp; omega, fun x hx => by
              rcases List.mem_or_eq_of_mem_set hx with hx | rfl
              · exact q5 x hx
              · exact q5 e (List.mem_of_getElem? he), by simp, ⟨_, rfl, by omega, by omega⟩, rfl⟩
            unfold rowE at hfin
            (refine ⟨by simp [shB, mvF, rdR, rowS, rowN, rowC], by simp [frB, baseOf], go_on ?_⟩; simp only [i2, i3, hset, killA, killH, killRow, push_cast, simprocAttr])
            (refine at_retL ?_; simp only [Tryz.results73, retL, push_cast, simprocAttr]; simpa [show List.range 1 = [0] from rfl, show List.range 2 = [0, 1] from rfl, show List.range 3 = [0, 1, 2] from rfl, nmL, mvF, ndB, ixOf, rowsOf, hget, rdR, rowS, rowN, rowC] using  hfin)
          · have hfin : evD z p 800 (.tup [ndA t, .o 1 l.length]) [rdR z (r + 1)] [rowE l] := ⟨t, l, ht, by omega, q5, rfl, ⟨_, rfl, by omega, by omega⟩, rfl⟩
            unfold rowE at hfin
            (try simp only [hb, push_cast, simprocAttr])
            (refine at_retL ?_; simp only [Tryz.results73, retL, push_cast, simprocAttr]; simpa [show List.range 1 = [0] from rfl, show List.range 2 = [0, 1] from rfl, show List.range 3 = [0, 1, 2] from rfl, nmL, mvF, ndB, ixOf, rowsOf, hget, rdR, rowS, rowN, rowC] using  hfin)
  · (try simp only [hb0, push_cast, simprocAttr])
    have hn25 : n ≤ 25 := by omega
    obtain ⟨q, hq⟩ : ∃ q, q = u + 1 + 1 := ⟨_, rfl⟩
    rw [← hq]
    have hq2 : p ≤ q ∧ q ≤ p + 120 := by omega
    refine at_chk (by omega) ?_
    (try simp only [hrc, push_cast, simprocAttr])
    refine at_call ?_
    (try simp only [Nat.zero_add, hrc, push_cast, simprocAttr])
    refine rwc_r hL (by simp [flatV, flatL]) (flat_nc _ _) (by simp [frB, baseOf]) ?_
    (try simp only [hrc, push_cast, simprocAttr])
    (refine at_frzS2 [28, 31, 35000, 35001] (by refine wk_frz ?_ ?_ ?_ ?_ <;> simp [rowN, rowC, rdR, frzS2, frzH, frzRow, frzT, hasN, delL, hdel, leF, leHF, rowF, frzB, idsL, idsA, idsR, inH, hget, sameRow, viewN, tk]) ?_; simp only [rowN, rowC, frzS2, frzH, frzRow, frzT, hasN, delL, hdel, idsA, idsL, viewN, hget, tk, isC, hrE, List.map_cons, List.map_nil, List.all_cons, List.all_nil, List.append_nil, List.drop, List.getElem?_cons_zero, List.getElem?_cons_succ, Bool.not_false, Bool.not_true, Bool.and_true, if_true, if_false, Nat.zero_add, List.length_map, simprocAttr])
    refine go_on ?_
    (try simp only [push_cast, simprocAttr])
    refine at_loop (X := Nat × St × St × List Ev × Nat) (fun x => [(5, .o 19 x.2.2.2.1.length), (9, iA x.1), (19, .any)]) (fun x => [(2, ⟨98, 3, [], true⟩), (3, ⟨55, 6, [], true⟩), (19, ⟨55, 6, x.2.2.2.1.map evC, true⟩), (7, ⟨26, 3, [[iA x.2.1.ep, ndA x.2.1.base, cmA x.2.1.log]], true⟩), (8, ⟨26, 3, [[iA x.2.2.1.ep, ndA x.2.2.1.base, cmA x.2.2.1.log]], true⟩), (500000, rdR z x.2.2.2.2)])
      (fun x => x.1 ≤ n ∧ SmS x.2.1 ∧ SmS x.2.2.1 ∧ x.2.2.2.1.length ≤ x.1 ∧ (∀ e ∈ x.2.2.2.1, e.c.p.length ≤ 10) ∧ p ≤ x.2.2.2.2 ∧ x.2.2.2.2 ≤ p + 120 + 21 * x.1) (fun x => n - x.1) (0, ⟨0, t, []⟩, ⟨0, t, []⟩, [], q) ⟨by omega, h0s, h0s, by simp, by simp, by dsimp only; omega, by dsimp only; omega⟩ ?_ ?_
    · (refine wk_frz ?_ ?_ ?_ ?_ <;> simp [rdR, leF, leHF, frzB, idsL, idsA, idsR, inH, hget, sameRow, viewN, tk, upA, hvA, dsts, dstO, setA_0, setA_1, setA_8, List.append, List.cons_append, List.nil_append])
    · rintro ⟨i, a, b, l, r⟩ ⟨q1, q2, q3, q4, q5, q6, q7⟩
      simp only at q1 q2 q3 q4 q5 q6 q7
      simp only [upA, hvA, dsts, dstO, setA_0, setA_1, setA_8, List.append, List.cons_append, List.nil_append]
      refine go_on ?_
      (try simp only [push_cast, simprocAttr])
      by_cases hlt : i < n
      · have i0 : ltI (i : Int) n = true := ltI_t (by omega)
        have w3 := wr ((i : Int) + 1) (by omega)
        (try simp only [i0, push_cast, simprocAttr])
        (try simp only [push_cast, simprocAttr]); refine call_lend [500000] none (lr := [rdR z r]) (by simp [ndB]) (by first | rfl | simp [rowsOf, hget, rdR, rowS, rowN, rowC, sC, ndC, cmC]) (by simp [idsL, idsA]) (by simp [mvN]) (by simpa [rnA, ixOf] using pick_pcl z r 5 (hr.le (by omega)) (by omega)) ?_
        rintro rv lr' rows ⟨m5, rfl, hm5, rfl, rfl⟩
        have hm5 := hm5 (by omega)
        obtain ⟨m, hm⟩ : ∃ m, m = m5 % 3 := ⟨_, rfl⟩
        have ht3 : Int.tmod (m5 : Int) 3 = (m : Int) := by rw [hm]; exact (Int.ofNat_tmod m5 3).symm
        have w4 := wr (1 + (m : Int)) (by omega)
        have hm3 : m < 3 := by omega
        (refine ⟨by simp [shB, mvF, rdR, rowS, rowN, rowC], by simp [frB, baseOf], go_on ?_⟩; simp only [ht3, w4, killA, killH, killRow, push_cast, simprocAttr])
        have hbody : ∀ (c : Cm) (k : Int) (a' b' : St) (ok : Bool), evDo a b ⟨k, c⟩ = (a', b', ok) → c.p.length ≤ 10 → SmS a' ∧ SmS b' ∧ (∀ e ∈ l ++ [(⟨k, c⟩ : Ev)], e.c.p.length ≤ 10) := fun c k a' b' ok he hc => by
          have := evDo_sm q2 q3 (e := ⟨k, c⟩) (by simp only; omega)
          rw [he] at this
          exact ⟨this.1, this.2, fun e h => by
            rcases List.mem_append.1 h with h | h
            · exact q5 e h
            · simp only [List.mem_singleton] at h
              subst h
              exact hc⟩
        have hL1 : (l ++ [(⟨0, cm0⟩ : Ev)]).length = l.length + 1 := by simp
        obtain rfl | rfl | rfl : m = 0 ∨ m = 1 ∨ m = 2 := by omega
        · have hT := specSiteTree_pc a q2
          unfold stA' stC at hT
          have k1 : (1 : Int) + ((0 : Nat) : Int) = 1 := rfl
          (try simp only [k1, show eqI 1 1 = true from rfl, push_cast, simprocAttr])
          ((try simp only [push_cast, simprocAttr]); refine at_share2 (by simp [isC2, isC]) (by first | rfl | simp [ren]) (hT) (go_on ?_); (try simp only [push_cast, simprocAttr]))
          (try simp only [push_cast, simprocAttr]); refine call_lend [500000] none (lr := [rdR z (r + 1)]) (by simp [ndB]) (by first | rfl | simp [rowsOf, hget, rdR, rowS, rowN, rowC, sC, ndC, cmC]) (by simp [idsL, idsA]) (by simp [mvN]) (by simpa [rnA, ixOf] using l91Command_pcl z (r + 1) (siteT a) (tV_siteT a) (hr.le (by omega))) ?_
          rintro rv lr' rows ⟨c, hc, rfl, ⟨u, rfl, g3, g4⟩, rfl⟩
          have hC := specCommandValid_pc c (by omega)
          obtain ⟨a', b', ok, he⟩ : ∃ a' b' ok, evDo a b ⟨1, c⟩ = (a', b', ok) := ⟨_, _, _, rfl⟩
          obtain ⟨h5, h6, h7⟩ := hbody c 1 a' b' ok he hc
          have hD := l43Do_d a b ⟨1, c⟩ q2 q3 (by simp only; omega)
          rw [he] at hD
          simp only at hD
          have hmap : l.map evC ++ [[iA 1, sA c.p, iA c.a.k, iA c.a.v, iA c.b.k, iA c.b.v]] = (l ++ [(⟨1, c⟩ : Ev)]).map evC := by rw [List.map_append]; rfl
          unfold cmdA cmC at hC ⊢
          unfold stA' stC at hD
          unfold evtA evC at hD
          simp only at hD
          (refine ⟨by simp [shB, mvF, rdR, rowS, rowN, rowC], by simp [frB, baseOf], go_on ?_⟩; simp only [show eqI 1 3 = false from rfl, w3, killA, killH, killRow, push_cast, simprocAttr])
          (refine at_call ?_; (try simp only [push_cast, simprocAttr]); refine rwc_v (hC) (go_on ?_); (try simp only [push_cast, simprocAttr]))
          cases hv : cmV c with
          | false =>
            (try simp only [hv, w3, push_cast, simprocAttr])
            refine at_fin ⟨(i + 1, a, b, l, u), ⟨by dsimp only; omega, q2, q3, by dsimp only; omega, q5, by dsimp only; omega, by dsimp only; omega⟩, by dsimp only; omega, ?_⟩
            (refine wk_frz ?_ ?_ ?_ ?_ <;> simp [rdR, leF, leHF, frzB, idsL, idsA, idsR, inH, hget, sameRow, viewN, tk, upA, hvA, dsts, dstO, setA_0, setA_1, setA_8, List.append, List.cons_append, List.nil_append])
          | true =>
            (try simp only [hv, w3, push_cast, simprocAttr])
            refine at_chk (by omega) ?_
            (try simp only [hmap, hrc, push_cast, simprocAttr])
            ((try simp only [push_cast, simprocAttr]); refine at_share2 (by simp [isC2, isC]) (by first | rfl | simp [ren]) (hD) (go_on ?_); (try simp only [push_cast, simprocAttr]))
            (try simp only [w3, push_cast, simprocAttr])
            refine at_fin ⟨(i + 1, a', b', l ++ [⟨1, c⟩], u), ⟨by dsimp only; omega, h5, h6, by simp; omega, h7, by dsimp only; omega, by dsimp only; omega⟩, by dsimp only; omega, ?_⟩
            simp only [List.length_append, List.length_cons, List.length_nil]
            (refine wk_frz ?_ ?_ ?_ ?_ <;> simp [rdR, evC, leF, leHF, frzB, idsL, idsA, idsR, inH, hget, sameRow, viewN, tk, upA, hvA, dsts, dstO, setA_0, setA_1, setA_8, List.append, List.cons_append, List.nil_append])
        · have hT := specSiteTree_pc b q3
          unfold stA' stC at hT
          have k1 : (1 : Int) + ((1 : Nat) : Int) = 2 := rfl
          (try simp only [k1, show eqI 2 1 = false from rfl, show eqI 2 2 = true from rfl, push_cast, simprocAttr])
          ((try simp only [push_cast, simprocAttr]); refine at_share2 (by simp [isC2, isC]) (by first | rfl | simp [ren]) (hT) (go_on ?_); (try simp only [push_cast, simprocAttr]))
          (try simp only [push_cast, simprocAttr]); refine call_lend [500000] none (lr := [rdR z (r + 1)]) (by simp [ndB]) (by first | rfl | simp [rowsOf, hget, rdR, rowS, rowN, rowC, sC, ndC, cmC]) (by simp [idsL, idsA]) (by simp [mvN]) (by simpa [rnA, ixOf] using l91Command_pcl z (r + 1) (siteT b) (tV_siteT b) (hr.le (by omega))) ?_
          rintro rv lr' rows ⟨c, hc, rfl, ⟨u, rfl, g3, g4⟩, rfl⟩
          have hC := specCommandValid_pc c (by omega)
          obtain ⟨a', b', ok, he⟩ : ∃ a' b' ok, evDo a b ⟨2, c⟩ = (a', b', ok) := ⟨_, _, _, rfl⟩
          obtain ⟨h5, h6, h7⟩ := hbody c 2 a' b' ok he hc
          have hD := l43Do_d a b ⟨2, c⟩ q2 q3 (by simp only; omega)
          rw [he] at hD
          simp only at hD
          have hmap : l.map evC ++ [[iA 2, sA c.p, iA c.a.k, iA c.a.v, iA c.b.k, iA c.b.v]] = (l ++ [(⟨2, c⟩ : Ev)]).map evC := by rw [List.map_append]; rfl
          unfold cmdA cmC at hC ⊢
          unfold stA' stC at hD
          unfold evtA evC at hD
          simp only at hD
          (refine ⟨by simp [shB, mvF, rdR, rowS, rowN, rowC], by simp [frB, baseOf], go_on ?_⟩; simp only [show eqI 2 3 = false from rfl, w3, killA, killH, killRow, push_cast, simprocAttr])
          (refine at_call ?_; (try simp only [push_cast, simprocAttr]); refine rwc_v (hC) (go_on ?_); (try simp only [push_cast, simprocAttr]))
          cases hv : cmV c with
          | false =>
            (try simp only [hv, w3, push_cast, simprocAttr])
            refine at_fin ⟨(i + 1, a, b, l, u), ⟨by dsimp only; omega, q2, q3, by dsimp only; omega, q5, by dsimp only; omega, by dsimp only; omega⟩, by dsimp only; omega, ?_⟩
            (refine wk_frz ?_ ?_ ?_ ?_ <;> simp [rdR, leF, leHF, frzB, idsL, idsA, idsR, inH, hget, sameRow, viewN, tk, upA, hvA, dsts, dstO, setA_0, setA_1, setA_8, List.append, List.cons_append, List.nil_append])
          | true =>
            (try simp only [hv, w3, push_cast, simprocAttr])
            refine at_chk (by omega) ?_
            (try simp only [hmap, hrc, push_cast, simprocAttr])
            ((try simp only [push_cast, simprocAttr]); refine at_share2 (by simp [isC2, isC]) (by first | rfl | simp [ren]) (hD) (go_on ?_); (try simp only [push_cast, simprocAttr]))
            (try simp only [w3, push_cast, simprocAttr])
            refine at_fin ⟨(i + 1, a', b', l ++ [⟨2, c⟩], u), ⟨by dsimp only; omega, h5, h6, by simp; omega, h7, by dsimp only; omega, by dsimp only; omega⟩, by dsimp only; omega, ?_⟩
            simp only [List.length_append, List.length_cons, List.length_nil]
            (refine wk_frz ?_ ?_ ?_ ?_ <;> simp [rdR, evC, leF, leHF, frzB, idsL, idsA, idsR, inH, hget, sameRow, viewN, tk, upA, hvA, dsts, dstO, setA_0, setA_1, setA_8, List.append, List.cons_append, List.nil_append])
        · have k1 : (1 : Int) + ((2 : Nat) : Int) = 3 := rfl
          obtain ⟨a', b', ok, he⟩ : ∃ a' b' ok, evDo a b ⟨3, cm0⟩ = (a', b', ok) := ⟨_, _, _, rfl⟩
          obtain ⟨h5, h6, h7⟩ := hbody cm0 3 a' b' ok he (by simp [cm0])
          have hD := l43Do_d a b ⟨3, cm0⟩ q2 q3 (by simp [cm0])
          rw [he] at hD
          simp only at hD
          have hmap : l.map evC ++ [[iA 3, .v (.string ⟨#[]⟩), iA 0, iA 0, iA 0, iA 0]] = (l ++ [(⟨3, cm0⟩ : Ev)]).map evC := by rw [List.map_append]; rfl
          unfold stA' stC at hD
          unfold evtA at hD
          have hE3 : evC ⟨3, cm0⟩ = [iA 3, .v (.string ⟨#[]⟩), iA 0, iA 0, iA 0, iA 0] := rfl
          rw [hE3] at hD
          (try simp only [k1, show eqI 3 1 = false from rfl, show eqI 3 2 = false from rfl, show eqI 3 3 = true from rfl, push_cast, simprocAttr])
          refine at_chk (by omega) ?_
          (try simp only [hmap, hrc, push_cast, simprocAttr])
          ((try simp only [push_cast, simprocAttr]); refine at_share2 (by simp [isC2, isC]) (by first | rfl | simp [ren]) (hD) (go_on ?_); (try simp only [push_cast, simprocAttr]))
          (try simp only [w3, push_cast, simprocAttr])
          refine at_fin ⟨(i + 1, a', b', l ++ [⟨3, cm0⟩], r + 1), ⟨by dsimp only; omega, h5, h6, by simp; omega, h7, by dsimp only; omega, by dsimp only; omega⟩, by dsimp only; omega, ?_⟩
          simp only [List.length_append, List.length_cons, List.length_nil]
          (refine wk_frz ?_ ?_ ?_ ?_ <;> simp [rdR, evC, leF, leHF, frzB, idsL, idsA, idsR, inH, hget, sameRow, viewN, tk, upA, hvA, dsts, dstO, setA_0, setA_1, setA_8, List.append, List.cons_append, List.nil_append])
      · have i0 : ltI (i : Int) n = false := ltI_f (by omega)
        (try simp only [i0, push_cast, simprocAttr])
        by_cases hl0 : l = []
        · subst hl0
          have hfin : evD z p 800 (.tup [ndA t, .o 1 0]) [rdR z r] [rowE []] := ⟨t, [], ht, by simp, by simp, rfl, ⟨_, rfl, by omega, by omega⟩, rfl⟩
          (try simp only [List.length_nil, show ltI 0 ((0 : Nat) : Int) = false from rfl, push_cast, simprocAttr])
          unfold rowE at hfin
          (refine at_retL ?_; simp only [Tryz.results73, retL, push_cast, simprocAttr]; simpa [show List.range 1 = [0] from rfl, show List.range 2 = [0, 1] from rfl, show List.range 3 = [0, 1, 2] from rfl, nmL, mvF, ndB, ixOf, rowsOf, hget, rdR, rowS, rowN, rowC] using  hfin)
        · have hl1 : 0 < l.length := List.length_pos_iff.2 hl0
          have i1 : ltI 0 (l.length : Int) = true := ltI_t (by omega)
          (try simp only [i1, push_cast, simprocAttr])
          (try simp only [push_cast, simprocAttr]); refine call_lend [500000] none (lr := [rdR z r]) (by simp [ndB]) (by first | rfl | simp [rowsOf, hget, rdR, rowS, rowN, rowC, sC, ndC, cmC]) (by simp [idsL, idsA]) (by simp [mvN]) (by simpa [rnA, ixOf] using pick_pcl z r 24 (hr.le (by omega)) (by omega)) ?_
          rintro rv lr' rows ⟨m24, rfl, hm24, rfl, rfl⟩
          (refine ⟨by simp [shB, mvF, rdR, rowS, rowN, rowC], by simp [frB, baseOf], go_on ?_⟩; simp only [killA, killH, killRow, push_cast, simprocAttr])
          refine at_b (fun hb => ?_) (fun hb => ?_)
          · (try simp only [hb, push_cast, simprocAttr])
            (try simp only [push_cast, simprocAttr]); refine call_lend [500000] none (lr := [rdR z (r + 1)]) (by simp [ndB]) (by first | rfl | simp [rowsOf, hget, rdR, rowS, rowN, rowC, sC, ndC, cmC]) (by simp [idsL, idsA]) (by simp [mvN]) (by simpa [rnA, ixOf] using pick_pcl z (r + 1) l.length (hr.le (by omega)) (by omega)) ?_
            rintro rv lr' rows ⟨j, rfl, hj, rfl, rfl⟩
            have hj := hj hl1
            (refine ⟨by simp [shB, mvF, rdR, rowS, rowN, rowC], by simp [frB, baseOf], go_on ?_⟩; simp only [killA, killH, killRow, push_cast, simprocAttr])
            (try simp only [push_cast, simprocAttr]); refine call_lend [500000] none (lr := [rdR z (r + 1 + 1)]) (by simp [ndB]) (by first | rfl | simp [rowsOf, hget, rdR, rowS, rowN, rowC, sC, ndC, cmC]) (by simp [idsL, idsA]) (by simp [mvN]) (by simpa [rnA, ixOf] using pick_pcl z (r + 1 + 1) 5 (hr.le (by omega)) (by omega)) ?_
            rintro rv lr' rows ⟨k5, rfl, hk5, rfl, rfl⟩
            obtain ⟨e, he⟩ := get_of_lt hj
            have i2 := ix_n he
            have i3 := map_get evC he
            simp only [evC] at i3
            have hset : (l.map evC).set j [iA k5, sA e.c.p, iA e.c.a.k, iA e.c.a.v, iA e.c.b.k, iA e.c.b.v] = (l.set j ⟨k5, e.c⟩).map evC := by rw [List.map_set]; rfl
            have hfin : evD z p 800 (.tup [ndA t, .o 1 l.length]) [rdR z (r + 1 + 1 + 1)] [rowE (l.set j ⟨k5, e.c⟩)] := ⟨t, l.set j ⟨k5, e.c⟩, ht, by simp; omega, fun x hx => by
              rcases List.mem_or_eq_of_mem_set hx with hx | rfl
              · exact q5 x hx
              · exact q5 e (List.mem_of_getElem? he), by simp, ⟨_, rfl, by omega, by omega⟩, rfl⟩
            unfold rowE at hfin
            (refine ⟨by simp [shB, mvF, rdR, rowS, rowN, rowC], by simp [frB, baseOf], go_on ?_⟩; simp only [i2, i3, hset, killA, killH, killRow, push_cast, simprocAttr])
            (refine at_retL ?_; simp only [Tryz.results73, retL, push_cast, simprocAttr]; simpa [show List.range 1 = [0] from rfl, show List.range 2 = [0, 1] from rfl, show List.range 3 = [0, 1, 2] from rfl, nmL, mvF, ndB, ixOf, rowsOf, hget, rdR, rowS, rowN, rowC] using  hfin)
          · have hfin : evD z p 800 (.tup [ndA t, .o 1 l.length]) [rdR z (r + 1)] [rowE l] := ⟨t, l, ht, by omega, q5, rfl, ⟨_, rfl, by omega, by omega⟩, rfl⟩
            unfold rowE at hfin
            (try simp only [hb, push_cast, simprocAttr])
            (refine at_retL ?_; simp only [Tryz.results73, retL, push_cast, simprocAttr]; simpa [show List.range 1 = [0] from rfl, show List.range 2 = [0, 1] from rfl, show List.range 3 = [0, 1, 2] from rfl, nmL, mvF, ndB, ixOf, rowsOf, hget, rdR, rowS, rowN, rowC] using  hfin)
def evX (rv : AV) (rows : List Row) : Prop := ∃ (t : List Nd) (l : List Ev), tV t = true ∧ l.length ≤ 25 ∧ (∀ e ∈ l, e.c.p.length ≤ 10) ∧ rv = .tup [ndA t, evsA l] ∧ rows = []
end Go.Proofs.YtdjglbedimpldaaGreatDoor
/-
  Walks: the draws of rounds (DrawRoundPlay, DrawRoundApart).
-/
namespace Go.Proofs.YtdjglbedimpldaaGreatDoor
open Go Go.RowKit Go.Proofs
theorem evX_of {P : Program} {f : FuncId} {args : List AV} (h : PC P f args fun rv rows => ∃ (t : List Nd) (l : List Ev), tV t = true ∧ l.length ≤ 25 ∧ (∀ e ∈ l, e.c.p.length ≤ 10) ∧ rv = .tup [ndA t, .o 0 l.length] ∧ rows = [rowE l]) : PC P f args evX := by
  refine h.frz ?_
  rintro rv rows ⟨t, l, h1, h2, h3, rfl, rfl⟩
  exact ⟨t, l, h1, h2, h3, by simp [viewN, hpOf, hget, rowE, isC, tk], rfl⟩
attribute [local irreducible] RWp AW run kPe pe Kt effA gd gu br retR RDp runD kPeD brW gW effD
set_option maxRecDepth 100000
theorem DrawRoundPlay_pc (z : List Int) (hz : BytesOk z) : PC Tryz.prog 25 [byA z] evX := by
  have hr : RdOk (z.take 2000) (0 + 800) := ⟨hz.tk, by rw [List.length_take]; omega, by omega⟩
  refine evX_of ?_
  refine pc_enter Tryz.func25 rfl rfl fun w0 fb => go_on ?_; (try simp only [Tryz.ntmps25, push_cast, simprocAttr])
  refine call_share (by simp [isC]) (l6Open_pc z hz) ?_
  rintro rv rows ⟨rfl, rfl⟩
  refine ⟨by simp [frB, baseOf], go_on ?_⟩
  (try simp only [push_cast, simprocAttr])
  (try simp only [push_cast, simprocAttr]); refine call_lend [6000] none (lr := [rdR (z.take 2000) 0]) (by simp [ndB]) (by first | rfl | simp [rowsOf, hget, rdR, rowS, rowN, rowC, sC, ndC, cmC]) (by simp [idsL, idsA]) (by simp [mvN]) (by simpa [rnA, ixOf] using l92Events_pcl (z.take 2000) 0 hr) ?_
  rintro rv lr' rows ⟨t, l, h1, h2, h3, rfl, ⟨v, rfl, _, _⟩, rfl⟩
  unfold rowE
  (refine ⟨by simp [shB, mvF, rdR, rowS, rowN, rowC], by simp [frB, baseOf], go_on ?_⟩; simp only [killA, killH, killRow, push_cast, simprocAttr])
  refine at_ret ?_; simp only [Tryz.results25, push_cast, simprocAttr]
  exact ⟨t, l, h1, h2, h3, rfl, rfl⟩
theorem DrawRoundApart_pc (z : List Int) (hz : BytesOk z) : PC Tryz.prog 37 [byA z] evX := by
  have hr : RdOk (z.take 2000) (0 + 800) := ⟨hz.tk, by rw [List.length_take]; omega, by omega⟩
  refine evX_of ?_
  refine pc_enter Tryz.func37 rfl rfl fun w0 fb => go_on ?_; (try simp only [Tryz.ntmps37, push_cast, simprocAttr])
  refine call_share (by simp [isC]) (l6Open_pc z hz) ?_
  rintro rv rows ⟨rfl, rfl⟩
  refine ⟨by simp [frB, baseOf], go_on ?_⟩
  (try simp only [push_cast, simprocAttr])
  (try simp only [push_cast, simprocAttr]); refine call_lend [6000] none (lr := [rdR (z.take 2000) 0]) (by simp [ndB]) (by first | rfl | simp [rowsOf, hget, rdR, rowS, rowN, rowC, sC, ndC, cmC]) (by simp [idsL, idsA]) (by simp [mvN]) (by simpa [rnA, ixOf] using l92Events_pcl (z.take 2000) 0 hr) ?_
  rintro rv lr' rows ⟨t, l, h1, h2, h3, rfl, ⟨v, rfl, _, _⟩, rfl⟩
  unfold rowE
  (refine ⟨by simp [shB, mvF, rdR, rowS, rowN, rowC], by simp [frB, baseOf], go_on ?_⟩; simp only [killA, killH, killRow, push_cast, simprocAttr])
  refine at_ret ?_; simp only [Tryz.results37, push_cast, simprocAttr]
  exact ⟨t, l, h1, h2, h3, rfl, rfl⟩
end Go.Proofs.YtdjglbedimpldaaGreatDoor
/-
  Walks: rounds: own rows read as data at a call; what rounds leave is small.
-/
namespace Go.Proofs.YtdjglbedimpldaaGreatDoor
open Go Go.RowKit Go.Proofs
theorem rPlay_sm (t : List Nd) (l : List Ev) : SmS (rPlay t l).1 ∧ SmS (rPlay t l).2.1 := by
  cases hv : rdV t l with
  | false => rw [rPlay_f hv]; exact ⟨st0_sm, st0_sm⟩
  | true =>
    have h : 0 ≤ (rPlay t l).2.2 := by
      have := rPlay_neg t l
      rw [hv] at this
      have := mt this.1 (by simp)
      omega
    obtain ⟨h1, h2, _⟩ := law_round h
    exact ⟨siteV_sm h1, siteV_sm h2⟩
theorem rDone_in {t : List Nd} {l : List Ev} {j : Int} (hj : j ∈ rDone t l) : 0 ≤ j ∧ j < l.length := by
  unfold rDone at hj
  split at hj
  · have := play_ge l 0 _ _ j hj; omega
  · cases hj
theorem rDone_len (t : List Nd) (l : List Ev) : (rDone t l).length ≤ l.length := by
  unfold rDone
  split
  · exact play_len l 0 _ _
  · simp
end Go.Proofs.YtdjglbedimpldaaGreatDoor
/-
  Walks: own rows read as data at a call; what points into them is forgotten.
-/
namespace Go.Proofs.YtdjglbedimpldaaGreatDoor
open Go Go.RowKit Go.Proofs
theorem at_callG {P : Program} {w0 : World} {lent : Lent} {Q : Exit → Act → World → Prop} {f : FuncId} {args : List AV} {dst : Option Tmp} {k : List It} {s : AS} (g : AV → AV) (h' : Hp) (h : Wk ⟨s.t ++ args, s.h⟩ ⟨(s.t ++ args).map g, h'⟩)
    (hk : RWp P w0 lent Q (.call f (args.map g) dst k ⟨s.t.map g, h'⟩)) : RWp P w0 lent Q (.call f args dst k s) := by
  intro loc a w hR vs hs hg
  have hR1 : Rel w0 lent ⟨s.t ++ args, s.h⟩ loc { a with tmps := a.tmps ++ vs } w := by
    refine ⟨by simp [hR.tsz, hs], fun i x hx => ?_, hR.df, hR.rw, hR.inj, hR.own, hR.os, hR.tape, hR.output, hR.size, hR.keep, hR.fbe, hR.fbl, hR.pn, hR.pl⟩
    have htsz := hR.tsz
    rcases Nat.lt_or_ge i s.t.length with h1 | h1
    · rw [List.getElem?_append_left h1] at hx
      have := hR.tm i x hx
      have e : (a.tmps ++ vs).getD i undef = a.tmps.getD i undef := by
        simp only [Array.getD_eq_getD_getElem?]
        rw [Array.getElem?_append_left (by omega)]
      rw [e]; exact this
    · rw [List.getElem?_append_right h1] at hx
      have := hg (i - s.t.length) x hx
      have e : (a.tmps ++ vs).getD i undef = vs.getD (i - s.t.length) undef := by
        simp only [Array.getD_eq_getD_getElem?]
        rw [Array.getElem?_append_right (by omega), htsz]
      rw [e]; exact this
  obtain ⟨loc', hR2⟩ := h w0 lent loc _ w hR1
  have ht : (s.t ++ args).map g = s.t.map g ++ args.map g := List.map_append
  have hl : (s.t.map g).length = s.t.length := List.length_map _
  have htsz := hR.tsz
  have hR3 : Rel w0 lent ⟨s.t.map g, h'⟩ loc' a w := by
    refine ⟨by simpa using htsz, fun i x hx => ?_, hR.df, hR2.rw, hR2.inj, hR2.own, hR2.os, hR2.tape, hR2.output, hR2.size, hR2.keep, hR2.fbe, hR2.fbl, hR2.pn, hR2.pl⟩
    have hi := lt_of_some hx
    dsimp only at hi
    rw [hl] at hi
    have := hR2.tm i x (by dsimp only; rw [ht, List.getElem?_append_left (by omega)]; exact hx)
    have e : (a.tmps ++ vs).getD i undef = a.tmps.getD i undef := by
      simp only [Array.getD_eq_getD_getElem?]
      rw [Array.getElem?_append_left (by omega)]
    dsimp only at this
    rw [e] at this; exact this
  refine hk loc' a w hR3 vs (by simp [hs]) fun j x hx => ?_
  have := hR2.tm (s.t.length + j) x (by dsimp only; rw [ht, List.getElem?_append_right (by omega), hl, Nat.add_sub_cancel_left]; exact hx)
  have e : (a.tmps ++ vs).getD (s.t.length + j) undef = vs.getD j undef := by
    simp only [Array.getD_eq_getD_getElem?]
    rw [Array.getElem?_append_right (by omega), htsz, Nat.add_sub_cancel_left]
  dsimp only at this
  rw [e] at this; exact this
/-- Read as data; what points into such a row is forgotten. -/
def frzT3 (ids : List Nat) (h : Hp) : AV → AV
  | .p r k o => if hasN ids r then .any else .p r k o
  | x => frzT ids h x
theorem at_callF3 {P : Program} {w0 : World} {lent : Lent} {Q : Exit → Act → World → Prop} {f : FuncId} {args : List AV} {dst : Option Tmp} {k : List It} {s : AS} (ids : List Nat) (h : Wk ⟨s.t ++ args, s.h⟩ ⟨(s.t ++ args).map (frzT3 ids s.h), frzH ids s.h (delL s.h ids)⟩)
    (hk : RWp P w0 lent Q (.call f (args.map (frzT3 ids s.h)) dst k ⟨s.t.map (frzT3 ids s.h), frzH ids s.h (delL s.h ids)⟩)) : RWp P w0 lent Q (.call f args dst k s) := at_callG _ _ h hk
end Go.Proofs.YtdjglbedimpldaaGreatDoor
/-
  Walks: impl.TreeChanged, impl.CanonDiff.
-/
namespace Go.Proofs.YtdjglbedimpldaaGreatDoor
open Go Go.RowKit Go.Proofs
def fltP (a b : List Nd) (l : List Str) : List Str := l.filter fun p => decide (getC a p ≠ getC b p)
theorem chg_eq {a b : List Nd} (ha : tV a = true) (hb : tV b = true) : chg a b = fltP a b (mrg a b) := by unfold chg fltP; rw [if_pos (by simp [ha, hb])]
theorem chg_no {a b : List Nd} (h : (tV a && tV b) = false) : chg a b = [] := by unfold chg; rw [if_neg (by simp [h])]
theorem fltP_y {a b : List Nd} {p : Str} (l : List Str) (h : getC a p ≠ getC b p) : fltP a b (p :: l) = p :: fltP a b l := by unfold fltP; rw [List.filter_cons, if_pos (by simpa using h)]
theorem fltP_n {a b : List Nd} {p : Str} (l : List Str) (h : getC a p = getC b p) : fltP a b (p :: l) = fltP a b l := by unfold fltP; rw [List.filter_cons, if_neg (by simpa using h)]
theorem mrg_lt {x y : Nd} {a b : List Nd} (h : slt x.p y.p = true) : mrg (x :: a) (y :: b) = x.p :: mrg a (y :: b) := by rw [mrg, if_pos h]
theorem mrg_gt {x y : Nd} {a b : List Nd} (h1 : slt x.p y.p = false) (h : slt y.p x.p = true) : mrg (x :: a) (y :: b) = y.p :: mrg (x :: a) b := by rw [mrg, if_neg (by simp [h1]), if_pos h]
theorem mrg_same {x y : Nd} {a b : List Nd} (h1 : slt x.p y.p = false) (h : slt y.p x.p = false) : mrg (x :: a) (y :: b) = x.p :: mrg a b := by rw [mrg, if_neg (by simp [h1]), if_neg (by simp [h])]
theorem mrg_l (x : Nd) (a : List Nd) : mrg (x :: a) [] = x.p :: mrg a [] := by cases a <;> simp [mrg]
theorem mrg_r (y : Nd) (b : List Nd) : mrg [] (y :: b) = y.p :: mrg [] b := by simp [mrg]
def mksC (ms : List Nat) : List Oper → Nat → Bool
  | [], i => decide (ms.length = i)
  | o :: l, i => (match ms[i]? with
    | some m => m == mk1 (ms.take i) o.after.toList
    | none => false) && mksC ms l (i + 1)
theorem mksC_ok (ms : List Nat) : ∀ (l : List Oper) (i : Nat), mksC ms l i = true → mks l (ms.take i) = ms
  | [], i, h => by
    simp only [mksC, decide_eq_true_eq] at h
    simp [mks, ← h]
  | o :: l, i, h => by
    simp only [mksC, Bool.and_eq_true] at h
    obtain ⟨h1, h2⟩ := h
    split at h1
    · rename_i m hm
      have e : m = mk1 (ms.take i) o.after.toList := by simpa using h1
      have := mksC_ok ms l (i + 1) h2
      rw [List.take_add_one, hm] at this
      simp only [mks, ← e]
      exact this
    · cases h1
/-- The end of a long drawn region whose operations write nothing: its masks told. -/
theorem at_done_q {P : Program} {w0 : World} {lent : Lent} {Q : Exit → Act → World → Prop} {ops : List Oper} {k : List It} {s s' : AS} {evs : List E} (ms : List Nat) (h0 : mksC ms ops 0 = true) (h1 : evs.all plB = true)
    (h2 : prP (evs.map fun e => (e.d, e.rd)) ms (evs.map fun e => (e.d, e.rd)) 0 = true) (h : AW P w0 lent Q k s') : RDp P (KD P w0 lent Q ops k s) (.done evs s') :=
  at_done_p h1 (by have := mksC_ok ms ops 0 h0; rw [List.take_zero] at this; rw [this]; exact h2) h
attribute [local irreducible] RWp AW run kPe pe Kt effA gd gu br retR RDp runD kPeD brW gW effD
set_option maxRecDepth 100000
set_option maxHeartbeats 4000000
theorem TreeChanged_pc (a b : List Nd) (ha : SmT a) (hb : SmT b) : PC Tryz.prog 40 [ndA a, ndA b] (rX (.o 0 (chg a b).length) [rowS (chg a b)]) := by
  refine pc_enter Tryz.func40 rfl rfl fun w0 fb => go_on ?_; (try simp only [Tryz.ntmps40, push_cast, simprocAttr])
  refine at_call ?_
  (try simp only [push_cast, simprocAttr])
  refine rwc_v (TreeValid_pc a ha) ?_
  (try simp only [push_cast, simprocAttr])
  (refine at_dropS [4] (by refine wk_ok ?_ ?_ ?_ ?_ <;> simp [dropS, dropT, hasN, delL, hdel, leL, leH, idsL, idsA, idsR, inH, hget, sameRow]) ?_; simp only [dropS, dropT, hasN, delL, hdel, idsA, idsL, hget, List.map_cons, List.map_nil, List.all_cons, List.all_nil, List.append_nil, Bool.not_false, Bool.not_true, Bool.and_true, if_true, if_false, simprocAttr])
  refine go_on ?_
  (try simp only [push_cast, simprocAttr])
  cases hva : tV a with
  | false =>
    have e := chg_no (a := a) (b := b) (by simp [hva])
    (try simp only [hva, Bool.not_false, push_cast, simprocAttr])
    refine at_ret ?_; simp only [Tryz.results40, push_cast, simprocAttr]
    simp [rX, e, ixOf, rowS]
  | true =>
  (try simp only [hva, Bool.not_true, push_cast, simprocAttr])
  (refine at_call ?_; (try simp only [push_cast, simprocAttr]); refine rwc_v (TreeValid_pc b hb) (go_on ?_); (try simp only [push_cast, simprocAttr]))
  cases hvb : tV b with
  | false =>
    have e := chg_no (a := a) (b := b) (by simp [hvb])
    (try simp only [hvb, Bool.not_false, push_cast, simprocAttr])
    refine at_ret ?_; simp only [Tryz.results40, push_cast, simprocAttr]
    simp [rX, e, ixOf, rowS]
  | true =>
  have hla := ((tV_iff a).1 hva).le
  have hlb := ((tV_iff b).1 hvb).le
  have hE := chg_eq hva hvb
  (try simp only [hvb, Bool.not_true, push_cast, simprocAttr])
  refine at_loop (X := Nat × Nat × List Str) (fun x => [(5, .o 5 x.2.2.length), (6, iA x.1), (7, iA x.2.1)]) (fun x => [(5, rowS x.2.2)])
    (fun x => x.1 ≤ a.length ∧ x.2.1 ≤ b.length ∧ x.2.2.length ≤ x.1 + x.2.1 ∧ chg a b = x.2.2 ++ fltP a b (mrg (a.drop x.1) (b.drop x.2.1))) (fun x => a.length + b.length - (x.1 + x.2.1)) (0, 0, []) ⟨Nat.zero_le _, Nat.zero_le _, by simp, hE⟩ ?_ ?_
  · (refine wk_ok ?_ ?_ ?_ ?_ <;> simp [rowS, leL, leH, idsL, idsA, idsR, inH, hget, sameRow, upA, hvA, dsts, dstO, setA_0, setA_1, setA_8, List.append, List.cons_append, List.nil_append])
  · rintro ⟨i, k, o⟩ ⟨q1, q2, q3, q4⟩
    simp only at q1 q2 q3 q4
    simp only [upA, hvA, dsts, dstO, setA_0, setA_1, setA_8, List.append, List.cons_append, List.nil_append]
    refine go_on ?_
    (try simp only [push_cast, simprocAttr])
    have w1 : IntKind.i64.wrap ((i : Int) + 1) = (i : Int) + 1 := wr _ (by omega)
    have w2 : IntKind.i64.wrap ((k : Int) + 1) = (k : Int) + 1 := wr _ (by omega)
    by_cases hi : i < a.length
    · obtain ⟨x, hx⟩ := get_of_lt hi
      have i0 : ltI (i : Int) a.length = true := ltI_t (by omega)
      have i3 : eqI (i : Int) a.length = false := eqI_f (by omega)
      have i1 := ix_n hx
      have i2 := map_get ndC hx
      simp only [ndC] at i2
      have hda := drop_of_get hx
      by_cases hk : k < b.length
      · obtain ⟨y, hy⟩ := get_of_lt hk
        have k0 : ltI (k : Int) b.length = true := ltI_t (by omega)
        have k3 : eqI (k : Int) b.length = false := eqI_f (by omega)
        have k1 := ix_n hy
        have k2 := map_get ndC hy
        simp only [ndC] at k2
        have hdb := drop_of_get hy
        (try simp only [i0, push_cast, simprocAttr])
        cases h1 : slt x.p y.p with
        | true =>
          refine at_draw rfl (by kernel_rfl) ?_
          (try simp only [push_cast, simprocAttr])
          (try simp only [k3, push_cast, simprocAttr])
          (try simp only [i0, push_cast, simprocAttr])
          (try simp only [i1, i2, push_cast, simprocAttr])
          (try simp only [k1, k2, push_cast, simprocAttr])
          (try simp only [i1, i2, push_cast, simprocAttr])
          (try simp only [h1, push_cast, simprocAttr])
          refine at_done_q [0, 0, 2, 7, 15, 31, 31, 95, 255, 511, 1023, 1023, 4095, 8191, 16383, 1023, 1023, 99327, 230399, 492543, 1048575, 2097151, 4194303, 8388607] (by kernel_rfl) (by kernel_rfl) (by simp only [List.map_cons, List.map_nil]; kernel_rfl) (go_on ?_)
          as_aux_lemma =>
            (try simp only [i0, k0, i1, i2, w1, h1, push_cast, simprocAttr])
            (refine at_call ?_; (try simp only [push_cast, simprocAttr]); refine rwc_d (get_pc a (by omega) x.p) (by simp [flatV, flatL, ctC, ndC, cmC]) (by simp [ren, ctC, ndC, cmC]) (go_on ?_); (try simp only [push_cast, simprocAttr]))
            (refine at_call ?_; (try simp only [push_cast, simprocAttr]); refine rwc_d (get_pc b (by omega) x.p) (by simp [flatV, flatL, ctC, ndC, cmC]) (by simp [ren, ctC, ndC, cmC]) (go_on ?_); (try simp only [push_cast, simprocAttr]))
            have e : (eqI (getC a x.p).k (getC b x.p).k && eqI (getC a x.p).v (getC b x.p).v) = decide (getC a x.p = getC b x.p) := ct_eq _ _
            (try simp only [ctg, cth, e, push_cast, simprocAttr])
            refine at_b (fun hn => ?_) (fun hn => ?_)
            · have hne : getC a x.p ≠ getC b x.p := by simpa using hn
              have happ : o.map sC ++ [[sA x.p]] = (o ++ [x.p]).map sC := by rw [List.map_append]; rfl
              (try simp only [hn, rowS, push_cast, simprocAttr])
              refine at_chk (by omega) ?_
              (try simp only [happ, rowS, push_cast, simprocAttr])
              refine at_fin ⟨(i + 1, k, o ++ [x.p]), ⟨by dsimp only; omega, by dsimp only; omega, by simp; omega, ?_⟩, by dsimp only; omega, ?_⟩
              · dsimp only
                rw [q4, hda, hdb, mrg_lt h1, ← hdb, fltP_y _ hne]
                simp
              · (refine wk_ok ?_ ?_ ?_ ?_ <;> simp [rowS, sC, leL, leH, idsL, idsA, idsR, inH, hget, sameRow, upA, hvA, dsts, dstO, setA_0, setA_1, setA_8, List.append, List.cons_append, List.nil_append])
            · have hne : getC a x.p = getC b x.p := by simpa using hn
              (try simp only [hn, push_cast, simprocAttr])
              refine at_fin ⟨(i + 1, k, o), ⟨by dsimp only; omega, by dsimp only; omega, by dsimp only; omega, ?_⟩, by dsimp only; omega, ?_⟩
              · dsimp only
                rw [q4, hda, hdb, mrg_lt h1, ← hdb, fltP_n _ hne]
              · (refine wk_ok ?_ ?_ ?_ ?_ <;> simp [rowS, leL, leH, idsL, idsA, idsR, inH, hget, sameRow, upA, hvA, dsts, dstO, setA_0, setA_1, setA_8, List.append, List.cons_append, List.nil_append])
        | false =>
          refine at_draw rfl (by kernel_rfl) ?_
          (try simp only [push_cast, simprocAttr])
          (try simp only [k3, push_cast, simprocAttr])
          (try simp only [i0, push_cast, simprocAttr])
          (try simp only [i1, i2, push_cast, simprocAttr])
          (try simp only [k1, k2, push_cast, simprocAttr])
          (try simp only [i1, i2, push_cast, simprocAttr])
          (try simp only [h1, push_cast, simprocAttr])
          refine at_done_q [0, 0, 2, 7, 15, 31, 31, 95, 255, 511, 1023, 1023, 4095, 8191, 16383, 1023, 1023, 99327, 230399, 492543, 1048575, 2097151, 4194303, 8388607] (by kernel_rfl) (by kernel_rfl) (by simp only [List.map_cons, List.map_nil]; kernel_rfl) (go_on ?_)
          as_aux_lemma =>
            (try simp only [h1, push_cast, simprocAttr])
            cases h2 : slt y.p x.p with
            | true =>
              refine at_draw rfl (by kernel_rfl) ?_
              (try simp only [push_cast, simprocAttr])
              (try simp only [i3, push_cast, simprocAttr])
              (try simp only [i1, i2, push_cast, simprocAttr])
              (try simp only [k1, k2, push_cast, simprocAttr])
              (try simp only [i1, i2, push_cast, simprocAttr])
              (try simp only [h2, push_cast, simprocAttr])
              refine at_done_q [0, 0, 2, 7, 15, 31, 31, 127, 255, 511, 31, 31, 3103, 7199, 15391, 32767, 65535, 131071] (by kernel_rfl) (by kernel_rfl) (by simp only [List.map_cons, List.map_nil]; kernel_rfl) (go_on ?_)
              as_aux_lemma =>
                (try simp only [k1, k2, w2, h2, push_cast, simprocAttr])
                (refine at_call ?_; (try simp only [push_cast, simprocAttr]); refine rwc_d (get_pc a (by omega) y.p) (by simp [flatV, flatL, ctC, ndC, cmC]) (by simp [ren, ctC, ndC, cmC]) (go_on ?_); (try simp only [push_cast, simprocAttr]))
                (refine at_call ?_; (try simp only [push_cast, simprocAttr]); refine rwc_d (get_pc b (by omega) y.p) (by simp [flatV, flatL, ctC, ndC, cmC]) (by simp [ren, ctC, ndC, cmC]) (go_on ?_); (try simp only [push_cast, simprocAttr]))
                have e : (eqI (getC a y.p).k (getC b y.p).k && eqI (getC a y.p).v (getC b y.p).v) = decide (getC a y.p = getC b y.p) := ct_eq _ _
                (try simp only [ctg, cth, e, push_cast, simprocAttr])
                refine at_b (fun hn => ?_) (fun hn => ?_)
                · have hne : getC a y.p ≠ getC b y.p := by simpa using hn
                  have happ : o.map sC ++ [[sA y.p]] = (o ++ [y.p]).map sC := by rw [List.map_append]; rfl
                  (try simp only [hn, rowS, push_cast, simprocAttr])
                  refine at_chk (by omega) ?_
                  (try simp only [happ, rowS, push_cast, simprocAttr])
                  refine at_fin ⟨(i, k + 1, o ++ [y.p]), ⟨by dsimp only; omega, by dsimp only; omega, by simp; omega, ?_⟩, by dsimp only; omega, ?_⟩
                  · dsimp only
                    rw [q4, hda, hdb, mrg_gt h1 h2, ← hda, fltP_y _ hne]
                    simp
                  · (refine wk_ok ?_ ?_ ?_ ?_ <;> simp [rowS, sC, leL, leH, idsL, idsA, idsR, inH, hget, sameRow, upA, hvA, dsts, dstO, setA_0, setA_1, setA_8, List.append, List.cons_append, List.nil_append])
                · have hne : getC a y.p = getC b y.p := by simpa using hn
                  (try simp only [hn, push_cast, simprocAttr])
                  refine at_fin ⟨(i, k + 1, o), ⟨by dsimp only; omega, by dsimp only; omega, by dsimp only; omega, ?_⟩, by dsimp only; omega, ?_⟩
                  · dsimp only
                    rw [q4, hda, hdb, mrg_gt h1 h2, ← hda, fltP_n _ hne]
                  · (refine wk_ok ?_ ?_ ?_ ?_ <;> simp [rowS, leL, leH, idsL, idsA, idsR, inH, hget, sameRow, upA, hvA, dsts, dstO, setA_0, setA_1, setA_8, List.append, List.cons_append, List.nil_append])
            | false =>
              refine at_draw rfl (by kernel_rfl) ?_
              (try simp only [push_cast, simprocAttr])
              (try simp only [i3, push_cast, simprocAttr])
              (try simp only [i1, i2, push_cast, simprocAttr])
              (try simp only [k1, k2, push_cast, simprocAttr])
              (try simp only [i1, i2, push_cast, simprocAttr])
              (try simp only [h2, push_cast, simprocAttr])
              refine at_done_q [0, 0, 2, 7, 15, 31, 31, 127, 255, 511, 31, 31, 3103, 7199, 15391, 32767, 65535, 131071] (by kernel_rfl) (by kernel_rfl) (by simp only [List.map_cons, List.map_nil]; kernel_rfl) (go_on ?_)
              as_aux_lemma =>
                (try simp only [h2, push_cast, simprocAttr])
                (try simp only [i1, push_cast, simprocAttr])
                simp -implicitDefEqProofs only [i2, push_cast, simprocAttr]
                (try simp only [w1, w2, push_cast, simprocAttr])
                (refine at_call ?_; (try simp only [push_cast, simprocAttr]); refine rwc_d (get_pc a (by omega) x.p) (by simp [flatV, flatL, ctC, ndC, cmC]) (by simp [ren, ctC, ndC, cmC]) (go_on ?_); (try simp only [push_cast, simprocAttr]))
                (refine at_call ?_; (try simp only [push_cast, simprocAttr]); refine rwc_d (get_pc b (by omega) x.p) (by simp [flatV, flatL, ctC, ndC, cmC]) (by simp [ren, ctC, ndC, cmC]) (go_on ?_); (try simp only [push_cast, simprocAttr]))
                have e : (eqI (getC a x.p).k (getC b x.p).k && eqI (getC a x.p).v (getC b x.p).v) = decide (getC a x.p = getC b x.p) := ct_eq _ _
                (try simp only [ctg, cth, e, push_cast, simprocAttr])
                refine at_b (fun hn => ?_) (fun hn => ?_)
                · have hne : getC a x.p ≠ getC b x.p := by simpa using hn
                  have happ : o.map sC ++ [[sA x.p]] = (o ++ [x.p]).map sC := by rw [List.map_append]; rfl
                  (try simp only [hn, rowS, push_cast, simprocAttr])
                  refine at_chk (by omega) ?_
                  (try simp only [happ, rowS, push_cast, simprocAttr])
                  refine at_fin ⟨(i + 1, k + 1, o ++ [x.p]), ⟨by dsimp only; omega, by dsimp only; omega, by simp; omega, ?_⟩, by dsimp only; omega, ?_⟩
                  · dsimp only
                    rw [q4, hda, hdb, mrg_same h1 h2, fltP_y _ hne]
                    simp
                  · (refine wk_ok ?_ ?_ ?_ ?_ <;> simp [rowS, sC, leL, leH, idsL, idsA, idsR, inH, hget, sameRow, upA, hvA, dsts, dstO, setA_0, setA_1, setA_8, List.append, List.cons_append, List.nil_append])
                · have hne : getC a x.p = getC b x.p := by simpa using hn
                  (try simp only [hn, push_cast, simprocAttr])
                  refine at_fin ⟨(i + 1, k + 1, o), ⟨by dsimp only; omega, by dsimp only; omega, by dsimp only; omega, ?_⟩, by dsimp only; omega, ?_⟩
                  · dsimp only
                    rw [q4, hda, hdb, mrg_same h1 h2, fltP_n _ hne]
                  · (refine wk_ok ?_ ?_ ?_ ?_ <;> simp [rowS, leL, leH, idsL, idsA, idsR, inH, hget, sameRow, upA, hvA, dsts, dstO, setA_0, setA_1, setA_8, List.append, List.cons_append, List.nil_append])
      · have k3 : eqI (k : Int) b.length = true := eqI_t (by omega)
        have hdb : b.drop k = [] := List.drop_of_length_le (by omega)
        (try simp only [i0, push_cast, simprocAttr])
        refine at_draw rfl (by kernel_rfl) ?_
        (try simp only [push_cast, simprocAttr])
        (try simp only [k3, push_cast, simprocAttr])
        refine at_done_q [0, 0, 2, 7, 15, 31, 31, 95, 255, 511, 1023, 1023, 4095, 8191, 16383, 1023, 1023, 99327, 230399, 492543, 1048575, 2097151, 4194303, 8388607] (by kernel_rfl) (by kernel_rfl) (by simp only [List.map_cons, List.map_nil]; kernel_rfl) (go_on ?_)
        as_aux_lemma =>
          (try simp only [i1, i2, w1, push_cast, simprocAttr])
          (refine at_call ?_; (try simp only [push_cast, simprocAttr]); refine rwc_d (get_pc a (by omega) x.p) (by simp [flatV, flatL, ctC, ndC, cmC]) (by simp [ren, ctC, ndC, cmC]) (go_on ?_); (try simp only [push_cast, simprocAttr]))
          (refine at_call ?_; (try simp only [push_cast, simprocAttr]); refine rwc_d (get_pc b (by omega) x.p) (by simp [flatV, flatL, ctC, ndC, cmC]) (by simp [ren, ctC, ndC, cmC]) (go_on ?_); (try simp only [push_cast, simprocAttr]))
          have e : (eqI (getC a x.p).k (getC b x.p).k && eqI (getC a x.p).v (getC b x.p).v) = decide (getC a x.p = getC b x.p) := ct_eq _ _
          (try simp only [ctg, cth, e, push_cast, simprocAttr])
          refine at_b (fun hn => ?_) (fun hn => ?_)
          · have hne : getC a x.p ≠ getC b x.p := by simpa using hn
            have happ : o.map sC ++ [[sA x.p]] = (o ++ [x.p]).map sC := by rw [List.map_append]; rfl
            (try simp only [hn, rowS, push_cast, simprocAttr])
            refine at_chk (by omega) ?_
            (try simp only [happ, rowS, push_cast, simprocAttr])
            refine at_fin ⟨(i + 1, k, o ++ [x.p]), ⟨by dsimp only; omega, by dsimp only; omega, by simp; omega, ?_⟩, by dsimp only; omega, ?_⟩
            · dsimp only
              rw [q4, hda, hdb, mrg_l, fltP_y _ hne]
              simp
            · (refine wk_ok ?_ ?_ ?_ ?_ <;> simp [rowS, sC, leL, leH, idsL, idsA, idsR, inH, hget, sameRow, upA, hvA, dsts, dstO, setA_0, setA_1, setA_8, List.append, List.cons_append, List.nil_append])
          · have hne : getC a x.p = getC b x.p := by simpa using hn
            (try simp only [hn, push_cast, simprocAttr])
            refine at_fin ⟨(i + 1, k, o), ⟨by dsimp only; omega, by dsimp only; omega, by dsimp only; omega, ?_⟩, by dsimp only; omega, ?_⟩
            · dsimp only
              rw [q4, hda, hdb, mrg_l, fltP_n _ hne]
            · (refine wk_ok ?_ ?_ ?_ ?_ <;> simp [rowS, leL, leH, idsL, idsA, idsR, inH, hget, sameRow, upA, hvA, dsts, dstO, setA_0, setA_1, setA_8, List.append, List.cons_append, List.nil_append])
    · have i0 : ltI (i : Int) a.length = false := ltI_f (by omega)
      have i3 : eqI (i : Int) a.length = true := eqI_t (by omega)
      have hda : a.drop i = [] := List.drop_of_length_le (by omega)
      by_cases hk : k < b.length
      · obtain ⟨y, hy⟩ := get_of_lt hk
        have k0 : ltI (k : Int) b.length = true := ltI_t (by omega)
        have k3 : eqI (k : Int) b.length = false := eqI_f (by omega)
        have k1 := ix_n hy
        have k2 := map_get ndC hy
        simp only [ndC] at k2
        have hdb := drop_of_get hy
        (try simp only [i0, k0, push_cast, simprocAttr])
        refine at_draw rfl (by kernel_rfl) ?_
        (try simp only [push_cast, simprocAttr])
        (try simp only [k3, push_cast, simprocAttr])
        (try simp only [i0, push_cast, simprocAttr])
        refine at_done_q [0, 0, 2, 7, 15, 31, 31, 95, 255, 511, 1023, 1023, 4095, 8191, 16383, 1023, 1023, 99327, 230399, 492543, 1048575, 2097151, 4194303, 8388607] (by kernel_rfl) (by kernel_rfl) (by simp only [List.map_cons, List.map_nil]; kernel_rfl) (go_on ?_)
        as_aux_lemma =>
          (try simp only [push_cast, simprocAttr])
          refine at_draw rfl (by kernel_rfl) ?_
          (try simp only [push_cast, simprocAttr])
          (try simp only [i3, push_cast, simprocAttr])
          refine at_done_q [0, 0, 2, 7, 15, 31, 31, 127, 255, 511, 31, 31, 3103, 7199, 15391, 32767, 65535, 131071] (by kernel_rfl) (by kernel_rfl) (by simp only [List.map_cons, List.map_nil]; kernel_rfl) (go_on ?_)
          as_aux_lemma =>
            (try simp only [k1, k2, w2, push_cast, simprocAttr])
            (refine at_call ?_; (try simp only [push_cast, simprocAttr]); refine rwc_d (get_pc a (by omega) y.p) (by simp [flatV, flatL, ctC, ndC, cmC]) (by simp [ren, ctC, ndC, cmC]) (go_on ?_); (try simp only [push_cast, simprocAttr]))
            (refine at_call ?_; (try simp only [push_cast, simprocAttr]); refine rwc_d (get_pc b (by omega) y.p) (by simp [flatV, flatL, ctC, ndC, cmC]) (by simp [ren, ctC, ndC, cmC]) (go_on ?_); (try simp only [push_cast, simprocAttr]))
            have e : (eqI (getC a y.p).k (getC b y.p).k && eqI (getC a y.p).v (getC b y.p).v) = decide (getC a y.p = getC b y.p) := ct_eq _ _
            (try simp only [ctg, cth, e, push_cast, simprocAttr])
            refine at_b (fun hn => ?_) (fun hn => ?_)
            · have hne : getC a y.p ≠ getC b y.p := by simpa using hn
              have happ : o.map sC ++ [[sA y.p]] = (o ++ [y.p]).map sC := by rw [List.map_append]; rfl
              (try simp only [hn, rowS, push_cast, simprocAttr])
              refine at_chk (by omega) ?_
              (try simp only [happ, rowS, push_cast, simprocAttr])
              refine at_fin ⟨(i, k + 1, o ++ [y.p]), ⟨by dsimp only; omega, by dsimp only; omega, by simp; omega, ?_⟩, by dsimp only; omega, ?_⟩
              · dsimp only
                rw [q4, hda, hdb, mrg_r, fltP_y _ hne]
                simp
              · (refine wk_ok ?_ ?_ ?_ ?_ <;> simp [rowS, sC, leL, leH, idsL, idsA, idsR, inH, hget, sameRow, upA, hvA, dsts, dstO, setA_0, setA_1, setA_8, List.append, List.cons_append, List.nil_append])
            · have hne : getC a y.p = getC b y.p := by simpa using hn
              (try simp only [hn, push_cast, simprocAttr])
              refine at_fin ⟨(i, k + 1, o), ⟨by dsimp only; omega, by dsimp only; omega, by dsimp only; omega, ?_⟩, by dsimp only; omega, ?_⟩
              · dsimp only
                rw [q4, hda, hdb, mrg_r, fltP_n _ hne]
              · (refine wk_ok ?_ ?_ ?_ ?_ <;> simp [rowS, leL, leH, idsL, idsA, idsR, inH, hget, sameRow, upA, hvA, dsts, dstO, setA_0, setA_1, setA_8, List.append, List.cons_append, List.nil_append])
      · have k0 : ltI (k : Int) b.length = false := ltI_f (by omega)
        have hdb : b.drop k = [] := List.drop_of_length_le (by omega)
        have e : chg a b = o := by rw [q4, hda, hdb]; simp [mrg, fltP]
        (try simp only [i0, k0, push_cast, simprocAttr])
        refine at_ret ?_; simp only [Tryz.results40, push_cast, simprocAttr]
        simp [rX, e, ixOf, rowS]
end Go.Proofs.YtdjglbedimpldaaGreatDoor
/-
  Walks: impl.RoundApart, read as data.
-/
namespace Go.Proofs.YtdjglbedimpldaaGreatDoor
open Go Go.RowKit Go.Proofs
theorem rApart_t {t : List Nd} {l : List Ev} (h : rdV t l = true) : rApart t l = chg (siteT (pl t l).1) (siteT (pl t l).2.1) := by simp [rApart, h, pl]
theorem rApart_f {t : List Nd} {l : List Ev} (h : rdV t l = false) : rApart t l = [] := by simp [rApart, h]
theorem TreeChanged_d (a b : List Nd) (ha : SmT a) (hb : SmT b) : PC Tryz.prog 40 [ndA a, ndA b] (vX (.sl 1 ((chg a b).map sC))) := by
  have := (TreeChanged_pc a b ha hb).frzX
  simpa [viewN, hpOf, hget, isC, tk, rowS] using this
attribute [local irreducible] RWp AW run kPe pe Kt effA gd gu br retR RDp runD kPeD brW gW effD
set_option maxRecDepth 100000
theorem RoundApart_0 (t : List Nd) (ht : SmT2 t) (l : List Ev) (hl : SmE l) (h : rdV t l = false) : PC Tryz.prog 31 [ndA t, evsA l] (vX (.sl 1 [])) := by
  have hV := roundValid_pc t ht.s l hl
  rw [h] at hV
  refine PC.toF ?_
  refine pc_enter Tryz.func31 rfl rfl fun w0 fb => go_on ?_; (try simp only [Tryz.ntmps31, push_cast, simprocAttr])
  refine at_call ?_
  (try simp only [push_cast, simprocAttr])
  refine rwc_v hV ?_
  (try simp only [push_cast, simprocAttr])
  (refine at_dropS [4] (by refine wk_ok ?_ ?_ ?_ ?_ <;> simp [dropS, dropT, hasN, delL, hdel, leL, leH, idsL, idsA, idsR, inH, hget, sameRow]) ?_; simp only [dropS, dropT, hasN, delL, hdel, idsA, idsL, hget, List.map_cons, List.map_nil, List.all_cons, List.all_nil, List.append_nil, Bool.not_false, Bool.not_true, Bool.and_true, if_true, if_false, simprocAttr])
  refine go_on ?_
  (try simp only [Bool.not_false, push_cast, simprocAttr])
  refine at_ret ?_; simp only [Tryz.results31, push_cast, simprocAttr]
  simp [vF, viewN, isC, hpOf, hget, tk, ixOf]
theorem RoundApart_1 (t : List Nd) (ht : SmT2 t) (l : List Ev) (hl : SmE l) (h : rdV t l = true) : PC Tryz.prog 31 [ndA t, evsA l] (vX (.sl 1 ((rApart t l).map sC))) := by
  have hV := roundValid_pc t ht.s l hl
  have hP := play_d t ht l hl
  have hsm := rPlay_sm t l
  rw [rPlay_t h] at hsm
  have hA := SiteTree_d (pl t l).1 hsm.1
  have hB := SiteTree_d (pl t l).2.1 hsm.2
  have hC := TreeChanged_d (siteT (pl t l).1) (siteT (pl t l).2.1) (siteT_sm hsm.1).s (siteT_sm hsm.2).s
  rw [rApart_t h]
  rw [h] at hV
  unfold stA' stC at *
  refine pc_enter Tryz.func31 rfl rfl fun w0 fb => go_on ?_; (try simp only [Tryz.ntmps31, push_cast, simprocAttr])
  (refine at_call ?_; (try simp only [push_cast, simprocAttr]); refine rwc_v (hV) (go_on ?_); (try simp only [push_cast, simprocAttr]))
  (try simp only [Bool.not_true, push_cast, simprocAttr])
  ((try simp only [push_cast, simprocAttr]); refine at_share2 (by simp [isC2, isC]) (by first | rfl | simp [ren]) (hP) (go_on ?_); (try simp only [push_cast, simprocAttr]))
  refine at_draw rfl (by kernel_rfl) ?_; simp only [push_cast, simprocAttr]
  (refine at_shareD (by simp [isC2, isC]) (by first | rfl | simp [ren]) hA ?_; (try simp only [push_cast, simprocAttr]))
  (refine at_shareD (by simp [isC2, isC]) (by first | rfl | simp [ren]) hB ?_; (try simp only [push_cast, simprocAttr]))
  (refine at_shareD (by simp [isC2, isC]) (by first | rfl | simp [ren]) hC ?_; (try simp only [push_cast, simprocAttr]))
  refine at_done (by kernel_rfl) (by kernel_rfl) (go_on ?_)
  (try simp only [push_cast, simprocAttr])
  refine at_ret ?_; simp only [Tryz.results31, push_cast, simprocAttr]
  simp [vX]
theorem RoundApart_d (t : List Nd) (ht : SmT2 t) (l : List Ev) (hl : SmE l) : PC Tryz.prog 31 [ndA t, evsA l] (vX (.sl 1 ((rApart t l).map sC))) := by
  cases h : rdV t l with
  | false => rw [rApart_f h]; exact RoundApart_0 t ht l hl h
  | true => exact RoundApart_1 t ht l hl h
end Go.Proofs.YtdjglbedimpldaaGreatDoor
/-
  Walks: spec.TreeChanged, laws.sameTexts.
-/
namespace Go.Proofs.YtdjglbedimpldaaGreatDoor
open Go Go.RowKit Go.Proofs
attribute [local irreducible] RWp AW run kPe pe Kt effA gd gu br retR RDp runD kPeD brW gW effD
set_option maxRecDepth 100000
set_option maxHeartbeats 4000000 in
theorem l5Paths_pc (a b : List Nd) (ha : a.length < 4294967280) (hb : b.length < 4294967280) : PC Tryz.prog 131 [ndA a, ndA b] (rX (.o 0 (mrg a b).length) [rowS (mrg a b)]) := by
  refine pc_enter Tryz.func131 rfl rfl fun w0 fb => go_on ?_; (try simp only [Tryz.ntmps131, push_cast, simprocAttr])
  refine at_loop (X := Nat × Nat × List Str) (fun x => [(5, .o 8 x.2.2.length), (6, iA x.1), (7, iA x.2.1), (8, .any)]) (fun x => [(4, ⟨9, 1, [], true⟩), (8, ⟨9, 1, x.2.2.map sC, true⟩)])
    (fun x => x.1 ≤ a.length ∧ x.2.1 ≤ b.length ∧ x.2.2.length ≤ x.1 + x.2.1 ∧ mrg a b = x.2.2 ++ mrg (a.drop x.1) (b.drop x.2.1)) (fun x => a.length + b.length - (x.1 + x.2.1)) (0, 0, []) ⟨Nat.zero_le _, Nat.zero_le _, by simp, by simp⟩ ?_ ?_
  · (refine wk_ok ?_ ?_ ?_ ?_ <;> simp [leL, leH, idsL, idsA, idsR, inH, hget, sameRow, upA, hvA, dsts, dstO, setA_0, setA_1, setA_8, List.append, List.cons_append, List.nil_append])
  · rintro ⟨i, k, o⟩ ⟨q1, q2, q3, q4⟩
    simp only at q1 q2 q3 q4
    simp only [upA, hvA, dsts, dstO, setA_0, setA_1, setA_8, List.append, List.cons_append, List.nil_append]
    refine go_on ?_
    (try simp only [push_cast, simprocAttr])
    have w1 : IntKind.i64.wrap ((i : Int) + 1) = (i : Int) + 1 := wr _ (by omega)
    have w2 : IntKind.i64.wrap ((k : Int) + 1) = (k : Int) + 1 := wr _ (by omega)
    by_cases hi : i < a.length
    · obtain ⟨x, hx⟩ := get_of_lt hi
      have i0 : ltI (i : Int) a.length = true := ltI_t (by omega)
      have i3 : eqI (i : Int) a.length = false := eqI_f (by omega)
      have i1 := ix_n hx
      have i2 := map_get ndC hx
      simp only [ndC] at i2
      have hda := drop_of_get hx
      by_cases hk : k < b.length
      · obtain ⟨y, hy⟩ := get_of_lt hk
        have k0 : ltI (k : Int) b.length = true := ltI_t (by omega)
        have k3 : eqI (k : Int) b.length = false := eqI_f (by omega)
        have k1 := ix_n hy
        have k2 := map_get ndC hy
        simp only [ndC] at k2
        have hdb := drop_of_get hy
        (try simp only [i0, push_cast, simprocAttr])
        cases h1 : slt x.p y.p with
        | true =>
          refine at_draw rfl (by kernel_rfl) ?_
          (try simp only [push_cast, simprocAttr])
          (try simp only [k3, push_cast, simprocAttr])
          (try simp only [i0, push_cast, simprocAttr])
          (try simp only [i1, i2, push_cast, simprocAttr])
          (try simp only [k1, k2, push_cast, simprocAttr])
          (try simp only [h1, push_cast, simprocAttr])
          refine at_done_q [0, 0, 2, 7, 15, 31, 31, 95, 255, 511, 1023, 1023, 4095, 8191, 16383, 1023, 1023, 99327, 230399, 492543, 1048575, 2097151, 4194303, 8388607] (by kernel_rfl) (by kernel_rfl) (by simp only [List.map_cons, List.map_nil]; kernel_rfl) (go_on ?_)
          as_aux_lemma =>
            have happ : o.map sC ++ [[sA x.p]] = (o ++ [x.p]).map sC := by rw [List.map_append]; rfl
            (try simp only [i0, i1, i2, h1, push_cast, simprocAttr])
            refine at_chk (by omega) ?_
            as_aux_lemma =>
              (try simp only [happ, w1, w2, push_cast, simprocAttr])
              refine at_fin ⟨(i + 1, k, o ++ [x.p]), ⟨by dsimp only; omega, by dsimp only; omega, by simp; omega, by dsimp only; rw [q4]; rw [hda, hdb, mrg, if_pos h1]; simp⟩, by dsimp only; omega, ?_⟩
              simp only [List.length_append, List.length_cons, List.length_nil]
              (refine wk_ok ?_ ?_ ?_ ?_ <;> simp [rowS, leL, leH, idsL, idsA, idsR, inH, hget, sameRow, upA, hvA, dsts, dstO, setA_0, setA_1, setA_8, List.append, List.cons_append, List.nil_append])
        | false =>
          refine at_draw rfl (by kernel_rfl) ?_
          (try simp only [push_cast, simprocAttr])
          (try simp only [k3, push_cast, simprocAttr])
          (try simp only [i0, push_cast, simprocAttr])
          (try simp only [i1, i2, push_cast, simprocAttr])
          (try simp only [k1, k2, push_cast, simprocAttr])
          (try simp only [h1, push_cast, simprocAttr])
          refine at_done_q [0, 0, 2, 7, 15, 31, 31, 95, 255, 511, 1023, 1023, 4095, 8191, 16383, 1023, 1023, 99327, 230399, 492543, 1048575, 2097151, 4194303, 8388607] (by kernel_rfl) (by kernel_rfl) (by simp only [List.map_cons, List.map_nil]; kernel_rfl) (go_on ?_)
          as_aux_lemma =>
            (try simp only [h1, push_cast, simprocAttr])
            cases h2 : slt y.p x.p with
            | true =>
              refine at_draw rfl (by kernel_rfl) ?_
              (try simp only [push_cast, simprocAttr])
              (try simp only [i3, push_cast, simprocAttr])
              (try simp only [k1, k2, push_cast, simprocAttr])
              (try simp only [i1, i2, push_cast, simprocAttr])
              (try simp only [h2, push_cast, simprocAttr])
              refine at_done_q [0, 0, 2, 7, 15, 31, 31, 127, 255, 511, 31, 31, 3103, 7199, 15391, 32767, 65535, 131071] (by kernel_rfl) (by kernel_rfl) (by simp only [List.map_cons, List.map_nil]; kernel_rfl) (go_on ?_)
              as_aux_lemma =>
                have happ : o.map sC ++ [[sA y.p]] = (o ++ [y.p]).map sC := by rw [List.map_append]; rfl
                (try simp only [k1, k2, h2, push_cast, simprocAttr])
                refine at_chk (by omega) ?_
                as_aux_lemma =>
                  (try simp only [happ, w1, w2, push_cast, simprocAttr])
                  refine at_fin ⟨(i, k + 1, o ++ [y.p]), ⟨by dsimp only; omega, by dsimp only; omega, by simp; omega, by dsimp only; rw [q4]; rw [hda, hdb, mrg, if_neg (by simp [h1]), if_pos h2]; simp⟩, by dsimp only; omega, ?_⟩
                  simp only [List.length_append, List.length_cons, List.length_nil]
                  (refine wk_ok ?_ ?_ ?_ ?_ <;> simp [rowS, leL, leH, idsL, idsA, idsR, inH, hget, sameRow, upA, hvA, dsts, dstO, setA_0, setA_1, setA_8, List.append, List.cons_append, List.nil_append])
            | false =>
              refine at_draw rfl (by kernel_rfl) ?_
              (try simp only [push_cast, simprocAttr])
              (try simp only [i3, push_cast, simprocAttr])
              (try simp only [k1, k2, push_cast, simprocAttr])
              (try simp only [i1, i2, push_cast, simprocAttr])
              (try simp only [h2, push_cast, simprocAttr])
              refine at_done_q [0, 0, 2, 7, 15, 31, 31, 127, 255, 511, 31, 31, 3103, 7199, 15391, 32767, 65535, 131071] (by kernel_rfl) (by kernel_rfl) (by simp only [List.map_cons, List.map_nil]; kernel_rfl) (go_on ?_)
              as_aux_lemma =>
                have happ : o.map sC ++ [[sA x.p]] = (o ++ [x.p]).map sC := by rw [List.map_append]; rfl
                (try simp -implicitDefEqProofs only [i1, i2, h2, push_cast, simprocAttr])
                refine at_chk (by omega) ?_
                as_aux_lemma =>
                  (try simp -implicitDefEqProofs only [happ, w1, w2, push_cast, simprocAttr])
                  refine at_fin ⟨(i + 1, k + 1, o ++ [x.p]), ⟨by dsimp only; omega, by dsimp only; omega, by simp; omega, by dsimp only; rw [q4]; rw [hda, hdb, mrg, if_neg (by simp [h1]), if_neg (by simp [h2])]; simp⟩, by dsimp only; omega, ?_⟩
                  simp only [List.length_append, List.length_cons, List.length_nil]
                  (refine wk_ok ?_ ?_ ?_ ?_ <;> simp [rowS, leL, leH, idsL, idsA, idsR, inH, hget, sameRow, upA, hvA, dsts, dstO, setA_0, setA_1, setA_8, List.append, List.cons_append, List.nil_append])
      · have k3 : eqI (k : Int) b.length = true := eqI_t (by omega)
        have hdb : b.drop k = [] := List.drop_of_length_le (by omega)
        (try simp only [i0, push_cast, simprocAttr])
        refine at_draw rfl (by kernel_rfl) ?_
        (try simp only [push_cast, simprocAttr])
        (try simp only [k3, push_cast, simprocAttr])
        refine at_done_q [0, 0, 2, 7, 15, 31, 31, 95, 255, 511, 1023, 1023, 4095, 8191, 16383, 1023, 1023, 99327, 230399, 492543, 1048575, 2097151, 4194303, 8388607] (by kernel_rfl) (by kernel_rfl) (by simp only [List.map_cons, List.map_nil]; kernel_rfl) (go_on ?_)
        as_aux_lemma =>
          have happ : o.map sC ++ [[sA x.p]] = (o ++ [x.p]).map sC := by rw [List.map_append]; rfl
          (try simp only [i0, i1, i2, k3, push_cast, simprocAttr])
          refine at_chk (by omega) ?_
          as_aux_lemma =>
            (try simp only [happ, w1, w2, push_cast, simprocAttr])
            refine at_fin ⟨(i + 1, k, o ++ [x.p]), ⟨by dsimp only; omega, by dsimp only; omega, by simp; omega, by dsimp only; rw [q4]; rw [hda, hdb, mrg_l]; simp⟩, by dsimp only; omega, ?_⟩
            simp only [List.length_append, List.length_cons, List.length_nil]
            (refine wk_ok ?_ ?_ ?_ ?_ <;> simp [rowS, leL, leH, idsL, idsA, idsR, inH, hget, sameRow, upA, hvA, dsts, dstO, setA_0, setA_1, setA_8, List.append, List.cons_append, List.nil_append])
    · have i0 : ltI (i : Int) a.length = false := ltI_f (by omega)
      have i3 : eqI (i : Int) a.length = true := eqI_t (by omega)
      have hda : a.drop i = [] := List.drop_of_length_le (by omega)
      by_cases hk : k < b.length
      · obtain ⟨y, hy⟩ := get_of_lt hk
        have k0 : ltI (k : Int) b.length = true := ltI_t (by omega)
        have k3 : eqI (k : Int) b.length = false := eqI_f (by omega)
        have k1 := ix_n hy
        have k2 := map_get ndC hy
        simp only [ndC] at k2
        have hdb := drop_of_get hy
        (try simp only [i0, k0, push_cast, simprocAttr])
        refine at_draw rfl (by kernel_rfl) ?_
        (try simp only [push_cast, simprocAttr])
        (try simp only [k3, push_cast, simprocAttr])
        (try simp only [i0, push_cast, simprocAttr])
        refine at_done_q [0, 0, 2, 7, 15, 31, 31, 95, 255, 511, 1023, 1023, 4095, 8191, 16383, 1023, 1023, 99327, 230399, 492543, 1048575, 2097151, 4194303, 8388607] (by kernel_rfl) (by kernel_rfl) (by simp only [List.map_cons, List.map_nil]; kernel_rfl) (go_on ?_)
        as_aux_lemma =>
          (try simp only [i0, k3, push_cast, simprocAttr])
          refine at_draw rfl (by kernel_rfl) ?_
          (try simp only [push_cast, simprocAttr])
          (try simp only [i3, push_cast, simprocAttr])
          refine at_done_q [0, 0, 2, 7, 15, 31, 31, 127, 255, 511, 31, 31, 3103, 7199, 15391, 32767, 65535, 131071] (by kernel_rfl) (by kernel_rfl) (by simp only [List.map_cons, List.map_nil]; kernel_rfl) (go_on ?_)
          as_aux_lemma =>
            have happ : o.map sC ++ [[sA y.p]] = (o ++ [y.p]).map sC := by rw [List.map_append]; rfl
            (try simp only [k1, k2, i3, push_cast, simprocAttr])
            refine at_chk (by omega) ?_
            as_aux_lemma =>
              (try simp only [happ, w1, w2, push_cast, simprocAttr])
              refine at_fin ⟨(i, k + 1, o ++ [y.p]), ⟨by dsimp only; omega, by dsimp only; omega, by simp; omega, by dsimp only; rw [q4]; rw [hda, hdb, mrg_r]; simp⟩, by dsimp only; omega, ?_⟩
              simp only [List.length_append, List.length_cons, List.length_nil]
              (refine wk_ok ?_ ?_ ?_ ?_ <;> simp [rowS, leL, leH, idsL, idsA, idsR, inH, hget, sameRow, upA, hvA, dsts, dstO, setA_0, setA_1, setA_8, List.append, List.cons_append, List.nil_append])
      · have k0 : ltI (k : Int) b.length = false := ltI_f (by omega)
        have hdb : b.drop k = [] := List.drop_of_length_le (by omega)
        (try simp only [i0, k0, push_cast, simprocAttr])
        refine at_ret ?_; simp only [Tryz.results131, push_cast, simprocAttr]
        rw [q4, hda, hdb]
        simp [rX, ixOf, rowS, mrg]
end Go.Proofs.YtdjglbedimpldaaGreatDoor
/-
  Walks: spec.TreeChanged, spec.RoundApart, laws.sameTexts.
-/
namespace Go.Proofs.YtdjglbedimpldaaGreatDoor
open Go Go.RowKit Go.Proofs
theorem mrgL_len (a b : List Nd) : (mrg a b).length ≤ a.length + b.length := by
  fun_induction mrg a b <;> simp at * <;> omega
abbrev txA (l : List Str) : AV := .sl 1 (l.map sC)
theorem l5Paths_d (a b : List Nd) (ha : a.length < 4294967280) (hb : b.length < 4294967280) : PC Tryz.prog 131 [ndA a, ndA b] (vX (txA (mrg a b))) := by
  have := (l5Paths_pc a b ha hb).frzX
  simpa [viewN, hpOf, hget, isC, tk, rowS] using this
attribute [local irreducible] RWp AW run kPe pe Kt effA gd gu br retR RDp runD kPeD brW gW effD
set_option maxRecDepth 100000
theorem specTreeChanged_d (a b : List Nd) (ha : SmT2 a) (hb : SmT2 b) : PC Tryz.prog 81 [ndA a, ndA b] (vX (txA (chg a b))) := by
  have hA := specTreeValid_pc a ha.s
  have hB := specTreeValid_pc b hb.s
  have han := ha.n
  have hbn := hb.n
  refine PC.toF ?_
  refine pc_enter Tryz.func81 rfl rfl fun w0 fb => go_on ?_; (try simp only [Tryz.ntmps81, push_cast, simprocAttr])
  (refine at_call ?_; (try simp only [push_cast, simprocAttr]); refine rwc_v (hA) (go_on ?_); (try simp only [push_cast, simprocAttr]))
  cases hva : tV a with
  | false =>
    have e : chg a b = [] := by simp [chg, hva]
    (try simp only [hva, Bool.not_false, push_cast, simprocAttr])
    refine at_ret ?_; simp only [Tryz.results81, push_cast, simprocAttr]
    simp [vF, viewN, isC, hpOf, hget, tk, ixOf, e]
  | true =>
    (try simp only [hva, Bool.not_true, push_cast, simprocAttr])
    (refine at_call ?_; (try simp only [push_cast, simprocAttr]); refine rwc_v (hB) (go_on ?_); (try simp only [push_cast, simprocAttr]))
    cases hvb : tV b with
    | false =>
      have e : chg a b = [] := by simp [chg, hvb]
      (try simp only [hvb, Bool.not_false, push_cast, simprocAttr])
      refine at_ret ?_; simp only [Tryz.results81, push_cast, simprocAttr]
      simp [vF, viewN, isC, hpOf, hget, tk, ixOf, e]
    | true =>
      have hP := l5Paths_d a b han hbn
      obtain ⟨m, hm⟩ : ∃ m, m = mrg a b := ⟨_, rfl⟩
      have hml := mrgL_len a b
      rw [← hm] at hP hml
      have he : chg a b = m.filter (fun p => decide (getC a p ≠ getC b p)) := by unfold chg; rw [if_pos (by simp [hva, hvb]), hm]
      (try simp only [hvb, Bool.not_true, push_cast, simprocAttr])
      ((try simp only [push_cast, simprocAttr]); refine at_share2 (by simp [isC2, isC]) (by first | rfl | simp [ren]) (hP) (go_on ?_); (try simp only [push_cast, simprocAttr]))
      refine at_loop (X := Nat × List Str) (fun x => [(5, .o 8 x.2.length), (7, iA x.1), (8, .any)]) (fun x => [(4, ⟨9, 1, [], true⟩), (8, ⟨9, 1, x.2.map sC, true⟩)])
        (fun x => x.1 ≤ m.length ∧ x.2.length ≤ x.1 ∧ chg a b = x.2 ++ (m.drop x.1).filter (fun p => decide (getC a p ≠ getC b p))) (fun x => m.length - x.1) (0, []) ⟨Nat.zero_le _, Nat.le_refl _, by simpa using he⟩ ?_ ?_
      · (refine wk_ok ?_ ?_ ?_ ?_ <;> simp [leL, leH, idsL, idsA, idsR, inH, hget, sameRow, upA, hvA, dsts, dstO, setA_0, setA_1, setA_8, List.append, List.cons_append, List.nil_append])
      · rintro ⟨i, o⟩ ⟨q1, q2, q3⟩
        simp only at q1 q2 q3
        simp only [upA, hvA, dsts, dstO, setA_0, setA_1, setA_8, List.append, List.cons_append, List.nil_append]
        refine go_on ?_
        (try simp only [List.length_map, push_cast, simprocAttr])
        refine at_b (fun hg => ?_) (fun hg => ?_)
        · have hlt := lt_tt hg
          obtain ⟨s, hs⟩ := get_of_lt hlt
          have i1 := ix_n hs
          have i2 := map_get sC hs
          simp only [sC] at i2
          have w1 := wr ((i : Int) + 1) (by omega)
          have hG := l3Get_pc a (by omega) s
          have hH := l3Get_pc b (by omega) s
          have e3 := ct_eq (getC a s) (getC b s)
          unfold ctA at hG hH
          simp only [ctC] at hG hH
          rw [drop_of_get hs] at q3
          (try simp only [hg, push_cast, simprocAttr])
          refine at_draw rfl (by kernel_rfl) ?_; simp only [push_cast, simprocAttr]
          (try simp only [i1, i2, push_cast, simprocAttr])
          (refine at_shareD (by simp [isC2, isC]) (by first | rfl | simp [ren]) hG ?_; (try simp only [push_cast, simprocAttr]))
          (try simp only [i1, i2, push_cast, simprocAttr])
          (refine at_shareD (by simp [isC2, isC]) (by first | rfl | simp [ren]) hH ?_; (try simp only [push_cast, simprocAttr]))
          (try simp only [i1, i2, ctg, cth, e3, push_cast, simprocAttr])
          refine at_done (by kernel_rfl) (by kernel_rfl) (go_on ?_)
          by_cases hne : getC a s = getC b s
          · have d1 : decide (getC a s = getC b s) = true := by simpa using hne
            simp only [List.filter_cons, hne, ne_eq, not_true_eq_false, decide_false, Bool.false_eq_true, if_false] at q3
            (try simp only [d1, Bool.not_true, w1, push_cast, simprocAttr])
            refine at_fin ⟨(i + 1, o), ⟨by dsimp only; omega, by dsimp only; omega, q3⟩, by dsimp only; omega, ?_⟩
            (refine wk_ok ?_ ?_ ?_ ?_ <;> simp [leL, leH, idsL, idsA, idsR, inH, hget, sameRow, upA, hvA, dsts, dstO, setA_0, setA_1, setA_8, List.append, List.cons_append, List.nil_append])
          · have d1 : decide (getC a s = getC b s) = false := by simpa using hne
            have happ : o.map sC ++ [[sA s]] = (o ++ [s]).map sC := by rw [List.map_append]; rfl
            rw [List.filter_cons, if_pos (by simpa using hne)] at q3
            (try simp only [d1, Bool.not_false, i1, i2, push_cast, simprocAttr])
            refine at_chk (by omega) ?_
            (try simp only [happ, w1, push_cast, simprocAttr])
            refine at_fin ⟨(i + 1, o ++ [s]), ⟨by dsimp only; omega, by simp; omega, by dsimp only; rw [q3]; simp⟩, by dsimp only; omega, ?_⟩
            simp only [List.length_append, List.length_cons, List.length_nil]
            (refine wk_ok ?_ ?_ ?_ ?_ <;> simp [leL, leH, idsL, idsA, idsR, inH, hget, sameRow, upA, hvA, dsts, dstO, setA_0, setA_1, setA_8, List.append, List.cons_append, List.nil_append])
        · have h3 := lt_ff hg
          rw [List.drop_of_length_le h3] at q3
          (try simp only [hg, push_cast, simprocAttr])
          refine at_ret ?_; simp only [Tryz.results81, push_cast, simprocAttr]
          rw [q3]
          simp [vF, viewN, isC, hpOf, hget, tk, ixOf]
theorem specRoundApart_d (t : List Nd) (ht : SmT2 t) (l : List Ev) (hl : SmE l) : PC Tryz.prog 38 [ndA t, evsA l] (vX (txA (rApart t l))) := by
  have hV := l43Ok_pc t ht.s l hl
  cases h : rdV t l with
  | false =>
    rw [h] at hV
    rw [rApart_f h]
    refine PC.toF ?_
    refine pc_enter Tryz.func38 rfl rfl fun w0 fb => go_on ?_; (try simp only [Tryz.ntmps38, push_cast, simprocAttr])
    refine at_call ?_
    (try simp only [push_cast, simprocAttr])
    refine rwc_v hV ?_
    (try simp only [push_cast, simprocAttr])
    (refine at_dropS [4] (by refine wk_ok ?_ ?_ ?_ ?_ <;> simp [dropS, dropT, hasN, delL, hdel, leL, leH, idsL, idsA, idsR, inH, hget, sameRow]) ?_; simp only [dropS, dropT, hasN, delL, hdel, idsA, idsL, hget, List.map_cons, List.map_nil, List.all_cons, List.all_nil, List.append_nil, Bool.not_false, Bool.not_true, Bool.and_true, if_true, if_false, simprocAttr])
    refine go_on ?_
    (try simp only [Bool.not_false, push_cast, simprocAttr])
    refine at_ret ?_; simp only [Tryz.results38, push_cast, simprocAttr]
    simp [vF, viewN, isC, hpOf, hget, tk, ixOf]
  | true =>
    have hP := l43Play_d t ht l hl
    have hsm := rPlay_sm t l
    rw [rPlay_t h] at hsm
    dsimp only at hsm
    have hA := specSiteTree_pc (pl t l).1 hsm.1
    have hB := specSiteTree_pc (pl t l).2.1 hsm.2
    have hC := specTreeChanged_d (siteT (pl t l).1) (siteT (pl t l).2.1) (siteT_sm hsm.1) (siteT_sm hsm.2)
    rw [rApart_t h]
    rw [h] at hV
    unfold stA' stC at *
    refine pc_enter Tryz.func38 rfl rfl fun w0 fb => go_on ?_; (try simp only [Tryz.ntmps38, push_cast, simprocAttr])
    (refine at_call ?_; (try simp only [push_cast, simprocAttr]); refine rwc_v (hV) (go_on ?_); (try simp only [push_cast, simprocAttr]))
    (try simp only [Bool.not_true, push_cast, simprocAttr])
    ((try simp only [push_cast, simprocAttr]); refine at_share2 (by simp [isC2, isC]) (by first | rfl | simp [ren]) (hP) (go_on ?_); (try simp only [push_cast, simprocAttr]))
    refine at_draw rfl (by kernel_rfl) ?_; simp only [push_cast, simprocAttr]
    (refine at_shareD (by simp [isC2, isC]) (by first | rfl | simp [ren]) hA ?_; (try simp only [push_cast, simprocAttr]))
    (refine at_shareD (by simp [isC2, isC]) (by first | rfl | simp [ren]) hB ?_; (try simp only [push_cast, simprocAttr]))
    (refine at_shareD (by simp [isC2, isC]) (by first | rfl | simp [ren]) hC ?_; (try simp only [push_cast, simprocAttr]))
    refine at_done (by kernel_rfl) (by kernel_rfl) (go_on ?_)
    (try simp only [push_cast, simprocAttr])
    refine at_ret ?_; simp only [Tryz.results38, push_cast, simprocAttr]
    simp [vX]
theorem sameTexts_pc (a b : List Str) (hl : a.length < 8589934590) : PC Tryz.prog 39 [txA a, txA b] (vB (decide (a = b))) := by
  refine pc_enter Tryz.func39 rfl rfl fun w0 fb => go_on ?_; (try simp only [Tryz.ntmps39, push_cast, simprocAttr])
  refine at_b (fun hb => ?_) (fun hb => ?_)
  · have h1 := of_eqI_f (not_t hb)
    have h2 : a ≠ b := by rintro rfl; exact h1 rfl
    (try simp only [hb, push_cast, simprocAttr])
    refine at_ret ?_; simp only [Tryz.results39, push_cast, simprocAttr]
    simp [vX, h2]
  · have h1 : a.length = b.length := by have := of_eqI_t (not_f hb); omega
    (try simp only [hb, push_cast, simprocAttr])
    refine at_loop (X := Nat) (fun k => [(5, iA k)]) (fun _ => []) (fun k => k ≤ a.length ∧ decide (a = b) = decide (a.drop k = b.drop k)) (fun k => a.length - k) 0 ⟨Nat.zero_le _, rfl⟩ ?_ ?_
    · (refine wk_ok ?_ ?_ ?_ ?_ <;> simp [leL, leH, idsL, idsA, idsR, inH, hget, sameRow, upA, hvA, dsts, dstO, setA_0, setA_1, setA_8, List.append, List.cons_append, List.nil_append])
    · rintro k ⟨q1, q2⟩
      simp only [upA, hvA, dsts, dstO, setA_0, setA_1, setA_8, List.append, List.cons_append, List.nil_append]
      refine go_on ?_
      (try simp only [push_cast, simprocAttr])
      refine at_b (fun hg => ?_) (fun hg => ?_)
      · have hlt := lt_tt hg
        obtain ⟨x, hx⟩ := get_of_lt hlt
        obtain ⟨y, hy⟩ := get_of_lt (l := b) (k := k) (by omega)
        have i1 := ix_n hx
        have i3 := ix_n hy
        have i2 := map_get sC hx
        have i4 := map_get sC hy
        simp only [sC] at i2 i4
        rw [drop_of_get hx, drop_of_get hy] at q2
        have w2 := wr ((k : Int) + 1) (by omega)
        (try simp only [hg, push_cast, simprocAttr])
        refine at_draw rfl (by kernel_rfl) ?_
        (try simp only [i1, i2, i3, i4, push_cast, simprocAttr])
        refine at_done (by kernel_rfl) (by kernel_rfl) (go_on ?_)
        (try simp only [push_cast, simprocAttr])
        refine at_b (fun hn => ?_) (fun hn => ?_)
        · have hxy : x ≠ y := by simpa using hn
          (try simp only [hn, push_cast, simprocAttr])
          refine at_ret ?_; simp only [Tryz.results39, push_cast, simprocAttr]
          simp [vX, q2, hxy]
        · have hxy : x = y := by simpa using hn
          (try simp only [hn, w2, push_cast, simprocAttr])
          refine at_fin ⟨k + 1, ⟨by omega, ?_⟩, by omega, ?_⟩
          · rw [q2]; simp [hxy]
          · (refine wk_ok ?_ ?_ ?_ ?_ <;> simp [leL, leH, idsL, idsA, idsR, inH, hget, sameRow, upA, hvA, dsts, dstO, setA_0, setA_1, setA_8, List.append, List.cons_append, List.nil_append])
      · have h3 := lt_ff hg
        (try simp only [hg, push_cast, simprocAttr])
        refine at_ret ?_; simp only [Tryz.results39, push_cast, simprocAttr]
        rw [List.drop_of_length_le h3, List.drop_of_length_le (by omega)] at q2
        simp [vX, q2]
end Go.Proofs.YtdjglbedimpldaaGreatDoor
