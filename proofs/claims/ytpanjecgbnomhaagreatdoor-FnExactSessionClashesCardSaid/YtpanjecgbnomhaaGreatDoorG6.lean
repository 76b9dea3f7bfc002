/- A part of the proof of FnExactSessionClashes: texts W25 W26 W27 W30 W31 W32 W33 W34 W35 W36 W37 W38 W39 W40 Y1 Y2 Y3 VFnExactSessionClashes. -/
import Derived.Test.YtpanjecgbnomhaaGreatDoorG5
import Derived.Maps.OwnSet
import Derived.Maps.Views
import Derived.Carry
set_option linter.unusedSimpArgs false
set_option linter.unusedVariables false
/-
  Walks: spec.LogCanon.
-/
namespace Go.Proofs.YtpanjecgbnomhaaGreatDoor
open Go Go.RowKit Go.Proofs
/-- No command ahead of a place has its path. -/
def firstB (l : List Cm) (i : Nat) (p : Str) : Bool := !decide (p ∈ (l.take i).map (·.p))
attribute [local irreducible] RWp AW run kPe pe Kt effA gd gu br retR RDp runD kPeD brW gW effD
set_option maxRecDepth 100000
theorem l14First_pc (l : List Cm) (hl : l.length < 4294967280) (i : Nat) (c : Cm) (hc : l[i]? = some c) : PC Tryz.prog 133 [cmA l, iA i] (vB (firstB l i c.p)) := by
  have hi := lt_of_some hc
  have c1 := ix_n hc
  have c2 := map_get cmC hc
  simp only [cmC] at c2
  refine pc_enter Tryz.func133 rfl rfl fun w0 fb => go_on ?_; (try simp only [Tryz.ntmps133, push_cast, simprocAttr])
  refine at_loop (X := Nat) (fun k => [(5, iA k)]) (fun _ => []) (fun k => k ≤ i ∧ ∀ j d, j < k → l[j]? = some d → d.p ≠ c.p) (fun k => i - k) 0 ⟨Nat.zero_le _, fun j d hj => by omega⟩ ?_ ?_
  · (refine wk_ok ?_ ?_ ?_ ?_ <;> simp [leL, leH, idsL, idsA, idsR, inH, hget, sameRow, upA, hvA, dsts, dstO, setA_0, setA_1, setA_8, List.append, List.cons_append, List.nil_append])
  · rintro k ⟨q1, q2⟩
    simp only [upA, hvA, dsts, dstO, setA_0, setA_1, setA_8, List.append, List.cons_append, List.nil_append]
    refine go_on ?_
    (try simp only [push_cast, simprocAttr])
    by_cases hlt : k < i
    · obtain ⟨d, hd⟩ := get_of_lt (l := l) (k := k) (by omega)
      have i0 : ltI (k : Int) (i : Int) = true := ltI_t (by omega)
      have i1 := ix_n hd
      have i2 := map_get cmC hd
      simp only [cmC] at i2
      have w1 := wr ((k : Int) + 1) (by omega)
      (try simp only [i0, push_cast, simprocAttr])
      refine at_draw rfl (by kernel_rfl) ?_
      (try simp only [i1, i2, c1, c2, push_cast, simprocAttr])
      refine at_done (by kernel_rfl) (by kernel_rfl) (go_on ?_)
      (try simp only [push_cast, simprocAttr])
      refine at_b (fun hn => ?_) (fun hn => ?_)
      · have he : d.p = c.p := by simpa using hn
        have hf : firstB l i c.p = false := by
          unfold firstB
          simp only [Bool.not_eq_false', decide_eq_true_eq, List.mem_map]
          exact ⟨d, List.mem_of_getElem? (i := k) (by rw [List.getElem?_take, if_pos hlt]; exact hd), he⟩
        (try simp only [hn, push_cast, simprocAttr])
        refine at_ret ?_; simp only [Tryz.results133, push_cast, simprocAttr]
        simp [vX, hf]
      · have he : d.p ≠ c.p := by simpa using hn
        (try simp only [hn, w1, push_cast, simprocAttr])
        refine at_fin ⟨k + 1, ⟨by omega, fun j e hj hje => ?_⟩, by omega, ?_⟩
        · rcases Nat.lt_or_ge j k with h | h
          · exact q2 j e h hje
          · obtain rfl : j = k := by omega
            rw [hd] at hje
            cases hje
            exact he
        · (refine wk_ok ?_ ?_ ?_ ?_ <;> simp [leL, leH, idsL, idsA, idsR, inH, hget, sameRow, upA, hvA, dsts, dstO, setA_0, setA_1, setA_8, List.append, List.cons_append, List.nil_append])
    · have i0 : ltI (k : Int) (i : Int) = false := ltI_f (by omega)
      have hf : firstB l i c.p = true := by
        unfold firstB
        simp only [Bool.not_eq_true', decide_eq_false_iff_not, List.mem_map, not_exists, not_and]
        intro d hd e
        obtain ⟨j, hj, hje⟩ := List.getElem_of_mem hd
        have hj2 := hj
        rw [List.length_take] at hj2
        have : l[j]? = some d := by
          have h3 : (l.take i)[j]? = some d := by rw [List.getElem?_eq_getElem hj, hje]
          rw [List.getElem?_take, if_pos (by omega)] at h3
          exact h3
        exact q2 j d (by omega) this e
      (try simp only [i0, push_cast, simprocAttr])
      refine at_ret ?_; simp only [Tryz.results133, push_cast, simprocAttr]
      simp [vX, hf]
def canS (l : List Cm) : AV → List Row → Prop := vX (.tup [cmA ((lCanon l).getD []), bA (lCanon l).isSome])
theorem specLogCanon_pc (l : List Cm) (hs : SmL l) : PC Tryz.prog 87 [cmA l] (canS l) := by
  refine pc_enter Tryz.func87 rfl rfl fun w0 fb => go_on ?_; (try simp only [Tryz.ntmps87, push_cast, simprocAttr])
  (refine at_call ?_; (try simp only [push_cast, simprocAttr]); refine rwc_v (specLogValid_pc l hs) (go_on ?_); (try simp only [push_cast, simprocAttr]))
  refine at_b (fun hb => ?_) (fun hb => ?_)
  · have h : lV l = false := not_t hb
    (try simp only [hb, push_cast, simprocAttr])
    refine at_retf ?_; simp only [Tryz.results87, push_cast, simprocAttr]
    simp [canS, vX, lCanon, h]
  have h : lV l = true := not_f hb
  have hl20 := lV_len h
  have hO := lCanon_out h
  (try simp only [hb, push_cast, simprocAttr])
  refine at_loop (X := Nat × List Cm) (fun x => [(4, .o 12 x.2.length), (5, iA x.1), (12, .any)]) (fun x => [(2, rowC []), (12, rowC x.2)])
    (fun x => x.1 ≤ l.length ∧ x.2.length ≤ x.1 ∧ (outA [] l).map fltC = ((outA ((l.take x.1).map (·.p)) (l.drop x.1)).map fltC).map (x.2 ++ ·)) (fun x => l.length - x.1) (0, []) ⟨Nat.zero_le _, by simp, by simp [Function.comp_def]⟩ ?_ ?_
  · (refine wk_ok ?_ ?_ ?_ ?_ <;> simp [leL, leH, idsL, idsA, idsR, inH, hget, sameRow, upA, hvA, dsts, dstO, setA_0, setA_1, setA_8, List.append, List.cons_append, List.nil_append])
  · rintro ⟨i, o⟩ ⟨q1, q2, q3⟩
    simp only at q1 q2 q3
    simp only [upA, hvA, dsts, dstO, setA_0, setA_1, setA_8, List.append, List.cons_append, List.nil_append]
    by_cases hlt : i < l.length
    · refine go_on ?_
      (try simp only [push_cast, simprocAttr])
      obtain ⟨c, hc⟩ := get_of_lt hlt
      obtain ⟨s1, s2⟩ := out_step hc q3
      have i0 : ltI (i : Int) l.length = true := ltI_t (by omega)
      have i1 := ix_n hc
      have i2 := map_get cmC hc
      simp only [cmC] at i2
      have w1 := wr ((i : Int) + 1) (by omega)
      have hF := l14First_pc l (by omega) i c hc
      (try simp only [i0, push_cast, simprocAttr])
      (refine at_call ?_; (try simp only [push_cast, simprocAttr]); refine rwc_v (hF) (go_on ?_); (try simp only [push_cast, simprocAttr]))
      refine at_b (fun hf => ?_) (fun hf => ?_)
      · have hm : c.p ∉ (l.take i).map (·.p) := by simpa [firstB] using hf
        obtain ⟨s3, s4⟩ := s2 hm
        (try simp only [hf, i1, i2, w1, push_cast, simprocAttr])
        refine at_loop (X := Nat × Ct) (fun y => [(7, iA y.1)]) (fun y => [(2, rowC []), (12, rowC o), (6, ⟨57, 5, [cmC ⟨c.p, c.a, y.2⟩], true⟩)])
          (fun y => i + 1 ≤ y.1 ∧ y.1 ≤ l.length ∧ chn c.p c.b (l.drop (i + 1)) = chn c.p y.2 (l.drop y.1)) (fun y => l.length - y.1) (i + 1, c.b) ⟨Nat.le_refl _, by dsimp only; omega, rfl⟩ ?_ ?_
        · (refine wk_ok ?_ ?_ ?_ ?_ <;> simp [cmC, leL, leH, idsL, idsA, idsR, inH, hget, sameRow, upA, hvA, dsts, dstO, setA_0, setA_1, setA_8, List.append, List.cons_append, List.nil_append])
        · rintro ⟨k, t⟩ ⟨r1, r2, r3⟩
          simp only at r1 r2 r3
          simp only [upA, hvA, dsts, dstO, setA_0, setA_1, setA_8, List.append, List.cons_append, List.nil_append]
          refine go_on ?_
          (try simp only [push_cast, simprocAttr])
          by_cases hlk : k < l.length
          · obtain ⟨d, hd⟩ := get_of_lt hlk
            have j0 : ltI (k : Int) l.length = true := ltI_t (by omega)
            have j1 := ix_n hd
            have j2 := map_get cmC hd
            simp only [cmC] at j2
            have w2 := wr ((k : Int) + 1) (by omega)
            rw [drop_of_get hd] at r3
            simp only [chn] at r3
            (try simp only [j0, push_cast, simprocAttr])
            refine at_draw rfl (by kernel_rfl) ?_
            (try simp only [j1, j2, push_cast, simprocAttr])
            refine at_done (by kernel_rfl) (by kernel_rfl) (go_on ?_)
            (try simp only [push_cast, simprocAttr])
            refine at_b (fun hp => ?_) (fun hp => ?_)
            · have hp' : d.p = c.p := by simpa using hp
              rw [if_pos hp'] at r3
              (try simp only [hp, push_cast, simprocAttr])
              refine at_draw rfl (by kernel_rfl) ?_
              (try simp only [j1, j2, ctg, cth, push_cast, simprocAttr])
              have e : (eqI d.a.k t.k && eqI d.a.v t.v) = decide (d.a = t) := ct_eq _ _
              refine at_done (by kernel_rfl) (by kernel_rfl) (go_on ?_)
              (try simp only [e, push_cast, simprocAttr])
              refine at_b (fun hn => ?_) (fun hn => ?_)
              · have hne : d.a ≠ t := by simpa using hn
                rw [if_neg hne] at r3
                have hnone : lCanon l = none := by rw [hO, s3 r3]; rfl
                (try simp only [hn, push_cast, simprocAttr])
                refine at_retf ?_; simp only [Tryz.results87, push_cast, simprocAttr]
                simp [canS, vX, hnone]
              · have heq : d.a = t := by simpa using hn
                rw [if_pos heq] at r3
                (try simp only [hn, j1, j2, w2, push_cast, simprocAttr])
                refine at_fin ⟨(k + 1, d.b), ⟨by dsimp only; omega, by dsimp only; omega, r3⟩, by dsimp only; omega, ?_⟩
                (refine wk_ok ?_ ?_ ?_ ?_ <;> simp [cmC, leL, leH, idsL, idsA, idsR, inH, hget, sameRow, upA, hvA, dsts, dstO, setA_0, setA_1, setA_8, List.append, List.cons_append, List.nil_append])
            · have hp' : ¬ d.p = c.p := by simpa using hp
              rw [if_neg hp'] at r3
              (try simp only [hp, w2, push_cast, simprocAttr])
              refine at_fin ⟨(k + 1, t), ⟨by dsimp only; omega, by dsimp only; omega, r3⟩, by dsimp only; omega, ?_⟩
              (refine wk_ok ?_ ?_ ?_ ?_ <;> simp [cmC, leL, leH, idsL, idsA, idsR, inH, hget, sameRow, upA, hvA, dsts, dstO, setA_0, setA_1, setA_8, List.append, List.cons_append, List.nil_append])
          · have j0 : ltI (k : Int) l.length = false := ltI_f (by omega)
            rw [List.drop_of_length_le (show l.length ≤ k by omega)] at r3
            have s5 := s4 t r3
            have e : (eqI c.a.k t.k && eqI c.a.v t.v) = decide (c.a = t) := ct_eq _ _
            (try simp only [j0, ctg, cth, e, push_cast, simprocAttr])
            refine at_b (fun hn => ?_) (fun hn => ?_)
            · have hne : c.a ≠ t := by simpa using hn
              rw [if_pos hne] at s5
              have happ : o.map cmC ++ [[sA c.p, iA c.a.k, iA c.a.v, iA t.k, iA t.v]] = (o ++ [(⟨c.p, c.a, t⟩ : Cm)]).map cmC := by rw [List.map_append]; rfl
              (try simp only [hn, push_cast, simprocAttr])
              refine at_chk (by omega) ?_
              (try simp only [happ, w1, push_cast, simprocAttr])
              refine at_fin ⟨(i + 1, o ++ [(⟨c.p, c.a, t⟩ : Cm)]), ⟨by dsimp only; omega, by simp; omega, s5⟩, by dsimp only; omega, ?_⟩
              (refine wk_ok ?_ ?_ ?_ ?_ <;> simp [cmC, leL, leH, idsL, idsA, idsR, inH, hget, sameRow, upA, hvA, dsts, dstO, setA_0, setA_1, setA_8, List.append, List.cons_append, List.nil_append])
            · have heq : c.a = t := by simpa using hn
              rw [if_neg (by simpa using heq)] at s5
              (try simp only [hn, w1, push_cast, simprocAttr])
              refine at_fin ⟨(i + 1, o), ⟨by dsimp only; omega, by dsimp only; omega, s5⟩, by dsimp only; omega, ?_⟩
              (refine wk_ok ?_ ?_ ?_ ?_ <;> simp [cmC, leL, leH, idsL, idsA, idsR, inH, hget, sameRow, upA, hvA, dsts, dstO, setA_0, setA_1, setA_8, List.append, List.cons_append, List.nil_append])
      · have hm : c.p ∈ (l.take i).map (·.p) := by simpa [firstB] using hf
        (try simp only [hf, w1, push_cast, simprocAttr])
        refine at_fin ⟨(i + 1, o), ⟨by dsimp only; omega, by dsimp only; omega, s1 hm⟩, by dsimp only; omega, ?_⟩
        (refine wk_ok ?_ ?_ ?_ ?_ <;> simp [leL, leH, idsL, idsA, idsR, inH, hget, sameRow, upA, hvA, dsts, dstO, setA_0, setA_1, setA_8, List.append, List.cons_append, List.nil_append])
    · have i0 : ltI (i : Int) l.length = false := ltI_f (by omega)
      rw [List.drop_of_length_le (by omega)] at q3
      simp only [outA, Option.map_some, show fltC [] = [] from rfl, List.append_nil] at q3
      have hcan : lCanon l = some (cSort o) := by rw [hO, q3]; rfl
      have hS := l14Sort_pc o (by omega)
      refine go_on_n 12 ?_
      (try simp only [i0, run_0, push_cast, simprocAttr])
      refine at_more ?_
      (refine at_frzS [12] (by refine wk_frz ?_ ?_ ?_ ?_ <;> simp [frzS, frzT, hasN, delL, hdel, leF, leHF, frzB, idsL, idsA, idsR, inH, hget, sameRow, viewN, tk]) ?_; simp only [frzS, frzT, hasN, delL, hdel, idsA, idsL, viewN, hget, List.map_cons, List.map_nil, List.all_cons, List.all_nil, List.append_nil, List.drop, List.getElem?_cons_zero, List.getElem?_cons_succ, Bool.not_false, Bool.not_true, Bool.and_true, if_true, if_false, simprocAttr])
      refine go_on ?_
      (try simp only [push_cast, simprocAttr])
      ((try simp only [push_cast, simprocAttr]); refine at_share (by first | rfl | simp [isC]) (by first | rfl | simp only [ren]) (hS) (go_on ?_); (try simp only [push_cast, simprocAttr]))
      refine at_ret ?_; simp only [Tryz.results87, push_cast, simprocAttr]
      simp [canS, vX, hcan]
end Go.Proofs.YtpanjecgbnomhaaGreatDoor
/-
  Walks: SiteCanon, SiteShort, twice.
-/
namespace Go.Proofs.YtpanjecgbnomhaaGreatDoor
open Go Go.RowKit Go.Proofs
theorem siteSh_bad {s : St} (h : siteV s = false) : siteSh s = (st0, false) := by simp [siteSh, h]
theorem siteSh_ok {s : St} (h : siteV s = true) : siteSh s = (⟨s.ep, s.base, siteC s⟩, true) := by simp [siteSh, h]
attribute [local irreducible] RWp AW run kPe pe Kt effA gd gu br retR RDp runD kPeD brW gW effD
set_option maxRecDepth 100000
theorem SiteCanon_pc (s : St) (hs : SmS s) : PC Tryz.prog 19 [stA' s] (rX (.o 0 (siteC s).length) [rowC (siteC s)]) := by
  have hL := LogCanon_pc s.log hs.l
  have hV := SiteValid_pc s hs
  unfold stA' stC at hV ⊢
  unfold canD at hL
  refine pc_enter Tryz.func19 rfl rfl fun w0 fb => go_on ?_; (try simp only [Tryz.ntmps19, push_cast, simprocAttr])
  refine at_call ?_
  (try simp only [push_cast, simprocAttr])
  refine rwc_v hV ?_
  (try simp only [push_cast, simprocAttr])
  (refine at_dropS [2] (by refine wk_ok ?_ ?_ ?_ ?_ <;> simp [dropS, dropT, hasN, delL, hdel, leL, leH, idsL, idsA, idsR, inH, hget, sameRow]) ?_; simp only [dropS, dropT, hasN, delL, hdel, idsA, idsL, hget, List.map_cons, List.map_nil, List.all_cons, List.all_nil, List.append_nil, Bool.not_false, Bool.not_true, Bool.and_true, if_true, if_false, simprocAttr])
  refine go_on ?_
  (try simp only [push_cast, simprocAttr])
  refine at_b (fun hb => ?_) (fun hb => ?_)
  · have h : siteV s = false := not_t hb
    (try simp only [hb, push_cast, simprocAttr])
    refine at_ret ?_; simp only [Tryz.results19, push_cast, simprocAttr]
    simp [rX, siteC, h, ixOf]
  · have h : siteV s = true := not_f hb
    have e : siteC s = (lCanon s.log).getD [] := by simp [siteC, h]
    rw [← e] at hL
    (try simp only [hb, push_cast, simprocAttr])
    (refine at_call ?_; (try simp only [push_cast, simprocAttr]); refine rwc_r (hL) (by simp [flatV, flatL]) (flat_c _) (by simp [frB, baseOf]) (go_on ?_); (try simp only [push_cast, simprocAttr]))
    refine at_ret ?_; simp only [Tryz.results19, push_cast, simprocAttr]
    simp [rX, ixOf]
theorem SiteCanon_d (s : St) (hs : SmS s) : PC Tryz.prog 19 [stA' s] (vX (cmA (siteC s))) := by
  have := (SiteCanon_pc s hs).frzX
  simpa [viewN, hpOf, hget, isC, tk] using this
theorem specSiteCanon_pc (s : St) (hs : SmS s) : PC Tryz.prog 47 [stA' s] (vX (cmA (siteC s))) := by
  have hL := specLogCanon_pc s.log hs.l
  have hV := specSiteValid_pc s hs
  unfold stA' stC at hV ⊢
  unfold canS at hL
  refine pc_enter Tryz.func47 rfl rfl fun w0 fb => go_on ?_; (try simp only [Tryz.ntmps47, push_cast, simprocAttr])
  (refine at_call ?_; (try simp only [push_cast, simprocAttr]); refine rwc_v (hV) (go_on ?_); (try simp only [push_cast, simprocAttr]))
  refine at_b (fun hb => ?_) (fun hb => ?_)
  · have h : siteV s = false := not_t hb
    (try simp only [hb, push_cast, simprocAttr])
    refine at_retf ?_; simp only [Tryz.results47, push_cast, simprocAttr]
    simp [vX, siteC, h, ixOf]
  · have h : siteV s = true := not_f hb
    have e : siteC s = (lCanon s.log).getD [] := by simp [siteC, h]
    rw [← e] at hL
    (try simp only [hb, push_cast, simprocAttr])
    ((try simp only [push_cast, simprocAttr]); refine at_share2 (by simp [isC2, isC]) (by first | rfl | simp [ren]) (hL) (go_on ?_); (try simp only [push_cast, simprocAttr]))
    refine at_ret ?_; simp only [Tryz.results47, push_cast, simprocAttr]
    simp [vX, ixOf]
def shR (s : St) : AV → List Row → Prop := rX (.tup [stO (siteSh s).1, bA (siteSh s).2]) [rowN (siteSh s).1.base, rowC (siteSh s).1.log]
theorem SiteShort_pc0 (s : St) (hs : SmS s) (h : siteV s = false) : PC Tryz.prog 34 [stA' s] (vX (.tup [st00, bA false])) := by
  have hV := SiteValid_pc s hs
  unfold stA' stC at hV ⊢
  refine pc_enter Tryz.func34 rfl rfl fun w0 fb => go_on ?_; (try simp only [Tryz.ntmps34, push_cast, simprocAttr])
  (refine at_call ?_; (try simp only [push_cast, simprocAttr]); refine rwc_v (hV) (go_on ?_); (try simp only [push_cast, simprocAttr]))
  (try simp only [h, Bool.not_false, push_cast, simprocAttr])
  refine at_ret ?_; simp only [Tryz.results34, push_cast, simprocAttr]
  simp [vX, st00]
theorem SiteShort_pc1 (s : St) (hs : SmS s) (h : siteV s = true) : PC Tryz.prog 34 [stA' s] (shR s) := by
  have hV := SiteValid_pc s hs
  have hb : s.base.length < 4294967281 := hs.t.n'
  have hl : s.log.length < 4294967280 := hs.l.n
  have hK := clone_pc s hb (by omega)
  have hC := SiteCanon_pc s hs
  have e := siteSh_ok h
  unfold stA' stC at hV hK hC ⊢
  unfold stO at hK
  refine pc_enter Tryz.func34 rfl rfl fun w0 fb => go_on ?_; (try simp only [Tryz.ntmps34, push_cast, simprocAttr])
  (refine at_call ?_; (try simp only [push_cast, simprocAttr]); refine rwc_v (hV) (go_on ?_); (try simp only [push_cast, simprocAttr]))
  (try simp only [h, Bool.not_true, push_cast, simprocAttr])
  (refine at_call ?_; (try simp only [push_cast, simprocAttr]); refine rwc_r (hK) (by simp [flatV, flatL]) (flat_nc _ _) (by simp [frB, baseOf]) (go_on ?_); (try simp only [push_cast, simprocAttr]))
  (refine at_call ?_; (try simp only [push_cast, simprocAttr]); refine rwc_r (hC) rfl (flat_c _) (by simp [frB, baseOf]) (go_on ?_); (try simp only [push_cast, simprocAttr]))
  refine at_ret ?_; simp only [Tryz.results34, push_cast, simprocAttr]
  simp [shR, rX, e, stO, ixOf]
theorem SiteShort_d (s : St) (hs : SmS s) : PC Tryz.prog 34 [stA' s] (vX (.tup [stA' (siteSh s).1, bA (siteSh s).2])) := by
  cases h : siteV s with
  | false =>
    rw [siteSh_bad h]
    refine (SiteShort_pc0 s hs h).less fun h loc w v hg => hg.tup2 rfl fun j x y u h1 h2 h3 => ?_
    rcases j with _ | _ | j
    · cases h1; cases h2; exact nil_st0 h3
    · cases h1; cases h2; exact h3
    · cases h1
  | true =>
    have := (SiteShort_pc1 s hs h).frzX
    simpa [viewN, hpOf, hget, stO, stA', stC, isC, tk] using this
end Go.Proofs.YtpanjecgbnomhaaGreatDoor
/-
  Walks: canonical logs are short.
-/
namespace Go.Proofs.YtpanjecgbnomhaaGreatDoor
open Go Go.RowKit Go.Proofs
theorem siteC_cv (s : St) : (siteC s).length ≤ 20 ∧ ∀ c ∈ siteC s, CV c := by
  cases h : siteV s with
  | true =>
    obtain ⟨t, L, hs⟩ := (siteV_iff s).1 h
    rw [hs.C]
    exact ⟨hs.l20, hs.co.cv⟩
  | false =>
    have : siteC s = [] := by simp [siteC, h]
    rw [this]
    exact ⟨by simp, by simp⟩
theorem siteC_sm (s : St) : SmL (siteC s) := by
  obtain ⟨h1, h2⟩ := siteC_cv s
  refine ⟨by omega, fun c hc => ?_⟩
  have h := h2 c hc
  have := (pV_len h.p h.r).2
  omega
theorem siteSh_sm {s : St} (hs : SmS s) : SmS (siteSh s).1 := by
  cases h : siteV s with
  | true => rw [siteSh_ok h]; exact ⟨hs.t, siteC_sm s⟩
  | false =>
    rw [siteSh_bad h]
    exact ⟨⟨⟨by simp [st0], by simp [st0]⟩, by simp [st0]⟩, ⟨by simp [st0], by simp [st0]⟩⟩
end Go.Proofs.YtpanjecgbnomhaaGreatDoor
/-
  Walks: conflicts of commands.
-/
namespace Go.Proofs.YtpanjecgbnomhaaGreatDoor
open Go Go.RowKit Go.Proofs
/-- A command as a value. -/
def vC (c : Cm) : Value := .agg #[sV c.p, .int .i64 c.a.k, .int .i64 c.a.v, .int .i64 c.b.k, .int .i64 c.b.v]
theorem C.vC {lv : Nat → Prop} {w : World} {u : Value} {c : Cm} (h : C lv 0 w (.v (Go.Proofs.YtpanjecgbnomhaaGreatDoor.vC c)) u) : C lv 0 w (cmdA c) u := by
  cases h
  refine .agg _ rfl fun j a ha => ?_
  rcases j with _ | _ | _ | _ | _ | j
  · cases ha; exact .v
  · cases ha; exact .v
  · cases ha; exact .v
  · cases ha; exact .v
  · cases ha; exact .v
  · simp [cmC] at ha
theorem isPrefix_take (a b : Str) : (decide (b.length ≤ a.length) && decide (a.take b.length = b)) = b.isPrefixOf a := by
  rw [Bool.eq_iff_iff, Bool.and_eq_true, decide_eq_true_eq, decide_eq_true_eq, List.isPrefixOf_iff_prefix, List.prefix_iff_eq_take]
  constructor
  · rintro ⟨_, h⟩; exact h.symm
  · intro h
    refine ⟨?_, h.symm⟩
    rw [h, List.length_take]; omega
theorem cm_eq (x y : Cm) : (decide (x.p = y.p) && ((eqI x.a.k y.a.k && eqI x.a.v y.a.v) && (eqI x.b.k y.b.k && eqI x.b.v y.b.v))) = decide (x = y) := by
  rw [Bool.eq_iff_iff]; simp [eqI_d, cm_ext, ct_ext]
attribute [local irreducible] RWp AW run kPe pe Kt effA gd gu br retR RDp runD kPeD brW gW effD
set_option maxRecDepth 100000
theorem HasPrefix0_pc (a b : Str) (ha : a.length < 4294967290) (hb : b.length < 4294967290) : PC Tryz.prog 184 [sA a, sA b] (vB (b.isPrefixOf a)) := by
  rw [← isPrefix_take]
  refine pc_enter Tryz.func184 rfl rfl fun w0 fb => go_on ?_; (try simp only [Tryz.ntmps184, push_cast, simprocAttr])
  by_cases h : b.length ≤ a.length
  · have i0 : leI (b.length : Int) a.length = true := leI_t (by omega)
    have i1 : (b.length : Int) ≤ a.length := by omega
    (try simp only [i0, i1, push_cast, simprocAttr])
    refine at_ret ?_; simp only [Tryz.results184, push_cast, simprocAttr]
    simp [vX, h]
  · have i0 : leI (b.length : Int) a.length = false := leI_f (by omega)
    (try simp only [i0, push_cast, simprocAttr])
    refine at_ret ?_; simp only [Tryz.results184, push_cast, simprocAttr]
    simp [vX, h]
theorem HasPrefix_pc (a b : Str) (ha : a.length < 4294967290) (hb : b.length < 4294967290) : PC Tryz.prog 169 [sA a, sA b] (vB (b.isPrefixOf a)) := by
  refine pc_enter Tryz.func169 rfl rfl fun w0 fb => go_on ?_; (try simp only [Tryz.ntmps169, push_cast, simprocAttr])
  (refine at_call ?_; (try simp only [push_cast, simprocAttr]); refine rwc_v (HasPrefix0_pc a b ha hb) (go_on ?_); (try simp only [push_cast, simprocAttr]))
  refine at_ret ?_; simp only [Tryz.results169, push_cast, simprocAttr]
  simp [vX]
theorem under_pc (a s : Str) (ha : a.length < 4294967285) (hs : s.length < 4294967285) : PC Tryz.prog 136 [sA a, sA s] (vB (und a s)) := by
  have hH := HasPrefix_pc s (a ++ [47]) (by omega) (by simp; omega)
  have w5 : a.length + 1 ≤ 9223372036854775807 := by omega
  refine pc_enter Tryz.func136 rfl rfl fun w0 fb => go_on ?_; (try simp only [Tryz.ntmps136, push_cast, simprocAttr])
  refine at_b (fun hb => ?_) (fun hb => ?_)
  · have h : a = [47] := by simpa using hb
    (try simp only [hb, push_cast, simprocAttr])
    refine at_ret ?_; simp only [Tryz.results136, push_cast, simprocAttr]
    by_cases hs : s = [47] <;> simp [vX, und, h, root, hs]
  · have h : ¬ a = [47] := by simpa using hb
    (try simp only [hb, w5, push_cast, simprocAttr])
    (refine at_call ?_; (try simp only [push_cast, simprocAttr]); refine rwc_v (hH) (go_on ?_); (try simp only [push_cast, simprocAttr]))
    refine at_ret ?_; simp only [Tryz.results136, push_cast, simprocAttr]
    simp [vX, und, h, root]
theorem stops_pc (c d : Cm) (hc : c.p.length < 4294967285) (hd : d.p.length < 4294967285) : PC Tryz.prog 91 [cmdA c, cmdA d] (vB (stops c d)) := by
  have hU := under_pc c.p d.p hc hd
  have e : stops c d = (und c.p d.p && !eqI c.b.k 1 && !eqI d.b.k 0) := by unfold stops; rw [eqI_d, eqI_d]; simp
  unfold cmdA cmC
  refine pc_enter Tryz.func91 rfl rfl fun w0 fb => go_on ?_; (try simp only [Tryz.ntmps91, push_cast, simprocAttr])
  repeat' first | (refine at_b (fun hb => ?_) (fun hb => ?_) <;> simp only [hb, push_cast, simprocAttr]) | (refine at_ret ?_; simp only [Tryz.results91, push_cast, simprocAttr]) | (refine at_call ?_; (try simp only [push_cast, simprocAttr]); refine rwc_v (by first | exact hU) (go_on ?_); simp only [push_cast, simprocAttr]) | (show RWp _ _ _ _ _; simp only [push_cast, simprocAttr])
  all_goals simp [vX, e, *]
theorem clashes_pc (c d : Cm) (hc : c.p.length < 4294967285) (hd : d.p.length < 4294967285) : PC Tryz.prog 49 [cmdA c, cmdA d] (vB (clash c d)) := by
  have h1 := stops_pc c d hc (by omega)
  have h2 := stops_pc d c hd (by omega)
  have e : clash c d = ((decide (c.p = d.p) && !decide (c.b = d.b)) || stops c d || stops d c) := by unfold clash; simp
  unfold cmdA cmC at *
  refine pc_enter Tryz.func49 rfl rfl fun w0 fb => go_on ?_; (try simp only [Tryz.ntmps49, push_cast, simprocAttr])
  repeat' first | (refine at_b (fun hb => ?_) (fun hb => ?_) <;> simp only [ctg, cth, ct_eq, hb, push_cast, simprocAttr]) | (refine at_ret ?_; simp only [ctg, cth, ct_eq, Tryz.results49, push_cast, simprocAttr]) | (refine at_call ?_; (try simp only [push_cast, simprocAttr]); refine rwc_v (by first | exact h1 | exact h2) (go_on ?_); simp only [ctg, cth, ct_eq, push_cast, simprocAttr]) | (show RWp _ _ _ _ _; simp only [ctg, cth, ct_eq, push_cast, simprocAttr])
  all_goals simp [vX, e, *]
theorem IndexFuncV_pc (l : List Cm) (hl : l.length < 4294967281) (g : FuncId) (fs cs : Array Value) (p : Cm → Bool) (hp : ∀ n ∈ l, PC Tryz.prog g (fs.toList.map .v ++ ([cmdA n] ++ cs.toList.map .v)) (vB (p n))) :
    PC Tryz.prog 92 [cmA l, .v (.func (.func g) fs cs)] (vI (idxF p 0 l)) := by
  refine pc_enter Tryz.func92 rfl rfl fun w0 fb => go_on ?_; (try simp only [Tryz.ntmps92, push_cast, simprocAttr])
  refine at_loop (X := Nat) (fun k => [(8, iA k)]) (fun _ => []) (fun k => k ≤ l.length ∧ idxF p 0 l = idxF p k (l.drop k)) (fun k => l.length - k) 0 ⟨Nat.zero_le _, rfl⟩ ?_ ?_
  · (refine wk_ok ?_ ?_ ?_ ?_ <;> simp [leL, leH, idsL, idsA, idsR, inH, hget, sameRow, upA, hvA, dsts, dstO, setA_0, setA_1, setA_8, List.append, List.cons_append, List.nil_append])
  · rintro k ⟨h1, h2⟩
    simp only [upA, hvA, dsts, dstO, setA_0, setA_1, setA_8, List.append, List.cons_append, List.nil_append]
    refine go_on ?_
    (try simp only [push_cast, simprocAttr])
    refine at_b (fun hg => ?_) (fun hg => ?_)
    · have hlt := lt_tt hg
      obtain ⟨x, hk⟩ := get_of_lt hlt
      have i1 := ix_n hk
      have i2 := map_get cmC hk
      simp only [cmC] at i2
      rw [drop_of_get hk] at h2
      have hx := hp x (mem_of_get hk)
      unfold cmdA cmC at hx
      have hv : ∀ l : List Value, (l.map AV.v).map (viewN 3 []) = l.map AV.v := fun l => by rw [List.map_map]; exact List.map_congr_left fun y _ => by simp [viewN, isC]
      (try simp only [hg, i1, i2, push_cast, simprocAttr])
      have hm : (fs.toList.map AV.v ++ AV.agg [sA x.p, iA x.a.k, iA x.a.v, iA x.b.k, iA x.b.v] :: cs.toList.map AV.v).map (viewN 3 []) = fs.toList.map AV.v ++ ([AV.agg [sA x.p, iA x.a.k, iA x.a.v, iA x.b.k, iA x.b.v]] ++ cs.toList.map AV.v) := by
        rw [List.map_append, List.map_cons, hv, hv]; rfl
      refine at_call ?_
      refine rwc_v (x := .bool (p x)) (Eq.mpr (congrArg (fun a => PC Tryz.prog g a (vB (p x))) hm) hx) (go_on ?_)
      cases hpx : p x with
      | true =>
        (try simp only [hpx, push_cast, simprocAttr])
        refine at_ret ?_; simp only [Tryz.results92, push_cast, simprocAttr]
        simp [vX, h2, idxF, hpx]
      | false =>
        have w1 := wr ((k : Int) + 1) (by omega)
        (try simp only [hpx, w1, push_cast, simprocAttr])
        refine at_fin ⟨k + 1, ⟨by omega, ?_⟩, by omega, ?_⟩
        · rw [h2]; simp [idxF, hpx]
        · (refine wk_ok ?_ ?_ ?_ ?_ <;> simp [leL, leH, idsL, idsA, idsR, inH, hget, sameRow, upA, hvA, dsts, dstO, setA_0, setA_1, setA_8, List.append, List.cons_append, List.nil_append])
    · have h3 := lt_ff hg
      (try simp only [hg, push_cast, simprocAttr])
      refine at_ret ?_; simp only [Tryz.results92, push_cast, simprocAttr]
      rw [List.drop_of_length_le h3] at h2
      simp [vX, h2, idxF]
end Go.Proofs.YtpanjecgbnomhaaGreatDoor
/-
  Walks: slices of commands and nodes: Index, Contains, Equal, IsSortedFunc.
-/
namespace Go.Proofs.YtpanjecgbnomhaaGreatDoor
open Go Go.RowKit Go.Proofs
attribute [local irreducible] RWp AW run kPe pe Kt effA gd gu br retR RDp runD kPeD brW gW effD
set_option maxRecDepth 100000
theorem IndexC_pc (l : List Cm) (hl : l.length < 4294967281) (c : Cm) : PC Tryz.prog 142 [cmA l, cmdA c] (vI (idxF (fun d => decide (c = d)) 0 l)) := by
  unfold cmdA cmC
  refine pc_enter Tryz.func142 rfl rfl fun w0 fb => go_on ?_; (try simp only [Tryz.ntmps142, push_cast, simprocAttr])
  refine at_loop (X := Nat) (fun k => [(8, iA k)]) (fun _ => [(3, ⟨57, 5, [cmC c], true⟩)]) (fun k => k ≤ l.length ∧ idxF (fun d => decide (c = d)) 0 l = idxF (fun d => decide (c = d)) k (l.drop k)) (fun k => l.length - k) 0 ⟨Nat.zero_le _, rfl⟩ ?_ ?_
  · (refine wk_ok ?_ ?_ ?_ ?_ <;> simp [cmC, leL, leH, idsL, idsA, idsR, inH, hget, sameRow, upA, hvA, dsts, dstO, setA_0, setA_1, setA_8, List.append, List.cons_append, List.nil_append])
  · rintro k ⟨h1, h2⟩
    simp only [upA, hvA, dsts, dstO, setA_0, setA_1, setA_8, List.append, List.cons_append, List.nil_append]
    refine go_on ?_
    (try simp only [push_cast, simprocAttr])
    refine at_b (fun hg => ?_) (fun hg => ?_)
    · have hlt := lt_tt hg
      obtain ⟨x, hk⟩ := get_of_lt hlt
      have i1 := ix_n hk
      have i2 := map_get cmC hk
      simp only [cmC] at i2
      rw [drop_of_get hk] at h2
      have e := cm_eq c x
      (try simp only [hg, push_cast, simprocAttr])
      refine at_draw rfl (by kernel_rfl) ?_
      (try simp only [i1, i2, ctg, cth, cmg, cmh, push_cast, simprocAttr])
      refine at_done (by kernel_rfl) (by kernel_rfl) (go_on ?_)
      (try simp only [e, push_cast, simprocAttr])
      refine at_b (fun hn => ?_) (fun hn => ?_)
      · (try simp only [hn, push_cast, simprocAttr])
        refine at_ret ?_; simp only [Tryz.results142, push_cast, simprocAttr]
        simp [vX, h2, idxF, hn]
      · have w1 := wr ((k : Int) + 1) (by omega)
        (try simp only [hn, w1, push_cast, simprocAttr])
        refine at_fin ⟨k + 1, ⟨by omega, ?_⟩, by omega, ?_⟩
        · rw [h2]; simp [idxF, hn]
        · (refine wk_ok ?_ ?_ ?_ ?_ <;> simp [cmC, leL, leH, idsL, idsA, idsR, inH, hget, sameRow, upA, hvA, dsts, dstO, setA_0, setA_1, setA_8, List.append, List.cons_append, List.nil_append])
    · have h3 := lt_ff hg
      (try simp only [hg, push_cast, simprocAttr])
      refine at_ret ?_; simp only [Tryz.results142, push_cast, simprocAttr]
      rw [List.drop_of_length_le h3] at h2
      simp [vX, h2, idxF]
theorem ContainsC_pc (l : List Cm) (hl : l.length < 4294967281) (c : Cm) : PC Tryz.prog 114 [cmA l, cmdA c] (vB (decide (c ∈ l))) := by
  have hI := IndexC_pc l hl c
  have e : leI 0 (idxF (fun d => decide (c = d)) 0 l) = decide (c ∈ l) := by
    rw [idxF_any, Bool.eq_iff_iff, List.any_eq_true, decide_eq_true_eq]
    exact ⟨fun ⟨x, h1, h2⟩ => by simp at h2; rw [h2]; exact h1, fun h => ⟨c, h, by simp⟩⟩
  unfold cmdA cmC at *
  refine pc_enter Tryz.func114 rfl rfl fun w0 fb => go_on ?_; (try simp only [Tryz.ntmps114, push_cast, simprocAttr])
  (refine at_call ?_; (try simp only [push_cast, simprocAttr]); refine rwc_v (hI) (go_on ?_); (try simp only [push_cast, simprocAttr]))
  refine at_ret ?_; simp only [Tryz.results114, push_cast, simprocAttr]
  simp [vX, e]
theorem EqualN_pc (a b : List Nd) (hl : a.length < 4294967281) : PC Tryz.prog 82 [ndA a, ndA b] (vB (decide (a = b))) := by
  refine pc_enter Tryz.func82 rfl rfl fun w0 fb => go_on ?_; (try simp only [Tryz.ntmps82, push_cast, simprocAttr])
  refine at_b (fun hb => ?_) (fun hb => ?_)
  · have h1 := of_eqI_f (not_t hb)
    have h2 : a ≠ b := by rintro rfl; exact h1 rfl
    (try simp only [hb, push_cast, simprocAttr])
    refine at_ret ?_; simp only [Tryz.results82, push_cast, simprocAttr]
    simp [vX, h2]
  · have h1 : a.length = b.length := by have := of_eqI_t (not_f hb); omega
    (try simp only [hb, push_cast, simprocAttr])
    refine at_loop (X := Nat) (fun k => [(13, iA k)]) (fun _ => []) (fun k => k ≤ a.length ∧ decide (a = b) = decide (a.drop k = b.drop k)) (fun k => a.length - k) 0 ⟨Nat.zero_le _, rfl⟩ ?_ ?_
    · (refine wk_ok ?_ ?_ ?_ ?_ <;> simp [leL, leH, idsL, idsA, idsR, inH, hget, sameRow, upA, hvA, dsts, dstO, setA_0, setA_1, setA_8, List.append, List.cons_append, List.nil_append])
    · rintro k ⟨q1, q2⟩
      simp only [upA, hvA, dsts, dstO, setA_0, setA_1, setA_8, List.append, List.cons_append, List.nil_append]
      refine go_on ?_
      (try simp only [push_cast, simprocAttr])
      refine at_b (fun hg => ?_) (fun hg => ?_)
      · have hlt := lt_tt hg
        obtain ⟨x, hx⟩ := get_of_lt hlt
        obtain ⟨y, hy⟩ := get_of_lt (l := b) (k := k) (by omega)
        have i1 := ix_n hx
        have i3 := ix_n hy
        have i2 := map_get ndC hx
        have i4 := map_get ndC hy
        simp only [ndC] at i2 i4
        rw [drop_of_get hx, drop_of_get hy] at q2
        have w2 := wr ((k : Int) + 1) (by omega)
        (try simp only [hg, push_cast, simprocAttr])
        refine at_draw rfl (by kernel_rfl) ?_
        (try simp only [i1, i2, i3, i4, ctg, cth, ndg, ndh, push_cast, simprocAttr])
        refine at_done (by kernel_rfl) (by kernel_rfl) (go_on ?_)
        have e : (decide (x.p = y.p) && (eqI x.c.k y.c.k && eqI x.c.v y.c.v)) = decide (x = y) := by
          rw [Bool.eq_iff_iff]; simp [eqI_d, nd_ext, ct_ext]
        (try simp only [e, push_cast, simprocAttr])
        refine at_b (fun hn => ?_) (fun hn => ?_)
        · have hxy : x ≠ y := by simpa using hn
          (try simp only [hn, push_cast, simprocAttr])
          refine at_ret ?_; simp only [Tryz.results82, push_cast, simprocAttr]
          simp [vX, q2, hxy]
        · have hxy : x = y := by simpa using hn
          (try simp only [hn, w2, push_cast, simprocAttr])
          refine at_fin ⟨k + 1, ⟨by omega, ?_⟩, by omega, ?_⟩
          · rw [q2]; simp [hxy]
          · (refine wk_ok ?_ ?_ ?_ ?_ <;> simp [leL, leH, idsL, idsA, idsR, inH, hget, sameRow, upA, hvA, dsts, dstO, setA_0, setA_1, setA_8, List.append, List.cons_append, List.nil_append])
      · have h3 := lt_ff hg
        (try simp only [hg, push_cast, simprocAttr])
        refine at_ret ?_; simp only [Tryz.results82, push_cast, simprocAttr]
        rw [List.drop_of_length_le h3, List.drop_of_length_le (by omega)] at q2
        simp [vX, q2]
theorem cOrd_step {l : List Cm} {k : Nat} {x y : Cm} (hx : l[k + 1]? = some x) (hy : l[k]? = some y) : cOrd (l.drop k) = (!cLt x y && cOrd (l.drop (k + 1))) := by
  rw [drop_of_get hy, drop_of_get hx]
  simp only [cOrd]
theorem cOrd_pre : ∀ (l : List Cm) (k : Nat), cOrd (l.drop k) = false → cOrd l = false
  | _, 0, h => h
  | [], k + 1, h => by simp [cOrd] at h
  | a :: l, k + 1, h => by
    have := cOrd_pre l k (by simpa using h)
    cases h2 : cOrd (a :: l) with
    | false => rfl
    | true => rw [cOrd_cons h2] at this; cases this
end Go.Proofs.YtpanjecgbnomhaaGreatDoor
/-
  Walks: the canonical order as a comparing function; IsSortedFunc, ContainsFunc, disputed, slices.Equal at commands.
-/
namespace Go.Proofs.YtpanjecgbnomhaaGreatDoor
open Go Go.RowKit Go.Proofs
attribute [local irreducible] RWp AW run kPe pe Kt effA gd gu br retR RDp runD kPeD brW gW effD
set_option maxRecDepth 100000
theorem isNaN_pc (a : Str) : PC Tryz.prog 153 [sA a] (vB false) := by
  refine pc_enter Tryz.func153 rfl rfl fun w0 fb => go_on ?_; (try simp only [Tryz.ntmps153, push_cast, simprocAttr])
  repeat' first | (refine at_b (fun hb => ?_) (fun hb => ?_) <;> simp only [hb, push_cast, simprocAttr]) | (refine at_ret ?_; simp only [Tryz.results153, push_cast, simprocAttr]) | (show RWp _ _ _ _ _; simp only [push_cast, simprocAttr])
  all_goals simp [vX]
theorem Compare_pc (a b : Str) : PC Tryz.prog 119 [sA a, sA b] (vI (cmpS a b)) := by
  refine pc_enter Tryz.func119 rfl rfl fun w0 fb => go_on ?_; (try simp only [Tryz.ntmps119, push_cast, simprocAttr])
  (refine at_call ?_; (try simp only [push_cast, simprocAttr]); refine rwc_v (isNaN_pc a) (go_on ?_); (try simp only [push_cast, simprocAttr]))
  (refine at_call ?_; (try simp only [push_cast, simprocAttr]); refine rwc_v (isNaN_pc b) (go_on ?_); (try simp only [push_cast, simprocAttr]))
  cases h1 : slt a b with
  | true =>
    (try simp only [h1, push_cast, simprocAttr])
    refine at_ret ?_; simp only [Tryz.results119, push_cast, simprocAttr]
    simp [vX, cmpS, h1]
  | false =>
    (try simp only [h1, push_cast, simprocAttr])
    have e := gtr_slt a b
    have e' : decide (a = b) = !slt b a := by
      rw [← e]; show decide (a = b) = !!(slt a b || a == b); rw [h1]; by_cases h : a = b <;> simp [h]
    cases h2 : slt b a with
    | true =>
      rw [h2] at e'
      (try simp only [e', Bool.not_true, Bool.not_false, push_cast, simprocAttr])
      refine at_ret ?_; simp only [Tryz.results119, push_cast, simprocAttr]
      simp [vX, cmpS, h1, h2]
    | false =>
      rw [h2] at e'
      (try simp only [e', Bool.not_true, Bool.not_false, push_cast, simprocAttr])
      refine at_ret ?_; simp only [Tryz.results119, push_cast, simprocAttr]
      simp [vX, cmpS, h1, h2]
theorem ends_pc (c : Cm) : PC Tryz.prog 118 [cmdA c] (vB (cEnds c)) := by
  have e : cEnds c = (eqI c.b.k 0 || eqI c.a.k 1) := by unfold cEnds; rw [eqI_d, eqI_d]
  unfold cmdA cmC
  refine pc_enter Tryz.func118 rfl rfl fun w0 fb => go_on ?_; (try simp only [Tryz.ntmps118, push_cast, simprocAttr])
  repeat' first | (refine at_b (fun hb => ?_) (fun hb => ?_) <;> simp only [hb, push_cast, simprocAttr]) | (refine at_ret ?_; simp only [Tryz.results118, push_cast, simprocAttr]) | (show RWp _ _ _ _ _; simp only [push_cast, simprocAttr])
  all_goals simp [vX, e, *]
theorem canonOrder_pc (c d : Cm) : PC Tryz.prog 68 [cmdA c, cmdA d] (vI (cfC c d)) := by
  have h1 := ends_pc c
  have h2 := ends_pc d
  unfold cmdA cmC at *
  refine pc_enter Tryz.func68 rfl rfl fun w0 fb => go_on ?_; (try simp only [Tryz.ntmps68, push_cast, simprocAttr])
  cases e1 : cEnds c <;> cases e2 : cEnds d <;> rw [e1] at h1 <;> rw [e2] at h2
  · (refine at_call ?_; (try simp only [push_cast, simprocAttr]); refine rwc_v (h1) (go_on ?_); (try simp only [push_cast, simprocAttr]))
    (refine at_call ?_; (try simp only [push_cast, simprocAttr]); refine rwc_v (h1) (go_on ?_); (try simp only [push_cast, simprocAttr]))
    (refine at_call ?_; (try simp only [push_cast, simprocAttr]); refine rwc_v (h2) (go_on ?_); (try simp only [push_cast, simprocAttr]))
    (refine at_call ?_; (try simp only [push_cast, simprocAttr]); refine rwc_v (Compare_pc c.p d.p) (go_on ?_); (try simp only [push_cast, simprocAttr]))
    refine at_ret ?_; simp only [Tryz.results68, push_cast, simprocAttr]
    simp [vX, cfC, e1, e2]
  · (refine at_call ?_; (try simp only [push_cast, simprocAttr]); refine rwc_v (h1) (go_on ?_); (try simp only [push_cast, simprocAttr]))
    (refine at_call ?_; (try simp only [push_cast, simprocAttr]); refine rwc_v (h1) (go_on ?_); (try simp only [push_cast, simprocAttr]))
    (refine at_call ?_; (try simp only [push_cast, simprocAttr]); refine rwc_v (h2) (go_on ?_); (try simp only [push_cast, simprocAttr]))
    refine at_ret ?_; simp only [Tryz.results68, push_cast, simprocAttr]
    simp [vX, cfC, e1, e2]
  · (refine at_call ?_; (try simp only [push_cast, simprocAttr]); refine rwc_v (h1) (go_on ?_); (try simp only [push_cast, simprocAttr]))
    (refine at_call ?_; (try simp only [push_cast, simprocAttr]); refine rwc_v (h2) (go_on ?_); (try simp only [push_cast, simprocAttr]))
    (refine at_call ?_; (try simp only [push_cast, simprocAttr]); refine rwc_v (h1) (go_on ?_); (try simp only [push_cast, simprocAttr]))
    refine at_ret ?_; simp only [Tryz.results68, push_cast, simprocAttr]
    simp [vX, cfC, e1, e2]
  · (refine at_call ?_; (try simp only [push_cast, simprocAttr]); refine rwc_v (h1) (go_on ?_); (try simp only [push_cast, simprocAttr]))
    (refine at_call ?_; (try simp only [push_cast, simprocAttr]); refine rwc_v (h2) (go_on ?_); (try simp only [push_cast, simprocAttr]))
    (refine at_call ?_; (try simp only [push_cast, simprocAttr]); refine rwc_v (Compare_pc d.p c.p) (go_on ?_); (try simp only [push_cast, simprocAttr]))
    refine at_ret ?_; simp only [Tryz.results68, push_cast, simprocAttr]
    simp [vX, cfC, e1, e2]
theorem ContainsFuncV_pc (l : List Cm) (hl : l.length < 4294967281) (g : FuncId) (fs cs : Array Value) (p : Cm → Bool) (hp : ∀ n ∈ l, PC Tryz.prog g (fs.toList.map .v ++ ([cmdA n] ++ cs.toList.map .v)) (vB (p n))) :
    PC Tryz.prog 115 [cmA l, .v (.func (.func g) fs cs)] (vB (l.any p)) := by
  have hI := IndexFuncV_pc l hl g fs cs p hp
  have e : leI 0 (idxF p 0 l) = l.any p := idxF_any _ _
  refine pc_enter Tryz.func115 rfl rfl fun w0 fb => go_on ?_; (try simp only [Tryz.ntmps115, push_cast, simprocAttr])
  (refine at_call ?_; (try simp only [push_cast, simprocAttr]); refine rwc_v (hI) (go_on ?_); (try simp only [push_cast, simprocAttr]))
  refine at_ret ?_; simp only [Tryz.results115, push_cast, simprocAttr]
  simp [vX, e]
theorem disputed_pc (c : Cm) (l : List Cm) (hc : c.p.length < 4294967285) (hl : SmL l) : PC Tryz.prog 66 [cmdA c, cmA l] (vB (disp l c)) := by
  have hD := ContainsFuncV_pc l (by have := hl.n; omega) 49 #[vC c] #[] (clash c) (fun n hn => by
    have := hl.p n hn
    refine PC.args (clashes_pc c n hc (by omega)) rfl fun j x y hx hy lv w u hu => ?_
    rcases j with _ | _ | j
    · cases hx; cases hy; exact C.vC hu
    · cases hx; cases hy; exact hu
    · simp at hx)
  unfold cmdA cmC
  refine pc_enter Tryz.func66 rfl rfl fun w0 fb => go_on ?_; (try simp only [Tryz.ntmps66, push_cast, simprocAttr])
  (refine at_call ?_; (try simp only [push_cast, simprocAttr]); refine rwc_v (hD) (go_on ?_); (try simp only [push_cast, simprocAttr]))
  refine at_ret ?_; simp only [Tryz.results66, push_cast, simprocAttr]
  simp [vX, disp]
theorem EqualC_pc (a b : List Cm) (hl : a.length < 4294967281) : PC Tryz.prog 124 [cmA a, cmA b] (vB (decide (a = b))) := by
  refine pc_enter Tryz.func124 rfl rfl fun w0 fb => go_on ?_; (try simp only [Tryz.ntmps124, push_cast, simprocAttr])
  refine at_b (fun hb => ?_) (fun hb => ?_)
  · have h1 := of_eqI_f (not_t hb)
    have h2 : a ≠ b := by rintro rfl; exact h1 rfl
    (try simp only [hb, push_cast, simprocAttr])
    refine at_ret ?_; simp only [Tryz.results124, push_cast, simprocAttr]
    simp [vX, h2]
  · have h1 : a.length = b.length := by have := of_eqI_t (not_f hb); omega
    (try simp only [hb, push_cast, simprocAttr])
    refine at_loop (X := Nat) (fun k => [(13, iA k)]) (fun _ => []) (fun k => k ≤ a.length ∧ decide (a = b) = decide (a.drop k = b.drop k)) (fun k => a.length - k) 0 ⟨Nat.zero_le _, rfl⟩ ?_ ?_
    · (refine wk_ok ?_ ?_ ?_ ?_ <;> simp [leL, leH, idsL, idsA, idsR, inH, hget, sameRow, upA, hvA, dsts, dstO, setA_0, setA_1, setA_8, List.append, List.cons_append, List.nil_append])
    · rintro k ⟨q1, q2⟩
      simp only [upA, hvA, dsts, dstO, setA_0, setA_1, setA_8, List.append, List.cons_append, List.nil_append]
      refine go_on ?_
      (try simp only [push_cast, simprocAttr])
      refine at_b (fun hg => ?_) (fun hg => ?_)
      · have hlt := lt_tt hg
        obtain ⟨x, hx⟩ := get_of_lt hlt
        obtain ⟨y, hy⟩ := get_of_lt (l := b) (k := k) (by omega)
        have i1 := ix_n hx
        have i3 := ix_n hy
        have i2 := map_get cmC hx
        have i4 := map_get cmC hy
        simp only [cmC] at i2 i4
        rw [drop_of_get hx, drop_of_get hy] at q2
        have w2 := wr ((k : Int) + 1) (by omega)
        have e := cm_eq x y
        (try simp only [hg, push_cast, simprocAttr])
        refine at_draw rfl (by kernel_rfl) ?_
        (try simp only [i1, i2, i3, i4, ctg, cth, cmg, cmh, push_cast, simprocAttr])
        refine at_done (by kernel_rfl) (by kernel_rfl) (go_on ?_)
        (try simp only [e, push_cast, simprocAttr])
        refine at_b (fun hn => ?_) (fun hn => ?_)
        · have hxy : x ≠ y := by simpa using hn
          (try simp only [hn, push_cast, simprocAttr])
          refine at_ret ?_; simp only [Tryz.results124, push_cast, simprocAttr]
          simp [vX, q2, hxy]
        · have hxy : x = y := by simpa using hn
          (try simp only [hn, w2, push_cast, simprocAttr])
          refine at_fin ⟨k + 1, ⟨by omega, ?_⟩, by omega, ?_⟩
          · rw [q2]; simp [hxy]
          · (refine wk_ok ?_ ?_ ?_ ?_ <;> simp [leL, leH, idsL, idsA, idsR, inH, hget, sameRow, upA, hvA, dsts, dstO, setA_0, setA_1, setA_8, List.append, List.cons_append, List.nil_append])
      · have h3 := lt_ff hg
        (try simp only [hg, push_cast, simprocAttr])
        refine at_ret ?_; simp only [Tryz.results124, push_cast, simprocAttr]
        rw [List.drop_of_length_le h3, List.drop_of_length_le (by omega)] at q2
        simp [vX, q2]
theorem IsSortedC_pc (l : List Cm) (hl : l.length < 4294967281) : PC Tryz.prog 90 [cmA l, .fn 68 []] (vB (cOrd l)) := by
  have w0' : IntKind.i64.wrap ((l.length : Int) - 1) = (l.length : Int) - 1 := wr _ (by omega)
  refine pc_enter Tryz.func90 rfl rfl fun w0 fb => go_on ?_; (try simp only [Tryz.ntmps90, push_cast, simprocAttr])
  (try simp only [w0', push_cast, simprocAttr])
  refine at_loop (X := Nat) (fun k => [(5, iA ((k : Int) - 1))]) (fun _ => []) (fun k => k ≤ l.length ∧ (k = 0 → l = []) ∧ cOrd (l.drop (k - 1)) = true) (fun k => k) l.length ⟨Nat.le_refl _, fun h => List.eq_nil_of_length_eq_zero h, ?_⟩ ?_ ?_
  · rcases Nat.eq_zero_or_pos l.length with h | h
    · rw [List.eq_nil_of_length_eq_zero h]; rfl
    · obtain ⟨x, hx⟩ := get_of_lt (l := l) (k := l.length - 1) (by omega)
      rw [drop_of_get hx, List.drop_of_length_le (by omega)]
      rfl
  · (refine wk_ok ?_ ?_ ?_ ?_ <;> simp [leL, leH, idsL, idsA, idsR, inH, hget, sameRow, upA, hvA, dsts, dstO, setA_0, setA_1, setA_8, List.append, List.cons_append, List.nil_append])
  · rintro k ⟨q1, q2, q3⟩
    simp only [upA, hvA, dsts, dstO, setA_0, setA_1, setA_8, List.append, List.cons_append, List.nil_append]
    refine go_on ?_
    (try simp only [push_cast, simprocAttr])
    by_cases hk : 2 ≤ k
    · obtain ⟨j, rfl⟩ : ∃ j, k = j + 2 := ⟨k - 2, by omega⟩
      obtain ⟨x, hx⟩ := get_of_lt (l := l) (k := j + 1) (by omega)
      obtain ⟨y, hy⟩ := get_of_lt (l := l) (k := j) (by omega)
      have e1 : (((j + 2 : Nat) : Int) - 1) = ((j + 1 : Nat) : Int) := by omega
      have e2 : (((j + 1 : Nat) : Int) - 1) = (j : Int) := by omega
      have w1 : IntKind.i64.wrap (j : Int) = (j : Int) := wr _ (by omega)
      have i0 : ltI 0 ((j + 1 : Nat) : Int) = true := ltI_t (by omega)
      have i1 := ix_n hx
      have i3 := ix_n hy
      have i2 := map_get cmC hx
      have i4 := map_get cmC hy
      have hC := canonOrder_pc x y
      have hs := cOrd_step hx hy
      rw [show j + 2 - 1 = j + 1 from rfl] at q3
      rw [q3, Bool.and_true, ← ltOf_cf] at hs
      obtain ⟨v, hv⟩ : ∃ v, v = ((j + 1 : Nat) : Int) := ⟨_, rfl⟩
      unfold ltOf at hs
      unfold cmdA at hC
      simp only [cmC] at i2 i4 hC
      rw [e1]
      rw [← hv] at i0 i1 e2 ⊢
      (try simp only [i0, push_cast, simprocAttr])
      refine at_draw rfl (by kernel_rfl) ?_
      (try simp only [i1, i2, e2, w1, i3, i4, push_cast, simprocAttr])
      refine at_callD (by simp [clB, idsL, idsA, hget]) ?_
      (try simp only [push_cast, simprocAttr])
      refine rcd_v hC ?_
      (try simp only [push_cast, simprocAttr])
      refine at_done (by kernel_rfl) (by kernel_rfl) (go_on ?_)
      (try simp only [push_cast, simprocAttr])
      have hl2 : ltI (cfC x y) 0 = decide (cfC x y < 0) := by unfold ltI; rfl
      rw [← hl2] at hs
      refine at_b (fun hn => ?_) (fun hn => ?_)
      · rw [hn] at hs
        have := cOrd_pre l j hs
        (try simp only [hn, push_cast, simprocAttr])
        refine at_ret ?_; simp only [Tryz.results90, push_cast, simprocAttr]
        simp [vX, this]
      · have hn' : ltI (cfC x y) 0 = false := by simpa using hn
        rw [hn'] at hs
        (try simp only [hn', e2, w1, push_cast, simprocAttr])
        refine at_fin ⟨j + 1, ⟨by omega, fun h => by omega, by simpa using hs⟩, by omega, ?_⟩
        (refine wk_ok ?_ ?_ ?_ ?_ <;> simp [e2, show ((j + 1 : Nat) : Int) - 1 = (j : Int) by omega, leL, leH, idsL, idsA, idsR, inH, hget, sameRow, upA, hvA, dsts, dstO, setA_0, setA_1, setA_8, List.append, List.cons_append, List.nil_append])
    · have i0 : ltI 0 ((k : Int) - 1) = false := ltI_f (by omega)
      (try simp only [i0, push_cast, simprocAttr])
      refine at_ret ?_; simp only [Tryz.results90, push_cast, simprocAttr]
      have : k - 1 = 0 := by omega
      rw [this] at q3
      simpa [vX] using q3
end Go.Proofs.YtpanjecgbnomhaaGreatDoor
/-
  Walks: impl.oneEach (a set of paths in a map of the call's own).
-/
namespace Go.Proofs.YtpanjecgbnomhaaGreatDoor
open Go Go.RowKit Go.Proofs
open Go.Maps (Keyed)
theorem und9 : Tryz.prog.underlying 9 = some .string := by kernel_rfl
theorem und4 : Tryz.prog.underlying 4 = some .bool := by kernel_rfl
theorem und136 : Tryz.prog.underlying 136 = some (.map 9 4) := by kernel_rfl
theorem keyed9 : Keyed Tryz.prog 9 := Maps.string_keyed und9
theorem zero4 (w : World) : (zeroValue 4).run Tryz.prog w = .ok (.bool false) w := by kernel_rfl
theorem key9 (s : Str) (h : s.length ≤ maxLen) : keyOf Tryz.prog 9 (sV s) = some (.string s) := by
  have := WideMaps.keyOf_string_mk und9 (s := ⟨s.toArray⟩) (by simpa [ByteArray.size] using h)
  simpa using this
theorem plainElem_bool_inv {v : Value} {z : DataW Unit × List MemPlace} (h : plainElem Tryz.prog 4 v = some z) : ∃ x, v = .bool x ∧ z = (.lit (.bool x), []) := by
  unfold plainElem at h
  rw [und4] at h
  cases v <;> simp at h
  exact ⟨_, rfl, h.symm⟩
theorem C.v_inv' {lv : Nat → Prop} {lo : Nat} {w : World} {x u : Value} (h : C lv lo w (.v x) u) : u = x := by
  cases h; rfl
/-- The map's datum says which paths the list has. -/
def Seen (D : DataW Unit) (l : List Cm) : Prop := ∀ s : Str, D.atKey (.string s) (.lit (.bool false)) = .lit (.bool (l.any fun c => decide (c.p = s)))
theorem Seen.nil : Seen (.map []) [] := fun s => rfl
theorem Seen.put {D : DataW Unit} {l : List Cm} (h : Seen D l) (hm : Maps.IsMap D) (c : Cm) : Seen (D.put (.string c.p) (.lit (.bool true))) (l ++ [c]) := fun s => by
  by_cases e : c.p = s
  · subst e
    rw [Maps.atKey_put_same hm (by simp [WideAt.IsKeyLit])]
    simp
  · rw [Maps.atKey_put_other (by simpa using fun h => e h.symm), h s]
    simp [e]
theorem cmA_rd {fb : Nat → Prop} {w : World} {v : Value} {l : List Cm} (h : C fb 0 w (cmA l) v) : ∃ A cap, v = .slice A l.length cap ∧
    ∀ (k : Nat) c, l[k]? = some c → ∃ b off, A = some ⟨b, off, none⟩ ∧ b < w.heap.size ∧ w.cell? ⟨b, off + k * 5, none⟩ = some (sV c.p) ∧ w.cell? ⟨b, off + k * 5 + 1, none⟩ = some (.int .i64 c.a.k) ∧ w.cell? ⟨b, off + k * 5 + 2, none⟩ = some (.int .i64 c.a.v) ∧ w.cell? ⟨b, off + k * 5 + 3, none⟩ = some (.int .i64 c.b.k) ∧ w.cell? ⟨b, off + k * 5 + 4, none⟩ = some (.int .i64 c.b.v) := by
  generalize hs : (cmA l) = x at h
  cases h with
  | any => cases hs
  | v => cases hs
  | ip => cases hs
  | fn => cases hs
  | agg => cases hs
  | tup => cases hs
  | @sl sz es A cap xs u hr hlv hc hm hl hx hg =>
    cases hs
    refine ⟨A, cap, by simp, fun k c hk => ?_⟩
    obtain ⟨b, off, hA, _, hb, hcell⟩ := hr.2 (by have := lt_of_some hk; simp; omega)
    refine ⟨b, off, hA, hb, ?_⟩
    have he : (l.map cmC)[k]? = some (cmC c) := by rw [List.getElem?_map, hk]; rfl
    have hj : ∀ j, j < 5 → w.cell? ⟨b, off + (k * 5 + j), none⟩ = some ((encC c)[j]!) := fun j hj => by
      have g1 := (hx k _ j he (by simp [cmC]; omega)).1
      have g2 := hg k _ j _ he (encC_get c j hj)
      rw [g2.v_inv'] at g1
      exact hcell _ _ g1
    exact ⟨hj 0 (by omega), hj 1 (by omega), hj 2 (by omega), hj 3 (by omega), hj 4 (by omega)⟩
theorem one1_snoc {l : List Cm} {k : Nat} {c : Cm} (hk : l[k]? = some c) (h : one1 (l.take k) = true) (hn : ((l.take k).any fun d => decide (d.p = c.p)) = false) : one1 (l.take (k + 1)) = true := by
  rw [List.take_add_one, hk]
  rw [one1_iff] at *
  simp only [Option.toList, List.map_append, List.map_cons, List.map_nil]
  rw [List.nodup_append]
  refine ⟨h, by simp, fun a ha b hb => ?_⟩
  simp only [List.mem_singleton] at hb
  subst hb
  rw [List.any_eq_false] at hn
  obtain ⟨d, hd, rfl⟩ := List.mem_map.1 ha
  simpa using hn d hd
theorem one1_hit {l : List Cm} {k : Nat} {c : Cm} (hk : l[k]? = some c) (hn : ((l.take k).any fun d => decide (d.p = c.p)) = true) : one1 l = false := by
  cases h : one1 l with
  | false => rfl
  | true =>
    rw [List.any_eq_true] at hn
    obtain ⟨d, hd, he⟩ := hn
    obtain ⟨j, hj, hjd⟩ := List.mem_take_iff_getElem.1 hd
    rw [one1_iff] at h
    have hlt := lt_of_some hk
    have h1 : j < l.length := by omega
    have hke : l[k] = c := by rw [List.getElem?_eq_getElem hlt] at hk; exact Option.some.inj hk
    have := List.pairwise_iff_getElem.1 h j k (by simpa using h1) (by simpa using hlt) (by omega)
    refine absurd ?_ this
    simp only [List.getElem_map]
    rw [hjd, hke]
    simpa using he
set_option maxRecDepth 100000
set_option maxHeartbeats 1000000
theorem oneEach_c (l : List Cm) (hl : SmL l) (A : Option Addr) (cap : Nat) (w : World)
    (hcell : ∀ (k : Nat) c, l[k]? = some c → ∃ b off, A = some ⟨b, off, none⟩ ∧ b < w.heap.size ∧ w.cell? ⟨b, off + k * 5, none⟩ = some (sV c.p) ∧ w.cell? ⟨b, off + k * 5 + 1, none⟩ = some (.int .i64 c.a.k) ∧ w.cell? ⟨b, off + k * 5 + 2, none⟩ = some (.int .i64 c.a.v) ∧ w.cell? ⟨b, off + k * 5 + 3, none⟩ = some (.int .i64 c.b.k) ∧ w.cell? ⟨b, off + k * 5 + 4, none⟩ = some (.int .i64 c.b.v)) :
    Calls Tryz.prog 89 #[.slice A l.length cap] w fun e w' => e = .returned (.bool (one1 l)) ∧ Below w.heap.size w w' := by
  have hmm := @run_makeMap Tryz.prog
  have hln := hl.n
  go_enter Tryz.func89, Tryz.ntmps89
  go_wp2
  go_loopw [9] (fun i wr => ∃ (k : Nat) (D : DataW Unit), k ≤ l.length ∧ i = .int .i64 k ∧ wr.ownsMap Tryz.prog 9 (plainElem Tryz.prog 4) w.heap.size k D ∧ Seen D (l.take k) ∧ one1 (l.take k) = true ∧ Below w.heap.size w wr)
    (fun i _ => l.length - (intOf i).toNat)
  case atStart => exact ⟨0, _, Nat.zero_le _, rfl, World.ownsMap_made _ _ _ _, Seen.nil, rfl, (Below.refl _ _).alloc (Nat.le_refl _) _⟩
  case round =>
    obtain ⟨k, D, hk, rfl, hown, hseen, hone, hnx⟩ := hrel
    by_cases hlt : k < l.length
    · obtain ⟨c, hc⟩ := get_of_lt hlt
      obtain ⟨b, off, rfl, hb, c0, c1, c2, c3, c4⟩ := hcell k c hc
      have hcc : ∀ x, b < w.heap.size → wr.cell? ⟨b, x, none⟩ = w.cell? ⟨b, x, none⟩ := fun x h => hnx.cell h
      rw [← hcc _ hb] at c0 c1 c2 c3 c4
      have hp := hl.p c (mem_of_get hc)
      have hkey : keyOf Tryz.prog 9 (sV c.p) = some (.string c.p) := key9 _ (by unfold maxLen; omega)
      have hown2 := (hown.alloc (.cells #[.string ⟨c.p.toArray⟩, .int .i64 c.a.k, .int .i64 c.a.v, .int .i64 c.b.k, .int .i64 c.b.v] 57))
      have hnx2 := hnx.alloc (Nat.le_of_lt hown.lt) (.cells #[.string ⟨c.p.toArray⟩, .int .i64 c.a.k, .int .i64 c.a.v, .int .i64 c.b.k, .int .i64 c.b.v] 57)
      obtain ⟨v, ps, hrun, hRv⟩ := hown2.lookup keyed9 und136 (zero4 _) (plainElem_bool und4 false) hkey
      obtain ⟨x, rfl, hx⟩ := plainElem_bool_inv hRv
      have hx' : x = (l.take k).any fun d => decide (d.p = c.p) := by
        have := hseen c.p
        rw [(Prod.mk.inj hx).1] at this
        simpa using this
      clear hx hRv
      have HC := Lib.hid hc
      have HO := Lib.hid hone
      have HS := Lib.hid hseen
      have HX := Lib.hid hx'
      clear hc hone hseen hx'
      cases x with
      | true =>
        go_wp2_with fail
        go_ret
        exact ⟨ret_bool (one1_hit HC.out HX.out.symm).symm, hnx2⟩
      | false =>
        go_wp2_with (first
          | (at_mapUpdate; refine wpList_mapUpdate_own _ rfl _ _ _ 136 rfl 9 4 keyed9 und136 _ w.heap.size k _ rfl hown2 (by unfold maxLen; omega) _ _ _ rfl rfl hkey _ [] (plainElem_bool und4 true) ?_)
          | go_in)
        intro w1 hown3 hgrow
        have hnx3 := hnx2.grown hgrow hnx2.size (fun j hj => by cases hj; exact Nat.le_refl _)
        have hs3 : Seen (D.put (.string c.p) (.lit (.bool true))) (l.take (k + 1)) := by
          rw [List.take_add_one, HC.out]
          exact HS.out.put hown.isMap c
        have ho3 := one1_snoc HC.out HO.out HX.out.symm
        clear hgrow hrun hown hown2 hnx hnx2
        have HN := Lib.hid hnx3
        have HW := Lib.hid hown3
        clear hnx3 hown3
        go_wp2_with fail
        go_roundw
        case rel => exact ⟨k + 1, _, by omega, by go_num, HW.out, hs3, ho3, HN.out⟩
        case measure => simp [intOf]; omega
    · go_wp2_with fail
      go_ret
      have : l.take k = l := List.take_of_length_le (by omega)
      rw [this] at hone
      exact ⟨ret_bool hone.symm, hnx⟩
theorem res_v (fb : Nat → Prop) (base : Nat) (w : World) (x : Value) : Res fb base w [] (.v x) x :=
  ⟨⟨fun _ => none, fb⟩, rfl, .cl .v, fun r row h => by simp [hpOf, hget] at h, fun r r' row row' b c c' h => by simp [hpOf, hget] at h, fun r row b c h => by simp [hpOf, hget] at h⟩
theorem oneEach_pc (l : List Cm) (hl : SmL l) : PC Tryz.prog 89 [cmA l] (vB (one1 l)) := by
  refine ⟨fun vs W => enters_of Tryz.func89 (by kernel_rfl) rfl vs W, fun w fb vs hlw hs hg => ?_⟩
  obtain ⟨A, cap, hv, hcell⟩ := cmA_rd (hg 0 _ rfl)
  have hvs : vs = #[vs.getD 0 undef] := by
    apply Array.ext
    · simpa using hs
    · intro i h1 h2
      have : i = 0 := by simp at h2; omega
      subst this
      simp [Array.getD, h1]
  rw [hvs, hv]
  refine (oneEach_c l hl A cap w hcell).mono ?_
  rintro e w' ⟨rfl, hb⟩
  exact ⟨.v (.bool (one1 l)), [], _, ⟨rfl, rfl⟩, rfl, hb, res_v _ _ _ _⟩
end Go.Proofs.YtpanjecgbnomhaaGreatDoor
/-
  Walks: CanonValid, pick, SafeOf, LeftOf.
-/
namespace Go.Proofs.YtpanjecgbnomhaaGreatDoor
open Go Go.RowKit Go.Proofs
attribute [local irreducible] RWp AW run kPe pe Kt effA gd gu br retR RDp runD kPeD brW gW effD
set_option maxRecDepth 100000
theorem CanonValid_pc (l : List Cm) (hl : SmL l) : PC Tryz.prog 48 [cmA l] (vB (canonV l)) := by
  have h1 := LogValid_pc l hl
  have h2 := oneEach_pc l hl
  have h3 := IsSortedC_pc l (by have := hl.n; omega)
  have e : canonV l = (lV l && one1 l && cOrd l) := rfl
  refine pc_enter Tryz.func48 rfl rfl fun w0 fb => go_on ?_; (try simp only [Tryz.ntmps48, push_cast, simprocAttr])
  repeat' first | (refine at_b (fun hb => ?_) (fun hb => ?_) <;> simp only [hb, push_cast, simprocAttr]) | (refine at_ret ?_; simp only [Tryz.results48, push_cast, simprocAttr]) | (refine at_call ?_; (try simp only [push_cast, simprocAttr]); refine rwc_v (by first | exact h1 | exact h2 | exact h3) (go_on ?_); simp only [push_cast, simprocAttr]) | (show RWp _ _ _ _ _; simp only [push_cast, simprocAttr])
  all_goals simp [vX, e, *]
theorem SafeOf1_pc (a : List Cm) (ha : SmL a) (c : Cm) (hc : c.p.length < 4294967285) : PC Tryz.prog 113 [cmdA c, .ip [cmA a]] (vB (!decide (c ∈ a) && !disp a c)) := by
  have h1 := ContainsC_pc a (by have := ha.n; omega) c
  have h2 := disputed_pc c a hc ha
  unfold cmdA cmC at *
  refine pc_enter Tryz.func113 rfl rfl fun w0 fb => go_on ?_; (try simp only [Tryz.ntmps113, push_cast, simprocAttr])
  repeat' first | (refine at_b (fun hb => ?_) (fun hb => ?_) <;> simp only [hb, push_cast, simprocAttr]) | (refine at_ret ?_; simp only [Tryz.results113, push_cast, simprocAttr]) | (refine at_call ?_; (try simp only [push_cast, simprocAttr]); refine rwc_v (by first | exact h1 | exact h2) (go_on ?_); simp only [push_cast, simprocAttr]) | (show RWp _ _ _ _ _; simp only [push_cast, simprocAttr])
  all_goals simp [vX, *]
theorem LeftOf1_pc (b : List Cm) (hb : SmL b) (c : Cm) (hc : c.p.length < 4294967285) : PC Tryz.prog 71 [cmdA c, .ip [cmA b]] (vB (disp b c)) := by
  have h2 := disputed_pc c b hc hb
  unfold cmdA cmC at *
  refine pc_enter Tryz.func71 rfl rfl fun w0 fb => go_on ?_; (try simp only [Tryz.ntmps71, push_cast, simprocAttr])
  repeat' first | (refine at_b (fun hb => ?_) (fun hb => ?_) <;> simp only [hb, push_cast, simprocAttr]) | (refine at_ret ?_; simp only [Tryz.results71, push_cast, simprocAttr]) | (refine at_call ?_; (try simp only [push_cast, simprocAttr]); refine rwc_v (by first | exact h2) (go_on ?_); simp only [push_cast, simprocAttr]) | (show RWp _ _ _ _ _; simp only [push_cast, simprocAttr])
  all_goals simp [vX, *]
def pck (a b l : List Cm) (p : Cm → Bool) : List Cm := if canonV a && canonV b then l.filter p else []
theorem pick_pc (a b l x : List Cm) (ha : SmL a) (hb : SmL b) (hl : SmL l) (g : FuncId) (p : Cm → Bool) (hp : ∀ c ∈ l, PC Tryz.prog g [cmdA c, .ip [cmA x]] (vB (p c))) :
    PC Tryz.prog 70 [cmA a, cmA b, cmA l, .fn g [.ip [cmA x]]] (rX (.o 0 (pck a b l p).length) [rowC (pck a b l p)]) := by
  have hA := CanonValid_pc a ha
  have hB := CanonValid_pc b hb
  have hln := hl.n
  refine pc_enter Tryz.func70 rfl rfl fun w0 fb => go_on ?_; (try simp only [Tryz.ntmps70, push_cast, simprocAttr])
  refine at_call ?_
  (try simp only [push_cast, simprocAttr])
  refine rwc_v hA ?_
  (try simp only [push_cast, simprocAttr])
  (refine at_dropS [8] (by refine wk_ok ?_ ?_ ?_ ?_ <;> simp [dropS, dropT, hasN, delL, hdel, leL, leH, idsL, idsA, idsR, inH, hget, sameRow]) ?_; simp only [dropS, dropT, hasN, delL, hdel, idsA, idsL, hget, List.map_cons, List.map_nil, List.all_cons, List.all_nil, List.append_nil, Bool.not_false, Bool.not_true, Bool.and_true, if_true, if_false, simprocAttr])
  refine go_on ?_
  (try simp only [push_cast, simprocAttr])
  cases e1 : canonV a with
  | false =>
    have e : pck a b l p = [] := by simp [pck, e1]
    (try simp only [e1, Bool.not_false, push_cast, simprocAttr])
    refine at_ret ?_; simp only [Tryz.results70, push_cast, simprocAttr]
    simp [rX, e, ixOf]
  | true =>
  (try simp only [e1, Bool.not_true, push_cast, simprocAttr])
  cases e2 : canonV b with
  | false =>
    rw [e2] at hB
    have e : pck a b l p = [] := by simp [pck, e2]
    (refine at_call ?_; (try simp only [push_cast, simprocAttr]); refine rwc_v (hB) (go_on ?_); (try simp only [Bool.not_false, push_cast, simprocAttr]))
    refine at_ret ?_; simp only [Tryz.results70, push_cast, simprocAttr]
    simp [rX, e, ixOf]
  | true =>
  rw [e2] at hB
  (refine at_call ?_; (try simp only [push_cast, simprocAttr]); refine rwc_v (hB) (go_on ?_); (try simp only [Bool.not_true, push_cast, simprocAttr]))
  have e : pck a b l p = l.filter p := by simp [pck, e1, e2]
  rw [e]
  refine at_loop (X := Nat × List Cm) (fun x => [(8, .any), (9, .o 9 x.2.length), (22, iA x.1)]) (fun x => [(9, rowC x.2)])
    (fun x => x.1 ≤ l.length ∧ x.2 = (l.take x.1).filter p) (fun x => l.length - x.1) (0, []) ⟨Nat.zero_le _, rfl⟩ ?_ ?_
  · (refine wk_ok ?_ ?_ ?_ ?_ <;> simp [rowC, leL, leH, idsL, idsA, idsR, inH, hget, sameRow, upA, hvA, dsts, dstO, setA_0, setA_1, setA_8, List.append, List.cons_append, List.nil_append])
  · rintro ⟨i, o⟩ ⟨q1, q2⟩
    simp only at q1 q2
    simp only [upA, hvA, dsts, dstO, setA_0, setA_1, setA_8, List.append, List.cons_append, List.nil_append]
    refine go_on ?_
    (try simp only [push_cast, simprocAttr])
    have w1 : IntKind.i64.wrap ((i : Int) + 1) = (i : Int) + 1 := wr _ (by omega)
    have hol : o.length ≤ i := by rw [q2]; exact Nat.le_trans (List.length_filter_le _ _) (by simp; omega)
    by_cases hi : i < l.length
    · obtain ⟨c, hc⟩ := get_of_lt hi
      have i0 : ltI (i : Int) l.length = true := ltI_t (by omega)
      have i1 := ix_n hc
      have i2 := map_get cmC hc
      have hP := hp c (mem_of_get hc)
      unfold cmdA at hP
      simp only [cmC] at i2 hP
      (try simp only [i0, i1, i2, push_cast, simprocAttr])
      (refine at_call ?_; (try simp only [push_cast, simprocAttr]); refine rwc_v (hP) (go_on ?_); (try simp only [push_cast, simprocAttr]))
      have hq : (l.take (i + 1)).filter p = o ++ (if p c then [c] else []) := by
        rw [List.take_add_one, hc, List.filter_append, ← q2]
        cases hpc : p c <;> simp [hpc]
      cases hpc : p c with
      | true =>
        rw [hpc, if_pos rfl] at hq
        have happ : o.map cmC ++ [[sA c.p, iA c.a.k, iA c.a.v, iA c.b.k, iA c.b.v]] = (o ++ [c]).map cmC := by rw [List.map_append]; rfl
        (try simp only [hpc, rowC, push_cast, simprocAttr])
        refine at_chk (by omega) ?_
        (try simp only [happ, rowC, w1, push_cast, simprocAttr])
        refine at_fin ⟨(i + 1, o ++ [c]), ⟨by dsimp only; omega, hq.symm⟩, by dsimp only; omega, ?_⟩
        (refine wk_ok ?_ ?_ ?_ ?_ <;> simp [rowC, cmC, leL, leH, idsL, idsA, idsR, inH, hget, sameRow, upA, hvA, dsts, dstO, setA_0, setA_1, setA_8, List.append, List.cons_append, List.nil_append])
      | false =>
        rw [hpc, if_neg (by simp), List.append_nil] at hq
        (try simp only [hpc, w1, push_cast, simprocAttr])
        refine at_fin ⟨(i + 1, o), ⟨by dsimp only; omega, hq.symm⟩, by dsimp only; omega, ?_⟩
        (refine wk_ok ?_ ?_ ?_ ?_ <;> simp [rowC, cmC, leL, leH, idsL, idsA, idsR, inH, hget, sameRow, upA, hvA, dsts, dstO, setA_0, setA_1, setA_8, List.append, List.cons_append, List.nil_append])
    · have i0 : ltI (i : Int) l.length = false := ltI_f (by omega)
      rw [List.take_of_length_le (by omega)] at q2
      (try simp only [i0, push_cast, simprocAttr])
      refine at_ret ?_; simp only [Tryz.results70, push_cast, simprocAttr]
      simp [rX, ← q2, ixOf]
theorem SafeOf_pc (a b : List Cm) (ha : SmL a) (hb : SmL b) : PC Tryz.prog 65 [cmA a, cmA b] (rX (.o 0 (safeOf a b).length) [rowC (safeOf a b)]) := by
  have hP := pick_pc a b b a ha hb hb 113 _ (fun c hc => SafeOf1_pc a ha c (by have := hb.p c hc; omega))
  refine pc_enter Tryz.func65 rfl rfl fun w0 fb => go_on ?_; (try simp only [Tryz.ntmps65, push_cast, simprocAttr])
  (refine at_call ?_; (try simp only [push_cast, simprocAttr]); refine rwc_r (hP) rfl (flat_c _) (by simp [frB, baseOf]) (go_on ?_); (try simp only [push_cast, simprocAttr]))
  refine at_ret ?_; simp only [Tryz.results65, push_cast, simprocAttr]
  simp [rX, safeOf, pck, ixOf]
theorem LeftOf_pc (a b : List Cm) (ha : SmL a) (hb : SmL b) : PC Tryz.prog 30 [cmA a, cmA b] (rX (.o 0 (leftOf a b).length) [rowC (leftOf a b)]) := by
  have hP := pick_pc a b a b ha hb ha 71 _ (fun c hc => LeftOf1_pc b hb c (by have := ha.p c hc; omega))
  refine pc_enter Tryz.func30 rfl rfl fun w0 fb => go_on ?_; (try simp only [Tryz.ntmps30, push_cast, simprocAttr])
  (refine at_call ?_; (try simp only [push_cast, simprocAttr]); refine rwc_r (hP) rfl (flat_c _) (by simp [frB, baseOf]) (go_on ?_); (try simp only [push_cast, simprocAttr]))
  refine at_ret ?_; simp only [Tryz.results30, push_cast, simprocAttr]
  simp [rX, leftOf, pck, ixOf]
end Go.Proofs.YtpanjecgbnomhaaGreatDoor
/-
  Walks: ClashesOf, PairFits, all, meet, same.
-/
namespace Go.Proofs.YtpanjecgbnomhaaGreatDoor
open Go Go.RowKit Go.Proofs
def pC (p : Int × Int) : List AV := [iA p.1, iA p.2]
abbrev rowP (l : List (Int × Int)) : Row := ⟨72, 2, l.map pC, true⟩
abbrev pA (l : List (Int × Int)) : AV := .sl 2 (l.map pC)
theorem flat_p {E : TypeId} {sz : Nat} {cl : Bool} (l : List (Int × Int)) : FlatR [⟨E, sz, l.map pC, cl⟩] := flat1 l pC fun _ => rfl
theorem canonV_le {l : List Cm} (h : canonV l = true) : l.length ≤ 20 := by
  unfold canonV at h
  simp only [Bool.and_eq_true] at h
  exact lV_len h.1.1
theorem canonV_sm {l : List Cm} (h : canonV l = true) : SmL l := by
  have h1 := canonV_le h
  unfold canonV at h
  simp only [Bool.and_eq_true] at h
  refine ⟨by omega, fun c hc => ?_⟩
  have h2 := lV_cv h.1.1 c hc
  have := (pV_len h2.p h2.r).2
  omega
attribute [local irreducible] RWp AW run kPe pe Kt effA gd gu br retR RDp runD kPeD brW gW effD
set_option maxRecDepth 100000
theorem ClashesOf_pc (a b : List Cm) (ha : SmL a) (hb : SmL b) : PC Tryz.prog 18 [cmA a, cmA b] (rX (.o 0 (clOf a b).length) [rowP (clOf a b)]) := by
  have hA := CanonValid_pc a ha
  have hB := CanonValid_pc b hb
  refine pc_enter Tryz.func18 rfl rfl fun w0 fb => go_on ?_; (try simp only [Tryz.ntmps18, push_cast, simprocAttr])
  refine at_call ?_
  (try simp only [push_cast, simprocAttr])
  refine rwc_v hA ?_
  (try simp only [push_cast, simprocAttr])
  (refine at_dropS [4] (by refine wk_ok ?_ ?_ ?_ ?_ <;> simp [dropS, dropT, hasN, delL, hdel, leL, leH, idsL, idsA, idsR, inH, hget, sameRow]) ?_; simp only [dropS, dropT, hasN, delL, hdel, idsA, idsL, hget, List.map_cons, List.map_nil, List.all_cons, List.all_nil, List.append_nil, Bool.not_false, Bool.not_true, Bool.and_true, if_true, if_false, simprocAttr])
  refine go_on ?_
  (try simp only [push_cast, simprocAttr])
  cases e1 : canonV a with
  | false =>
    have e : clOf a b = [] := by simp [clOf, e1]
    (try simp only [e1, Bool.not_false, push_cast, simprocAttr])
    refine at_ret ?_; simp only [Tryz.results18, push_cast, simprocAttr]
    simp [rX, e, ixOf]
  | true =>
  (try simp only [e1, Bool.not_true, push_cast, simprocAttr])
  cases e2 : canonV b with
  | false =>
    rw [e2] at hB
    have e : clOf a b = [] := by simp [clOf, e2]
    (refine at_call ?_; (try simp only [push_cast, simprocAttr]); refine rwc_v (hB) (go_on ?_); (try simp only [Bool.not_false, push_cast, simprocAttr]))
    refine at_ret ?_; simp only [Tryz.results18, push_cast, simprocAttr]
    simp [rX, e, ixOf]
  | true =>
  rw [e2] at hB
  (refine at_call ?_; (try simp only [push_cast, simprocAttr]); refine rwc_v (hB) (go_on ?_); (try simp only [Bool.not_true, push_cast, simprocAttr]))
  have e : clOf a b = clAll b 0 a := by simp [clOf, e1, e2]
  have hla := canonV_le e1
  have hlb := canonV_le e2
  rw [e]
  refine at_loop (X := Nat × List (Int × Int)) (fun x => [(4, .any), (5, .o 5 x.2.length), (20, iA x.1)]) (fun x => [(5, rowP x.2)])
    (fun x => x.1 ≤ a.length ∧ x.2.length ≤ x.1 * 20 ∧ clAll b 0 a = x.2 ++ clAll b x.1 (a.drop x.1)) (fun x => a.length - x.1) (0, []) ⟨Nat.zero_le _, Nat.zero_le _, rfl⟩ ?_ ?_
  · (refine wk_ok ?_ ?_ ?_ ?_ <;> simp [rowP, leL, leH, idsL, idsA, idsR, inH, hget, sameRow, upA, hvA, dsts, dstO, setA_0, setA_1, setA_8, List.append, List.cons_append, List.nil_append])
  · rintro ⟨i, o⟩ ⟨q1, q2, q3⟩
    simp only at q1 q2 q3
    simp only [upA, hvA, dsts, dstO, setA_0, setA_1, setA_8, List.append, List.cons_append, List.nil_append]
    refine go_on ?_
    (try simp only [push_cast, simprocAttr])
    have w1 : IntKind.i64.wrap ((i : Int) + 1) = (i : Int) + 1 := wr _ (by omega)
    by_cases hi : i < a.length
    · obtain ⟨c, hc⟩ := get_of_lt hi
      have i0 : ltI (i : Int) a.length = true := ltI_t (by omega)
      have i1 := ix_n hc
      have i2 := map_get cmC hc
      simp only [cmC] at i2
      rw [drop_of_get hc] at q3
      simp only [clAll] at q3
      (try simp only [i0, i1, i2, push_cast, simprocAttr])
      refine at_loop (X := Nat × List (Int × Int)) (fun x => [(5, .o 5 x.2.length), (27, iA x.1)]) (fun x => [(5, rowP x.2), (7, ⟨57, 5, [cmC c], true⟩)])
        (fun x => x.1 ≤ b.length ∧ x.2.length ≤ i * 20 + x.1 ∧ o ++ clRow i c 0 b = x.2 ++ clRow i c x.1 (b.drop x.1)) (fun x => b.length - x.1) (0, o) ⟨Nat.zero_le _, by omega, rfl⟩ ?_ ?_
      · (refine wk_ok ?_ ?_ ?_ ?_ <;> simp [rowP, cmC, leL, leH, idsL, idsA, idsR, inH, hget, sameRow, upA, hvA, dsts, dstO, setA_0, setA_1, setA_8, List.append, List.cons_append, List.nil_append])
      · rintro ⟨k, u⟩ ⟨r1, r2, r3⟩
        simp only at r1 r2 r3
        simp only [upA, hvA, dsts, dstO, setA_0, setA_1, setA_8, List.append, List.cons_append, List.nil_append]
        refine go_on ?_
        (try simp only [push_cast, simprocAttr])
        have w2 : IntKind.i64.wrap ((k : Int) + 1) = (k : Int) + 1 := wr _ (by omega)
        by_cases hk : k < b.length
        · obtain ⟨d, hd⟩ := get_of_lt hk
          have k0 : ltI (k : Int) b.length = true := ltI_t (by omega)
          have k1 := ix_n hd
          have k2 := map_get cmC hd
          have hX := clashes_pc c d (by have := ha.p c (mem_of_get hc); omega) (by have := hb.p d (mem_of_get hd); omega)
          unfold cmdA at hX
          simp only [cmC] at k2 hX
          rw [drop_of_get hd] at r3
          simp only [clRow] at r3
          (try simp only [k0, k1, k2, push_cast, simprocAttr])
          (refine at_call ?_; (try simp only [push_cast, simprocAttr]); refine rwc_v (hX) (go_on ?_); (try simp only [push_cast, simprocAttr]))
          cases hcl : clash c d with
          | true =>
            rw [hcl, if_pos rfl] at r3
            have happ : u.map pC ++ [[iA i, iA k]] = (u ++ [((i : Int), (k : Int))]).map pC := by rw [List.map_append]; rfl
            (try simp only [hcl, rowP, push_cast, simprocAttr])
            refine at_chk (by omega) ?_
            (try simp only [happ, rowP, w2, push_cast, simprocAttr])
            refine at_fin ⟨(k + 1, u ++ [((i : Int), (k : Int))]), ⟨by dsimp only; omega, by simp; omega, by simpa using r3⟩, by dsimp only; omega, ?_⟩
            (refine wk_ok ?_ ?_ ?_ ?_ <;> simp [rowP, cmC, pC, leL, leH, idsL, idsA, idsR, inH, hget, sameRow, upA, hvA, dsts, dstO, setA_0, setA_1, setA_8, List.append, List.cons_append, List.nil_append])
          | false =>
            rw [hcl, if_neg (by simp)] at r3
            (try simp only [hcl, w2, push_cast, simprocAttr])
            refine at_fin ⟨(k + 1, u), ⟨by dsimp only; omega, by dsimp only; omega, by simpa using r3⟩, by dsimp only; omega, ?_⟩
            (refine wk_ok ?_ ?_ ?_ ?_ <;> simp [rowP, cmC, pC, leL, leH, idsL, idsA, idsR, inH, hget, sameRow, upA, hvA, dsts, dstO, setA_0, setA_1, setA_8, List.append, List.cons_append, List.nil_append])
        · have k0 : ltI (k : Int) b.length = false := ltI_f (by omega)
          rw [List.drop_of_length_le (by omega)] at r3
          simp only [clRow, List.append_nil] at r3
          rw [← List.append_assoc, r3] at q3
          (try simp only [k0, w1, push_cast, simprocAttr])
          refine at_fin ⟨(i + 1, u), ⟨by dsimp only; omega, by dsimp only; omega, by simpa using q3⟩, by dsimp only; omega, ?_⟩
          (refine wk_ok ?_ ?_ ?_ ?_ <;> simp [rowP, cmC, pC, leL, leH, idsL, idsA, idsR, inH, hget, sameRow, upA, hvA, dsts, dstO, setA_0, setA_1, setA_8, List.append, List.cons_append, List.nil_append])
    · have i0 : ltI (i : Int) a.length = false := ltI_f (by omega)
      rw [List.drop_of_length_le (by omega)] at q3
      simp only [clAll, List.append_nil] at q3
      (try simp only [i0, push_cast, simprocAttr])
      refine at_ret ?_; simp only [Tryz.results18, push_cast, simprocAttr]
      simp [rX, q3, ixOf]
end Go.Proofs.YtpanjecgbnomhaaGreatDoor
/-
  Walks: PairFits, all, PairTree, PairBase.
-/
namespace Go.Proofs.YtpanjecgbnomhaaGreatDoor
open Go Go.RowKit Go.Proofs
theorem pf_cv {t : List Nd} {a b : List Cm} (h : pairFits t a b = true) : canonV a = true ∧ canonV b = true := by
  unfold pairFits at h
  simp only [Bool.and_eq_true] at h
  exact ⟨h.1.1.1, h.1.1.2⟩
theorem safeOf_mem {a b : List Cm} {c : Cm} (h : c ∈ safeOf a b) : c ∈ b := by
  unfold safeOf at h
  split at h
  · exact (List.mem_filter.1 h).1
  · simp at h
theorem safeOf_len (a b : List Cm) : (safeOf a b).length ≤ b.length := by
  unfold safeOf
  split
  · exact List.length_filter_le _ _
  · simp
theorem sm_app {a b : List Cm} (ha : SmL a) (hb : SmL b) (h : a.length + b.length < 4294967280) : SmL (a ++ b) :=
  ⟨by simpa using h, fun c hc => (List.mem_append.1 hc).elim (ha.p c) (hb.p c)⟩
theorem sm_safe {a b : List Cm} (hb : SmL b) : SmL (safeOf a b) := ⟨by have := safeOf_len a b; have := hb.n; omega, fun c hc => hb.p c (safeOf_mem hc)⟩
def tbD (x : Option (List Nd)) : AV → List Row → Prop := rX (.tup [.o 0 (x.getD []).length, bA x.isSome]) [rowN (x.getD [])]
attribute [local irreducible] RWp AW run kPe pe Kt effA gd gu br retR RDp runD kPeD brW gW effD
set_option maxRecDepth 100000
theorem PairFits_pc (t : List Nd) (ht : SmT2 t) (a b : List Cm) (ha : SmL a) (hb : SmL b) : PC Tryz.prog 64 [ndA t, cmA a, cmA b] (vB (pairFits t a b)) := by
  have h1 := CanonValid_pc a ha
  have h2 := CanonValid_pc b hb
  have h3 := LogFits_pc t ht a ha
  have h4 := LogFits_pc t ht b hb
  have e : pairFits t a b = (canonV a && canonV b && fits t a && fits t b) := rfl
  refine pc_enter Tryz.func64 rfl rfl fun w0 fb => go_on ?_; (try simp only [Tryz.ntmps64, push_cast, simprocAttr])
  repeat' first | (refine at_b (fun hb => ?_) (fun hb => ?_) <;> simp only [hb, push_cast, simprocAttr]) | (refine at_ret ?_; simp only [Tryz.results64, push_cast, simprocAttr]) | (refine at_call ?_; (try simp only [push_cast, simprocAttr]); refine rwc_v (by first | exact h1 | exact h2 | exact h3 | exact h4) (go_on ?_); simp only [push_cast, simprocAttr]) | (show RWp _ _ _ _ _; simp only [push_cast, simprocAttr])
  all_goals simp [vX, e, *]
theorem all_pc (t : List Nd) (ht : SmT2 t) (l : List Cm) (hl : SmL l) : PC Tryz.prog 69 [ndA t, cmA l] (tbD (allC t l)) := by
  have hA := applyAll_pc l hl t ht
  have hsm := apAll_sm l t ht
  refine pc_enter Tryz.func69 rfl rfl fun w0 fb => go_on ?_; (try simp only [Tryz.ntmps69, push_cast, simprocAttr])
  (try simp only [push_cast, simprocAttr])
  refine at_share2 (by simp [isC2, isC]) (by first | rfl | simp [ren]) hA ?_
  (try simp only [push_cast, simprocAttr])
  (refine at_dropS [4] (by refine wk_ok ?_ ?_ ?_ ?_ <;> simp [dropS, dropT, hasN, delL, hdel, leL, leH, idsL, idsA, idsR, inH, hget, sameRow]) ?_; simp only [dropS, dropT, hasN, delL, hdel, idsA, idsL, hget, List.map_cons, List.map_nil, List.all_cons, List.all_nil, List.append_nil, Bool.not_false, Bool.not_true, Bool.and_true, if_true, if_false, simprocAttr])
  refine go_on ?_
  (try simp only [push_cast, simprocAttr])
  by_cases h : (apAll t l).2 = l.length
  · have i0 : ltI ((apAll t l).2 : Int) l.length = false := ltI_f (by omega)
    have e : allC t l = some (apAll t l).1 := by simp [allC, h]
    (try simp only [i0, push_cast, simprocAttr])
    (refine at_call ?_; (try simp only [push_cast, simprocAttr]); refine rwc_r (cloneTree_pc _ hsm.s.n) rfl (flat_n _) (by simp [frB, baseOf]) (go_on ?_); (try simp only [push_cast, simprocAttr]))
    refine at_ret ?_; simp only [Tryz.results69, push_cast, simprocAttr]
    simp [tbD, rX, e, ixOf]
  · have hle : (apAll t l).2 ≤ l.length := apAll_le _ _
    have i0 : ltI ((apAll t l).2 : Int) l.length = true := ltI_t (by omega)
    have e : allC t l = none := by simp [allC, h]
    (try simp only [i0, push_cast, simprocAttr])
    refine at_ret ?_; simp only [Tryz.results69, push_cast, simprocAttr]
    simp [tbD, rX, e, ixOf]
theorem PairTree_pc (t : List Nd) (ht : SmT2 t) (a b : List Cm) (ha : SmL a) (hb : SmL b) : PC Tryz.prog 33 [ndA t, cmA a, cmA b] (tbD (pairTree t a b)) := by
  have hF := PairFits_pc t ht a b ha hb
  refine pc_enter Tryz.func33 rfl rfl fun w0 fb => go_on ?_; (try simp only [Tryz.ntmps33, push_cast, simprocAttr])
  refine at_call ?_
  (try simp only [push_cast, simprocAttr])
  refine rwc_v hF ?_
  (try simp only [push_cast, simprocAttr])
  (refine at_dropS [6] (by refine wk_ok ?_ ?_ ?_ ?_ <;> simp [dropS, dropT, hasN, delL, hdel, leL, leH, idsL, idsA, idsR, inH, hget, sameRow]) ?_; simp only [dropS, dropT, hasN, delL, hdel, idsA, idsL, hget, List.map_cons, List.map_nil, List.all_cons, List.all_nil, List.append_nil, Bool.not_false, Bool.not_true, Bool.and_true, if_true, if_false, simprocAttr])
  refine go_on ?_
  (try simp only [push_cast, simprocAttr])
  cases hf : pairFits t a b with
  | false =>
    have e : pairTree t a b = none := by simp [pairTree, hf]
    (try simp only [hf, Bool.not_false, push_cast, simprocAttr])
    refine at_ret ?_; simp only [Tryz.results33, push_cast, simprocAttr]
    simp [tbD, rX, e, ixOf]
  | true =>
    have e : pairTree t a b = allC t (a ++ safeOf a b) := by simp [pairTree, hf]
    obtain ⟨hc1, hc2⟩ := pf_cv hf
    have h1 := canonV_le hc1
    have h2 := canonV_le hc2
    have h3 := safeOf_len a b
    have hS := SafeOf_pc a b ha hb
    have hA := all_pc t ht (a ++ safeOf a b) (sm_app ha (sm_safe hb) (by omega))
    unfold tbD at hA
    rw [show cmA (a ++ safeOf a b) = AV.sl 5 (a.map cmC ++ (safeOf a b).map cmC) from by simp] at hA
    (try simp only [hf, Bool.not_true, push_cast, simprocAttr])
    (refine at_call ?_; (try simp only [push_cast, simprocAttr]); refine rwc_r (cloneLog_pc a (by omega)) rfl (flat_c _) (by simp [frB, baseOf]) (go_on ?_); (try simp only [push_cast, simprocAttr]))
    (refine at_call ?_; (try simp only [push_cast, simprocAttr]); refine rwc_r (hS) rfl (flat_c _) (by simp [frB, baseOf]) (go_on ?_); (try simp only [push_cast, simprocAttr]))
    refine at_chk (by omega) ?_
    (try simp only [push_cast, simprocAttr])
    have hll : (a.map cmC ++ (safeOf a b).map cmC).length = a.length + (safeOf a b).length := by simp
    refine at_call ?_
    simp only [hll, push_cast, simprocAttr]
    refine rwc_r hA (by simp [flatV, flatL]) (flat_n _) (by simp [frB, baseOf]) (go_on ?_)
    (try simp only [push_cast, simprocAttr])
    refine at_ret ?_; simp only [Tryz.results33, push_cast, simprocAttr]
    simp [tbD, rX, e, ixOf]
theorem kept_len_le (a b : List Cm) : (kept a b).length ≤ a.length + b.length := by
  have h1 := safeOf_len a b
  have h2 := List.length_filter_le (fun c => !disp b c) a
  unfold kept
  simp only [List.length_append]
  omega
theorem sm_kept {a b : List Cm} (ha : SmL a) (hb : SmL b) (h : a.length + b.length < 4294967280) : SmL (kept a b) := by
  refine ⟨by have := kept_len_le a b; omega, fun c hc => ?_⟩
  unfold kept at hc
  rcases List.mem_append.1 hc with hc | hc
  · exact hb.p c (safeOf_mem hc)
  · exact ha.p c (List.mem_filter.1 hc).1
theorem PairBase_pc (t : List Nd) (ht : SmT2 t) (a b : List Cm) (ha : SmL a) (hb : SmL b) : PC Tryz.prog 29 [ndA t, cmA a, cmA b] (tbD (pairBase t a b)) := by
  have hF := PairFits_pc t ht a b ha hb
  refine pc_enter Tryz.func29 rfl rfl fun w0 fb => go_on ?_; (try simp only [Tryz.ntmps29, push_cast, simprocAttr])
  refine at_call ?_
  (try simp only [push_cast, simprocAttr])
  refine rwc_v hF ?_
  (try simp only [push_cast, simprocAttr])
  (refine at_dropS [6] (by refine wk_ok ?_ ?_ ?_ ?_ <;> simp [dropS, dropT, hasN, delL, hdel, leL, leH, idsL, idsA, idsR, inH, hget, sameRow]) ?_; simp only [dropS, dropT, hasN, delL, hdel, idsA, idsL, hget, List.map_cons, List.map_nil, List.all_cons, List.all_nil, List.append_nil, Bool.not_false, Bool.not_true, Bool.and_true, if_true, if_false, simprocAttr])
  refine go_on ?_
  (try simp only [push_cast, simprocAttr])
  cases hf : pairFits t a b with
  | false =>
    have e : pairBase t a b = none := by simp [pairBase, hf]
    (try simp only [hf, Bool.not_false, push_cast, simprocAttr])
    refine at_ret ?_; simp only [Tryz.results29, push_cast, simprocAttr]
    simp [tbD, rX, e, ixOf]
  | true =>
    obtain ⟨hc1, hc2⟩ := pf_cv hf
    have h1 := canonV_le hc1
    have h2 := canonV_le hc2
    have h3 := safeOf_len a b
    have hS := SafeOf_pc a b ha hb
    (try simp only [hf, Bool.not_true, push_cast, simprocAttr])
    (refine at_call ?_; (try simp only [push_cast, simprocAttr]); refine rwc_r (hS) rfl (flat_c _) (by simp [frB, baseOf]) (go_on ?_); (try simp only [push_cast, simprocAttr]))
    refine at_loop (X := Nat × List Cm) (fun x => [(18, .any), (8, .o 19000 x.2.length), (21, iA x.1)]) (fun x => [(19000, rowC x.2)])
      (fun x => x.1 ≤ a.length ∧ x.2 = safeOf a b ++ (a.take x.1).filter fun c => !disp b c) (fun x => a.length - x.1) (0, safeOf a b) ⟨Nat.zero_le _, by simp⟩ ?_ ?_
    · (refine wk_ok ?_ ?_ ?_ ?_ <;> simp [rowC, leL, leH, idsL, idsA, idsR, inH, hget, sameRow, upA, hvA, dsts, dstO, setA_0, setA_1, setA_8, List.append, List.cons_append, List.nil_append])
    · rintro ⟨i, o⟩ ⟨q1, q2⟩
      simp only at q1 q2
      simp only [upA, hvA, dsts, dstO, setA_0, setA_1, setA_8, List.append, List.cons_append, List.nil_append]
      refine go_on ?_
      (try simp only [push_cast, simprocAttr])
      have w1 : IntKind.i64.wrap ((i : Int) + 1) = (i : Int) + 1 := wr _ (by omega)
      have hol : o.length ≤ b.length + i := by
        have := List.length_filter_le (fun c => !disp b c) (a.take i)
        rw [q2]; simp only [List.length_append]; simp only [List.length_take] at this; omega
      by_cases hi : i < a.length
      · obtain ⟨c, hc⟩ := get_of_lt hi
        have i0 : ltI (i : Int) a.length = true := ltI_t (by omega)
        have i1 := ix_n hc
        have i2 := map_get cmC hc
        have hP := disputed_pc c b (by have := ha.p c (mem_of_get hc); omega) hb
        unfold cmdA at hP
        simp only [cmC] at i2 hP
        (try simp only [i0, i1, i2, push_cast, simprocAttr])
        (refine at_call ?_; (try simp only [push_cast, simprocAttr]); refine rwc_v (hP) (go_on ?_); (try simp only [push_cast, simprocAttr]))
        have hq : safeOf a b ++ (a.take (i + 1)).filter (fun c => !disp b c) = o ++ (if disp b c then [] else [c]) := by
          rw [List.take_add_one, hc, List.filter_append, q2, List.append_assoc]
          cases hpc : disp b c <;> simp [hpc]
        cases hpc : disp b c with
        | false =>
          rw [hpc, if_neg (by simp)] at hq
          have happ : o.map cmC ++ [[sA c.p, iA c.a.k, iA c.a.v, iA c.b.k, iA c.b.v]] = (o ++ [c]).map cmC := by rw [List.map_append]; rfl
          (try simp only [hpc, Bool.not_false, rowC, push_cast, simprocAttr])
          refine at_chk (by omega) ?_
          (try simp only [happ, rowC, w1, push_cast, simprocAttr])
          refine at_fin ⟨(i + 1, o ++ [c]), ⟨by dsimp only; omega, hq.symm⟩, by dsimp only; omega, ?_⟩
          (refine wk_ok ?_ ?_ ?_ ?_ <;> simp [rowC, cmC, leL, leH, idsL, idsA, idsR, inH, hget, sameRow, upA, hvA, dsts, dstO, setA_0, setA_1, setA_8, List.append, List.cons_append, List.nil_append])
        | true =>
          rw [hpc, if_pos rfl, List.append_nil] at hq
          (try simp only [hpc, Bool.not_true, w1, push_cast, simprocAttr])
          refine at_fin ⟨(i + 1, o), ⟨by dsimp only; omega, hq.symm⟩, by dsimp only; omega, ?_⟩
          (refine wk_ok ?_ ?_ ?_ ?_ <;> simp [rowC, cmC, leL, leH, idsL, idsA, idsR, inH, hget, sameRow, upA, hvA, dsts, dstO, setA_0, setA_1, setA_8, List.append, List.cons_append, List.nil_append])
      · have i0 : ltI (i : Int) a.length = false := ltI_f (by omega)
        rw [List.take_of_length_le (by omega)] at q2
        have hk : o = kept a b := q2
        by_cases h20 : o.length ≤ 20
        · have g0 : ltI 20 (o.length : Int) = false := ltI_f (by omega)
          obtain ⟨ta, tb, hpf⟩ := (pairFits_iff t a b).1 hf
          have hone := kept_one hpf
          rw [← hk] at hone
          have e : pairBase t a b = allC t (cSort o) := by
            unfold pairBase
            rw [hf, ← hk]
            simp [h20]
          have hSo := SortC_pcl o (by omega)
          (try simp only [i0, g0, push_cast, simprocAttr])
          (try simp only [push_cast, simprocAttr]); refine call_lend [19000] none (lr := [rowC o]) (by simp [ndB]) (by first | rfl | simp [rowsOf, hget, rdR, rowS, rowN, rowC, sC, ndC, cmC]) (by simp [idsL, idsA]) (by simp [mvN]) (by simpa [rnA, ixOf] using hSo) ?_
          rintro rv lr' rows ⟨g, hgp, hgo, rfl, rfl, rfl⟩
          have hgl : g.length = o.length := hgp.length_eq
          obtain rfl : g = cSort o := cSort_eq hone hgp hgo
          have hcs : SmL (cSort o) := ⟨by omega, fun c hc => (sm_kept ha hb (by omega)).p c (by rw [← hk]; exact hgp.mem_iff.1 hc)⟩
          have hA := all_pc t ht (cSort o) hcs
          unfold tbD at hA
          refine ⟨by simp [shB, mvF, hgl], by simp [frB, baseOf], go_on ?_⟩
          (try simp only [killA, killH, killRow, push_cast, simprocAttr])
          refine at_call ?_
          simp only [hgl, push_cast, simprocAttr]
          refine rwc_r hA (by simp [flatV, flatL]) (flat_n _) (by simp [frB, baseOf]) (go_on ?_)
          (try simp only [push_cast, simprocAttr])
          refine at_ret ?_; simp only [Tryz.results29, push_cast, simprocAttr]
          simp [tbD, rX, e, ixOf]
        · have g0 : ltI 20 (o.length : Int) = true := ltI_t (by omega)
          have e : pairBase t a b = none := by
            unfold pairBase
            rw [hf, ← hk]
            simp [h20]
          (try simp only [i0, g0, push_cast, simprocAttr])
          refine at_ret ?_; simp only [Tryz.results29, push_cast, simprocAttr]
          simp [tbD, rX, e, ixOf]
end Go.Proofs.YtpanjecgbnomhaaGreatDoor
/-
  Walks: meet, SessionClashes, SessionRun.
-/
namespace Go.Proofs.YtpanjecgbnomhaaGreatDoor
open Go Go.RowKit Go.Proofs
theorem ClashesOf_d (a b : List Cm) (ha : SmL a) (hb : SmL b) : PC Tryz.prog 18 [cmA a, cmA b] (vX (pA (clOf a b))) := by
  have := (ClashesOf_pc a b ha hb).frzX
  simpa [viewN, hpOf, hget, isC, tk] using this
theorem LeftOf_d (a b : List Cm) (ha : SmL a) (hb : SmL b) : PC Tryz.prog 30 [cmA a, cmA b] (vX (cmA (leftOf a b))) := by
  have := (LeftOf_pc a b ha hb).frzX
  simpa [viewN, hpOf, hget, isC, tk] using this
theorem PairBase_d (t : List Nd) (ht : SmT2 t) (a b : List Cm) (ha : SmL a) (hb : SmL b) : PC Tryz.prog 29 [ndA t, cmA a, cmA b] (vX (.tup [ndA ((pairBase t a b).getD []), bA (pairBase t a b).isSome])) := by
  have := (PairBase_pc t ht a b ha hb).frzX
  simpa [tbD, viewN, hpOf, hget, isC, tk] using this
theorem PairTree_d (t : List Nd) (ht : SmT2 t) (a b : List Cm) (ha : SmL a) (hb : SmL b) : PC Tryz.prog 33 [ndA t, cmA a, cmA b] (vX (.tup [ndA ((pairTree t a b).getD []), bA (pairTree t a b).isSome])) := by
  have := (PairTree_pc t ht a b ha hb).frzX
  simpa [tbD, viewN, hpOf, hget, isC, tk] using this
theorem clOf_len (a b : List Cm) : (clOf a b).length ≤ 400 := by
  unfold clOf
  split
  · rename_i h
    simp only [Bool.and_eq_true] at h
    have h1 := canonV_le h.1
    have h2 := canonV_le h.2
    have : ∀ (i : Int) (l : List Cm), (clAll b i l).length ≤ l.length * 20 := by
      intro i l
      induction l generalizing i with
      | nil => simp [clAll]
      | cons c r ih =>
        have := ih (i + 1)
        have := clRow_len i c b 0
        have := List.length_filter_le (clash c) b
        simp only [clAll, List.length_append, List.length_cons]
        omega
    have := this 0 a
    omega
  · simp
attribute [local irreducible] RWp AW run kPe pe Kt effA gd gu br retR RDp runD kPeD brW gW effD
set_option maxRecDepth 100000
theorem meet_pc (a b : St) (ha : SmS a) (hb : SmS b) : PC Tryz.prog 44 [stA' a, stA' b] (vB (meet a b)) := by
  have h1 := SiteValid_pc a ha
  have h2 := SiteValid_pc b hb
  have h3 := EqualN_pc a.base b.base (by have := ha.t.n; omega)
  have e : meet a b = (siteV a && siteV b && decide (a.base = b.base) && eqI a.ep b.ep && ltI a.ep 99) := by unfold meet ltI; rw [eqI_d]
  unfold stA' stC at *
  refine pc_enter Tryz.func44 rfl rfl fun w0 fb => go_on ?_; (try simp only [Tryz.ntmps44, push_cast, simprocAttr])
  repeat' first | (refine at_b (fun hb => ?_) (fun hb => ?_) <;> simp only [hb, push_cast, simprocAttr]) | (refine at_ret ?_; simp only [Tryz.results44, push_cast, simprocAttr]) | (refine at_call ?_; (try simp only [push_cast, simprocAttr]); refine rwc_v (by first | exact h1 | exact h2 | exact h3) (go_on ?_); simp only [push_cast, simprocAttr]) | (show RWp _ _ _ _ _; simp only [push_cast, simprocAttr])
  all_goals simp [vX, e, *]
theorem same_pc (a b : St) (ha : SmS a) (hb : SmS b) : PC Tryz.prog 78 [stA' a, stA' b] (vB (decide (a = b))) := by
  have h3 := EqualN_pc a.base b.base (by have := ha.t.n; omega)
  have h4 := EqualC_pc a.log b.log (by have := ha.l.n; omega)
  have e : decide (a = b) = (eqI a.ep b.ep && decide (a.base = b.base) && decide (a.log = b.log)) := by
    rw [Bool.eq_iff_iff]
    cases a; cases b
    simp [eqI_d, and_assoc]
  unfold stA' stC at *
  refine pc_enter Tryz.func78 rfl rfl fun w0 fb => go_on ?_; (try simp only [Tryz.ntmps78, push_cast, simprocAttr])
  repeat' first | (refine at_b (fun hb => ?_) (fun hb => ?_) <;> simp only [hb, push_cast, simprocAttr]) | (refine at_ret ?_; simp only [Tryz.results78, push_cast, simprocAttr]) | (refine at_call ?_; (try simp only [push_cast, simprocAttr]); refine rwc_v (by first | exact h3 | exact h4) (go_on ?_); simp only [push_cast, simprocAttr]) | (show RWp _ _ _ _ _; simp only [push_cast, simprocAttr])
  all_goals simp [vX, e, *]
theorem SessionClashes_pc (a b : St) (ha : SmS a) (hb : SmS b) : PC Tryz.prog 16 [stA' a, stA' b] (vI (sCl a b)) := by
  have hM := meet_pc a b ha hb
  have hA := SiteCanon_d a ha
  have hB := SiteCanon_d b hb
  have hC := ClashesOf_d (siteC a) (siteC b) (siteC_sm a) (siteC_sm b)
  unfold stA' stC at *
  refine pc_enter Tryz.func16 rfl rfl fun w0 fb => go_on ?_; (try simp only [Tryz.ntmps16, push_cast, simprocAttr])
  (refine at_call ?_; (try simp only [push_cast, simprocAttr]); refine rwc_v (hM) (go_on ?_); (try simp only [push_cast, simprocAttr]))
  cases h : meet a b with
  | false =>
    (try simp only [h, Bool.not_false, push_cast, simprocAttr])
    refine at_ret ?_; simp only [Tryz.results16, push_cast, simprocAttr]
    simp [vX, sCl, h]
  | true =>
    (try simp only [h, Bool.not_true, push_cast, simprocAttr])
    refine at_draw rfl (by kernel_rfl) ?_; simp only [push_cast, simprocAttr]
    (refine at_shareD (by simp [isC2, isC]) (by first | rfl | simp [ren]) hA ?_; (try simp only [push_cast, simprocAttr]))
    (refine at_shareD (by simp [isC2, isC]) (by first | rfl | simp [ren]) hB ?_; (try simp only [push_cast, simprocAttr]))
    (refine at_shareD (by simp [isC2, isC]) (by first | rfl | simp [ren]) hC ?_; (try simp only [push_cast, simprocAttr]))
    refine at_done (by kernel_rfl) (by kernel_rfl) (go_on ?_)
    (try simp only [push_cast, simprocAttr])
    refine at_ret ?_; simp only [Tryz.results16, push_cast, simprocAttr]
    simp [vX, sCl, h]
end Go.Proofs.YtpanjecgbnomhaaGreatDoor
/-
  Walks: spec: the order of canonical logs, conflicts.
-/
namespace Go.Proofs.YtpanjecgbnomhaaGreatDoor
open Go Go.RowKit Go.Proofs
theorem und_take {a b : Str} (ha : pV a = true) (hb : pV b = true) (hr : a ≠ root) : (decide (a.length < b.length) && decide (b.take a.length = a)) = und a b := by
  unfold und
  rw [if_neg hr]
  simp only [pV, hr, decide_false, Bool.false_or, Bool.and_eq_true, decide_eq_true_eq] at ha
  obtain ⟨⟨ha0, ha1⟩, _⟩ := ha
  rw [Bool.eq_iff_iff, Bool.and_eq_true, decide_eq_true_eq, decide_eq_true_eq, List.isPrefixOf_iff_prefix]
  have hev := prs_even a ha1
  constructor
  · rintro ⟨h1, h2⟩
    have hb' : b ≠ root := by
      rintro rfl
      simp [root] at h1
      exact ha0 h1
    simp only [pV, hb', decide_false, Bool.false_or, Bool.and_eq_true, decide_eq_true_eq] at hb
    obtain ⟨x, hx⟩ := get_of_lt h1
    have := (prs_get b a.length x hb.1.2 hx).1 hev
    subst this
    rw [List.prefix_iff_eq_take]
    simp only [List.length_append, List.length_cons, List.length_nil]
    rw [List.take_add_one, h2, hx]
    rfl
  · intro h
    have hl := h.length_le
    simp only [List.length_append, List.length_cons, List.length_nil] at hl
    refine ⟨by omega, ?_⟩
    have h2 : a <+: b := (List.prefix_append a [47]).trans h
    exact (List.prefix_iff_eq_take.1 h2).symm
theorem canon_fail {l : List Cm} {j : Nat} {x y : Cm} (hx : l[j]? = some x) (hy : l[j + 1]? = some y) (h : cLt x y = false ∨ firstB l (j + 1) y.p = false) : canonV l = false := by
  cases hc : canonV l with
  | false => rfl
  | true =>
    exfalso
    unfold canonV at hc
    simp only [Bool.and_eq_true] at hc
    obtain ⟨⟨_, h1⟩, h2⟩ := hc
    have hnd := (one1_iff l).1 h1
    have hne : ∀ i z, i < j + 1 → l[i]? = some z → z.p ≠ y.p := fun i z hi hz => by
      have hli := lt_of_some hz
      have hlj := lt_of_some hy
      have := List.pairwise_iff_getElem.1 hnd i (j + 1) (by simpa using hli) (by simpa using hlj) hi
      simp only [List.getElem_map] at this
      rw [List.getElem?_eq_getElem hli] at hz
      rw [List.getElem?_eq_getElem hlj] at hy
      rwa [Option.some.inj hz, Option.some.inj hy] at this
    rcases h with h | h
    · have h3 : cOrd (l.drop j) = true := by
        cases h4 : cOrd (l.drop j) with
        | true => rfl
        | false => rw [cOrd_pre l j h4] at h2; cases h2
      rw [cOrd_step hy hx] at h3
      simp only [Bool.and_eq_true, Bool.not_eq_true'] at h3
      rw [cLt_total (hne j x (by omega) hx) h] at h3
      cases h3.1
    · simp only [firstB, Bool.not_eq_false', decide_eq_true_eq, List.mem_map] at h
      obtain ⟨z, hz, he⟩ := h
      obtain ⟨i, hi, hiz⟩ := List.mem_take_iff_getElem.1 hz
      exact hne i z (by omega) (by rw [List.getElem?_eq_getElem (by omega), hiz]) he
theorem cOrd_all : ∀ {l : List Cm}, (∀ (j : Nat) x y, l[j]? = some x → l[j + 1]? = some y → cLt y x = false) → cOrd l = true
  | [], _ => rfl
  | [_], _ => rfl
  | a :: b :: r, h => by
    have h1 := h 0 a b rfl rfl
    have h2 := cOrd_all (l := b :: r) fun j x y hx hy => h (j + 1) x y (by simpa using hx) (by simpa using hy)
    simp only [cOrd, h1, h2]
    rfl
theorem canon_all {l : List Cm} (h : ∀ (j : Nat) x y, l[j]? = some x → l[j + 1]? = some y → cLt x y = true ∧ firstB l (j + 1) y.p = true) : canonV l = lV l := by
  have h2 : cOrd l = true := cOrd_all fun j x y hx hy => cLt_asymm (h j x y hx hy).1
  have h1 : one1 l = true := by
    rw [one1_iff]
    refine List.pairwise_iff_getElem.2 fun i j hi hj hij => ?_
    simp only [List.length_map] at hi hj
    simp only [List.getElem_map]
    obtain ⟨k, rfl⟩ : ∃ k, j = k + 1 := ⟨j - 1, by omega⟩
    have := (h k l[k] l[k + 1] (List.getElem?_eq_getElem (by omega)) (List.getElem?_eq_getElem hj)).2
    simp only [firstB, Bool.not_eq_true', decide_eq_false_iff_not, List.mem_map, not_exists, not_and] at this
    exact this l[i] (List.mem_take_iff_getElem.2 ⟨i, by omega, rfl⟩)
  simp [canonV, h1, h2]
attribute [local irreducible] RWp AW run kPe pe Kt effA gd gu br retR RDp runD kPeD brW gW effD
set_option maxRecDepth 100000
theorem l1Under_pc (a b : Str) (ha : pV a = true) (hb : pV b = true) : PC Tryz.prog 165 [sA a, sA b] (vB (und a b)) := by
  have hla : a.length < 100 := by unfold pV at ha; simp only [Bool.or_eq_true, Bool.and_eq_true, decide_eq_true_eq] at ha; rcases ha with rfl | h; simp [root]; omega
  have hlb : b.length < 100 := by unfold pV at hb; simp only [Bool.or_eq_true, Bool.and_eq_true, decide_eq_true_eq] at hb; rcases hb with rfl | h; simp [root]; omega
  refine pc_enter Tryz.func165 rfl rfl fun w0 fb => go_on ?_; (try simp only [Tryz.ntmps165, push_cast, simprocAttr])
  by_cases hr : a = root
  · have d1 : decide (a = [47]) = true := by simpa [root] using hr
    by_cases hb2 : b = root
    · have d2 : decide (b = [47]) = true := by simpa [root] using hb2
      have i0 : ltI (a.length : Int) b.length = false := ltI_f (by rw [hr, hb2]; omega)
      (try simp only [d1, d2, i0, Bool.not_true, push_cast, simprocAttr])
      refine at_ret ?_; simp only [Tryz.results165, push_cast, simprocAttr]
      simp [vX, und, hr, hb2]
    · have d2 : decide (b = [47]) = false := by simpa [root] using hb2
      (try simp only [d1, d2, Bool.not_false, push_cast, simprocAttr])
      refine at_ret ?_; simp only [Tryz.results165, push_cast, simprocAttr]
      simp [vX, und, hr, hb2]
  · have d1 : decide (a = [47]) = false := by simpa [root] using hr
    rw [← und_take ha hb hr]
    by_cases hl : a.length < b.length
    · have i0 : ltI (a.length : Int) b.length = true := ltI_t (by omega)
      have i1 : (a.length : Int) ≤ b.length := by omega
      (try simp only [d1, i0, i1, push_cast, simprocAttr])
      refine at_ret ?_; simp only [Tryz.results165, push_cast, simprocAttr]
      simp [vX, hl]
    · have i0 : ltI (a.length : Int) b.length = false := ltI_f (by omega)
      (try simp only [d1, i0, push_cast, simprocAttr])
      refine at_ret ?_; simp only [Tryz.results165, push_cast, simprocAttr]
      simp [vX, hl]
theorem l16Over_pc (c d : Cm) (hc : pV c.p = true) (hd : pV d.p = true) : PC Tryz.prog 131 [cmdA c, cmdA d] (vB (stops c d)) := by
  have hU := l1Under_pc c.p d.p hc hd
  have e : stops c d = (und c.p d.p && !eqI c.b.k 1 && !eqI d.b.k 0) := by unfold stops; rw [eqI_d, eqI_d]; simp
  unfold cmdA cmC
  refine pc_enter Tryz.func131 rfl rfl fun w0 fb => go_on ?_; (try simp only [Tryz.ntmps131, push_cast, simprocAttr])
  repeat' first | (refine at_b (fun hb => ?_) (fun hb => ?_) <;> simp only [hb, push_cast, simprocAttr]) | (refine at_ret ?_; simp only [Tryz.results131, push_cast, simprocAttr]) | (refine at_call ?_; (try simp only [push_cast, simprocAttr]); refine rwc_v (by first | exact hU) (go_on ?_); simp only [push_cast, simprocAttr]) | (show RWp _ _ _ _ _; simp only [push_cast, simprocAttr])
  all_goals simp [vX, e, *]
theorem l16Clash_pc (c d : Cm) (hc : pV c.p = true) (hd : pV d.p = true) : PC Tryz.prog 86 [cmdA c, cmdA d] (vB (clash c d)) := by
  have h1 := l16Over_pc c d hc hd
  have h2 := l16Over_pc d c hd hc
  have e : clash c d = ((decide (c.p = d.p) && !decide (c.b = d.b)) || stops c d || stops d c) := by unfold clash; simp
  unfold cmdA cmC at *
  refine pc_enter Tryz.func86 rfl rfl fun w0 fb => go_on ?_; (try simp only [Tryz.ntmps86, push_cast, simprocAttr])
  repeat' first | (refine at_b (fun hb => ?_) (fun hb => ?_) <;> simp only [ctg, cth, ct_eq, hb, push_cast, simprocAttr]) | (refine at_ret ?_; simp only [ctg, cth, ct_eq, Tryz.results86, push_cast, simprocAttr]) | (refine at_call ?_; (try simp only [push_cast, simprocAttr]); refine rwc_v (by first | exact h1 | exact h2) (go_on ?_); simp only [ctg, cth, ct_eq, push_cast, simprocAttr]) | (show RWp _ _ _ _ _; simp only [ctg, cth, ct_eq, push_cast, simprocAttr])
  all_goals simp [vX, e, *]
theorem specCanonValid_pc (l : List Cm) (hl : SmL l) : PC Tryz.prog 130 [cmA l] (vB (canonV l)) := by
  have hln := hl.n
  have hV := specLogValid_pc l hl
  refine pc_enter Tryz.func130 rfl rfl fun w0 fb => go_on ?_; (try simp only [Tryz.ntmps130, push_cast, simprocAttr])
  refine at_loop (X := Nat) (fun k => [(3, iA ((k : Int) + 1))]) (fun _ => []) (fun k => (k = 0 ∨ k < l.length) ∧ ∀ (j : Nat) x y, j < k → l[j]? = some x → l[j + 1]? = some y → cLt x y = true ∧ firstB l (j + 1) y.p = true) (fun k => l.length - k) 0 ⟨.inl rfl, fun j x y h => by omega⟩ ?_ ?_
  · (refine wk_ok ?_ ?_ ?_ ?_ <;> simp [leL, leH, idsL, idsA, idsR, inH, hget, sameRow, upA, hvA, dsts, dstO, setA_0, setA_1, setA_8, List.append, List.cons_append, List.nil_append])
  · rintro k ⟨q1, q2⟩
    simp only [upA, hvA, dsts, dstO, setA_0, setA_1, setA_8, List.append, List.cons_append, List.nil_append]
    refine go_on ?_
    (try simp only [push_cast, simprocAttr])
    by_cases hk : k + 1 < l.length
    · obtain ⟨x, hx⟩ := get_of_lt (l := l) (k := k) (by omega)
      obtain ⟨y, hy⟩ := get_of_lt hk
      have i0 : ltI ((k : Int) + 1) l.length = true := ltI_t (by omega)
      have w0' : IntKind.i64.wrap ((k : Int) + 1 - 1) = (k : Int) := by rw [show (k : Int) + 1 - 1 = k by omega]; exact wr _ (by omega)
      have w1 : IntKind.i64.wrap ((k : Int) + 1 + 1) = (k : Int) + 1 + 1 := wr _ (by omega)
      have i1 := ix_n hx
      have i3 : toIx ((k : Int) + 1) l.length = some (k + 1) := by have := ix_n hy; simpa using this
      have i2 := map_get cmC hx
      have i4 := map_get cmC hy
      have hB := l14Before_pc x y
      have hF := l14First_pc l (by omega) (k + 1) y hy
      unfold cmdA at hB
      simp only [cmC] at i2 i4 hB
      rw [show ((k + 1 : Nat) : Int) = (k : Int) + 1 by omega] at hF
      (try simp only [i0, push_cast, simprocAttr])
      refine at_draw rfl (by kernel_rfl) ?_
      (try simp only [i1, i2, w0', i3, i4, push_cast, simprocAttr])
      refine at_callD (by simp [clB, idsL, idsA, hget]) ?_
      (try simp only [push_cast, simprocAttr])
      refine rcd_v hB ?_
      cases hb : cLt x y with
      | false =>
        (try simp only [hb, Bool.not_false, push_cast, simprocAttr])
        refine at_done (by kernel_rfl) (by kernel_rfl) (go_on ?_)
        (try simp only [push_cast, simprocAttr])
        refine at_ret ?_; simp only [Tryz.results130, push_cast, simprocAttr]
        simp [vX, canon_fail hx hy (.inl hb)]
      | true =>
        (try simp only [hb, Bool.not_true, push_cast, simprocAttr])
        refine at_callD (by simp [clB, idsL, idsA, hget]) ?_
        (try simp only [push_cast, simprocAttr])
        refine rcd_v hF ?_
        cases hf : firstB l (k + 1) y.p with
        | false =>
          (try simp only [hf, Bool.not_false, push_cast, simprocAttr])
          refine at_done (by kernel_rfl) (by kernel_rfl) (go_on ?_)
          (try simp only [push_cast, simprocAttr])
          refine at_ret ?_; simp only [Tryz.results130, push_cast, simprocAttr]
          simp [vX, canon_fail hx hy (.inr hf)]
        | true =>
          (try simp only [hf, Bool.not_true, push_cast, simprocAttr])
          refine at_done (by kernel_rfl) (by kernel_rfl) (go_on ?_)
          (try simp only [w1, push_cast, simprocAttr])
          refine at_fin ⟨k + 1, ⟨.inr (by omega), fun j u v hj hu hv => ?_⟩, by omega, ?_⟩
          · rcases Nat.lt_or_ge j k with h | h
            · exact q2 j u v h hu hv
            · obtain rfl : j = k := by omega
              rw [hx] at hu
              rw [hy] at hv
              cases hu
              cases hv
              exact ⟨hb, hf⟩
          · (refine wk_ok ?_ ?_ ?_ ?_ <;> simp [show ((k + 1 : Nat) : Int) = (k : Int) + 1 by omega, leL, leH, idsL, idsA, idsR, inH, hget, sameRow, upA, hvA, dsts, dstO, setA_0, setA_1, setA_8, List.append, List.cons_append, List.nil_append])
    · have i0 : ltI ((k : Int) + 1) l.length = false := ltI_f (by omega)
      have e := canon_all fun j x y hx hy => q2 j x y (by have := lt_of_some hy; omega) hx hy
      (try simp only [i0, push_cast, simprocAttr])
      (refine at_call ?_; (try simp only [push_cast, simprocAttr]); refine rwc_v (hV) (go_on ?_); (try simp only [push_cast, simprocAttr]))
      refine at_ret ?_; simp only [Tryz.results130, push_cast, simprocAttr]
      simp [vX, e]
end Go.Proofs.YtpanjecgbnomhaaGreatDoor
/-
  Walks: spec: l16Ok, l16Some, l16Has, ClashesOf, l42Ok, SessionClashes.
-/
namespace Go.Proofs.YtpanjecgbnomhaaGreatDoor
open Go Go.RowKit Go.Proofs
/-- All paths are well formed. -/
def PvL (l : List Cm) : Prop := ∀ c ∈ l, pV c.p = true
theorem canonV_pv {l : List Cm} (h : canonV l = true) : PvL l := fun c hc => by
  unfold canonV at h
  simp only [Bool.and_eq_true] at h
  exact (lV_cv h.1.1 c hc).p
attribute [local irreducible] RWp AW run kPe pe Kt effA gd gu br retR RDp runD kPeD brW gW effD
set_option maxRecDepth 100000
theorem l16Ok_pc (a b : List Cm) (ha : SmL a) (hb : SmL b) : PC Tryz.prog 85 [cmA a, cmA b] (vB (canonV a && canonV b)) := by
  have h1 := specCanonValid_pc a ha
  have h2 := specCanonValid_pc b hb
  refine pc_enter Tryz.func85 rfl rfl fun w0 fb => go_on ?_; (try simp only [Tryz.ntmps85, push_cast, simprocAttr])
  repeat' first | (refine at_b (fun hb => ?_) (fun hb => ?_) <;> simp only [hb, push_cast, simprocAttr]) | (refine at_ret ?_; simp only [Tryz.results85, push_cast, simprocAttr]) | (refine at_call ?_; (try simp only [push_cast, simprocAttr]); refine rwc_v (by first | exact h1 | exact h2) (go_on ?_); simp only [push_cast, simprocAttr]) | (show RWp _ _ _ _ _; simp only [push_cast, simprocAttr])
  all_goals simp [vX, *]
theorem any_drop {α : Type} {p : α → Bool} {l : List α} {k : Nat} {x : α} (hx : l[k]? = some x) : (l.drop k).any p = (p x || (l.drop (k + 1)).any p) := by
  rw [drop_of_get hx, List.any_cons]
theorem l16Some_pc (l : List Cm) (hl : SmL l) (hp : PvL l) (c : Cm) (hc : pV c.p = true) : PC Tryz.prog 107 [cmA l, cmdA c] (vB (disp l c)) := by
  have hln := hl.n
  have e : disp l c = l.any fun d => clash d c := by unfold disp; congr 1; funext d; exact clash_symm c d
  rw [e]
  unfold cmdA cmC
  refine pc_enter Tryz.func107 rfl rfl fun w0 fb => go_on ?_; (try simp only [Tryz.ntmps107, push_cast, simprocAttr])
  refine at_loop (X := Nat) (fun k => [(5, iA k)]) (fun _ => [(3, ⟨57, 5, [cmC c], true⟩)]) (fun k => k ≤ l.length ∧ (l.any fun d => clash d c) = ((l.drop k).any fun d => clash d c)) (fun k => l.length - k) 0 ⟨Nat.zero_le _, rfl⟩ ?_ ?_
  · (refine wk_ok ?_ ?_ ?_ ?_ <;> simp [cmC, leL, leH, idsL, idsA, idsR, inH, hget, sameRow, upA, hvA, dsts, dstO, setA_0, setA_1, setA_8, List.append, List.cons_append, List.nil_append])
  · rintro k ⟨q1, q2⟩
    simp only [upA, hvA, dsts, dstO, setA_0, setA_1, setA_8, List.append, List.cons_append, List.nil_append]
    refine go_on ?_
    (try simp only [push_cast, simprocAttr])
    by_cases hk : k < l.length
    · obtain ⟨x, hx⟩ := get_of_lt hk
      have i0 : ltI (k : Int) l.length = true := ltI_t (by omega)
      have i1 := ix_n hx
      have i2 := map_get cmC hx
      have w1 := wr ((k : Int) + 1) (by omega)
      have hX := l16Clash_pc x c (hp x (mem_of_get hx)) hc
      unfold cmdA at hX
      simp only [cmC] at i2 hX
      rw [any_drop hx] at q2
      (try simp only [i0, push_cast, simprocAttr])
      refine at_draw rfl (by kernel_rfl) ?_
      (try simp only [i1, i2, cmC, push_cast, simprocAttr])
      refine at_callD (by simp [clB, idsL, idsA, hget]) ?_
      (try simp only [push_cast, simprocAttr])
      refine rcd_v hX ?_
      (try simp only [push_cast, simprocAttr])
      refine at_done (by kernel_rfl) (by kernel_rfl) (go_on ?_)
      cases hcl : clash x c with
      | true =>
        rw [hcl] at q2
        (try simp only [hcl, push_cast, simprocAttr])
        refine at_ret ?_; simp only [Tryz.results107, push_cast, simprocAttr]
        simp [vX, q2]
      | false =>
        rw [hcl] at q2
        (try simp only [hcl, w1, push_cast, simprocAttr])
        refine at_fin ⟨k + 1, ⟨by omega, by simpa using q2⟩, by omega, ?_⟩
        (refine wk_ok ?_ ?_ ?_ ?_ <;> simp [cmC, leL, leH, idsL, idsA, idsR, inH, hget, sameRow, upA, hvA, dsts, dstO, setA_0, setA_1, setA_8, List.append, List.cons_append, List.nil_append])
    · have i0 : ltI (k : Int) l.length = false := ltI_f (by omega)
      rw [List.drop_of_length_le (by omega)] at q2
      (try simp only [i0, push_cast, simprocAttr])
      refine at_ret ?_; simp only [Tryz.results107, push_cast, simprocAttr]
      simp [vX, q2]
theorem l16Has_pc (l : List Cm) (hl : SmL l) (c : Cm) : PC Tryz.prog 140 [cmA l, cmdA c] (vB (decide (c ∈ l))) := by
  have hln := hl.n
  have e : decide (c ∈ l) = l.any fun d => decide (d = c) := by
    rw [Bool.eq_iff_iff, List.any_eq_true, decide_eq_true_eq]
    exact ⟨fun h => ⟨c, h, by simp⟩, fun ⟨x, h1, h2⟩ => by simp at h2; rwa [← h2]⟩
  rw [e]
  unfold cmdA cmC
  refine pc_enter Tryz.func140 rfl rfl fun w0 fb => go_on ?_; (try simp only [Tryz.ntmps140, push_cast, simprocAttr])
  refine at_loop (X := Nat) (fun k => [(5, iA k)]) (fun _ => [(3, ⟨57, 5, [cmC c], true⟩)]) (fun k => k ≤ l.length ∧ (l.any fun d => decide (d = c)) = ((l.drop k).any fun d => decide (d = c))) (fun k => l.length - k) 0 ⟨Nat.zero_le _, rfl⟩ ?_ ?_
  · (refine wk_ok ?_ ?_ ?_ ?_ <;> simp [cmC, leL, leH, idsL, idsA, idsR, inH, hget, sameRow, upA, hvA, dsts, dstO, setA_0, setA_1, setA_8, List.append, List.cons_append, List.nil_append])
  · rintro k ⟨q1, q2⟩
    simp only [upA, hvA, dsts, dstO, setA_0, setA_1, setA_8, List.append, List.cons_append, List.nil_append]
    refine go_on ?_
    (try simp only [push_cast, simprocAttr])
    by_cases hk : k < l.length
    · obtain ⟨x, hx⟩ := get_of_lt hk
      have i0 : ltI (k : Int) l.length = true := ltI_t (by omega)
      have i1 := ix_n hx
      have i2 := map_get cmC hx
      have w1 := wr ((k : Int) + 1) (by omega)
      have e := cm_eq x c
      simp only [cmC] at i2
      rw [any_drop hx] at q2
      (try simp only [i0, push_cast, simprocAttr])
      refine at_draw rfl (by kernel_rfl) ?_
      (try simp only [i1, i2, cmC, ctg, cth, cmg, cmh, push_cast, simprocAttr])
      refine at_done (by kernel_rfl) (by kernel_rfl) (go_on ?_)
      (try simp only [e, push_cast, simprocAttr])
      refine at_b (fun hn => ?_) (fun hn => ?_)
      · rw [hn] at q2
        (try simp only [hn, push_cast, simprocAttr])
        refine at_ret ?_; simp only [Tryz.results140, push_cast, simprocAttr]
        simp [vX, q2]
      · have hn' : decide (x = c) = false := hn
        rw [hn'] at q2
        (try simp only [hn', w1, push_cast, simprocAttr])
        refine at_fin ⟨k + 1, ⟨by omega, by simpa using q2⟩, by omega, ?_⟩
        (refine wk_ok ?_ ?_ ?_ ?_ <;> simp [cmC, leL, leH, idsL, idsA, idsR, inH, hget, sameRow, upA, hvA, dsts, dstO, setA_0, setA_1, setA_8, List.append, List.cons_append, List.nil_append])
    · have i0 : ltI (k : Int) l.length = false := ltI_f (by omega)
      rw [List.drop_of_length_le (by omega)] at q2
      (try simp only [i0, push_cast, simprocAttr])
      refine at_ret ?_; simp only [Tryz.results140, push_cast, simprocAttr]
      simp [vX, q2]
theorem specClashesOf_pc (a b : List Cm) (ha : SmL a) (hb : SmL b) : PC Tryz.prog 46 [cmA a, cmA b] (rX (.o 0 (clOf a b).length) [rowP (clOf a b)]) := by
  have hO := l16Ok_pc a b ha hb
  have hln := ha.n
  refine pc_enter Tryz.func46 rfl rfl fun w0 fb => go_on ?_; (try simp only [Tryz.ntmps46, push_cast, simprocAttr])
  cases hc : (canonV a && canonV b) with
  | false =>
    have e : clOf a b = [] := by simp [clOf, hc]
    rw [hc] at hO
    refine at_loop (X := Unit) (fun _ => [(4, .any), (5, .o 8 0), (6, iA 0)]) (fun _ => [(8, rowP [])]) (fun _ => True) (fun _ => 0) () trivial ?_ ?_
    · (refine wk_ok ?_ ?_ ?_ ?_ <;> simp [rowP, leL, leH, idsL, idsA, idsR, inH, hget, sameRow, upA, hvA, dsts, dstO, setA_0, setA_1, setA_8, List.append, List.cons_append, List.nil_append])
    · rintro ⟨⟩ -
      simp only [upA, hvA, dsts, dstO, setA_0, setA_1, setA_8, List.append, List.cons_append, List.nil_append]
      refine go_on ?_
      (try simp only [push_cast, simprocAttr])
      by_cases hi : 0 < a.length
      · have i0 : ltI 0 (a.length : Int) = true := ltI_t (by omega)
        (try simp only [i0, push_cast, simprocAttr])
        (refine at_call ?_; (try simp only [push_cast, simprocAttr]); refine rwc_v (hO) (go_on ?_); (try simp only [push_cast, simprocAttr]))
        refine at_ret ?_; simp only [Tryz.results46, push_cast, simprocAttr]
        simp [rX, e, ixOf]
      · have i0 : ltI 0 (a.length : Int) = false := ltI_f (by omega)
        (try simp only [i0, push_cast, simprocAttr])
        refine at_ret ?_; simp only [Tryz.results46, push_cast, simprocAttr]
        simp [rX, e, ixOf]
  | true =>
    rw [hc] at hO
    have e : clOf a b = clAll b 0 a := by simp [clOf, hc]
    simp only [Bool.and_eq_true] at hc
    have hla := canonV_le hc.1
    have hlb := canonV_le hc.2
    have hpa := canonV_pv hc.1
    have hpb := canonV_pv hc.2
    rw [e]
    refine at_loop (X := Nat × List (Int × Int)) (fun x => [(4, .any), (8, .any), (5, .o 8 x.2.length), (6, iA x.1)]) (fun x => [(8, rowP x.2)])
      (fun x => x.1 ≤ a.length ∧ x.2.length ≤ x.1 * 20 ∧ clAll b 0 a = x.2 ++ clAll b x.1 (a.drop x.1)) (fun x => a.length - x.1) (0, []) ⟨Nat.zero_le _, Nat.zero_le _, rfl⟩ ?_ ?_
    · (refine wk_ok ?_ ?_ ?_ ?_ <;> simp [rowP, leL, leH, idsL, idsA, idsR, inH, hget, sameRow, upA, hvA, dsts, dstO, setA_0, setA_1, setA_8, List.append, List.cons_append, List.nil_append])
    · rintro ⟨i, o⟩ ⟨q1, q2, q3⟩
      simp only at q1 q2 q3
      simp only [upA, hvA, dsts, dstO, setA_0, setA_1, setA_8, List.append, List.cons_append, List.nil_append]
      refine go_on ?_
      (try simp only [push_cast, simprocAttr])
      have w1 : IntKind.i64.wrap ((i : Int) + 1) = (i : Int) + 1 := wr _ (by omega)
      by_cases hi : i < a.length
      · obtain ⟨c, hc⟩ := get_of_lt hi
        have i0 : ltI (i : Int) a.length = true := ltI_t (by omega)
        have i1 := ix_n hc
        have i2 := map_get cmC hc
        simp only [cmC] at i2
        rw [drop_of_get hc] at q3
        simp only [clAll] at q3
        (try simp only [i0, push_cast, simprocAttr])
        (refine at_call ?_; (try simp only [push_cast, simprocAttr]); refine rwc_v (hO) (go_on ?_); (try simp only [push_cast, simprocAttr]))
        refine at_loop (X := Nat × List (Int × Int)) (fun x => [(4, .any), (8, .any), (5, .o 8 x.2.length), (7, iA x.1)]) (fun x => [(8, rowP x.2)])
          (fun x => x.1 ≤ b.length ∧ x.2.length ≤ i * 20 + x.1 ∧ o ++ clRow i c 0 b = x.2 ++ clRow i c x.1 (b.drop x.1)) (fun x => b.length - x.1) (0, o) ⟨Nat.zero_le _, by omega, rfl⟩ ?_ ?_
        · (refine wk_ok ?_ ?_ ?_ ?_ <;> simp [rowP, cmC, leL, leH, idsL, idsA, idsR, inH, hget, sameRow, upA, hvA, dsts, dstO, setA_0, setA_1, setA_8, List.append, List.cons_append, List.nil_append])
        · rintro ⟨k, u⟩ ⟨r1, r2, r3⟩
          simp only at r1 r2 r3
          simp only [upA, hvA, dsts, dstO, setA_0, setA_1, setA_8, List.append, List.cons_append, List.nil_append]
          refine go_on ?_
          (try simp only [push_cast, simprocAttr])
          have w2 : IntKind.i64.wrap ((k : Int) + 1) = (k : Int) + 1 := wr _ (by omega)
          by_cases hk : k < b.length
          · obtain ⟨d, hd⟩ := get_of_lt hk
            have k0 : ltI (k : Int) b.length = true := ltI_t (by omega)
            have k1 := ix_n hd
            have k2 := map_get cmC hd
            have hX := l16Clash_pc c d (hpa c (mem_of_get hc)) (hpb d (mem_of_get hd))
            unfold cmdA at hX
            simp only [cmC] at k2 hX
            rw [drop_of_get hd] at r3
            simp only [clRow] at r3
            (try simp only [k0, push_cast, simprocAttr])
            refine at_draw rfl (by kernel_rfl) ?_
            (try simp only [i1, i2, k1, k2, push_cast, simprocAttr])
            refine at_callD (by simp [clB, idsL, idsA, hget]) ?_
            (try simp only [push_cast, simprocAttr])
            refine rcd_v hX ?_
            (try simp only [push_cast, simprocAttr])
            refine at_done (by kernel_rfl) (by kernel_rfl) (go_on ?_)
            cases hcl : clash c d with
            | true =>
              rw [hcl, if_pos rfl] at r3
              have happ : u.map pC ++ [[iA i, iA k]] = (u ++ [((i : Int), (k : Int))]).map pC := by rw [List.map_append]; rfl
              (try simp only [hcl, rowP, push_cast, simprocAttr])
              refine at_chk (by omega) ?_
              (try simp only [happ, rowP, w2, push_cast, simprocAttr])
              refine at_fin ⟨(k + 1, u ++ [((i : Int), (k : Int))]), ⟨by dsimp only; omega, by simp; omega, by simpa using r3⟩, by dsimp only; omega, ?_⟩
              (refine wk_ok ?_ ?_ ?_ ?_ <;> simp [rowP, cmC, pC, leL, leH, idsL, idsA, idsR, inH, hget, sameRow, upA, hvA, dsts, dstO, setA_0, setA_1, setA_8, List.append, List.cons_append, List.nil_append])
            | false =>
              rw [hcl, if_neg (by simp)] at r3
              (try simp only [hcl, w2, push_cast, simprocAttr])
              refine at_fin ⟨(k + 1, u), ⟨by dsimp only; omega, by dsimp only; omega, by simpa using r3⟩, by dsimp only; omega, ?_⟩
              (refine wk_ok ?_ ?_ ?_ ?_ <;> simp [rowP, cmC, pC, leL, leH, idsL, idsA, idsR, inH, hget, sameRow, upA, hvA, dsts, dstO, setA_0, setA_1, setA_8, List.append, List.cons_append, List.nil_append])
          · have k0 : ltI (k : Int) b.length = false := ltI_f (by omega)
            rw [List.drop_of_length_le (by omega)] at r3
            simp only [clRow, List.append_nil] at r3
            rw [← List.append_assoc, r3] at q3
            (try simp only [k0, w1, push_cast, simprocAttr])
            refine at_fin ⟨(i + 1, u), ⟨by dsimp only; omega, by dsimp only; omega, by simpa using q3⟩, by dsimp only; omega, ?_⟩
            (refine wk_ok ?_ ?_ ?_ ?_ <;> simp [rowP, cmC, pC, leL, leH, idsL, idsA, idsR, inH, hget, sameRow, upA, hvA, dsts, dstO, setA_0, setA_1, setA_8, List.append, List.cons_append, List.nil_append])
      · have i0 : ltI (i : Int) a.length = false := ltI_f (by omega)
        rw [List.drop_of_length_le (by omega)] at q3
        simp only [clAll, List.append_nil] at q3
        (try simp only [i0, push_cast, simprocAttr])
        refine at_ret ?_; simp only [Tryz.results46, push_cast, simprocAttr]
        simp [rX, q3, ixOf]
end Go.Proofs.YtpanjecgbnomhaaGreatDoor
/-
  Walks: spec: l42Trees, l42Ok, SessionClashes.
-/
namespace Go.Proofs.YtpanjecgbnomhaaGreatDoor
open Go Go.RowKit Go.Proofs
attribute [local irreducible] RWp AW run kPe pe Kt effA gd gu br retR RDp runD kPeD brW gW effD
set_option maxRecDepth 100000
theorem l42Trees_pc (a b : List Nd) (hl : a.length < 4294967281) : PC Tryz.prog 84 [ndA a, ndA b] (vB (decide (a = b))) := by
  refine pc_enter Tryz.func84 rfl rfl fun w0 fb => go_on ?_; (try simp only [Tryz.ntmps84, push_cast, simprocAttr])
  refine at_b (fun hb => ?_) (fun hb => ?_)
  · have h1 := of_eqI_f (not_t hb)
    have h2 : a ≠ b := by rintro rfl; exact h1 rfl
    (try simp only [hb, push_cast, simprocAttr])
    refine at_ret ?_; simp only [Tryz.results84, push_cast, simprocAttr]
    simp [vX, h2]
  · have h1 : a.length = b.length := by have := of_eqI_t (not_f hb); omega
    (try simp only [hb, push_cast, simprocAttr])
    refine at_loop (X := Nat) (fun k => [(5, iA k)]) (fun _ => []) (fun k => k ≤ a.length ∧ decide (a = b) = decide (a.drop k = b.drop k)) (fun k => a.length - k) 0 ⟨Nat.zero_le _, rfl⟩ ?_ ?_
    · (refine wk_ok ?_ ?_ ?_ ?_ <;> simp [leL, leH, idsL, idsA, idsR, inH, hget, sameRow, upA, hvA, dsts, dstO, setA_0, setA_1, setA_8, List.append, List.cons_append, List.nil_append])
    · rintro k ⟨q1, q2⟩
      simp only [upA, hvA, dsts, dstO, setA_0, setA_1, setA_8, List.append, List.cons_append, List.nil_append]
      refine go_on ?_
      (try simp only [push_cast, simprocAttr])
      refine at_b (fun hg => ?_) (fun hg => ?_)
      · have hlt := lt_tt hg
        obtain ⟨x, hx⟩ := get_of_lt hlt
        obtain ⟨y, hy⟩ := get_of_lt (l := b) (k := k) (by omega)
        have i1 := ix_n hx
        have i3 := ix_n hy
        have i2 := map_get ndC hx
        have i4 := map_get ndC hy
        simp only [ndC] at i2 i4
        rw [drop_of_get hx, drop_of_get hy] at q2
        have w2 := wr ((k : Int) + 1) (by omega)
        (try simp only [hg, push_cast, simprocAttr])
        refine at_draw rfl (by kernel_rfl) ?_
        (try simp only [i1, i2, i3, i4, ctg, cth, ndg, ndh, push_cast, simprocAttr])
        refine at_done (by kernel_rfl) (by kernel_rfl) (go_on ?_)
        have e : (decide (x.p = y.p) && (eqI x.c.k y.c.k && eqI x.c.v y.c.v)) = decide (x = y) := by
          rw [Bool.eq_iff_iff]; simp [eqI_d, nd_ext, ct_ext]
        (try simp only [e, push_cast, simprocAttr])
        refine at_b (fun hn => ?_) (fun hn => ?_)
        · have hxy : x ≠ y := by simpa using hn
          (try simp only [hn, push_cast, simprocAttr])
          refine at_ret ?_; simp only [Tryz.results84, push_cast, simprocAttr]
          simp [vX, q2, hxy]
        · have hxy : x = y := by simpa using hn
          (try simp only [hn, w2, push_cast, simprocAttr])
          refine at_fin ⟨k + 1, ⟨by omega, ?_⟩, by omega, ?_⟩
          · rw [q2]; simp [hxy]
          · (refine wk_ok ?_ ?_ ?_ ?_ <;> simp [leL, leH, idsL, idsA, idsR, inH, hget, sameRow, upA, hvA, dsts, dstO, setA_0, setA_1, setA_8, List.append, List.cons_append, List.nil_append])
      · have h3 := lt_ff hg
        (try simp only [hg, push_cast, simprocAttr])
        refine at_ret ?_; simp only [Tryz.results84, push_cast, simprocAttr]
        rw [List.drop_of_length_le h3, List.drop_of_length_le (by omega)] at q2
        simp [vX, q2]
theorem l42Ok_pc (a b : St) (ha : SmS a) (hb : SmS b) : PC Tryz.prog 45 [stA' a, stA' b] (vB (meet a b)) := by
  have h1 := specSiteValid_pc a ha
  have h2 := specSiteValid_pc b hb
  have h3 := l42Trees_pc a.base b.base (by have := ha.t.n; omega)
  have e : meet a b = (siteV a && siteV b && eqI a.ep b.ep && ltI a.ep 99 && decide (a.base = b.base)) := by
    unfold meet ltI; rw [eqI_d]
    cases siteV a <;> cases siteV b <;> cases decide (a.base = b.base) <;> cases decide (a.ep = b.ep) <;> cases decide (a.ep < 99) <;> rfl
  unfold stA' stC at *
  refine pc_enter Tryz.func45 rfl rfl fun w0 fb => go_on ?_; (try simp only [Tryz.ntmps45, push_cast, simprocAttr])
  repeat' first | (refine at_b (fun hb => ?_) (fun hb => ?_) <;> simp only [hb, push_cast, simprocAttr]) | (refine at_ret ?_; simp only [Tryz.results45, push_cast, simprocAttr]) | (refine at_call ?_; (try simp only [push_cast, simprocAttr]); refine rwc_v (by first | exact h1 | exact h2 | exact h3) (go_on ?_); simp only [push_cast, simprocAttr]) | (show RWp _ _ _ _ _; simp only [push_cast, simprocAttr])
  all_goals simp [vX, e, *]
theorem specClashesOf_d (a b : List Cm) (ha : SmL a) (hb : SmL b) : PC Tryz.prog 46 [cmA a, cmA b] (vX (pA (clOf a b))) := by
  have := (specClashesOf_pc a b ha hb).frzX
  simpa [viewN, hpOf, hget, isC, tk] using this
theorem specSessionClashes_pc (a b : St) (ha : SmS a) (hb : SmS b) : PC Tryz.prog 17 [stA' a, stA' b] (vI (sCl a b)) := by
  have hM := l42Ok_pc a b ha hb
  have hA := specSiteCanon_pc a ha
  have hB := specSiteCanon_pc b hb
  have hC := specClashesOf_d (siteC a) (siteC b) (siteC_sm a) (siteC_sm b)
  unfold stA' stC at *
  refine pc_enter Tryz.func17 rfl rfl fun w0 fb => go_on ?_; (try simp only [Tryz.ntmps17, push_cast, simprocAttr])
  (refine at_call ?_; (try simp only [push_cast, simprocAttr]); refine rwc_v (hM) (go_on ?_); (try simp only [push_cast, simprocAttr]))
  cases h : meet a b with
  | false =>
    (try simp only [h, Bool.not_false, push_cast, simprocAttr])
    refine at_ret ?_; simp only [Tryz.results17, push_cast, simprocAttr]
    simp [vX, sCl, h]
  | true =>
    (try simp only [h, Bool.not_true, push_cast, simprocAttr])
    refine at_draw rfl (by kernel_rfl) ?_; simp only [push_cast, simprocAttr]
    (refine at_shareD (by simp [isC2, isC]) (by first | rfl | simp [ren]) hA ?_; (try simp only [push_cast, simprocAttr]))
    (refine at_shareD (by simp [isC2, isC]) (by first | rfl | simp [ren]) hB ?_; (try simp only [push_cast, simprocAttr]))
    (refine at_shareD (by simp [isC2, isC]) (by first | rfl | simp [ren]) hC ?_; (try simp only [push_cast, simprocAttr]))
    refine at_done (by kernel_rfl) (by kernel_rfl) (go_on ?_)
    (try simp only [push_cast, simprocAttr])
    refine at_ret ?_; simp only [Tryz.results17, push_cast, simprocAttr]
    simp [vX, sCl, h]
end Go.Proofs.YtpanjecgbnomhaaGreatDoor
/-
  Walks: the marks that the laws write, and read again.
-/
namespace Go.Proofs.YtpanjecgbnomhaaGreatDoor
open Go Go.RowKit Go.Proofs
def digS (k : Nat) (o : Str) : Str := if h : k = 0 then o else digS (k / 10) (UInt8.ofNat (48 + k % 10) :: o)
termination_by k
decreasing_by omega
theorem digS_0 (o : Str) : digS 0 o = o := by rw [digS]; simp
theorem digS_s {k : Nat} (h : 0 < k) (o : Str) : digS k o = digS (k / 10) (UInt8.ofNat (48 + k % 10) :: o) := by
  rw [digS, dif_neg (by omega)]
def mkT (k : Nat) : Str := 109 :: digS k []
def mkN : Nat → List Nd → List Nd
  | _, [] => []
  | k, _ :: l => ⟨mkT k, ⟨(k : Int) + 1, (k : Int) + 1 + 1⟩⟩ :: mkN (k + 3) l
def mkC : Nat → List Cm → List Cm
  | _, [] => []
  | k, _ :: l => ⟨mkT k, ⟨(k : Int) + 1, (k : Int) + 1 + 1⟩, ⟨(k : Int) + 1 + 1 + 1, (k : Int) + 1 + 1 + 1 + 1⟩⟩ :: mkC (k + 5) l
theorem mkN_len : ∀ (l : List Nd) (k : Nat), (mkN k l).length = l.length
  | [], _ => rfl
  | _ :: l, k => by simp [mkN, mkN_len l]
theorem mkC_len : ∀ (l : List Cm) (k : Nat), (mkC k l).length = l.length
  | [], _ => rfl
  | _ :: l, k => by simp [mkC, mkC_len l]
theorem mkN_get : ∀ (l : List Nd) (k i : Nat), i < l.length → (mkN k l)[i]? = some ⟨mkT (k + 3 * i), ⟨((k + 3 * i : Nat) : Int) + 1, ((k + 3 * i : Nat) : Int) + 1 + 1⟩⟩
  | [], _, _, h => by simp at h
  | x :: l, k, 0, _ => by simp [mkN]
  | x :: l, k, i + 1, h => by
    rw [mkN, List.getElem?_cons_succ, mkN_get l (k + 3) i (by simpa using h), show k + 3 + 3 * i = k + 3 * (i + 1) from by omega]
theorem mkC_get : ∀ (l : List Cm) (k i : Nat), i < l.length → (mkC k l)[i]? = some ⟨mkT (k + 5 * i), ⟨((k + 5 * i : Nat) : Int) + 1, ((k + 5 * i : Nat) : Int) + 1 + 1⟩, ⟨((k + 5 * i : Nat) : Int) + 1 + 1 + 1, ((k + 5 * i : Nat) : Int) + 1 + 1 + 1 + 1⟩⟩
  | [], _, _, h => by simp at h
  | x :: l, k, 0, _ => by simp [mkC]
  | x :: l, k, i + 1, h => by
    rw [mkC, List.getElem?_cons_succ, mkC_get l (k + 5) i (by simpa using h), show k + 5 + 5 * i = k + 5 * (i + 1) from by omega]
/-- Marked up to a place. -/
def upN (k : Nat) (l : List Nd) (i : Nat) : List Nd := (mkN k l).take i ++ l.drop i
def upC (k : Nat) (l : List Cm) (i : Nat) : List Cm := (mkC k l).take i ++ l.drop i
theorem upN_len (k : Nat) (l : List Nd) (i : Nat) (h : i ≤ l.length) : (upN k l i).length = l.length := by simp [upN, mkN_len]; omega
theorem upC_len (k : Nat) (l : List Cm) (i : Nat) (h : i ≤ l.length) : (upC k l i).length = l.length := by simp [upC, mkC_len]; omega
theorem up_get {α : Type} {m l : List α} {i : Nat} (h : i ≤ m.length) : (m.take i ++ l.drop i)[i]? = l[i]? := by
  rw [List.getElem?_append_right (by simp; omega), List.getElem?_drop, List.length_take, Nat.min_eq_left h]
  congr 1; omega
theorem up_set {α : Type} {m l : List α} {i : Nat} {y : α} (hm : m[i]? = some y) (hl : i < l.length) : (m.take i ++ l.drop i).set i y = m.take (i + 1) ++ l.drop (i + 1) := by
  have h := lt_of_some hm
  rw [List.set_append_right _ _ (by simp; omega), List.length_take, Nat.min_eq_left (by omega), Nat.sub_self, List.take_add_one, hm]
  obtain ⟨x, hx⟩ := get_of_lt hl
  rw [drop_of_get hx]
  simp
attribute [local irreducible] RWp AW run kPe pe Kt effA gd gu br retR RDp runD kPeD brW gW effD
set_option maxRecDepth 100000
end Go.Proofs.YtpanjecgbnomhaaGreatDoor
/-
  Walks: marks written into a side's rows, and read again.
-/
namespace Go.Proofs.YtpanjecgbnomhaaGreatDoor
open Go Go.RowKit Go.Proofs
attribute [local irreducible] RWp AW run kPe pe Kt effA gd gu br retR RDp runD kPeD brW gW effD
set_option maxRecDepth 100000
def markD (n : Nat) (l' : Row) (rv : AV) (lr' rows : List Row) : Prop := rv = iA n ∧ lr' = [l'] ∧ rows = []
end Go.Proofs.YtpanjecgbnomhaaGreatDoor
/-
  Walks: marks in a side.
-/
namespace Go.Proofs.YtpanjecgbnomhaaGreatDoor
open Go Go.RowKit Go.Proofs
def markS (s : St) (k : Nat) (rv : AV) (lr' rows : List Row) : Prop := rv = iA ((k + 3 * s.base.length + 5 * s.log.length : Nat) : Int) ∧ lr' = [rowN (mkN k s.base), rowC (mkC (k + 3 * s.base.length) s.log)] ∧ rows = []
attribute [local irreducible] RWp AW run kPe pe Kt effA gd gu br retR RDp runD kPeD brW gW effD
set_option maxRecDepth 100000
theorem toSite_d (s : St) (h1 : s.base.length ≤ 1048576) (h2 : s.log.length ≤ 1048576) : PC Tryz.prog 21 [stA' s] (vX (stA' s)) := by
  have := (toSite_pc s h1 h2).frzX
  simpa [viewN, hpOf, hget, stO, stA', stC, isC, tk] using this
end Go.Proofs.YtpanjecgbnomhaaGreatDoor
/-
  Walks: FnExactSessionClashes.
-/
namespace Go.Proofs.YtpanjecgbnomhaaGreatDoor
open Go Go.RowKit Go.Proofs
attribute [local irreducible] RWp AW run kPe pe Kt effA gd gu br retR RDp runD kPeD brW gW effD
set_option maxRecDepth 100000
theorem FnExactSessionClashes_pc (s : St) (q : SiteOk s) (t : St) (r : SiteOk t) : PC Tryz.prog 4 [stA' s, stA' t] (vB true) := by
  have hZ := szSite_pc s 1048576 (by omega) (by omega) q
  unfold stA' stC at hZ ⊢
  refine pc_enter Tryz.func4 rfl rfl fun w0 fb => go_on ?_; (try simp only [Tryz.ntmps4, push_cast, simprocAttr])
  (refine at_call ?_; (try simp only [push_cast, simprocAttr]); refine rwc_v (hZ) (go_on ?_); (try simp only [push_cast, simprocAttr]))
  refine at_b (fun hb => ?_) (fun hb => ?_)
  · (try simp only [hb, push_cast, simprocAttr])
    refine at_ret ?_; simp only [Tryz.results4, push_cast, simprocAttr]
    simp [vX]
  have hb' := of_ltI_f hb
  obtain ⟨a0, a1, a2, _⟩ := szT_ok (by omega) (by omega) hb'
  have hs := szT_sm (by omega) (by omega) hb'
  have hZ2 := szSite_pc t (szT s 1048576) (by omega) (by omega) r
  unfold stA' stC at hZ2
  (try simp only [hb, push_cast, simprocAttr])
  (refine at_call ?_; (try simp only [push_cast, simprocAttr]); refine rwc_v (hZ2) (go_on ?_); (try simp only [push_cast, simprocAttr]))
  refine at_b (fun hb2 => ?_) (fun hb2 => ?_)
  · (try simp only [hb2, push_cast, simprocAttr])
    refine at_ret ?_; simp only [Tryz.results4, push_cast, simprocAttr]
    simp [vX]
  have hb2' := of_ltI_f hb2
  obtain ⟨c0, c1, c2, _⟩ := szT_ok (by omega) (by omega) hb2'
  have ht := szT_sm (by omega) (by omega) hb2'
  have hT := toSite_pc s a1 a2
  have hTd := toSite_d s a1 a2
  have hU := toSite_pc t c1 c2
  have hUd := toSite_d t c1 c2
  have hE := eqSite_pc s s (by omega) (by omega)
  have hF := eqSite_pc t t (by omega) (by omega)
  rw [decide_eq_true rfl] at hE hF
  have hSp := specSessionClashes_pc s t hs ht
  have hIm := SessionClashes_pc s t hs ht
  unfold stA' stC at hTd hUd hE hF hSp hIm
  (try simp only [hb2, push_cast, simprocAttr])
  refine at_draw rfl (by kernel_rfl) ?_; simp only [push_cast, simprocAttr]
  (refine at_shareD (by simp [isC2, isC]) (by first | rfl | simp [ren]) hTd ?_; (try simp only [push_cast, simprocAttr]))
  (refine at_shareD (by simp [isC2, isC]) (by first | rfl | simp [ren]) hUd ?_; (try simp only [push_cast, simprocAttr]))
  repeat' first | (refine at_bWn (fun hb => ?_) (fun hb => ?_) <;> simp only [hb, push_cast, simprocAttr]) | (refine at_bW (fun hb => ?_) (fun hb => ?_) <;> simp only [hb, push_cast, simprocAttr]) | (refine at_callD (by simp [clB, idsL, idsA, hget]) ?_; (try simp only [push_cast, simprocAttr]); first | (refine rcd_v (hSp) ?_; simp only [push_cast, simprocAttr]) | (refine rcd_d (hSp) (by simp [flatV, flatL, ctC, ndC, cmC]) (by simp [ren, ctC, ndC, cmC]) ?_; simp only [push_cast, simprocAttr])) | (refine at_done (by kernel_rfl) (by kernel_rfl) (go_on ?_); (try simp only [push_cast, simprocAttr]))
  ((try simp only [push_cast, simprocAttr]); refine at_share2 (by simp [isC2, isC]) (by first | rfl | simp [ren]) (hTd) (go_on ?_); (try simp only [push_cast, simprocAttr]))
  ((try simp only [push_cast, simprocAttr]); refine at_share2 (by simp [isC2, isC]) (by first | rfl | simp [ren]) (hUd) (go_on ?_); (try simp only [push_cast, simprocAttr]))
  (refine at_call ?_; (try simp only [push_cast, simprocAttr]); refine rwc_v (hIm) (go_on ?_); (try simp only [push_cast, simprocAttr]))
  have e0 : eqI (sCl s t) (sCl s t) = true := eqI_t rfl
  (try simp only [e0, Bool.not_true, push_cast, simprocAttr])
  refine at_draw rfl (by kernel_rfl) ?_; simp only [push_cast, simprocAttr]
  (refine at_shareD (by simp [isC2, isC]) (by first | rfl | simp [ren]) hTd ?_; (try simp only [push_cast, simprocAttr]))
  repeat' first | (refine at_bWn (fun hb => ?_) (fun hb => ?_) <;> simp only [Bool.not_true, hb, push_cast, simprocAttr]) | (refine at_bW (fun hb => ?_) (fun hb => ?_) <;> simp only [Bool.not_true, hb, push_cast, simprocAttr]) | (refine at_callD (by simp [clB, idsL, idsA, hget]) ?_; (try simp only [push_cast, simprocAttr]); first | (refine rcd_v (hE) ?_; simp only [Bool.not_true, push_cast, simprocAttr]) | (refine rcd_d (hE) (by simp [flatV, flatL, ctC, ndC, cmC]) (by simp [ren, ctC, ndC, cmC]) ?_; simp only [Bool.not_true, push_cast, simprocAttr])) | (refine at_done (by kernel_rfl) (by kernel_rfl) (go_on ?_); (try simp only [Bool.not_true, push_cast, simprocAttr]))
  refine at_draw rfl (by kernel_rfl) ?_; simp only [push_cast, simprocAttr]
  (refine at_shareD (by simp [isC2, isC]) (by first | rfl | simp [ren]) hUd ?_; (try simp only [push_cast, simprocAttr]))
  repeat' first | (refine at_bWn (fun hb => ?_) (fun hb => ?_) <;> simp only [Bool.not_true, hb, push_cast, simprocAttr]) | (refine at_bW (fun hb => ?_) (fun hb => ?_) <;> simp only [Bool.not_true, hb, push_cast, simprocAttr]) | (refine at_callD (by simp [clB, idsL, idsA, hget]) ?_; (try simp only [push_cast, simprocAttr]); first | (refine rcd_v (hF) ?_; simp only [Bool.not_true, push_cast, simprocAttr]) | (refine rcd_d (hF) (by simp [flatV, flatL, ctC, ndC, cmC]) (by simp [ren, ctC, ndC, cmC]) ?_; simp only [Bool.not_true, push_cast, simprocAttr])) | (refine at_done (by kernel_rfl) (by kernel_rfl) (go_on ?_); (try simp only [Bool.not_true, push_cast, simprocAttr]))
  refine at_ret ?_; simp only [Tryz.results4, push_cast, simprocAttr]
  simp [vX]
end Go.Proofs.YtpanjecgbnomhaaGreatDoor
