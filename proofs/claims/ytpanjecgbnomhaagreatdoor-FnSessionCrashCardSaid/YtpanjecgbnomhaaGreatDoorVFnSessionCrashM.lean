/- A part of the proof of FnSessionCrash: texts W54 VFnSessionCrash. -/
import Derived.Test.YtpanjecgbnomhaaGreatDoorG7
import Derived.Test.YtpanjecgbnomhaaGreatDoorG5
set_option linter.unusedSimpArgs false
set_option linter.unusedVariables false
/-
  Plain: the sessions that four steps pass through.
-/
namespace Go.Proofs.YtpanjecgbnomhaaGreatDoor
open Go Go.RowKit Go.Proofs
def sq (a b x y : St) : Nat → Ss
  | 0 => ⟨a, b, false, st0, st0⟩
  | 1 => ⟨a, b, true, x, y⟩
  | 2 => ⟨x, b, true, x, y⟩
  | 3 => ⟨x, y, true, x, y⟩
  | _ => ⟨x, y, false, st0, st0⟩
theorem sq_sm {a b x y : St} (ha : SmS a) (hb : SmS b) (hx : SmS x) (hy : SmS y) (k : Nat) : SmSs (sq a b x y k) := by
  rcases k with _ | _ | _ | _ | k
  · exact ⟨ha, hb, st0_sm, st0_sm⟩
  · exact ⟨ha, hb, hx, hy⟩
  · exact ⟨hx, hb, hx, hy⟩
  · exact ⟨hx, hy, hx, hy⟩
  · exact ⟨hx, hy, st0_sm, st0_sm⟩
theorem sq_step {a b x y : St} (h : sRun a b = some (x, y)) (k : Nat) (hk : k < 4) : sStep (sq a b x y k) = some (sq a b x y (k + 1)) := by
  obtain ⟨h1, h2, h3, h4⟩ := law_steps h
  rcases k with _ | _ | _ | _ | k
  · exact h1
  · exact h2
  · exact h3
  · exact h4
  · omega
theorem sq_rec {a b x y : St} (k : Nat) : sRec (sq a b x y k) = if k = 0 then (a, b) else (x, y) := by
  rcases k with _ | _ | _ | _ | k <;> simp [sRec, sq]
end Go.Proofs.YtpanjecgbnomhaaGreatDoor
/-
  Walks: %(L)s.
-/
namespace Go.Proofs.YtpanjecgbnomhaaGreatDoor
open Go Go.RowKit Go.Proofs
attribute [local irreducible] RWp AW run kPe pe Kt effA gd gu br retR RDp runD kPeD brW gW effD
set_option maxRecDepth 100000
theorem FnSessionCrash_pc (z : List Int) (hz : BytesOk z) (z2 : List Int) (hz2 : BytesOk z2) : PC Tryz.prog 14 [byA z, byA z2] (vB true) := by
  refine pc_enter Tryz.func14 rfl rfl fun w0 fb => go_on ?_; (try simp only [Tryz.ntmps14, push_cast, simprocAttr])
  by_cases hb1 : ltI 1048576 (z.length : Int) = true
  · (try simp only [hb1, push_cast, simprocAttr])
    refine at_ret ?_; simp only [Tryz.results14, push_cast, simprocAttr]
    simp [vX]
  simp only [Bool.not_eq_true] at hb1
  (try simp only [hb1, push_cast, simprocAttr])
  refine at_b (fun hb => ?_) (fun hb => ?_)
  · (try simp only [hb, push_cast, simprocAttr])
    refine at_ret ?_; simp only [Tryz.results14, push_cast, simprocAttr]
    simp [vX]
  · (try simp only [hb, push_cast, simprocAttr])
    refine call_share (by simp [isC]) (DrawSessionNew_pc z hz) ?_
    rintro rv rows ⟨a, b, ha, hb', rfl, rfl⟩
    have hma := ha.sm
    have hmb := hb'.sm
    have hD := SessionNew_e a b hma hmb
    have hE := specSessionNew_e a b hma hmb
    unfold ssO at hD hE
    obtain ⟨so, hso⟩ : ∃ so, so = (sNew a b).getD ss0 := ⟨_, rfl⟩
    obtain ⟨ok, hok⟩ : ∃ ok, ok = (sNew a b).isSome := ⟨_, rfl⟩
    have hsm : SmSs so := by
      rw [hso]
      unfold sNew
      split
      · exact ⟨hma, hmb, st0_sm, st0_sm⟩
      · exact ⟨st0_sm, st0_sm, st0_sm, st0_sm⟩
    have hS := sameSession_pc so so hsm
    rw [decide_eq_true rfl] at hS
    rw [← hso, ← hok] at hD hE
    unfold ssA ssC at hD hE hS
    unfold stA' stC at hD hE ⊢
    refine ⟨by simp [frB, baseOf], go_on ?_⟩
    (try simp only [push_cast, simprocAttr])
    ((try simp only [push_cast, simprocAttr]); refine at_share2 (by simp [isC2, isC]) (by first | rfl | simp [ren]) (hD) (go_on ?_); (try simp only [push_cast, simprocAttr]))
    ((try simp only [push_cast, simprocAttr]); refine at_share2 (by simp [isC2, isC]) (by first | rfl | simp [ren]) (hE) (go_on ?_); (try simp only [push_cast, simprocAttr]))
    have b1 : (!(ok == ok)) = false := by simp
    have b2 : (ok == ok) = true := by simp
    (try simp only [b1, push_cast, simprocAttr])
    (refine at_call ?_; (try simp only [push_cast, simprocAttr]); refine rwc_v (hS) (go_on ?_); (try simp only [push_cast, simprocAttr]))
    (try simp only [Bool.not_true, push_cast, simprocAttr])
    cases ok with
    | false =>
      (try simp only [Bool.not_false, push_cast, simprocAttr])
      (try simp only [b2, push_cast, simprocAttr])
      (refine at_call ?_; (try simp only [push_cast, simprocAttr]); refine rwc_v (hS) (go_on ?_); (try simp only [push_cast, simprocAttr]))
      refine at_ret ?_; simp only [Tryz.results14, push_cast, simprocAttr]
      simp [vX]
    | true =>
      have hr0 : (sRun a b).isSome = true := by
        unfold sNew at hok
        split at hok
        · assumption
        · cases hok
      obtain ⟨⟨x, y⟩, hr⟩ := Option.isSome_iff_exists.1 hr0
      have hso0 : so = sq a b x y 0 := by rw [hso]; simp [sNew, hr, sq]
      have hsx := siteV_sm (law_session hr).1
      have hsy := siteV_sm (law_session hr).2.1
      have hSt : ∀ k, k < 4 → PC Tryz.prog 40 [ssA (sq a b x y k)] (vX (.tup [ssA (sq a b x y (k + 1)), bA true])) := fun k hk => by
        have := SessionStep_e (sq a b x y k) (sq_sm hma hmb hsx hsy k)
        rw [sq_step hr k hk] at this
        exact this
      have hR := SessionRun_e a b hma hmb
      rw [rA_some hr, rB_some hr, hr] at hR
      have hS1 := sameSite_pc x x hsx.c1 hsx.c2
      have hS2 := sameSite_pc y y hsy.c1 hsy.c2
      rw [decide_eq_true rfl] at hS1 hS2
      simp only [Option.isSome_some] at hR
      unfold stA' stC at hR hS1 hS2
      unfold ssA ssC at hSt
      obtain ⟨m, hm⟩ : ∃ m, m = z2.length % 5 := ⟨_, rfl⟩
      have hm5 : m < 5 := by omega
      have ht : Int.tmod (z2.length : Int) 5 = (m : Int) := by rw [hm]; exact (Int.ofNat_tmod z2.length 5).symm
      have hRec := SessionRecover_d (sq a b x y m) (sq_sm hma hmb hsx hsy m)
      rw [sq_rec] at hRec
      have hSa := sameSite_pc a a hma.c1 hma.c2
      have hSb := sameSite_pc b b hmb.c1 hmb.c2
      rw [decide_eq_true rfl] at hSa hSb
      unfold stA' stC at hSa hSb hRec
      unfold ssA ssC at hRec
      (try simp only [Bool.not_true, ht, push_cast, simprocAttr])
      refine at_loop (X := Nat) (fun k => [(13, iA k)]) (fun k => [(5, ⟨26, 3, [[iA a.ep, ndA a.base, cmA a.log]], true⟩), (6, ⟨26, 3, [[iA b.ep, ndA b.base, cmA b.log]], true⟩), (7, ⟨59, 13, [[iA so.A.ep, ndA so.A.base, cmA so.A.log, iA so.B.ep, ndA so.B.base, cmA so.B.log, bA so.plan, iA so.nA.ep, ndA so.nA.base, cmA so.nA.log, iA so.nB.ep, ndA so.nB.base, cmA so.nB.log]], true⟩), (9, ⟨59, 13, [[iA so.A.ep, ndA so.A.base, cmA so.A.log, iA so.B.ep, ndA so.B.base, cmA so.B.log, bA so.plan, iA so.nA.ep, ndA so.nA.base, cmA so.nA.log, iA so.nB.ep, ndA so.nB.base, cmA so.nB.log]], true⟩), (12, ⟨59, 13, [[iA (sq a b x y k).A.ep, ndA (sq a b x y k).A.base, cmA (sq a b x y k).A.log, iA (sq a b x y k).B.ep, ndA (sq a b x y k).B.base, cmA (sq a b x y k).B.log, bA (sq a b x y k).plan, iA (sq a b x y k).nA.ep, ndA (sq a b x y k).nA.base, cmA (sq a b x y k).nA.log, iA (sq a b x y k).nB.ep, ndA (sq a b x y k).nB.base, cmA (sq a b x y k).nB.log]], true⟩)]) (fun k => k ≤ m) (fun k => m - k) 0 (by omega) ?_ ?_
      · rw [← hso0]
        (refine wk_ok ?_ ?_ ?_ ?_ <;> simp [leL, leH, idsL, idsA, idsR, inH, hget, sameRow, upA, hvA, dsts, dstO, setA_0, setA_1, setA_8, List.append, List.cons_append, List.nil_append])
      · intro k hk
        simp only [upA, hvA, dsts, dstO, setA_0, setA_1, setA_8, List.append, List.cons_append, List.nil_append]
        refine go_on ?_
        (try simp only [push_cast, simprocAttr])
        by_cases hlt : k < m
        · have i0 : ltI (k : Int) m = true := ltI_t (by omega)
          have h1 := hSt k (by omega)
          have w1 := wr ((k : Int) + 1) (by omega)
          (try simp only [i0, push_cast, simprocAttr])
          ((try simp only [push_cast, simprocAttr]); refine at_share2 (by simp [isC2, isC]) (by first | rfl | simp [ren]) (h1) (go_on ?_); (try simp only [push_cast, simprocAttr]))
          (try simp only [Bool.not_true, w1, push_cast, simprocAttr])
          refine at_fin ⟨k + 1, by omega, by omega, ?_⟩
          (refine wk_ok ?_ ?_ ?_ ?_ <;> simp [leL, leH, idsL, idsA, idsR, inH, hget, sameRow, upA, hvA, dsts, dstO, setA_0, setA_1, setA_8, List.append, List.cons_append, List.nil_append])
        · have i0 : ltI (k : Int) m = false := ltI_f (by omega)
          have hkm : k = m := by omega
          subst hkm
          (try simp only [i0, push_cast, simprocAttr])
          by_cases h0 : k = 0
          · rw [if_pos h0] at hRec
            have j0 : eqI (k : Int) 0 = true := eqI_t (by omega)
            ((try simp only [push_cast, simprocAttr]); refine at_share2 (by simp [isC2, isC]) (by first | rfl | simp [ren]) (hRec) (go_on ?_); (try simp only [push_cast, simprocAttr]))
            (try simp only [j0, push_cast, simprocAttr])
            (refine at_call ?_; (try simp only [push_cast, simprocAttr]); refine rwc_v (hSa) (go_on ?_); (try simp only [push_cast, simprocAttr]))
            (refine at_call ?_; (try simp only [push_cast, simprocAttr]); refine rwc_v (hSb) (go_on ?_); (try simp only [push_cast, simprocAttr]))
            refine at_ret ?_; simp only [Tryz.results14, push_cast, simprocAttr]
            simp [vX]
          · rw [if_neg h0] at hRec
            have j0 : eqI (k : Int) 0 = false := eqI_f (by omega)
            ((try simp only [push_cast, simprocAttr]); refine at_share2 (by simp [isC2, isC]) (by first | rfl | simp [ren]) (hRec) (go_on ?_); (try simp only [push_cast, simprocAttr]))
            (try simp only [j0, push_cast, simprocAttr])
            ((try simp only [push_cast, simprocAttr]); refine at_share2 (by simp [isC2, isC]) (by first | rfl | simp [ren]) (hR) (go_on ?_); (try simp only [push_cast, simprocAttr]))
            (refine at_call ?_; (try simp only [push_cast, simprocAttr]); refine rwc_v (hS1) (go_on ?_); (try simp only [push_cast, simprocAttr]))
            (refine at_call ?_; (try simp only [push_cast, simprocAttr]); refine rwc_v (hS2) (go_on ?_); (try simp only [push_cast, simprocAttr]))
            refine at_ret ?_; simp only [Tryz.results14, push_cast, simprocAttr]
            simp [vX]
end Go.Proofs.YtpanjecgbnomhaaGreatDoor
