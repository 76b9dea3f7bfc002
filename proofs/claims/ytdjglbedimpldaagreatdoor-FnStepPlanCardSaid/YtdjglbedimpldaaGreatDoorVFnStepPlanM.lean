/- A part of the proof of FnStepPlan: texts D11 VFnStepPlan. -/
import Derived.Test.YtdjglbedimpldaaGreatDoorG5
import Derived.Test.YtdjglbedimpldaaGreatDoorG7
set_option linter.unusedSimpArgs false
set_option linter.unusedVariables false
/-
  Walks: the draws of sessions (DrawSessionRecover, DrawSessionStep).
-/
namespace Go.Proofs.YtdjglbedimpldaaGreatDoor
open Go Go.RowKit Go.Proofs
/-- A session with empty sides where it has none yet. -/
def ssI (a b : St) : List AV := [iA a.ep, ndA a.base, cmA a.log, iA b.ep, ndA b.base, cmA b.log, bA false, iA 0, .v (.slice none 0 0), .v (.slice none 0 0), iA 0, .v (.slice none 0 0), .v (.slice none 0 0)]
def ssZ (a b : St) : Ss := ⟨a, b, false, st0, st0⟩
def ssK (a b : St) : Option Ss → List AV
  | none => ssI a b
  | some s => ssC s
def ssV' (a b : St) : Option Ss → Ss
  | none => ssZ a b
  | some s => s
theorem nil_C {lv : Nat → Prop} {w : World} {u : Value} {n : Nat} (h : C lv 0 w (.v (.slice none 0 0)) u) : C lv 0 w (.sl n []) u := by
  cases h
  exact .nilsl _
theorem ssI_C {lv : Nat → Prop} {w : World} {u : Value} (a b : St) (h : C lv 0 w (.agg (ssI a b)) u) : C lv 0 w (ssA (ssZ a b)) u := by
  unfold ssI at h
  cases h with
  | agg vs hs hg =>
    refine .agg vs hs fun j a ha => ?_
    rcases j with _ | _ | _ | _ | _ | _ | _ | _ | _ | _ | _ | _ | _ | j
    all_goals first
      | (cases ha; exact hg _ _ rfl)
      | (cases ha; exact nil_C (hg _ _ rfl))
      | (simp [ssC] at ha; done)
def sessD (z : List Int) (p c : Nat) (rv : AV) (lr' rows : List Row) : Prop := ∃ (a b : St) (o : Option Ss), SmSs (ssV' a b o) ∧ rv = .agg (ssK a b o) ∧ RdD z p c lr' ∧ rows = []
def sessX (rv : AV) (rows : List Row) : Prop := ∃ s : Ss, SmSs s ∧ rv = ssA s ∧ rows = []
theorem ssK_step {a b : St} {o : Option Ss} (h : SmSs (ssV' a b o)) : PC Tryz.prog 15 [.agg (ssK a b o)] (ssO (sStep (ssV' a b o))) := by
  cases o with
  | some s => exact specSessionStep_e s h
  | none =>
    refine (specSessionStep_e (ssZ a b) h).args rfl fun j x y hx hy lv w u hc => ?_
    rcases j with _ | j
    · cases hx; cases hy; exact ssI_C a b hc
    · simp at hx
theorem PC.lessD {P : Program} {f : FuncId} {args : List AV} {D D' : AV → List Row → Prop} (h : PC P f args D) (hd : ∀ rv rows, D rv rows → rows = [] ∧ ∃ y, D' y [] ∧ ∀ h loc w v, G h loc w rv v → G h loc w y v) : PC P f args D' := by
  refine ⟨h.1, fun w fb vs h1 h2 h3 => (h.2 w fb vs h1 h2 h3).mono ?_⟩
  rintro e w' ⟨rv, rows', v, hD, rfl, hb, loc, hfb, hg, hrest⟩
  obtain ⟨rfl, y, hy, hxy⟩ := hd _ _ hD
  exact ⟨_, [], v, hy, rfl, hb, loc, hfb, hxy _ _ _ _ hg, hrest⟩
theorem ssI_G {h : Hp} {loc : Loc} {w : World} {v : Value} (a b : St) (o : Option Ss) (hg : G h loc w (.agg (ssK a b o)) v) : G h loc w (ssA (ssV' a b o)) v := by
  cases o with
  | some s => exact hg
  | none => exact nil_ss a b false hg
attribute [local irreducible] RWp AW run kPe pe Kt effA gd gu br retR RDp runD kPeD brW gW effD
set_option maxRecDepth 100000
theorem l92Session_pcl (z : List Int) (p : Nat) (hr : RdOk z (p + 4001)) : PCL Tryz.prog 44 [rdR z p] (mvF none) [.p 0 0 0] (sessD z p 4001) := by
  refine pcl_enter Tryz.func44 rfl rfl (by simp) fun w0 fb loc => go_on ?_; simp only [Tryz.ntmps44, hpL, nmL, mvF, renL, decide_true, decide_false, push_cast, simprocAttr]
  (try simp only [push_cast, simprocAttr]); refine call_lend [500000] none (lr := [rdR z p]) (by simp [ndB]) (by first | rfl | simp [rowsOf, hget, rdR, rowS, rowN, rowC, sC, ndC, cmC]) (by simp [idsL, idsA]) (by simp [mvN]) (by simpa [rnA, ixOf] using l92Both_pcl z p (hr.le (by omega))) ?_
  rintro rv lr' rows ⟨a, b, ha, hb, rfl, ⟨u, rfl, g1, g2⟩, rfl⟩
  unfold stA' stC
  (refine ⟨by simp [shB, mvF, rdR, rowS, rowN, rowC], by simp [frB, baseOf], go_on ?_⟩; simp only [killA, killH, killRow, push_cast, simprocAttr])
  (try simp only [push_cast, simprocAttr]); refine call_lend [500000] none (lr := [rdR z u]) (by simp [ndB]) (by first | rfl | simp [rowsOf, hget, rdR, rowS, rowN, rowC, sC, ndC, cmC]) (by simp [idsL, idsA]) (by simp [mvN]) (by simpa [rnA, ixOf] using pick_pcl z u 6 (hr.le (by omega)) (by omega)) ?_
  rintro rv lr' rows ⟨m, rfl, hm, rfl, rfl⟩
  have hm := hm (by omega)
  (refine ⟨by simp [shB, mvF, rdR, rowS, rowN, rowC], by simp [frB, baseOf], go_on ?_⟩; simp only [killA, killH, killRow, push_cast, simprocAttr])
  refine at_loop (X := Nat × Option Ss) (fun x => [(7, iA x.1)]) (fun x => [(500000, rdR z (u + 1)), (2, ⟨28, 13, [[iA 0, .v (.slice none 0 0), .v (.slice none 0 0), iA 0, .v (.slice none 0 0), .v (.slice none 0 0), bA false, iA 0, .v (.slice none 0 0), .v (.slice none 0 0), iA 0, .v (.slice none 0 0), .v (.slice none 0 0)]], true⟩), (3, ⟨26, 3, [[iA a.ep, ndA a.base, cmA a.log]], true⟩), (4, ⟨26, 3, [[iA b.ep, ndA b.base, cmA b.log]], true⟩), (5, ⟨28, 13, [ssK a b x.2], true⟩)]) (fun x => x.1 ≤ m ∧ SmSs (ssV' a b x.2)) (fun x => m - x.1) (0, none) ⟨Nat.zero_le _, ha.sm, hb.sm, st0_sm, st0_sm⟩ ?_ ?_
  · (refine wk_frz ?_ ?_ ?_ ?_ <;> simp [rdR, ssK, ssI, leF, leHF, frzB, idsL, idsA, idsR, inH, hget, sameRow, viewN, tk, upA, hvA, dsts, dstO, setA_0, setA_1, setA_8, List.append, List.cons_append, List.nil_append])
  · rintro ⟨k, o⟩ ⟨q1, q2⟩
    simp only at q1 q2
    simp only [upA, hvA, dsts, dstO, setA_0, setA_1, setA_8, List.append, List.cons_append, List.nil_append]
    have hfin : sessD z p 4001 (.agg (ssK a b o)) [rdR z (u + 1)] [] := ⟨a, b, o, q2, rfl, ⟨_, rfl, by omega, by omega⟩, rfl⟩
    have hSt := ssK_step q2
    unfold ssO at hSt
    obtain ⟨so, hso⟩ : ∃ so, so = (sStep (ssV' a b o)).getD ss0 := ⟨_, rfl⟩
    obtain ⟨ok, hok⟩ : ∃ ok, ok = (sStep (ssV' a b o)).isSome := ⟨_, rfl⟩
    have hsm : SmSs so := by rw [hso]; exact sStepO_sm q2
    have w1 := wr ((k : Int) + 1) (by omega)
    rw [← hso, ← hok] at hSt
    unfold ssA at hSt
    cases o
    all_goals
      simp only [ssK, ssI, ssC] at hSt hfin
      simp only [ssK, ssI, ssC]
      refine go_on ?_
      (try simp only [push_cast, simprocAttr])
      by_cases hlt : k < m
      · have i0 : ltI (k : Int) m = true := ltI_t (by omega)
        (try simp only [i0, push_cast, simprocAttr])
        ((try simp only [push_cast, simprocAttr]); refine at_share2 (by simp [isC2, isC]) (by first | rfl | simp [ren]) (hSt) (go_on ?_); (try simp only [push_cast, simprocAttr]))
        cases ok
        · (try simp only [w1, push_cast, simprocAttr])
          refine at_fin ⟨(k + 1, _), ⟨by dsimp only; omega, q2⟩, by dsimp only; omega, ?_⟩
          (refine wk_frz ?_ ?_ ?_ ?_ <;> simp [rdR, ssK, ssI, ssC, leF, leHF, frzB, idsL, idsA, idsR, inH, hget, sameRow, viewN, tk, upA, hvA, dsts, dstO, setA_0, setA_1, setA_8, List.append, List.cons_append, List.nil_append])
        · (try simp only [w1, push_cast, simprocAttr])
          refine at_fin ⟨(k + 1, some so), ⟨by dsimp only; omega, hsm⟩, by dsimp only; omega, ?_⟩
          (refine wk_frz ?_ ?_ ?_ ?_ <;> simp [rdR, ssK, ssI, ssC, leF, leHF, frzB, idsL, idsA, idsR, inH, hget, sameRow, viewN, tk, upA, hvA, dsts, dstO, setA_0, setA_1, setA_8, List.append, List.cons_append, List.nil_append])
      · have i0 : ltI (k : Int) m = false := ltI_f (by omega)
        (try simp only [i0, push_cast, simprocAttr])
        (refine at_retL ?_; simp only [Tryz.results44, retL, push_cast, simprocAttr]; simpa [show List.range 1 = [0] from rfl, show List.range 2 = [0, 1] from rfl, show List.range 3 = [0, 1, 2] from rfl, nmL, mvF, ndB, ixOf, rowsOf, hget, rdR, rowS, rowN, rowC] using  hfin)
theorem DrawSessionStep_pc (z : List Int) (hz : BytesOk z) : PC Tryz.prog 13 [byA z] sessX := by
  have hr : RdOk (z.take 2000) (0 + 4001) := ⟨hz.tk, by rw [List.length_take]; omega, by omega⟩
  refine PC.lessD (D := fun rv rows => ∃ (a b : St) (o : Option Ss), SmSs (ssV' a b o) ∧ rv = .agg (ssK a b o) ∧ rows = []) ?_ ?_
  · refine pc_enter Tryz.func13 rfl rfl fun w0 fb => go_on ?_; (try simp only [Tryz.ntmps13, push_cast, simprocAttr])
    refine call_share (by simp [isC]) (l6Open_pc z hz) ?_
    rintro rv rows ⟨rfl, rfl⟩
    refine ⟨by simp [frB, baseOf], go_on ?_⟩
    (try simp only [push_cast, simprocAttr])
    (try simp only [push_cast, simprocAttr]); refine call_lend [5000] none (lr := [rdR (z.take 2000) 0]) (by simp [ndB]) (by first | rfl | simp [rowsOf, hget, rdR, rowS, rowN, rowC, sC, ndC, cmC]) (by simp [idsL, idsA]) (by simp [mvN]) (by simpa [rnA, ixOf] using l92Session_pcl (z.take 2000) 0 hr) ?_
    rintro rv lr' rows ⟨a, b, o, h1, rfl, ⟨v, rfl, _, _⟩, rfl⟩
    cases o
    all_goals
      simp only [ssK, ssI, ssC]
      (refine ⟨by simp [shB, mvF, rdR, rowS, rowN, rowC], by simp [frB, baseOf], go_on ?_⟩; simp only [killA, killH, killRow, push_cast, simprocAttr])
      refine at_ret ?_; simp only [Tryz.results13, push_cast, simprocAttr]
      exact ⟨a, b, _, h1, rfl⟩
  · rintro rv rows ⟨a, b, o, h1, rfl, rfl⟩
    exact ⟨rfl, _, ⟨_, h1, rfl, rfl⟩, fun h loc w v hg => ssI_G a b o hg⟩
end Go.Proofs.YtdjglbedimpldaaGreatDoor
/-
  Walks: FnStepPlan.
-/
namespace Go.Proofs.YtdjglbedimpldaaGreatDoor
open Go Go.RowKit Go.Proofs
attribute [local irreducible] RWp AW run kPe pe Kt effA gd gu br retR RDp runD kPeD brW gW effD
set_option maxRecDepth 100000
theorem FnStepPlan_pc (z : List Int) (hz : BytesOk z) : PC Tryz.prog 3 [byA z] (vB true) := by
  refine pc_enter Tryz.func3 rfl rfl fun w0 fb => go_on ?_; (try simp only [Tryz.ntmps3, push_cast, simprocAttr])
  refine at_b (fun hb => ?_) (fun hb => ?_)
  · (try simp only [hb, push_cast, simprocAttr])
    refine at_ret ?_; simp only [Tryz.results3, push_cast, simprocAttr]
    simp [vX]
  · (try simp only [hb, push_cast, simprocAttr])
    refine call_share (by simp [isC]) (DrawSessionStep_pc z hz) ?_
    rintro rv rows ⟨s, hs, rfl, rfl⟩
    have hD := SessionStep_e s hs
    have hE := specSessionStep_e s hs
    unfold ssO at hD hE
    have ho := sStepO_sm hs
    obtain ⟨o, hoo⟩ : ∃ o, o = (sStep s).getD ss0 := ⟨_, rfl⟩
    obtain ⟨ok, hok⟩ : ∃ ok, ok = (sStep s).isSome := ⟨_, rfl⟩
    rw [← hoo, ← hok] at hD hE
    rw [← hoo] at ho
    have hS := sameSession_pc o o ho
    rw [decide_eq_true rfl] at hS
    have hA := sameSite_pc o.A s.A ho.A.c1 ho.A.c2
    have hB := sameSite_pc o.B s.B ho.B.c1 ho.B.c2
    have hNA := sameSite_pc o.A s.nA ho.A.c1 ho.A.c2
    have hNB := sameSite_pc o.B s.nB ho.B.c1 ho.B.c2
    unfold ssA ssC at hD hE hS ⊢
    unfold stA' stC at hA hB hNA hNB
    refine ⟨by simp [frB, baseOf], go_on ?_⟩
    (try simp only [push_cast, simprocAttr])
    ((try simp only [push_cast, simprocAttr]); refine at_share2 (by simp [isC2, isC]) (by first | rfl | simp [ren]) (hD) (go_on ?_); (try simp only [push_cast, simprocAttr]))
    ((try simp only [push_cast, simprocAttr]); refine at_share2 (by simp [isC2, isC]) (by first | rfl | simp [ren]) (hE) (go_on ?_); (try simp only [push_cast, simprocAttr]))
    have b1 : (!(ok == ok)) = false := by simp
    have b2 : (ok == ok) = true := by simp
    (try simp only [b1, push_cast, simprocAttr])
    (refine at_call ?_; (try simp only [push_cast, simprocAttr]); refine rwc_v (hS) (go_on ?_); (try simp only [push_cast, simprocAttr]))
    (try simp only [Bool.not_true, push_cast, simprocAttr])
    cases ok with
    | false =>
      (try simp only [Bool.not_false, push_cast, simprocAttr])
      (try simp only [b2, push_cast, simprocAttr])
      (refine at_call ?_; (try simp only [push_cast, simprocAttr]); refine rwc_v (hS) (go_on ?_); (try simp only [push_cast, simprocAttr]))
      refine at_ret ?_; simp only [Tryz.results3, push_cast, simprocAttr]
      simp [vX]
    | true =>
      have hst : sStep s = some o := by
        cases h : sStep s with
        | none => rw [h] at hok; cases hok
        | some x => rw [h] at hoo; rw [hoo]; rfl
      obtain ⟨l1, l2⟩ := law_stepPlan hst
      (try simp only [Bool.not_true, push_cast, simprocAttr])
      (refine at_call ?_; (try simp only [push_cast, simprocAttr]); refine rwc_v (hA) (go_on ?_); (try simp only [push_cast, simprocAttr]))
      (refine at_call ?_; (try simp only [push_cast, simprocAttr]); refine rwc_v (hB) (go_on ?_); (try simp only [push_cast, simprocAttr]))
      by_cases hp : o.plan = s.plan
      · obtain ⟨p1, p2, p3, p4⟩ := l2 hp
        have hop : o.plan = true := hp.trans p1
        (try simp only [hop, p1, show (!(true == true)) = false from rfl, push_cast, simprocAttr])
        by_cases hAe : o.A = s.A
        · have d1 : decide (o.A = s.A) = true := by simpa using hAe
          have d2 : decide (o.B = s.B) = false := by simpa using p2.1 hAe
          have p5 : o.B = s.nB := p4.resolve_left (p2.1 hAe)
          have d3 : decide (o.B = s.nB) = true := by simpa using p5
          (try simp only [d1, d2, show (!(true == false)) = true from rfl, d3, push_cast, simprocAttr])
          (refine at_call ?_; (try simp only [push_cast, simprocAttr]); refine rwc_v (hNB) (go_on ?_); (try simp only [push_cast, simprocAttr]))
          (try simp only [d3, push_cast, simprocAttr])
          refine at_ret ?_; simp only [Tryz.results3, push_cast, simprocAttr]
          simp [vX, d3]
        · have d1 : decide (o.A = s.A) = false := by simpa using hAe
          have hBe : o.B = s.B := Decidable.byContradiction fun h => hAe (p2.2 h)
          have d2 : decide (o.B = s.B) = true := by simpa using hBe
          have p5 : o.A = s.nA := p3.resolve_left hAe
          have d3 : decide (o.A = s.nA) = true := by simpa using p5
          (try simp only [d1, d2, show (!(false == true)) = true from rfl, d3, push_cast, simprocAttr])
          (refine at_call ?_; (try simp only [push_cast, simprocAttr]); refine rwc_v (hNA) (go_on ?_); (try simp only [push_cast, simprocAttr]))
          (try simp only [d3, push_cast, simprocAttr])
          refine at_ret ?_; simp only [Tryz.results3, push_cast, simprocAttr]
          simp [vX, d3]
      · obtain ⟨p1, p2⟩ := l1 hp
        have e1 : (!(o.plan == s.plan)) = true := by simp [hp]
        have d1 : decide (o.A = s.A) = true := by simpa using p1
        have d2 : decide (o.B = s.B) = true := by simpa using p2
        (try simp only [e1, d1, d2, push_cast, simprocAttr])
        refine at_ret ?_; simp only [Tryz.results3, push_cast, simprocAttr]
        simp [vX]
end Go.Proofs.YtdjglbedimpldaaGreatDoor
