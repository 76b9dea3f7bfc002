/- A part of the proof of FnRecoverPlan: texts W46 W47 W48 W49 W50 W51 W52 W53 W54 W55 W56 D11 VFnRecoverPlan. -/
import Derived.Test.YtdjglbedimpldaaG5
set_option linter.unusedSimpArgs false
set_option linter.unusedVariables false
/-
  Walks: sessions in steps: SessionNew, SessionRecover (read as data).
-/
namespace Go.Proofs.Ytdjglbedimpldaa
open Go Go.RowKit Go.Proofs
theorem clone_d (s : St) (h1 : s.base.length < 4294967281) (h2 : s.log.length < 4294967281) : PC Try.prog 19 [stA' s] (vX (stA' s)) := by
  have := (clone_pc s h1 h2).frzX
  simpa [viewN, hpOf, hget, stO, stA', stC, isC, tk] using this
def ssC (s : Ss) : List AV := [iA s.A.ep, ndA s.A.base, cmA s.A.log, iA s.B.ep, ndA s.B.base, cmA s.B.log, bA s.plan, iA s.nA.ep, ndA s.nA.base, cmA s.nA.log, iA s.nB.ep, ndA s.nB.base, cmA s.nB.log]
abbrev ssA (s : Ss) : AV := .agg (ssC s)
structure SmSs (s : Ss) : Prop where
  A : SmS s.A
  B : SmS s.B
  nA : SmS s.nA
  nB : SmS s.nB
theorem SmS.c1 {s : St} (h : SmS s) : s.base.length < 4294967281 := by have := h.t.n; omega
theorem SmS.c2 {s : St} (h : SmS s) : s.log.length < 4294967281 := by have := h.l.n; omega
attribute [local irreducible] RWp AW run kPe pe Kt effA gd gu br retR RDp runD kPeD brW gW effD
set_option maxRecDepth 100000
theorem SessionRecover_d (s : Ss) (hs : SmSs s) : PC Try.prog 8 [ssA s] (vX (.tup [stA' (sRec s).1, stA' (sRec s).2])) := by
  have h1 := clone_d s.A hs.A.c1 hs.A.c2
  have h2 := clone_d s.B hs.B.c1 hs.B.c2
  have h3 := clone_d s.nA hs.nA.c1 hs.nA.c2
  have h4 := clone_d s.nB hs.nB.c1 hs.nB.c2
  unfold stA' stC at *
  unfold ssA ssC
  refine pc_enter Try.func8 rfl rfl fun w0 fb => go_on ?_; (try simp only [Try.ntmps8, push_cast, simprocAttr])
  cases hp : s.plan with
  | true =>
    (try simp only [hp, push_cast, simprocAttr])
    refine at_draw rfl (by kernel_rfl) ?_; simp only [push_cast, simprocAttr]
    (refine at_shareD (by simp [isC2, isC]) (by first | rfl | simp [ren]) h3 ?_; (try simp only [push_cast, simprocAttr]))
    (refine at_shareD (by simp [isC2, isC]) (by first | rfl | simp [ren]) h4 ?_; (try simp only [push_cast, simprocAttr]))
    refine at_done (by kernel_rfl) (by kernel_rfl) (go_on ?_)
    (try simp only [push_cast, simprocAttr])
    refine at_ret ?_; simp only [Try.results8, push_cast, simprocAttr]
    simp [vX, sRec, hp]
  | false =>
    (try simp only [hp, push_cast, simprocAttr])
    refine at_draw rfl (by kernel_rfl) ?_; simp only [push_cast, simprocAttr]
    (refine at_shareD (by simp [isC2, isC]) (by first | rfl | simp [ren]) h1 ?_; (try simp only [push_cast, simprocAttr]))
    (refine at_shareD (by simp [isC2, isC]) (by first | rfl | simp [ren]) h2 ?_; (try simp only [push_cast, simprocAttr]))
    refine at_done (by kernel_rfl) (by kernel_rfl) (go_on ?_)
    (try simp only [push_cast, simprocAttr])
    refine at_ret ?_; simp only [Try.results8, push_cast, simprocAttr]
    simp [vX, sRec, hp]
end Go.Proofs.Ytdjglbedimpldaa
/-
  Walks: sessions in steps: SessionNew (read as data).
-/
namespace Go.Proofs.Ytdjglbedimpldaa
open Go Go.RowKit Go.Proofs
def z3 : List AV := [iA 0, .v (.slice none 0 0), .v (.slice none 0 0)]
def ss00 : AV := .agg (z3 ++ z3 ++ [bA false] ++ z3 ++ z3)
def ssV (x : Option Ss) (st : AV) : AV → List Row → Prop := vX (.tup [st, bA x.isSome])
attribute [local irreducible] RWp AW run kPe pe Kt effA gd gu br retR RDp runD kPeD brW gW effD
set_option maxRecDepth 100000
end Go.Proofs.Ytdjglbedimpldaa
/-
  Walks: sessions in steps: SessionStep (read as data).
-/
namespace Go.Proofs.Ytdjglbedimpldaa
open Go Go.RowKit Go.Proofs
attribute [local irreducible] RWp AW run kPe pe Kt effA gd gu br retR RDp runD kPeD brW gW effD
set_option maxRecDepth 100000
end Go.Proofs.Ytdjglbedimpldaa
/-
  Walks: sessions in steps: SessionStep behind its plan (read as data).
-/
namespace Go.Proofs.Ytdjglbedimpldaa
open Go Go.RowKit Go.Proofs
attribute [local irreducible] RWp AW run kPe pe Kt effA gd gu br retR RDp runD kPeD brW gW effD
set_option maxRecDepth 100000
end Go.Proofs.Ytdjglbedimpldaa
/-
  Walks: spec.SessionNew (read as data).
-/
namespace Go.Proofs.Ytdjglbedimpldaa
open Go Go.RowKit Go.Proofs
theorem l41Copy_d (s : St) (h1 : s.base.length < 4294967281) (h2 : s.log.length < 4294967281) : PC Try.prog 17 [stA' s] (vX (stA' s)) := by
  have := (l41Copy_pc s h1 h2).frzX
  simpa [viewN, hpOf, hget, stO, stA', stC, isC, tk] using this
attribute [local irreducible] RWp AW run kPe pe Kt effA gd gu br retR RDp runD kPeD brW gW effD
set_option maxRecDepth 100000
end Go.Proofs.Ytdjglbedimpldaa
/-
  Walks: laws.sameSession.
-/
namespace Go.Proofs.Ytdjglbedimpldaa
open Go Go.RowKit Go.Proofs
theorem ss_eq (a b : Ss) : decide (a = b) = ((a.plan == b.plan) && decide (a.A = b.A) && decide (a.B = b.B) && decide (a.nA = b.nA) && decide (a.nB = b.nB)) := by
  rw [Bool.eq_iff_iff]
  cases a; cases b
  simp [and_assoc]
  constructor
  · rintro ⟨h1, h2, h3, h4, h5⟩; exact ⟨h3, h1, h2, h4, h5⟩
  · rintro ⟨h3, h1, h2, h4, h5⟩; exact ⟨h1, h2, h3, h4, h5⟩
attribute [local irreducible] RWp AW run kPe pe Kt effA gd gu br retR RDp runD kPeD brW gW effD
set_option maxRecDepth 100000
end Go.Proofs.Ytdjglbedimpldaa
/-
  Walks: impl.TreeGet.
-/
namespace Go.Proofs.Ytdjglbedimpldaa
open Go Go.RowKit Go.Proofs
attribute [local irreducible] RWp AW run kPe pe Kt effA gd gu br retR RDp runD kPeD brW gW effD
set_option maxRecDepth 100000
end Go.Proofs.Ytdjglbedimpldaa
/-
  Walks: sessions, read as data, with the empty side and the empty session where there is none.
-/
namespace Go.Proofs.Ytdjglbedimpldaa
open Go Go.RowKit Go.Proofs
def rA (a b : St) : St := ((sRun a b).map (·.1)).getD st0
def rB (a b : St) : St := ((sRun a b).map (·.2)).getD st0
theorem rA_some {a b x y : St} (h : sRun a b = some (x, y)) : rA a b = x := by simp [rA, h]
theorem rB_some {a b x y : St} (h : sRun a b = some (x, y)) : rB a b = y := by simp [rB, h]
theorem rA_none {a b : St} (h : sRun a b = none) : rA a b = st0 := by simp [rA, h]
theorem rB_none {a b : St} (h : sRun a b = none) : rB a b = st0 := by simp [rB, h]
theorem siteV_sm {s : St} (h : siteV s = true) : SmS s := by
  obtain ⟨t, L, h3⟩ := (siteV_iff s).1 h
  have := lV_len h3.lv
  refine ⟨sm_tv h3.tv, ⟨by omega, fun c hc => ?_⟩⟩
  have hc := lV_cv h3.lv c hc
  have := (pV_len hc.p hc.r).2
  omega
theorem st0_sm : SmS st0 := ⟨⟨⟨by simp [st0], fun n hn => by simp [st0] at hn⟩, by simp [st0]⟩, ⟨by simp [st0], fun c hc => by simp [st0] at hc⟩⟩
theorem rA_sm (a b : St) : SmS (rA a b) := by
  cases hr : sRun a b with
  | none => rw [rA_none hr]; exact st0_sm
  | some p =>
    obtain ⟨x, y⟩ := p
    rw [rA_some hr]
    exact siteV_sm (law_session hr).1
theorem rB_sm (a b : St) : SmS (rB a b) := by
  cases hr : sRun a b with
  | none => rw [rB_none hr]; exact st0_sm
  | some p =>
    obtain ⟨x, y⟩ := p
    rw [rB_some hr]
    exact siteV_sm (law_session hr).2.1
theorem srV_e {P : Program} {f : FuncId} {args : List AV} {a b : St} (h : PC P f args (srV (sRun a b))) : PC P f args (vX (.tup [stA' (rA a b), stA' (rB a b), bA (sRun a b).isSome])) := by
  cases hr : sRun a b with
  | none =>
    rw [hr] at h
    rw [rA_none hr, rB_none hr]
    refine PC.less h fun h loc w v hg => hg.tup2 rfl fun j x y u h1 h2 h3 => ?_
    rcases j with _ | _ | _ | j
    · cases h1; cases h2; exact nil_st0 h3
    · cases h1; cases h2; exact nil_st0 h3
    · cases h1; cases h2; exact h3
    · cases h1
  | some p =>
    obtain ⟨x, y⟩ := p
    rw [hr] at h
    rw [rA_some hr, rB_some hr]
    exact h
theorem specSessionRun_e (a b : St) (ha : SmS a) (hb : SmS b) : PC Try.prog 49 [stA' a, stA' b] (vX (.tup [stA' (rA a b), stA' (rB a b), bA (sRun a b).isSome])) := srV_e (specSessionRun_d a b ha hb)
theorem nil_ss {h : Hp} {loc : Loc} {w : World} {v : Value} (a b : St) (p : Bool) (hg : G h loc w (.agg (stC a ++ stC b ++ [bA p] ++ z3 ++ z3)) v) : G h loc w (ssA ⟨a, b, p, st0, st0⟩) v := by
  refine hg.agg2 rfl fun j x y u h1 h2 h3 => ?_
  rcases j with _ | _ | _ | _ | _ | _ | _ | _ | _ | _ | _ | _ | _ | j
  all_goals first
    | (cases h1; cases h2; exact h3)
    | (cases h1; cases h2; exact h3.nil2)
    | cases h1
theorem nil_ss0 {h : Hp} {loc : Loc} {w : World} {v : Value} (hg : G h loc w ss00 v) : G h loc w (ssA ss0) v := by
  refine hg.agg2 rfl fun j x y u h1 h2 h3 => ?_
  rcases j with _ | _ | _ | _ | _ | _ | _ | _ | _ | _ | _ | _ | _ | j
  all_goals first
    | (cases h1; cases h2; exact h3)
    | (cases h1; cases h2; exact h3.nil2)
    | cases h1
theorem ss_e0 {P : Program} {f : FuncId} {args : List AV} (h : PC P f args (vX (.tup [ss00, bA false]))) : PC P f args (vX (.tup [ssA ss0, bA false])) := by
  refine PC.less h fun h loc w v hg => hg.tup2 rfl fun j x y u h1 h2 h3 => ?_
  rcases j with _ | _ | j
  · cases h1; cases h2; exact nil_ss0 h3
  · cases h1; cases h2; exact h3
  · cases h1
theorem ss_e1 {P : Program} {f : FuncId} {args : List AV} {a b : St} {p : Bool} (h : PC P f args (vX (.tup [.agg (stC a ++ stC b ++ [bA p] ++ z3 ++ z3), bA true]))) : PC P f args (vX (.tup [ssA ⟨a, b, p, st0, st0⟩, bA true])) := by
  refine PC.less h fun h loc w v hg => hg.tup2 rfl fun j x y u h1 h2 h3 => ?_
  rcases j with _ | _ | j
  · cases h1; cases h2; exact nil_ss _ _ _ h3
  · cases h1; cases h2; exact h3
  · cases h1
def ssO (x : Option Ss) : AV → List Row → Prop := vX (.tup [ssA (x.getD ss0), bA x.isSome])
end Go.Proofs.Ytdjglbedimpldaa
/-
  Plain: the sessions that four steps pass through.
-/
namespace Go.Proofs.Ytdjglbedimpldaa
open Go Go.RowKit Go.Proofs
def sq (a b x y : St) : Nat → Ss
  | 0 => ⟨a, b, false, st0, st0⟩
  | 1 => ⟨a, b, true, x, y⟩
  | 2 => ⟨x, b, true, x, y⟩
  | 3 => ⟨x, y, true, x, y⟩
  | _ => ⟨x, y, false, st0, st0⟩
theorem sq_sm {a b x y : St} (ha : SmS a) (hb : SmS b) (hx : SmS x) (hy : SmS y) (k : Nat) : SmSs (sq a b x y k) := by
  rcases k with _ | _ | _ | _ | k
  · exact ⟨ha, hb, st0_sm, st0_sm⟩
  · exact ⟨ha, hb, hx, hy⟩
  · exact ⟨hx, hb, hx, hy⟩
  · exact ⟨hx, hy, hx, hy⟩
  · exact ⟨hx, hy, st0_sm, st0_sm⟩
theorem sq_step {a b x y : St} (h : sRun a b = some (x, y)) (k : Nat) (hk : k < 4) : sStep (sq a b x y k) = some (sq a b x y (k + 1)) := by
  obtain ⟨h1, h2, h3, h4⟩ := law_steps h
  rcases k with _ | _ | _ | _ | k
  · exact h1
  · exact h2
  · exact h3
  · exact h4
  · omega
theorem sq_rec {a b x y : St} (k : Nat) : sRec (sq a b x y k) = if k = 0 then (a, b) else (x, y) := by
  rcases k with _ | _ | _ | _ | k <;> simp [sRec, sq]
end Go.Proofs.Ytdjglbedimpldaa
/-
  Walks: spec.SessionStep.
-/
namespace Go.Proofs.Ytdjglbedimpldaa
open Go Go.RowKit Go.Proofs
attribute [local irreducible] RWp AW run kPe pe Kt effA gd gu br retR RDp runD kPeD brW gW effD
set_option maxRecDepth 100000
theorem l42Empty_pc : PC Try.prog 51 [] (rX (stO st0) [rowN [], rowC []]) := by
  unfold stO st0
  refine pc_enter Try.func51 rfl rfl fun w0 fb => go_on ?_; (try simp only [Try.ntmps51, push_cast, simprocAttr])
  refine at_ret ?_; simp only [Try.results51, push_cast, simprocAttr]
  simp [rX, ixOf, rowN, rowC]
theorem l42Logs_pc (a b : List Cm) (hl : a.length < 4294967281) : PC Try.prog 81 [cmA a, cmA b] (vB (decide (a = b))) := by
  refine pc_enter Try.func81 rfl rfl fun w0 fb => go_on ?_; (try simp only [Try.ntmps81, push_cast, simprocAttr])
  refine at_b (fun hb => ?_) (fun hb => ?_)
  · have h1 := of_eqI_f (not_t hb)
    have h2 : a ≠ b := by rintro rfl; exact h1 rfl
    (try simp only [hb, push_cast, simprocAttr])
    refine at_ret ?_; simp only [Try.results81, push_cast, simprocAttr]
    simp [vX, h2]
  · have h1 : a.length = b.length := by have := of_eqI_t (not_f hb); omega
    (try simp only [hb, push_cast, simprocAttr])
    refine at_loop (X := Nat) (fun k => [(5, iA k)]) (fun _ => []) (fun k => k ≤ a.length ∧ decide (a = b) = decide (a.drop k = b.drop k)) (fun k => a.length - k) 0 ⟨Nat.zero_le _, rfl⟩ ?_ ?_
    · (refine wk_ok ?_ ?_ ?_ ?_ <;> simp [leL, leH, idsL, idsA, idsR, inH, hget, sameRow, upA, hvA, dsts, dstO, setA_0, setA_1, setA_8, List.append, List.cons_append, List.nil_append])
    · rintro k ⟨q1, q2⟩
      simp only [upA, hvA, dsts, dstO, setA_0, setA_1, setA_8, List.append, List.cons_append, List.nil_append]
      refine go_on ?_
      (try simp only [push_cast, simprocAttr])
      refine at_b (fun hg => ?_) (fun hg => ?_)
      · have hlt := lt_tt hg
        obtain ⟨x, hx⟩ := get_of_lt hlt
        obtain ⟨y, hy⟩ := get_of_lt (l := b) (k := k) (by omega)
        have i1 := ix_n hx
        have i3 := ix_n hy
        have i2 := map_get cmC hx
        have i4 := map_get cmC hy
        simp only [cmC] at i2 i4
        rw [drop_of_get hx, drop_of_get hy] at q2
        have w2 := wr ((k : Int) + 1) (by omega)
        (try simp only [hg, push_cast, simprocAttr])
        refine at_draw rfl (by kernel_rfl) ?_
        (try simp only [i1, i2, i3, i4, ctg, cth, cmg, cmh, push_cast, simprocAttr])
        refine at_done (by kernel_rfl) (by kernel_rfl) (go_on ?_)
        have e := cm_eq x y
        (try simp only [e, push_cast, simprocAttr])
        refine at_b (fun hn => ?_) (fun hn => ?_)
        · have hxy : x ≠ y := by simpa using hn
          (try simp only [hn, push_cast, simprocAttr])
          refine at_ret ?_; simp only [Try.results81, push_cast, simprocAttr]
          simp [vX, q2, hxy]
        · have hxy : x = y := by simpa using hn
          (try simp only [hn, w2, push_cast, simprocAttr])
          refine at_fin ⟨k + 1, ⟨by omega, ?_⟩, by omega, ?_⟩
          · rw [q2]; simp [hxy]
          · (refine wk_ok ?_ ?_ ?_ ?_ <;> simp [leL, leH, idsL, idsA, idsR, inH, hget, sameRow, upA, hvA, dsts, dstO, setA_0, setA_1, setA_8, List.append, List.cons_append, List.nil_append])
      · have h3 := lt_ff hg
        (try simp only [hg, push_cast, simprocAttr])
        refine at_ret ?_; simp only [Try.results81, push_cast, simprocAttr]
        rw [List.drop_of_length_le h3, List.drop_of_length_le (by omega)] at q2
        simp [vX, q2]
theorem l42Sites_pc (a b : St) (ha : SmS a) (hb : SmS b) : PC Try.prog 62 [stA' a, stA' b] (vB (decide (a = b))) := by
  have h1 := l42Trees_pc a.base b.base ha.c1
  have h2 := l42Logs_pc a.log b.log ha.c2
  unfold stA' stC at *
  refine pc_enter Try.func62 rfl rfl fun w0 fb => go_on ?_; (try simp only [Try.ntmps62, push_cast, simprocAttr])
  repeat' first | (refine at_b (fun hb => ?_) (fun hb => ?_) <;> simp only [hb, push_cast, simprocAttr]) | (refine at_ret ?_; simp only [Try.results62, push_cast, simprocAttr]) | (refine at_call ?_; (try simp only [push_cast, simprocAttr]); refine rwc_v (by first | exact h1 | exact h2) (go_on ?_); simp only [push_cast, simprocAttr]) | (show RWp _ _ _ _ _; simp only [push_cast, simprocAttr])
  all_goals simp only [Bool.not_eq_true', Bool.not_eq_false', eqI_d, decide_eq_true_eq, decide_eq_false_iff_not] at *
  all_goals simp [vX, st_ext a b, *]
theorem l42Moved_pc (a b : St) (ha : SmS a) (hb : SmS b) : PC Try.prog 50 [stA' a, stA' b] (vB (decide (a = b))) := by
  have h1 := l42Sites_pc a b ha hb
  unfold stA' stC at *
  refine pc_enter Try.func50 rfl rfl fun w0 fb => go_on ?_; (try simp only [Try.ntmps50, push_cast, simprocAttr])
  (refine at_call ?_; (try simp only [push_cast, simprocAttr]); refine rwc_v (h1) (go_on ?_); (try simp only [push_cast, simprocAttr]))
  refine at_ret ?_; simp only [Try.results50, push_cast, simprocAttr]
  simp [vX]
end Go.Proofs.Ytdjglbedimpldaa
/-
  Walks: spec.SessionStep (read as data).
-/
namespace Go.Proofs.Ytdjglbedimpldaa
open Go Go.RowKit Go.Proofs
theorem l42Empty_d : PC Try.prog 51 [] (vX (stA' st0)) := by
  have := l42Empty_pc.frzX
  simp [viewN, hpOf, hget, stO, isC, tk, st0, rowN, rowC] at this
  exact this
attribute [local irreducible] RWp AW run kPe pe Kt effA gd gu br retR RDp runD kPeD brW gW effD
set_option maxRecDepth 100000
theorem specSessionStep_d0 (s : Ss) (hs : SmSs s) (hp : s.plan = false) (h : sRun s.A s.B = none) : PC Try.prog 41 [ssA s] (vX (.tup [ss00, bA false])) := by
  have h1 := l41Copy_d s.A hs.A.c1 hs.A.c2
  have h2 := l41Copy_d s.B hs.B.c1 hs.B.c2
  have h3 := l41Copy_d s.nA hs.nA.c1 hs.nA.c2
  have h4 := l41Copy_d s.nB hs.nB.c1 hs.nB.c2
  have hR := specSessionRun_d s.A s.B hs.A hs.B
  rw [h] at hR
  unfold srV at hR
  unfold stA' stC at *
  unfold st00 at hR
  unfold ssA ssC
  rw [hp]
  refine pc_enter Try.func41 rfl rfl fun w0 fb => go_on ?_; (try simp only [Try.ntmps41, push_cast, simprocAttr])
  refine at_draw rfl (by kernel_rfl) ?_; simp only [push_cast, simprocAttr]
  (refine at_shareD (by simp [isC2, isC]) (by first | rfl | simp [ren]) h1 ?_; (try simp only [push_cast, simprocAttr]))
  (refine at_shareD (by simp [isC2, isC]) (by first | rfl | simp [ren]) h2 ?_; (try simp only [push_cast, simprocAttr]))
  (refine at_shareD (by simp [isC2, isC]) (by first | rfl | simp [ren]) h3 ?_; (try simp only [push_cast, simprocAttr]))
  (refine at_shareD (by simp [isC2, isC]) (by first | rfl | simp [ren]) h4 ?_; (try simp only [push_cast, simprocAttr]))
  refine at_done (by kernel_rfl) (by kernel_rfl) (go_on ?_)
  (try simp only [Bool.not_false, push_cast, simprocAttr])
  ((try simp only [push_cast, simprocAttr]); refine at_share2 (by simp [isC2, isC]) (by first | rfl | simp [ren]) (hR) (go_on ?_); (try simp only [push_cast, simprocAttr]))
  (try simp only [Bool.not_false, push_cast, simprocAttr])
  refine at_ret ?_; simp only [Try.results41, push_cast, simprocAttr]
  simp [vX, ss00, z3]
theorem specSessionStep_d1 (s : Ss) (hs : SmSs s) (hp : s.plan = false) (x y : St) (h : sRun s.A s.B = some (x, y)) : PC Try.prog 41 [ssA s] (vX (.tup [.agg (stC s.A ++ stC s.B ++ [bA true] ++ stC x ++ stC y), bA true])) := by
  have h1 := l41Copy_d s.A hs.A.c1 hs.A.c2
  have h2 := l41Copy_d s.B hs.B.c1 hs.B.c2
  have h3 := l41Copy_d s.nA hs.nA.c1 hs.nA.c2
  have h4 := l41Copy_d s.nB hs.nB.c1 hs.nB.c2
  have hR := specSessionRun_d s.A s.B hs.A hs.B
  rw [h] at hR
  unfold srV at hR
  unfold stA' stC at *
  unfold ssA ssC
  rw [hp]
  refine pc_enter Try.func41 rfl rfl fun w0 fb => go_on ?_; (try simp only [Try.ntmps41, push_cast, simprocAttr])
  refine at_draw rfl (by kernel_rfl) ?_; simp only [push_cast, simprocAttr]
  (refine at_shareD (by simp [isC2, isC]) (by first | rfl | simp [ren]) h1 ?_; (try simp only [push_cast, simprocAttr]))
  (refine at_shareD (by simp [isC2, isC]) (by first | rfl | simp [ren]) h2 ?_; (try simp only [push_cast, simprocAttr]))
  (refine at_shareD (by simp [isC2, isC]) (by first | rfl | simp [ren]) h3 ?_; (try simp only [push_cast, simprocAttr]))
  (refine at_shareD (by simp [isC2, isC]) (by first | rfl | simp [ren]) h4 ?_; (try simp only [push_cast, simprocAttr]))
  refine at_done (by kernel_rfl) (by kernel_rfl) (go_on ?_)
  (try simp only [Bool.not_false, push_cast, simprocAttr])
  ((try simp only [push_cast, simprocAttr]); refine at_share2 (by simp [isC2, isC]) (by first | rfl | simp [ren]) (hR) (go_on ?_); (try simp only [push_cast, simprocAttr]))
  (try simp only [Bool.not_true, push_cast, simprocAttr])
  refine at_ret ?_; simp only [Try.results41, push_cast, simprocAttr]
  simp [vX]
theorem specSessionStep_d2 (s : Ss) (hs : SmSs s) (hp : s.plan = true) : PC Try.prog 41 [ssA s] (vX (.tup [.agg (if s.A ≠ s.nA then stC s.nA ++ stC s.B ++ [bA true] ++ stC s.nA ++ stC s.nB else if s.B ≠ s.nB then stC s.A ++ stC s.nB ++ [bA true] ++ stC s.nA ++ stC s.nB else stC s.A ++ stC s.B ++ [bA false] ++ stC st0 ++ stC st0), bA true])) := by
  have h1 := l41Copy_d s.A hs.A.c1 hs.A.c2
  have h2 := l41Copy_d s.B hs.B.c1 hs.B.c2
  have h3 := l41Copy_d s.nA hs.nA.c1 hs.nA.c2
  have h4 := l41Copy_d s.nB hs.nB.c1 hs.nB.c2
  have hS := l42Moved_pc s.A s.nA hs.A hs.nA
  have hT := l42Moved_pc s.B s.nB hs.B hs.nB
  have hE := l42Empty_d
  unfold stA' stC at *
  unfold ssA ssC
  rw [hp]
  refine pc_enter Try.func41 rfl rfl fun w0 fb => go_on ?_; (try simp only [Try.ntmps41, push_cast, simprocAttr])
  refine at_draw rfl (by kernel_rfl) ?_; simp only [push_cast, simprocAttr]
  (refine at_shareD (by simp [isC2, isC]) (by first | rfl | simp [ren]) h1 ?_; (try simp only [push_cast, simprocAttr]))
  (refine at_shareD (by simp [isC2, isC]) (by first | rfl | simp [ren]) h2 ?_; (try simp only [push_cast, simprocAttr]))
  (refine at_shareD (by simp [isC2, isC]) (by first | rfl | simp [ren]) h3 ?_; (try simp only [push_cast, simprocAttr]))
  (refine at_shareD (by simp [isC2, isC]) (by first | rfl | simp [ren]) h4 ?_; (try simp only [push_cast, simprocAttr]))
  refine at_done (by kernel_rfl) (by kernel_rfl) (go_on ?_)
  (try simp only [Bool.not_true, push_cast, simprocAttr])
  (refine at_call ?_; (try simp only [push_cast, simprocAttr]); refine rwc_v (hS) (go_on ?_); (try simp only [push_cast, simprocAttr]))
  by_cases e1 : s.A = s.nA
  · have d1 : decide (s.A = s.nA) = true := by simpa using e1
    (try simp only [d1, Bool.not_true, push_cast, simprocAttr])
    (refine at_call ?_; (try simp only [push_cast, simprocAttr]); refine rwc_v (hT) (go_on ?_); (try simp only [push_cast, simprocAttr]))
    by_cases e2 : s.B = s.nB
    · have d2 : decide (s.B = s.nB) = true := by simpa using e2
      (try simp only [d2, Bool.not_true, push_cast, simprocAttr])
      ((try simp only [push_cast, simprocAttr]); refine at_share2 (by simp [isC2, isC]) (by first | rfl | simp [ren]) (hE) (go_on ?_); (try simp only [push_cast, simprocAttr]))
      ((try simp only [push_cast, simprocAttr]); refine at_share2 (by simp [isC2, isC]) (by first | rfl | simp [ren]) (hE) (go_on ?_); (try simp only [push_cast, simprocAttr]))
      refine at_ret ?_; simp only [Try.results41, push_cast, simprocAttr]
      simp [vX, e1, e2]
    · have d2 : decide (s.B = s.nB) = false := by simpa using e2
      (try simp only [d2, Bool.not_false, push_cast, simprocAttr])
      ((try simp only [push_cast, simprocAttr]); refine at_share2 (by simp [isC2, isC]) (by first | rfl | simp [ren]) (h4) (go_on ?_); (try simp only [push_cast, simprocAttr]))
      refine at_ret ?_; simp only [Try.results41, push_cast, simprocAttr]
      simp [vX, e1, e2]
  · have d1 : decide (s.A = s.nA) = false := by simpa using e1
    (try simp only [d1, Bool.not_false, push_cast, simprocAttr])
    ((try simp only [push_cast, simprocAttr]); refine at_share2 (by simp [isC2, isC]) (by first | rfl | simp [ren]) (h3) (go_on ?_); (try simp only [push_cast, simprocAttr]))
    refine at_ret ?_; simp only [Try.results41, push_cast, simprocAttr]
    simp [vX, e1]
theorem specSessionStep_e (s : Ss) (hs : SmSs s) : PC Try.prog 41 [ssA s] (ssO (sStep s)) := by
  cases hp : s.plan with
  | false =>
    cases hr : sRun s.A s.B with
    | none => simpa [ssO, sStep, hp, hr] using ss_e0 (specSessionStep_d0 s hs hp hr)
    | some p =>
      obtain ⟨x, y⟩ := p
      have := specSessionStep_d1 s hs hp x y hr
      simpa [ssO, sStep, hp, hr, ssA, ssC, stC] using this
  | true =>
    have := specSessionStep_d2 s hs hp
    by_cases h1 : s.A = s.nA
    · by_cases h2 : s.B = s.nB
      · simp only [h1, h2, ne_eq, not_true_eq_false, if_false] at this
        simpa [ssO, sStep, hp, h1, h2, ssA, ssC, stC] using this
      · simp only [h1, h2, ne_eq, not_true_eq_false, not_false_eq_true, if_false, if_true] at this
        simpa [ssO, sStep, hp, h1, h2, ssA, ssC, stC] using this
    · simp only [h1, ne_eq, not_false_eq_true, if_true] at this
      simpa [ssO, sStep, hp, h1, ssA, ssC, stC] using this
theorem specSessionRecover_d (s : Ss) (hs : SmSs s) : PC Try.prog 6 [ssA s] (vX (.tup [stA' (sRec s).1, stA' (sRec s).2])) := by
  have h1 := l41Copy_d s.A hs.A.c1 hs.A.c2
  have h2 := l41Copy_d s.B hs.B.c1 hs.B.c2
  have h3 := l41Copy_d s.nA hs.nA.c1 hs.nA.c2
  have h4 := l41Copy_d s.nB hs.nB.c1 hs.nB.c2
  unfold stA' stC at *
  unfold ssA ssC
  refine pc_enter Try.func6 rfl rfl fun w0 fb => go_on ?_; (try simp only [Try.ntmps6, push_cast, simprocAttr])
  cases hp : s.plan with
  | true =>
    (try simp only [hp, push_cast, simprocAttr])
    refine at_draw rfl (by kernel_rfl) ?_; simp only [push_cast, simprocAttr]
    (refine at_shareD (by simp [isC2, isC]) (by first | rfl | simp [ren]) h3 ?_; (try simp only [push_cast, simprocAttr]))
    (refine at_shareD (by simp [isC2, isC]) (by first | rfl | simp [ren]) h4 ?_; (try simp only [push_cast, simprocAttr]))
    refine at_done (by kernel_rfl) (by kernel_rfl) (go_on ?_)
    (try simp only [push_cast, simprocAttr])
    refine at_ret ?_; simp only [Try.results6, push_cast, simprocAttr]
    simp [vX, sRec, hp]
  | false =>
    (try simp only [hp, push_cast, simprocAttr])
    refine at_draw rfl (by kernel_rfl) ?_; simp only [push_cast, simprocAttr]
    (refine at_shareD (by simp [isC2, isC]) (by first | rfl | simp [ren]) h1 ?_; (try simp only [push_cast, simprocAttr]))
    (refine at_shareD (by simp [isC2, isC]) (by first | rfl | simp [ren]) h2 ?_; (try simp only [push_cast, simprocAttr]))
    refine at_done (by kernel_rfl) (by kernel_rfl) (go_on ?_)
    (try simp only [push_cast, simprocAttr])
    refine at_ret ?_; simp only [Try.results6, push_cast, simprocAttr]
    simp [vX, sRec, hp]
theorem sStep_sm {s o : Ss} (hs : SmSs s) (h : sStep s = some o) : SmSs o := by
  unfold sStep at h
  split at h
  · split at h
    · rename_i x y hr
      cases h
      exact ⟨hs.A, hs.B, siteV_sm (law_session hr).1, siteV_sm (law_session hr).2.1⟩
    · cases h
  · split at h
    · cases h; exact ⟨hs.nA, hs.B, hs.nA, hs.nB⟩
    · split at h
      · cases h; exact ⟨hs.A, hs.nB, hs.nA, hs.nB⟩
      · cases h; exact ⟨hs.A, hs.B, st0_sm, st0_sm⟩
theorem ss0_sm : SmSs ss0 := ⟨st0_sm, st0_sm, st0_sm, st0_sm⟩
theorem sStepO_sm {s : Ss} (hs : SmSs s) : SmSs ((sStep s).getD ss0) := by
  cases h : sStep s with
  | none => exact ss0_sm
  | some o => exact sStep_sm hs h
end Go.Proofs.Ytdjglbedimpldaa
/-
  Walks: the draws of sessions (DrawSessionRecover, DrawSessionStep).
-/
namespace Go.Proofs.Ytdjglbedimpldaa
open Go Go.RowKit Go.Proofs
/-- A session with empty sides where it has none yet. -/
def ssI (a b : St) : List AV := [iA a.ep, ndA a.base, cmA a.log, iA b.ep, ndA b.base, cmA b.log, bA false, iA 0, .v (.slice none 0 0), .v (.slice none 0 0), iA 0, .v (.slice none 0 0), .v (.slice none 0 0)]
def ssZ (a b : St) : Ss := ⟨a, b, false, st0, st0⟩
def ssK (a b : St) : Option Ss → List AV
  | none => ssI a b
  | some s => ssC s
def ssV' (a b : St) : Option Ss → Ss
  | none => ssZ a b
  | some s => s
theorem nil_C {lv : Nat → Prop} {w : World} {u : Value} {n : Nat} (h : C lv 0 w (.v (.slice none 0 0)) u) : C lv 0 w (.sl n []) u := by
  cases h
  exact .nilsl _
theorem ssI_C {lv : Nat → Prop} {w : World} {u : Value} (a b : St) (h : C lv 0 w (.agg (ssI a b)) u) : C lv 0 w (ssA (ssZ a b)) u := by
  unfold ssI at h
  cases h with
  | agg vs hs hg =>
    refine .agg vs hs fun j a ha => ?_
    rcases j with _ | _ | _ | _ | _ | _ | _ | _ | _ | _ | _ | _ | _ | j
    all_goals first
      | (cases ha; exact hg _ _ rfl)
      | (cases ha; exact nil_C (hg _ _ rfl))
      | (simp [ssC] at ha; done)
def sessD (z : List Int) (p c : Nat) (rv : AV) (lr' rows : List Row) : Prop := ∃ (a b : St) (o : Option Ss), SmSs (ssV' a b o) ∧ rv = .agg (ssK a b o) ∧ RdD z p c lr' ∧ rows = []
def sessX (rv : AV) (rows : List Row) : Prop := ∃ s : Ss, SmSs s ∧ rv = ssA s ∧ rows = []
theorem ssK_step {a b : St} {o : Option Ss} (h : SmSs (ssV' a b o)) : PC Try.prog 41 [.agg (ssK a b o)] (ssO (sStep (ssV' a b o))) := by
  cases o with
  | some s => exact specSessionStep_e s h
  | none =>
    refine (specSessionStep_e (ssZ a b) h).args rfl fun j x y hx hy lv w u hc => ?_
    rcases j with _ | j
    · cases hx; cases hy; exact ssI_C a b hc
    · simp at hx
theorem PC.lessD {P : Program} {f : FuncId} {args : List AV} {D D' : AV → List Row → Prop} (h : PC P f args D) (hd : ∀ rv rows, D rv rows → rows = [] ∧ ∃ y, D' y [] ∧ ∀ h loc w v, G h loc w rv v → G h loc w y v) : PC P f args D' := by
  refine ⟨h.1, fun w fb vs h1 h2 h3 => (h.2 w fb vs h1 h2 h3).mono ?_⟩
  rintro e w' ⟨rv, rows', v, hD, rfl, hb, loc, hfb, hg, hrest⟩
  obtain ⟨rfl, y, hy, hxy⟩ := hd _ _ hD
  exact ⟨_, [], v, hy, rfl, hb, loc, hfb, hxy _ _ _ _ hg, hrest⟩
theorem ssI_G {h : Hp} {loc : Loc} {w : World} {v : Value} (a b : St) (o : Option Ss) (hg : G h loc w (.agg (ssK a b o)) v) : G h loc w (ssA (ssV' a b o)) v := by
  cases o with
  | some s => exact hg
  | none => exact nil_ss a b false hg
attribute [local irreducible] RWp AW run kPe pe Kt effA gd gu br retR RDp runD kPeD brW gW effD
set_option maxRecDepth 100000
theorem l92Session_pcl (z : List Int) (p : Nat) (hr : RdOk z (p + 4001)) : PCL Try.prog 26 [rdR z p] (mvF none) [.p 0 0 0] (sessD z p 4001) := by
  refine pcl_enter Try.func26 rfl rfl (by simp) fun w0 fb loc => go_on ?_; simp only [Try.ntmps26, hpL, nmL, mvF, renL, decide_true, decide_false, push_cast, simprocAttr]
  (try simp only [push_cast, simprocAttr]); refine call_lend [500000] none (lr := [rdR z p]) (by simp [ndB]) (by first | rfl | simp [rowsOf, hget, rdR, rowS, rowN, rowC, sC, ndC, cmC]) (by simp [idsL, idsA]) (by simp [mvN]) (by simpa [rnA, ixOf] using l92Both_pcl z p (hr.le (by omega))) ?_
  rintro rv lr' rows ⟨a, b, ha, hb, rfl, ⟨u, rfl, g1, g2⟩, rfl⟩
  unfold stA' stC
  (refine ⟨by simp [shB, mvF, rdR, rowS, rowN, rowC], by simp [frB, baseOf], go_on ?_⟩; simp only [killA, killH, killRow, push_cast, simprocAttr])
  (try simp only [push_cast, simprocAttr]); refine call_lend [500000] none (lr := [rdR z u]) (by simp [ndB]) (by first | rfl | simp [rowsOf, hget, rdR, rowS, rowN, rowC, sC, ndC, cmC]) (by simp [idsL, idsA]) (by simp [mvN]) (by simpa [rnA, ixOf] using pick_pcl z u 6 (hr.le (by omega)) (by omega)) ?_
  rintro rv lr' rows ⟨m, rfl, hm, rfl, rfl⟩
  have hm := hm (by omega)
  (refine ⟨by simp [shB, mvF, rdR, rowS, rowN, rowC], by simp [frB, baseOf], go_on ?_⟩; simp only [killA, killH, killRow, push_cast, simprocAttr])
  refine at_loop (X := Nat × Option Ss) (fun x => [(7, iA x.1)]) (fun x => [(500000, rdR z (u + 1)), (2, ⟨36, 13, [[iA 0, .v (.slice none 0 0), .v (.slice none 0 0), iA 0, .v (.slice none 0 0), .v (.slice none 0 0), bA false, iA 0, .v (.slice none 0 0), .v (.slice none 0 0), iA 0, .v (.slice none 0 0), .v (.slice none 0 0)]], true⟩), (3, ⟨32, 3, [[iA a.ep, ndA a.base, cmA a.log]], true⟩), (4, ⟨32, 3, [[iA b.ep, ndA b.base, cmA b.log]], true⟩), (5, ⟨36, 13, [ssK a b x.2], true⟩)]) (fun x => x.1 ≤ m ∧ SmSs (ssV' a b x.2)) (fun x => m - x.1) (0, none) ⟨Nat.zero_le _, ha.sm, hb.sm, st0_sm, st0_sm⟩ ?_ ?_
  · (refine wk_frz ?_ ?_ ?_ ?_ <;> simp [rdR, ssK, ssI, leF, leHF, frzB, idsL, idsA, idsR, inH, hget, sameRow, viewN, tk, upA, hvA, dsts, dstO, setA_0, setA_1, setA_8, List.append, List.cons_append, List.nil_append])
  · rintro ⟨k, o⟩ ⟨q1, q2⟩
    simp only at q1 q2
    simp only [upA, hvA, dsts, dstO, setA_0, setA_1, setA_8, List.append, List.cons_append, List.nil_append]
    have hfin : sessD z p 4001 (.agg (ssK a b o)) [rdR z (u + 1)] [] := ⟨a, b, o, q2, rfl, ⟨_, rfl, by omega, by omega⟩, rfl⟩
    have hSt := ssK_step q2
    unfold ssO at hSt
    obtain ⟨so, hso⟩ : ∃ so, so = (sStep (ssV' a b o)).getD ss0 := ⟨_, rfl⟩
    obtain ⟨ok, hok⟩ : ∃ ok, ok = (sStep (ssV' a b o)).isSome := ⟨_, rfl⟩
    have hsm : SmSs so := by rw [hso]; exact sStepO_sm q2
    have w1 := wr ((k : Int) + 1) (by omega)
    rw [← hso, ← hok] at hSt
    unfold ssA at hSt
    cases o
    all_goals
      simp only [ssK, ssI, ssC] at hSt hfin
      simp only [ssK, ssI, ssC]
      refine go_on ?_
      (try simp only [push_cast, simprocAttr])
      by_cases hlt : k < m
      · have i0 : ltI (k : Int) m = true := ltI_t (by omega)
        (try simp only [i0, push_cast, simprocAttr])
        ((try simp only [push_cast, simprocAttr]); refine at_share2 (by simp [isC2, isC]) (by first | rfl | simp [ren]) (hSt) (go_on ?_); (try simp only [push_cast, simprocAttr]))
        cases ok
        · (try simp only [w1, push_cast, simprocAttr])
          refine at_fin ⟨(k + 1, _), ⟨by dsimp only; omega, q2⟩, by dsimp only; omega, ?_⟩
          (refine wk_frz ?_ ?_ ?_ ?_ <;> simp [rdR, ssK, ssI, ssC, leF, leHF, frzB, idsL, idsA, idsR, inH, hget, sameRow, viewN, tk, upA, hvA, dsts, dstO, setA_0, setA_1, setA_8, List.append, List.cons_append, List.nil_append])
        · (try simp only [w1, push_cast, simprocAttr])
          refine at_fin ⟨(k + 1, some so), ⟨by dsimp only; omega, hsm⟩, by dsimp only; omega, ?_⟩
          (refine wk_frz ?_ ?_ ?_ ?_ <;> simp [rdR, ssK, ssI, ssC, leF, leHF, frzB, idsL, idsA, idsR, inH, hget, sameRow, viewN, tk, upA, hvA, dsts, dstO, setA_0, setA_1, setA_8, List.append, List.cons_append, List.nil_append])
      · have i0 : ltI (k : Int) m = false := ltI_f (by omega)
        (try simp only [i0, push_cast, simprocAttr])
        (refine at_retL ?_; simp only [Try.results26, retL, push_cast, simprocAttr]; simpa [show List.range 1 = [0] from rfl, show List.range 2 = [0, 1] from rfl, show List.range 3 = [0, 1, 2] from rfl, nmL, mvF, ndB, ixOf, rowsOf, hget, rdR, rowS, rowN, rowC] using  hfin)
theorem DrawSessionRecover_pc (z : List Int) (hz : BytesOk z) : PC Try.prog 14 [byA z] sessX := by
  have hr : RdOk (z.take 2000) (0 + 4001) := ⟨hz.tk, by rw [List.length_take]; omega, by omega⟩
  refine PC.lessD (D := fun rv rows => ∃ (a b : St) (o : Option Ss), SmSs (ssV' a b o) ∧ rv = .agg (ssK a b o) ∧ rows = []) ?_ ?_
  · refine pc_enter Try.func14 rfl rfl fun w0 fb => go_on ?_; (try simp only [Try.ntmps14, push_cast, simprocAttr])
    refine call_share (by simp [isC]) (l6Open_pc z hz) ?_
    rintro rv rows ⟨rfl, rfl⟩
    refine ⟨by simp [frB, baseOf], go_on ?_⟩
    (try simp only [push_cast, simprocAttr])
    (try simp only [push_cast, simprocAttr]); refine call_lend [5000] none (lr := [rdR (z.take 2000) 0]) (by simp [ndB]) (by first | rfl | simp [rowsOf, hget, rdR, rowS, rowN, rowC, sC, ndC, cmC]) (by simp [idsL, idsA]) (by simp [mvN]) (by simpa [rnA, ixOf] using l92Session_pcl (z.take 2000) 0 hr) ?_
    rintro rv lr' rows ⟨a, b, o, h1, rfl, ⟨v, rfl, _, _⟩, rfl⟩
    cases o
    all_goals
      simp only [ssK, ssI, ssC]
      (refine ⟨by simp [shB, mvF, rdR, rowS, rowN, rowC], by simp [frB, baseOf], go_on ?_⟩; simp only [killA, killH, killRow, push_cast, simprocAttr])
      refine at_ret ?_; simp only [Try.results14, push_cast, simprocAttr]
      exact ⟨a, b, _, h1, rfl⟩
  · rintro rv rows ⟨a, b, o, h1, rfl, rfl⟩
    exact ⟨rfl, _, ⟨_, h1, rfl, rfl⟩, fun h loc w v hg => ssI_G a b o hg⟩
end Go.Proofs.Ytdjglbedimpldaa
/-
  Walks: FnRecoverPlan.
-/
namespace Go.Proofs.Ytdjglbedimpldaa
open Go Go.RowKit Go.Proofs
attribute [local irreducible] RWp AW run kPe pe Kt effA gd gu br retR RDp runD kPeD brW gW effD
set_option maxRecDepth 100000
theorem FnRecoverPlan_pc (z : List Int) (hz : BytesOk z) : PC Try.prog 4 [byA z] (vB true) := by
  refine pc_enter Try.func4 rfl rfl fun w0 fb => go_on ?_; (try simp only [Try.ntmps4, push_cast, simprocAttr])
  refine at_b (fun hb => ?_) (fun hb => ?_)
  · (try simp only [hb, push_cast, simprocAttr])
    refine at_ret ?_; simp only [Try.results4, push_cast, simprocAttr]
    simp [vX]
  · (try simp only [hb, push_cast, simprocAttr])
    refine call_share (by simp [isC]) (DrawSessionRecover_pc z hz) ?_
    rintro rv rows ⟨s, hs, rfl, rfl⟩
    have hD := SessionRecover_d s hs
    have hE := specSessionRecover_d s hs
    obtain ⟨x, hx⟩ : ∃ x, x = (sRec s).1 := ⟨_, rfl⟩
    obtain ⟨y, hy⟩ : ∃ y, y = (sRec s).2 := ⟨_, rfl⟩
    have hxs : SmS x ∧ SmS y := by
      rw [hx, hy]
      unfold sRec
      split
      · exact ⟨hs.nA, hs.nB⟩
      · exact ⟨hs.A, hs.B⟩
    have hS1 := sameSite_pc x x hxs.1.c1 hxs.1.c2
    have hS2 := sameSite_pc y y hxs.2.c1 hxs.2.c2
    rw [decide_eq_true rfl] at hS1 hS2
    rw [← hx, ← hy] at hD hE
    unfold ssA ssC at hD hE ⊢
    unfold stA' stC at hD hE hS1 hS2
    refine ⟨by simp [frB, baseOf], go_on ?_⟩
    (try simp only [push_cast, simprocAttr])
    ((try simp only [push_cast, simprocAttr]); refine at_share2 (by simp [isC2, isC]) (by first | rfl | simp [ren]) (hD) (go_on ?_); (try simp only [push_cast, simprocAttr]))
    ((try simp only [push_cast, simprocAttr]); refine at_share2 (by simp [isC2, isC]) (by first | rfl | simp [ren]) (hE) (go_on ?_); (try simp only [push_cast, simprocAttr]))
    (refine at_call ?_; (try simp only [push_cast, simprocAttr]); refine rwc_v (hS1) (go_on ?_); (try simp only [push_cast, simprocAttr]))
    (try simp only [Bool.not_true, push_cast, simprocAttr])
    (refine at_call ?_; (try simp only [push_cast, simprocAttr]); refine rwc_v (hS2) (go_on ?_); (try simp only [push_cast, simprocAttr]))
    (try simp only [Bool.not_true, push_cast, simprocAttr])
    cases hp : s.plan with
    | true =>
      have e1 : x = s.nA := by rw [hx]; simp [sRec, hp]
      have e2 : y = s.nB := by rw [hy]; simp [sRec, hp]
      subst e1
      subst e2
      (try simp only [hp, push_cast, simprocAttr])
      (refine at_call ?_; (try simp only [push_cast, simprocAttr]); refine rwc_v (hS1) (go_on ?_); (try simp only [push_cast, simprocAttr]))
      (refine at_call ?_; (try simp only [push_cast, simprocAttr]); refine rwc_v (hS2) (go_on ?_); (try simp only [push_cast, simprocAttr]))
      refine at_ret ?_; simp only [Try.results4, push_cast, simprocAttr]
      simp [vX]
    | false =>
      have e1 : x = s.A := by rw [hx]; simp [sRec, hp]
      have e2 : y = s.B := by rw [hy]; simp [sRec, hp]
      subst e1
      subst e2
      (try simp only [hp, push_cast, simprocAttr])
      (refine at_call ?_; (try simp only [push_cast, simprocAttr]); refine rwc_v (hS1) (go_on ?_); (try simp only [push_cast, simprocAttr]))
      (refine at_call ?_; (try simp only [push_cast, simprocAttr]); refine rwc_v (hS2) (go_on ?_); (try simp only [push_cast, simprocAttr]))
      refine at_ret ?_; simp only [Try.results4, push_cast, simprocAttr]
      simp [vX]
end Go.Proofs.Ytdjglbedimpldaa
