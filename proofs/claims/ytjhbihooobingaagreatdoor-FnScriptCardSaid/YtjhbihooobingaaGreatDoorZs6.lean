/- A part of the proof of the session laws: texts W30 W31 W32 W33 W34 W35 W36 W37 W38 W39 W40 W72 W73 W41 W42 W43 W44 W45 W46 W47 W48 W49 W50 W51 W52 W53 W74 W75 W77 W78 W79. -/
import Derived.Test.YtjhbihooobingaaGreatDoorZs5
import Derived.Maps.OwnSet
import Derived.Maps.Views
import Derived.Carry
import Derived.Test.YtjhbihooobingaaGreatDoorZsp
set_option linter.unusedSimpArgs false
set_option linter.unusedVariables false
/-
  Walks: conflicts of commands.
-/
namespace Go.Proofs.YtjhbihooobingaaGreatDoor
open Go Go.RowKit Go.Proofs
/-- A command as a value. -/
def vC (c : Cm) : Value := .agg #[sV c.p, .int .i64 c.a.k, .int .i64 c.a.v, .int .i64 c.b.k, .int .i64 c.b.v]
theorem C.vC {lv : Nat → Prop} {w : World} {u : Value} {c : Cm} (h : C lv 0 w (.v (Go.Proofs.YtjhbihooobingaaGreatDoor.vC c)) u) : C lv 0 w (cmdA c) u := by
  cases h
  refine .agg _ rfl fun j a ha => ?_
  rcases j with _ | _ | _ | _ | _ | j
  · cases ha; exact .v
  · cases ha; exact .v
  · cases ha; exact .v
  · cases ha; exact .v
  · cases ha; exact .v
  · simp [cmC] at ha
theorem isPrefix_take (a b : Str) : (decide (b.length ≤ a.length) && decide (a.take b.length = b)) = b.isPrefixOf a := by
  rw [Bool.eq_iff_iff, Bool.and_eq_true, decide_eq_true_eq, decide_eq_true_eq, List.isPrefixOf_iff_prefix, List.prefix_iff_eq_take]
  constructor
  · rintro ⟨_, h⟩; exact h.symm
  · intro h
    refine ⟨?_, h.symm⟩
    rw [h, List.length_take]; omega
theorem cm_eq (x y : Cm) : (decide (x.p = y.p) && ((eqI x.a.k y.a.k && eqI x.a.v y.a.v) && (eqI x.b.k y.b.k && eqI x.b.v y.b.v))) = decide (x = y) := by
  rw [Bool.eq_iff_iff]; simp [eqI_d, cm_ext, ct_ext]
attribute [local irreducible] RWp AW run kPe pe Kt effA gd gu br retR RDp runD kPeD brW gW effD
set_option maxRecDepth 100000
theorem HasPrefix0_pc (a b : Str) (ha : a.length < 4294967290) (hb : b.length < 4294967290) : PC Tryz.prog 209 [sA a, sA b] (vB (b.isPrefixOf a)) := by
  rw [← isPrefix_take]
  refine pc_enter Tryz.func209 rfl rfl fun w0 fb => go_on ?_; (try simp only [Tryz.ntmps209, push_cast, simprocAttr])
  by_cases h : b.length ≤ a.length
  · have i0 : leI (b.length : Int) a.length = true := leI_t (by omega)
    have i1 : (b.length : Int) ≤ a.length := by omega
    (try simp only [i0, i1, push_cast, simprocAttr])
    refine at_ret ?_; simp only [Tryz.results209, push_cast, simprocAttr]
    simp [vX, h]
  · have i0 : leI (b.length : Int) a.length = false := leI_f (by omega)
    (try simp only [i0, push_cast, simprocAttr])
    refine at_ret ?_; simp only [Tryz.results209, push_cast, simprocAttr]
    simp [vX, h]
theorem HasPrefix_pc (a b : Str) (ha : a.length < 4294967290) (hb : b.length < 4294967290) : PC Tryz.prog 196 [sA a, sA b] (vB (b.isPrefixOf a)) := by
  refine pc_enter Tryz.func196 rfl rfl fun w0 fb => go_on ?_; (try simp only [Tryz.ntmps196, push_cast, simprocAttr])
  (refine at_call ?_; (try simp only [push_cast, simprocAttr]); refine rwc_v (HasPrefix0_pc a b ha hb) (go_on ?_); (try simp only [push_cast, simprocAttr]))
  refine at_ret ?_; simp only [Tryz.results196, push_cast, simprocAttr]
  simp [vX]
theorem under_pc (a s : Str) (ha : a.length < 4294967285) (hs : s.length < 4294967285) : PC Tryz.prog 173 [sA a, sA s] (vB (und a s)) := by
  have hH := HasPrefix_pc s (a ++ [47]) (by omega) (by simp; omega)
  have w5 : a.length + 1 ≤ 9223372036854775807 := by omega
  refine pc_enter Tryz.func173 rfl rfl fun w0 fb => go_on ?_; (try simp only [Tryz.ntmps173, push_cast, simprocAttr])
  refine at_b (fun hb => ?_) (fun hb => ?_)
  · have h : a = [47] := by simpa using hb
    (try simp only [hb, push_cast, simprocAttr])
    refine at_ret ?_; simp only [Tryz.results173, push_cast, simprocAttr]
    by_cases hs : s = [47] <;> simp [vX, und, h, root, hs]
  · have h : ¬ a = [47] := by simpa using hb
    (try simp only [hb, w5, push_cast, simprocAttr])
    (refine at_call ?_; (try simp only [push_cast, simprocAttr]); refine rwc_v (hH) (go_on ?_); (try simp only [push_cast, simprocAttr]))
    refine at_ret ?_; simp only [Tryz.results173, push_cast, simprocAttr]
    simp [vX, und, h, root]
theorem stops_pc (c d : Cm) (hc : c.p.length < 4294967285) (hd : d.p.length < 4294967285) : PC Tryz.prog 148 [cmdA c, cmdA d] (vB (stops c d)) := by
  have hU := under_pc c.p d.p hc hd
  have e : stops c d = (und c.p d.p && !eqI c.b.k 1 && !eqI d.b.k 0) := by unfold stops; rw [eqI_d, eqI_d]; simp
  unfold cmdA cmC
  refine pc_enter Tryz.func148 rfl rfl fun w0 fb => go_on ?_; (try simp only [Tryz.ntmps148, push_cast, simprocAttr])
  repeat' first | (refine at_b (fun hb => ?_) (fun hb => ?_) <;> simp only [hb, push_cast, simprocAttr]) | (refine at_ret ?_; simp only [Tryz.results148, push_cast, simprocAttr]) | (refine at_call ?_; (try simp only [push_cast, simprocAttr]); refine rwc_v (by first | exact hU) (go_on ?_); simp only [push_cast, simprocAttr]) | (show RWp _ _ _ _ _; simp only [push_cast, simprocAttr])
  all_goals simp [vX, e, *]
theorem clashes_pc (c d : Cm) (hc : c.p.length < 4294967285) (hd : d.p.length < 4294967285) : PC Tryz.prog 103 [cmdA c, cmdA d] (vB (clash c d)) := by
  have h1 := stops_pc c d hc (by omega)
  have h2 := stops_pc d c hd (by omega)
  have e : clash c d = ((decide (c.p = d.p) && !decide (c.b = d.b)) || stops c d || stops d c) := by unfold clash; simp
  unfold cmdA cmC at *
  refine pc_enter Tryz.func103 rfl rfl fun w0 fb => go_on ?_; (try simp only [Tryz.ntmps103, push_cast, simprocAttr])
  repeat' first | (refine at_b (fun hb => ?_) (fun hb => ?_) <;> simp only [ctg, cth, ct_eq, hb, push_cast, simprocAttr]) | (refine at_ret ?_; simp only [ctg, cth, ct_eq, Tryz.results103, push_cast, simprocAttr]) | (refine at_call ?_; (try simp only [push_cast, simprocAttr]); refine rwc_v (by first | exact h1 | exact h2) (go_on ?_); simp only [ctg, cth, ct_eq, push_cast, simprocAttr]) | (show RWp _ _ _ _ _; simp only [ctg, cth, ct_eq, push_cast, simprocAttr])
  all_goals simp [vX, e, *]
theorem IndexFuncV_pc (l : List Cm) (hl : l.length < 4294967281) (g : FuncId) (fs cs : Array Value) (p : Cm → Bool) (hp : ∀ n ∈ l, PC Tryz.prog g (fs.toList.map .v ++ ([cmdA n] ++ cs.toList.map .v)) (vB (p n))) :
    PC Tryz.prog 118 [cmA l, .v (.func (.func g) fs cs)] (vI (idxF p 0 l)) := by
  refine pc_enter Tryz.func118 rfl rfl fun w0 fb => go_on ?_; (try simp only [Tryz.ntmps118, push_cast, simprocAttr])
  refine at_loop (X := Nat) (fun k => [(8, iA k)]) (fun _ => []) (fun k => k ≤ l.length ∧ idxF p 0 l = idxF p k (l.drop k)) (fun k => l.length - k) 0 ⟨Nat.zero_le _, rfl⟩ ?_ ?_
  · (refine wk_ok ?_ ?_ ?_ ?_ <;> simp [leL, leH, idsL, idsA, idsR, inH, hget, sameRow, upA, hvA, dsts, dstO, setA_0, setA_1, setA_8, List.append, List.cons_append, List.nil_append])
  · rintro k ⟨h1, h2⟩
    simp only [upA, hvA, dsts, dstO, setA_0, setA_1, setA_8, List.append, List.cons_append, List.nil_append]
    refine go_on ?_
    (try simp only [push_cast, simprocAttr])
    refine at_b (fun hg => ?_) (fun hg => ?_)
    · have hlt := lt_tt hg
      obtain ⟨x, hk⟩ := get_of_lt hlt
      have i1 := ix_n hk
      have i2 := map_get cmC hk
      simp only [cmC] at i2
      rw [drop_of_get hk] at h2
      have hx := hp x (mem_of_get hk)
      unfold cmdA cmC at hx
      have hv : ∀ l : List Value, (l.map AV.v).map (viewN 3 []) = l.map AV.v := fun l => by rw [List.map_map]; exact List.map_congr_left fun y _ => by simp [viewN, isC]
      (try simp only [hg, i1, i2, push_cast, simprocAttr])
      have hm : (fs.toList.map AV.v ++ AV.agg [sA x.p, iA x.a.k, iA x.a.v, iA x.b.k, iA x.b.v] :: cs.toList.map AV.v).map (viewN 3 []) = fs.toList.map AV.v ++ ([AV.agg [sA x.p, iA x.a.k, iA x.a.v, iA x.b.k, iA x.b.v]] ++ cs.toList.map AV.v) := by
        rw [List.map_append, List.map_cons, hv, hv]; rfl
      refine at_call ?_
      refine rwc_v (x := .bool (p x)) (Eq.mpr (congrArg (fun a => PC Tryz.prog g a (vB (p x))) hm) hx) (go_on ?_)
      cases hpx : p x with
      | true =>
        (try simp only [hpx, push_cast, simprocAttr])
        refine at_ret ?_; simp only [Tryz.results118, push_cast, simprocAttr]
        simp [vX, h2, idxF, hpx]
      | false =>
        have w1 := wr ((k : Int) + 1) (by omega)
        (try simp only [hpx, w1, push_cast, simprocAttr])
        refine at_fin ⟨k + 1, ⟨by omega, ?_⟩, by omega, ?_⟩
        · rw [h2]; simp [idxF, hpx]
        · (refine wk_ok ?_ ?_ ?_ ?_ <;> simp [leL, leH, idsL, idsA, idsR, inH, hget, sameRow, upA, hvA, dsts, dstO, setA_0, setA_1, setA_8, List.append, List.cons_append, List.nil_append])
    · have h3 := lt_ff hg
      (try simp only [hg, push_cast, simprocAttr])
      refine at_ret ?_; simp only [Tryz.results118, push_cast, simprocAttr]
      rw [List.drop_of_length_le h3] at h2
      simp [vX, h2, idxF]
end Go.Proofs.YtjhbihooobingaaGreatDoor
/-
  Walks: slices of commands and nodes: Index, Contains, Equal, IsSortedFunc.
-/
namespace Go.Proofs.YtjhbihooobingaaGreatDoor
open Go Go.RowKit Go.Proofs
attribute [local irreducible] RWp AW run kPe pe Kt effA gd gu br retR RDp runD kPeD brW gW effD
set_option maxRecDepth 100000
theorem IndexC_pc (l : List Cm) (hl : l.length < 4294967281) (c : Cm) : PC Tryz.prog 174 [cmA l, cmdA c] (vI (idxF (fun d => decide (c = d)) 0 l)) := by
  unfold cmdA cmC
  refine pc_enter Tryz.func174 rfl rfl fun w0 fb => go_on ?_; (try simp only [Tryz.ntmps174, push_cast, simprocAttr])
  refine at_loop (X := Nat) (fun k => [(8, iA k)]) (fun _ => [(3, ⟨36, 5, [cmC c], true⟩)]) (fun k => k ≤ l.length ∧ idxF (fun d => decide (c = d)) 0 l = idxF (fun d => decide (c = d)) k (l.drop k)) (fun k => l.length - k) 0 ⟨Nat.zero_le _, rfl⟩ ?_ ?_
  · (refine wk_ok ?_ ?_ ?_ ?_ <;> simp [cmC, leL, leH, idsL, idsA, idsR, inH, hget, sameRow, upA, hvA, dsts, dstO, setA_0, setA_1, setA_8, List.append, List.cons_append, List.nil_append])
  · rintro k ⟨h1, h2⟩
    simp only [upA, hvA, dsts, dstO, setA_0, setA_1, setA_8, List.append, List.cons_append, List.nil_append]
    refine go_on ?_
    (try simp only [push_cast, simprocAttr])
    refine at_b (fun hg => ?_) (fun hg => ?_)
    · have hlt := lt_tt hg
      obtain ⟨x, hk⟩ := get_of_lt hlt
      have i1 := ix_n hk
      have i2 := map_get cmC hk
      simp only [cmC] at i2
      rw [drop_of_get hk] at h2
      have e := cm_eq c x
      (try simp only [hg, push_cast, simprocAttr])
      refine at_draw rfl (by kernel_rfl) ?_
      (try simp only [i1, i2, ctg, cth, cmg, cmh, push_cast, simprocAttr])
      refine at_done (by kernel_rfl) (by kernel_rfl) (go_on ?_)
      (try simp only [e, push_cast, simprocAttr])
      refine at_b (fun hn => ?_) (fun hn => ?_)
      · (try simp only [hn, push_cast, simprocAttr])
        refine at_ret ?_; simp only [Tryz.results174, push_cast, simprocAttr]
        simp [vX, h2, idxF, hn]
      · have w1 := wr ((k : Int) + 1) (by omega)
        (try simp only [hn, w1, push_cast, simprocAttr])
        refine at_fin ⟨k + 1, ⟨by omega, ?_⟩, by omega, ?_⟩
        · rw [h2]; simp [idxF, hn]
        · (refine wk_ok ?_ ?_ ?_ ?_ <;> simp [cmC, leL, leH, idsL, idsA, idsR, inH, hget, sameRow, upA, hvA, dsts, dstO, setA_0, setA_1, setA_8, List.append, List.cons_append, List.nil_append])
    · have h3 := lt_ff hg
      (try simp only [hg, push_cast, simprocAttr])
      refine at_ret ?_; simp only [Tryz.results174, push_cast, simprocAttr]
      rw [List.drop_of_length_le h3] at h2
      simp [vX, h2, idxF]
theorem ContainsC_pc (l : List Cm) (hl : l.length < 4294967281) (c : Cm) : PC Tryz.prog 150 [cmA l, cmdA c] (vB (decide (c ∈ l))) := by
  have hI := IndexC_pc l hl c
  have e : leI 0 (idxF (fun d => decide (c = d)) 0 l) = decide (c ∈ l) := by
    rw [idxF_any, Bool.eq_iff_iff, List.any_eq_true, decide_eq_true_eq]
    exact ⟨fun ⟨x, h1, h2⟩ => by simp at h2; rw [h2]; exact h1, fun h => ⟨c, h, by simp⟩⟩
  unfold cmdA cmC at *
  refine pc_enter Tryz.func150 rfl rfl fun w0 fb => go_on ?_; (try simp only [Tryz.ntmps150, push_cast, simprocAttr])
  (refine at_call ?_; (try simp only [push_cast, simprocAttr]); refine rwc_v (hI) (go_on ?_); (try simp only [push_cast, simprocAttr]))
  refine at_ret ?_; simp only [Tryz.results150, push_cast, simprocAttr]
  simp [vX, e]
theorem EqualN_pc (a b : List Nd) (hl : a.length < 4294967281) : PC Tryz.prog 101 [ndA a, ndA b] (vB (decide (a = b))) := by
  refine pc_enter Tryz.func101 rfl rfl fun w0 fb => go_on ?_; (try simp only [Tryz.ntmps101, push_cast, simprocAttr])
  refine at_b (fun hb => ?_) (fun hb => ?_)
  · have h1 := of_eqI_f (not_t hb)
    have h2 : a ≠ b := by rintro rfl; exact h1 rfl
    (try simp only [hb, push_cast, simprocAttr])
    refine at_ret ?_; simp only [Tryz.results101, push_cast, simprocAttr]
    simp [vX, h2]
  · have h1 : a.length = b.length := by have := of_eqI_t (not_f hb); omega
    (try simp only [hb, push_cast, simprocAttr])
    refine at_loop (X := Nat) (fun k => [(13, iA k)]) (fun _ => []) (fun k => k ≤ a.length ∧ decide (a = b) = decide (a.drop k = b.drop k)) (fun k => a.length - k) 0 ⟨Nat.zero_le _, rfl⟩ ?_ ?_
    · (refine wk_ok ?_ ?_ ?_ ?_ <;> simp [leL, leH, idsL, idsA, idsR, inH, hget, sameRow, upA, hvA, dsts, dstO, setA_0, setA_1, setA_8, List.append, List.cons_append, List.nil_append])
    · rintro k ⟨q1, q2⟩
      simp only [upA, hvA, dsts, dstO, setA_0, setA_1, setA_8, List.append, List.cons_append, List.nil_append]
      refine go_on ?_
      (try simp only [push_cast, simprocAttr])
      refine at_b (fun hg => ?_) (fun hg => ?_)
      · have hlt := lt_tt hg
        obtain ⟨x, hx⟩ := get_of_lt hlt
        obtain ⟨y, hy⟩ := get_of_lt (l := b) (k := k) (by omega)
        have i1 := ix_n hx
        have i3 := ix_n hy
        have i2 := map_get ndC hx
        have i4 := map_get ndC hy
        simp only [ndC] at i2 i4
        rw [drop_of_get hx, drop_of_get hy] at q2
        have w2 := wr ((k : Int) + 1) (by omega)
        (try simp only [hg, push_cast, simprocAttr])
        refine at_draw rfl (by kernel_rfl) ?_
        (try simp only [i1, i2, i3, i4, ctg, cth, ndg, ndh, push_cast, simprocAttr])
        refine at_done (by kernel_rfl) (by kernel_rfl) (go_on ?_)
        have e : (decide (x.p = y.p) && (eqI x.c.k y.c.k && eqI x.c.v y.c.v)) = decide (x = y) := by
          rw [Bool.eq_iff_iff]; simp [eqI_d, nd_ext, ct_ext]
        (try simp only [e, push_cast, simprocAttr])
        refine at_b (fun hn => ?_) (fun hn => ?_)
        · have hxy : x ≠ y := by simpa using hn
          (try simp only [hn, push_cast, simprocAttr])
          refine at_ret ?_; simp only [Tryz.results101, push_cast, simprocAttr]
          simp [vX, q2, hxy]
        · have hxy : x = y := by simpa using hn
          (try simp only [hn, w2, push_cast, simprocAttr])
          refine at_fin ⟨k + 1, ⟨by omega, ?_⟩, by omega, ?_⟩
          · rw [q2]; simp [hxy]
          · (refine wk_ok ?_ ?_ ?_ ?_ <;> simp [leL, leH, idsL, idsA, idsR, inH, hget, sameRow, upA, hvA, dsts, dstO, setA_0, setA_1, setA_8, List.append, List.cons_append, List.nil_append])
      · have h3 := lt_ff hg
        (try simp only [hg, push_cast, simprocAttr])
        refine at_ret ?_; simp only [Tryz.results101, push_cast, simprocAttr]
        rw [List.drop_of_length_le h3, List.drop_of_length_le (by omega)] at q2
        simp [vX, q2]
theorem cOrd_step {l : List Cm} {k : Nat} {x y : Cm} (hx : l[k + 1]? = some x) (hy : l[k]? = some y) : cOrd (l.drop k) = (!cLt x y && cOrd (l.drop (k + 1))) := by
  rw [drop_of_get hy, drop_of_get hx]
  simp only [cOrd]
theorem cOrd_pre : ∀ (l : List Cm) (k : Nat), cOrd (l.drop k) = false → cOrd l = false
  | _, 0, h => h
  | [], k + 1, h => by simp [cOrd] at h
  | a :: l, k + 1, h => by
    have := cOrd_pre l k (by simpa using h)
    cases h2 : cOrd (a :: l) with
    | false => rfl
    | true => rw [cOrd_cons h2] at this; cases this
end Go.Proofs.YtjhbihooobingaaGreatDoor
/-
  Walks: the canonical order as a comparing function; IsSortedFunc, ContainsFunc, disputed, slices.Equal at commands.
-/
namespace Go.Proofs.YtjhbihooobingaaGreatDoor
open Go Go.RowKit Go.Proofs
attribute [local irreducible] RWp AW run kPe pe Kt effA gd gu br retR RDp runD kPeD brW gW effD
set_option maxRecDepth 100000
theorem isNaN_pc (a : Str) : PC Tryz.prog 185 [sA a] (vB false) := by
  refine pc_enter Tryz.func185 rfl rfl fun w0 fb => go_on ?_; (try simp only [Tryz.ntmps185, push_cast, simprocAttr])
  repeat' first | (refine at_b (fun hb => ?_) (fun hb => ?_) <;> simp only [hb, push_cast, simprocAttr]) | (refine at_ret ?_; simp only [Tryz.results185, push_cast, simprocAttr]) | (show RWp _ _ _ _ _; simp only [push_cast, simprocAttr])
  all_goals simp [vX]
theorem Compare_pc (a b : Str) : PC Tryz.prog 155 [sA a, sA b] (vI (cmpS a b)) := by
  refine pc_enter Tryz.func155 rfl rfl fun w0 fb => go_on ?_; (try simp only [Tryz.ntmps155, push_cast, simprocAttr])
  (refine at_call ?_; (try simp only [push_cast, simprocAttr]); refine rwc_v (isNaN_pc a) (go_on ?_); (try simp only [push_cast, simprocAttr]))
  (refine at_call ?_; (try simp only [push_cast, simprocAttr]); refine rwc_v (isNaN_pc b) (go_on ?_); (try simp only [push_cast, simprocAttr]))
  cases h1 : slt a b with
  | true =>
    (try simp only [h1, push_cast, simprocAttr])
    refine at_ret ?_; simp only [Tryz.results155, push_cast, simprocAttr]
    simp [vX, cmpS, h1]
  | false =>
    (try simp only [h1, push_cast, simprocAttr])
    have e := gtr_slt a b
    have e' : decide (a = b) = !slt b a := by
      rw [← e]; show decide (a = b) = !!(slt a b || a == b); rw [h1]; by_cases h : a = b <;> simp [h]
    cases h2 : slt b a with
    | true =>
      rw [h2] at e'
      (try simp only [e', Bool.not_true, Bool.not_false, push_cast, simprocAttr])
      refine at_ret ?_; simp only [Tryz.results155, push_cast, simprocAttr]
      simp [vX, cmpS, h1, h2]
    | false =>
      rw [h2] at e'
      (try simp only [e', Bool.not_true, Bool.not_false, push_cast, simprocAttr])
      refine at_ret ?_; simp only [Tryz.results155, push_cast, simprocAttr]
      simp [vX, cmpS, h1, h2]
theorem ends_pc (c : Cm) : PC Tryz.prog 154 [cmdA c] (vB (cEnds c)) := by
  have e : cEnds c = (eqI c.b.k 0 || eqI c.a.k 1) := by unfold cEnds; rw [eqI_d, eqI_d]
  unfold cmdA cmC
  refine pc_enter Tryz.func154 rfl rfl fun w0 fb => go_on ?_; (try simp only [Tryz.ntmps154, push_cast, simprocAttr])
  repeat' first | (refine at_b (fun hb => ?_) (fun hb => ?_) <;> simp only [hb, push_cast, simprocAttr]) | (refine at_ret ?_; simp only [Tryz.results154, push_cast, simprocAttr]) | (show RWp _ _ _ _ _; simp only [push_cast, simprocAttr])
  all_goals simp [vX, e, *]
theorem canonOrder_pc (c d : Cm) : PC Tryz.prog 108 [cmdA c, cmdA d] (vI (cfC c d)) := by
  have h1 := ends_pc c
  have h2 := ends_pc d
  unfold cmdA cmC at *
  refine pc_enter Tryz.func108 rfl rfl fun w0 fb => go_on ?_; (try simp only [Tryz.ntmps108, push_cast, simprocAttr])
  cases e1 : cEnds c <;> cases e2 : cEnds d <;> rw [e1] at h1 <;> rw [e2] at h2
  · (refine at_call ?_; (try simp only [push_cast, simprocAttr]); refine rwc_v (h1) (go_on ?_); (try simp only [push_cast, simprocAttr]))
    (refine at_call ?_; (try simp only [push_cast, simprocAttr]); refine rwc_v (h1) (go_on ?_); (try simp only [push_cast, simprocAttr]))
    (refine at_call ?_; (try simp only [push_cast, simprocAttr]); refine rwc_v (h2) (go_on ?_); (try simp only [push_cast, simprocAttr]))
    (refine at_call ?_; (try simp only [push_cast, simprocAttr]); refine rwc_v (Compare_pc c.p d.p) (go_on ?_); (try simp only [push_cast, simprocAttr]))
    refine at_ret ?_; simp only [Tryz.results108, push_cast, simprocAttr]
    simp [vX, cfC, e1, e2]
  · (refine at_call ?_; (try simp only [push_cast, simprocAttr]); refine rwc_v (h1) (go_on ?_); (try simp only [push_cast, simprocAttr]))
    (refine at_call ?_; (try simp only [push_cast, simprocAttr]); refine rwc_v (h1) (go_on ?_); (try simp only [push_cast, simprocAttr]))
    (refine at_call ?_; (try simp only [push_cast, simprocAttr]); refine rwc_v (h2) (go_on ?_); (try simp only [push_cast, simprocAttr]))
    refine at_ret ?_; simp only [Tryz.results108, push_cast, simprocAttr]
    simp [vX, cfC, e1, e2]
  · (refine at_call ?_; (try simp only [push_cast, simprocAttr]); refine rwc_v (h1) (go_on ?_); (try simp only [push_cast, simprocAttr]))
    (refine at_call ?_; (try simp only [push_cast, simprocAttr]); refine rwc_v (h2) (go_on ?_); (try simp only [push_cast, simprocAttr]))
    (refine at_call ?_; (try simp only [push_cast, simprocAttr]); refine rwc_v (h1) (go_on ?_); (try simp only [push_cast, simprocAttr]))
    refine at_ret ?_; simp only [Tryz.results108, push_cast, simprocAttr]
    simp [vX, cfC, e1, e2]
  · (refine at_call ?_; (try simp only [push_cast, simprocAttr]); refine rwc_v (h1) (go_on ?_); (try simp only [push_cast, simprocAttr]))
    (refine at_call ?_; (try simp only [push_cast, simprocAttr]); refine rwc_v (h2) (go_on ?_); (try simp only [push_cast, simprocAttr]))
    (refine at_call ?_; (try simp only [push_cast, simprocAttr]); refine rwc_v (Compare_pc d.p c.p) (go_on ?_); (try simp only [push_cast, simprocAttr]))
    refine at_ret ?_; simp only [Tryz.results108, push_cast, simprocAttr]
    simp [vX, cfC, e1, e2]
theorem ContainsFuncV_pc (l : List Cm) (hl : l.length < 4294967281) (g : FuncId) (fs cs : Array Value) (p : Cm → Bool) (hp : ∀ n ∈ l, PC Tryz.prog g (fs.toList.map .v ++ ([cmdA n] ++ cs.toList.map .v)) (vB (p n))) :
    PC Tryz.prog 151 [cmA l, .v (.func (.func g) fs cs)] (vB (l.any p)) := by
  have hI := IndexFuncV_pc l hl g fs cs p hp
  have e : leI 0 (idxF p 0 l) = l.any p := idxF_any _ _
  refine pc_enter Tryz.func151 rfl rfl fun w0 fb => go_on ?_; (try simp only [Tryz.ntmps151, push_cast, simprocAttr])
  (refine at_call ?_; (try simp only [push_cast, simprocAttr]); refine rwc_v (hI) (go_on ?_); (try simp only [push_cast, simprocAttr]))
  refine at_ret ?_; simp only [Tryz.results151, push_cast, simprocAttr]
  simp [vX, e]
theorem disputed_pc (c : Cm) (l : List Cm) (hc : c.p.length < 4294967285) (hl : SmL l) : PC Tryz.prog 106 [cmdA c, cmA l] (vB (disp l c)) := by
  have hD := ContainsFuncV_pc l (by have := hl.n; omega) 103 #[vC c] #[] (clash c) (fun n hn => by
    have := hl.p n hn
    refine PC.args (clashes_pc c n hc (by omega)) rfl fun j x y hx hy lv w u hu => ?_
    rcases j with _ | _ | j
    · cases hx; cases hy; exact C.vC hu
    · cases hx; cases hy; exact hu
    · simp at hx)
  unfold cmdA cmC
  refine pc_enter Tryz.func106 rfl rfl fun w0 fb => go_on ?_; (try simp only [Tryz.ntmps106, push_cast, simprocAttr])
  (refine at_call ?_; (try simp only [push_cast, simprocAttr]); refine rwc_v (hD) (go_on ?_); (try simp only [push_cast, simprocAttr]))
  refine at_ret ?_; simp only [Tryz.results106, push_cast, simprocAttr]
  simp [vX, disp]
theorem IsSortedC_pc (l : List Cm) (hl : l.length < 4294967281) : PC Tryz.prog 147 [cmA l, .fn 108 []] (vB (cOrd l)) := by
  have w0' : IntKind.i64.wrap ((l.length : Int) - 1) = (l.length : Int) - 1 := wr _ (by omega)
  refine pc_enter Tryz.func147 rfl rfl fun w0 fb => go_on ?_; (try simp only [Tryz.ntmps147, push_cast, simprocAttr])
  (try simp only [w0', push_cast, simprocAttr])
  refine at_loop (X := Nat) (fun k => [(5, iA ((k : Int) - 1))]) (fun _ => []) (fun k => k ≤ l.length ∧ (k = 0 → l = []) ∧ cOrd (l.drop (k - 1)) = true) (fun k => k) l.length ⟨Nat.le_refl _, fun h => List.eq_nil_of_length_eq_zero h, ?_⟩ ?_ ?_
  · rcases Nat.eq_zero_or_pos l.length with h | h
    · rw [List.eq_nil_of_length_eq_zero h]; rfl
    · obtain ⟨x, hx⟩ := get_of_lt (l := l) (k := l.length - 1) (by omega)
      rw [drop_of_get hx, List.drop_of_length_le (by omega)]
      rfl
  · (refine wk_ok ?_ ?_ ?_ ?_ <;> simp [leL, leH, idsL, idsA, idsR, inH, hget, sameRow, upA, hvA, dsts, dstO, setA_0, setA_1, setA_8, List.append, List.cons_append, List.nil_append])
  · rintro k ⟨q1, q2, q3⟩
    simp only [upA, hvA, dsts, dstO, setA_0, setA_1, setA_8, List.append, List.cons_append, List.nil_append]
    refine go_on ?_
    (try simp only [push_cast, simprocAttr])
    by_cases hk : 2 ≤ k
    · obtain ⟨j, rfl⟩ : ∃ j, k = j + 2 := ⟨k - 2, by omega⟩
      obtain ⟨x, hx⟩ := get_of_lt (l := l) (k := j + 1) (by omega)
      obtain ⟨y, hy⟩ := get_of_lt (l := l) (k := j) (by omega)
      have e1 : (((j + 2 : Nat) : Int) - 1) = ((j + 1 : Nat) : Int) := by omega
      have e2 : (((j + 1 : Nat) : Int) - 1) = (j : Int) := by omega
      have w1 : IntKind.i64.wrap (j : Int) = (j : Int) := wr _ (by omega)
      have i0 : ltI 0 ((j + 1 : Nat) : Int) = true := ltI_t (by omega)
      have i1 := ix_n hx
      have i3 := ix_n hy
      have i2 := map_get cmC hx
      have i4 := map_get cmC hy
      have hC := canonOrder_pc x y
      have hs := cOrd_step hx hy
      rw [show j + 2 - 1 = j + 1 from rfl] at q3
      rw [q3, Bool.and_true, ← ltOf_cf] at hs
      obtain ⟨v, hv⟩ : ∃ v, v = ((j + 1 : Nat) : Int) := ⟨_, rfl⟩
      unfold ltOf at hs
      unfold cmdA at hC
      simp only [cmC] at i2 i4 hC
      rw [e1]
      rw [← hv] at i0 i1 e2 ⊢
      (try simp only [i0, push_cast, simprocAttr])
      refine at_draw rfl (by kernel_rfl) ?_
      (try simp only [i1, i2, e2, w1, i3, i4, push_cast, simprocAttr])
      refine at_callD (by simp [clB, idsL, idsA, hget]) ?_
      (try simp only [push_cast, simprocAttr])
      refine rcd_v hC ?_
      (try simp only [push_cast, simprocAttr])
      refine at_done (by kernel_rfl) (by kernel_rfl) (go_on ?_)
      (try simp only [push_cast, simprocAttr])
      have hl2 : ltI (cfC x y) 0 = decide (cfC x y < 0) := by unfold ltI; rfl
      rw [← hl2] at hs
      refine at_b (fun hn => ?_) (fun hn => ?_)
      · rw [hn] at hs
        have := cOrd_pre l j hs
        (try simp only [hn, push_cast, simprocAttr])
        refine at_ret ?_; simp only [Tryz.results147, push_cast, simprocAttr]
        simp [vX, this]
      · have hn' : ltI (cfC x y) 0 = false := by simpa using hn
        rw [hn'] at hs
        (try simp only [hn', e2, w1, push_cast, simprocAttr])
        refine at_fin ⟨j + 1, ⟨by omega, fun h => by omega, by simpa using hs⟩, by omega, ?_⟩
        (refine wk_ok ?_ ?_ ?_ ?_ <;> simp [e2, show ((j + 1 : Nat) : Int) - 1 = (j : Int) by omega, leL, leH, idsL, idsA, idsR, inH, hget, sameRow, upA, hvA, dsts, dstO, setA_0, setA_1, setA_8, List.append, List.cons_append, List.nil_append])
    · have i0 : ltI 0 ((k : Int) - 1) = false := ltI_f (by omega)
      (try simp only [i0, push_cast, simprocAttr])
      refine at_ret ?_; simp only [Tryz.results147, push_cast, simprocAttr]
      have : k - 1 = 0 := by omega
      rw [this] at q3
      simpa [vX] using q3
end Go.Proofs.YtjhbihooobingaaGreatDoor
/-
  Walks: impl.oneEach (a set of paths in a map of the call's own).
-/
namespace Go.Proofs.YtjhbihooobingaaGreatDoor
open Go Go.RowKit Go.Proofs
open Go.Maps (Keyed)
theorem und9 : Tryz.prog.underlying 9 = some .string := by kernel_rfl
theorem und4 : Tryz.prog.underlying 4 = some .bool := by kernel_rfl
theorem und136 : Tryz.prog.underlying 161 = some (.map 9 4) := by kernel_rfl
theorem keyed9 : Keyed Tryz.prog 9 := Maps.string_keyed und9
theorem zero4 (w : World) : (zeroValue 4).run Tryz.prog w = .ok (.bool false) w := by kernel_rfl
theorem key9 (s : Str) (h : s.length ≤ maxLen) : keyOf Tryz.prog 9 (sV s) = some (.string s) := by
  have := WideMaps.keyOf_string_mk und9 (s := ⟨s.toArray⟩) (by simpa [ByteArray.size] using h)
  simpa using this
theorem plainElem_bool_inv {v : Value} {z : DataW Unit × List MemPlace} (h : plainElem Tryz.prog 4 v = some z) : ∃ x, v = .bool x ∧ z = (.lit (.bool x), []) := by
  unfold plainElem at h
  rw [und4] at h
  cases v <;> simp at h
  exact ⟨_, rfl, h.symm⟩
theorem C.v_inv' {lv : Nat → Prop} {lo : Nat} {w : World} {x u : Value} (h : C lv lo w (.v x) u) : u = x := by
  cases h; rfl
/-- The map's datum says which paths the list has. -/
def Seen (D : DataW Unit) (l : List Cm) : Prop := ∀ s : Str, D.atKey (.string s) (.lit (.bool false)) = .lit (.bool (l.any fun c => decide (c.p = s)))
theorem Seen.nil : Seen (.map []) [] := fun s => rfl
theorem Seen.put {D : DataW Unit} {l : List Cm} (h : Seen D l) (hm : Maps.IsMap D) (c : Cm) : Seen (D.put (.string c.p) (.lit (.bool true))) (l ++ [c]) := fun s => by
  by_cases e : c.p = s
  · subst e
    rw [Maps.atKey_put_same hm (by simp [WideAt.IsKeyLit])]
    simp
  · rw [Maps.atKey_put_other (by simpa using fun h => e h.symm), h s]
    simp [e]
theorem cmA_rd {fb : Nat → Prop} {w : World} {v : Value} {l : List Cm} (h : C fb 0 w (cmA l) v) : ∃ A cap, v = .slice A l.length cap ∧
    ∀ (k : Nat) c, l[k]? = some c → ∃ b off, A = some ⟨b, off, none⟩ ∧ b < w.heap.size ∧ w.cell? ⟨b, off + k * 5, none⟩ = some (sV c.p) ∧ w.cell? ⟨b, off + k * 5 + 1, none⟩ = some (.int .i64 c.a.k) ∧ w.cell? ⟨b, off + k * 5 + 2, none⟩ = some (.int .i64 c.a.v) ∧ w.cell? ⟨b, off + k * 5 + 3, none⟩ = some (.int .i64 c.b.k) ∧ w.cell? ⟨b, off + k * 5 + 4, none⟩ = some (.int .i64 c.b.v) := by
  generalize hs : (cmA l) = x at h
  cases h with
  | any => cases hs
  | v => cases hs
  | ip => cases hs
  | fn => cases hs
  | agg => cases hs
  | tup => cases hs
  | @sl sz es A cap xs u hr hlv hc hm hl hx hg =>
    cases hs
    refine ⟨A, cap, by simp, fun k c hk => ?_⟩
    obtain ⟨b, off, hA, _, hb, hcell⟩ := hr.2 (by have := lt_of_some hk; simp; omega)
    refine ⟨b, off, hA, hb, ?_⟩
    have he : (l.map cmC)[k]? = some (cmC c) := by rw [List.getElem?_map, hk]; rfl
    have hj : ∀ j, j < 5 → w.cell? ⟨b, off + (k * 5 + j), none⟩ = some ((encC c)[j]!) := fun j hj => by
      have g1 := (hx k _ j he (by simp [cmC]; omega)).1
      have g2 := hg k _ j _ he (encC_get c j hj)
      rw [g2.v_inv'] at g1
      exact hcell _ _ g1
    exact ⟨hj 0 (by omega), hj 1 (by omega), hj 2 (by omega), hj 3 (by omega), hj 4 (by omega)⟩
theorem one1_snoc {l : List Cm} {k : Nat} {c : Cm} (hk : l[k]? = some c) (h : one1 (l.take k) = true) (hn : ((l.take k).any fun d => decide (d.p = c.p)) = false) : one1 (l.take (k + 1)) = true := by
  rw [List.take_add_one, hk]
  rw [one1_iff] at *
  simp only [Option.toList, List.map_append, List.map_cons, List.map_nil]
  rw [List.nodup_append]
  refine ⟨h, by simp, fun a ha b hb => ?_⟩
  simp only [List.mem_singleton] at hb
  subst hb
  rw [List.any_eq_false] at hn
  obtain ⟨d, hd, rfl⟩ := List.mem_map.1 ha
  simpa using hn d hd
theorem one1_hit {l : List Cm} {k : Nat} {c : Cm} (hk : l[k]? = some c) (hn : ((l.take k).any fun d => decide (d.p = c.p)) = true) : one1 l = false := by
  cases h : one1 l with
  | false => rfl
  | true =>
    rw [List.any_eq_true] at hn
    obtain ⟨d, hd, he⟩ := hn
    obtain ⟨j, hj, hjd⟩ := List.mem_take_iff_getElem.1 hd
    rw [one1_iff] at h
    have hlt := lt_of_some hk
    have h1 : j < l.length := by omega
    have hke : l[k] = c := by rw [List.getElem?_eq_getElem hlt] at hk; exact Option.some.inj hk
    have := List.pairwise_iff_getElem.1 h j k (by simpa using h1) (by simpa using hlt) (by omega)
    refine absurd ?_ this
    simp only [List.getElem_map]
    rw [hjd, hke]
    simpa using he
set_option maxRecDepth 100000
set_option maxHeartbeats 1000000
theorem oneEach_c (l : List Cm) (hl : SmL l) (A : Option Addr) (cap : Nat) (w : World)
    (hcell : ∀ (k : Nat) c, l[k]? = some c → ∃ b off, A = some ⟨b, off, none⟩ ∧ b < w.heap.size ∧ w.cell? ⟨b, off + k * 5, none⟩ = some (sV c.p) ∧ w.cell? ⟨b, off + k * 5 + 1, none⟩ = some (.int .i64 c.a.k) ∧ w.cell? ⟨b, off + k * 5 + 2, none⟩ = some (.int .i64 c.a.v) ∧ w.cell? ⟨b, off + k * 5 + 3, none⟩ = some (.int .i64 c.b.k) ∧ w.cell? ⟨b, off + k * 5 + 4, none⟩ = some (.int .i64 c.b.v)) :
    Calls Tryz.prog 146 #[.slice A l.length cap] w fun e w' => e = .returned (.bool (one1 l)) ∧ Below w.heap.size w w' := by
  have hmm := @run_makeMap Tryz.prog
  have hln := hl.n
  go_enter Tryz.func146, Tryz.ntmps146
  go_wp2
  go_loopw [9] (fun i wr => ∃ (k : Nat) (D : DataW Unit), k ≤ l.length ∧ i = .int .i64 k ∧ wr.ownsMap Tryz.prog 9 (plainElem Tryz.prog 4) w.heap.size k D ∧ Seen D (l.take k) ∧ one1 (l.take k) = true ∧ Below w.heap.size w wr)
    (fun i _ => l.length - (intOf i).toNat)
  case atStart => exact ⟨0, _, Nat.zero_le _, rfl, World.ownsMap_made _ _ _ _, Seen.nil, rfl, (Below.refl _ _).alloc (Nat.le_refl _) _⟩
  case round =>
    obtain ⟨k, D, hk, rfl, hown, hseen, hone, hnx⟩ := hrel
    by_cases hlt : k < l.length
    · obtain ⟨c, hc⟩ := get_of_lt hlt
      obtain ⟨b, off, rfl, hb, c0, c1, c2, c3, c4⟩ := hcell k c hc
      have hcc : ∀ x, b < w.heap.size → wr.cell? ⟨b, x, none⟩ = w.cell? ⟨b, x, none⟩ := fun x h => hnx.cell h
      rw [← hcc _ hb] at c0 c1 c2 c3 c4
      have hp := hl.p c (mem_of_get hc)
      have hkey : keyOf Tryz.prog 9 (sV c.p) = some (.string c.p) := key9 _ (by unfold maxLen; omega)
      have hown2 := (hown.alloc (.cells #[.string ⟨c.p.toArray⟩, .int .i64 c.a.k, .int .i64 c.a.v, .int .i64 c.b.k, .int .i64 c.b.v] 36))
      have hnx2 := hnx.alloc (Nat.le_of_lt hown.lt) (.cells #[.string ⟨c.p.toArray⟩, .int .i64 c.a.k, .int .i64 c.a.v, .int .i64 c.b.k, .int .i64 c.b.v] 36)
      obtain ⟨v, ps, hrun, hRv⟩ := hown2.lookup keyed9 und136 (zero4 _) (plainElem_bool und4 false) hkey
      obtain ⟨x, rfl, hx⟩ := plainElem_bool_inv hRv
      have hx' : x = (l.take k).any fun d => decide (d.p = c.p) := by
        have := hseen c.p
        rw [(Prod.mk.inj hx).1] at this
        simpa using this
      clear hx hRv
      have HC := Lib.hid hc
      have HO := Lib.hid hone
      have HS := Lib.hid hseen
      have HX := Lib.hid hx'
      clear hc hone hseen hx'
      cases x with
      | true =>
        go_wp2_with fail
        go_ret
        exact ⟨ret_bool (one1_hit HC.out HX.out.symm).symm, hnx2⟩
      | false =>
        go_wp2_with (first
          | (at_mapUpdate; refine wpList_mapUpdate_own _ rfl _ _ _ 161 rfl 9 4 keyed9 und136 _ w.heap.size k _ rfl hown2 (by unfold maxLen; omega) _ _ _ rfl rfl hkey _ [] (plainElem_bool und4 true) ?_)
          | go_in)
        intro w1 hown3 hgrow
        have hnx3 := hnx2.grown hgrow hnx2.size (fun j hj => by cases hj; exact Nat.le_refl _)
        have hs3 : Seen (D.put (.string c.p) (.lit (.bool true))) (l.take (k + 1)) := by
          rw [List.take_add_one, HC.out]
          exact HS.out.put hown.isMap c
        have ho3 := one1_snoc HC.out HO.out HX.out.symm
        clear hgrow hrun hown hown2 hnx hnx2
        have HN := Lib.hid hnx3
        have HW := Lib.hid hown3
        clear hnx3 hown3
        go_wp2_with fail
        go_roundw
        case rel => exact ⟨k + 1, _, by omega, by go_num, HW.out, hs3, ho3, HN.out⟩
        case measure => simp [intOf]; omega
    · go_wp2_with fail
      go_ret
      have : l.take k = l := List.take_of_length_le (by omega)
      rw [this] at hone
      exact ⟨ret_bool hone.symm, hnx⟩
theorem res_v (fb : Nat → Prop) (base : Nat) (w : World) (x : Value) : Res fb base w [] (.v x) x :=
  ⟨⟨fun _ => none, fb⟩, rfl, .cl .v, fun r row h => by simp [hpOf, hget] at h, fun r r' row row' b c c' h => by simp [hpOf, hget] at h, fun r row b c h => by simp [hpOf, hget] at h⟩
theorem oneEach_pc (l : List Cm) (hl : SmL l) : PC Tryz.prog 146 [cmA l] (vB (one1 l)) := by
  refine ⟨fun vs W => enters_of Tryz.func146 (by kernel_rfl) rfl vs W, fun w fb vs hlw hs hg => ?_⟩
  obtain ⟨A, cap, hv, hcell⟩ := cmA_rd (hg 0 _ rfl)
  have hvs : vs = #[vs.getD 0 undef] := by
    apply Array.ext
    · simpa using hs
    · intro i h1 h2
      have : i = 0 := by simp at h2; omega
      subst this
      simp [Array.getD, h1]
  rw [hvs, hv]
  refine (oneEach_c l hl A cap w hcell).mono ?_
  rintro e w' ⟨rfl, hb⟩
  exact ⟨.v (.bool (one1 l)), [], _, ⟨rfl, rfl⟩, rfl, hb, res_v _ _ _ _⟩
end Go.Proofs.YtjhbihooobingaaGreatDoor
/-
  Walks: CanonValid, pick, SafeOf, LeftOf.
-/
namespace Go.Proofs.YtjhbihooobingaaGreatDoor
open Go Go.RowKit Go.Proofs
attribute [local irreducible] RWp AW run kPe pe Kt effA gd gu br retR RDp runD kPeD brW gW effD
set_option maxRecDepth 100000
theorem CanonValid_pc (l : List Cm) (hl : SmL l) : PC Tryz.prog 102 [cmA l] (vB (canonV l)) := by
  have h1 := LogValid_pc l hl
  have h2 := oneEach_pc l hl
  have h3 := IsSortedC_pc l (by have := hl.n; omega)
  have e : canonV l = (lV l && one1 l && cOrd l) := rfl
  refine pc_enter Tryz.func102 rfl rfl fun w0 fb => go_on ?_; (try simp only [Tryz.ntmps102, push_cast, simprocAttr])
  repeat' first | (refine at_b (fun hb => ?_) (fun hb => ?_) <;> simp only [hb, push_cast, simprocAttr]) | (refine at_ret ?_; simp only [Tryz.results102, push_cast, simprocAttr]) | (refine at_call ?_; (try simp only [push_cast, simprocAttr]); refine rwc_v (by first | exact h1 | exact h2 | exact h3) (go_on ?_); simp only [push_cast, simprocAttr]) | (show RWp _ _ _ _ _; simp only [push_cast, simprocAttr])
  all_goals simp [vX, e, *]
theorem SafeOf1_pc (a : List Cm) (ha : SmL a) (c : Cm) (hc : c.p.length < 4294967285) : PC Tryz.prog 149 [cmdA c, .ip [cmA a]] (vB (!decide (c ∈ a) && !disp a c)) := by
  have h1 := ContainsC_pc a (by have := ha.n; omega) c
  have h2 := disputed_pc c a hc ha
  unfold cmdA cmC at *
  refine pc_enter Tryz.func149 rfl rfl fun w0 fb => go_on ?_; (try simp only [Tryz.ntmps149, push_cast, simprocAttr])
  repeat' first | (refine at_b (fun hb => ?_) (fun hb => ?_) <;> simp only [hb, push_cast, simprocAttr]) | (refine at_ret ?_; simp only [Tryz.results149, push_cast, simprocAttr]) | (refine at_call ?_; (try simp only [push_cast, simprocAttr]); refine rwc_v (by first | exact h1 | exact h2) (go_on ?_); simp only [push_cast, simprocAttr]) | (show RWp _ _ _ _ _; simp only [push_cast, simprocAttr])
  all_goals simp [vX, *]
theorem LeftOf1_pc (b : List Cm) (hb : SmL b) (c : Cm) (hc : c.p.length < 4294967285) : PC Tryz.prog 112 [cmdA c, .ip [cmA b]] (vB (disp b c)) := by
  have h2 := disputed_pc c b hc hb
  unfold cmdA cmC at *
  refine pc_enter Tryz.func112 rfl rfl fun w0 fb => go_on ?_; (try simp only [Tryz.ntmps112, push_cast, simprocAttr])
  repeat' first | (refine at_b (fun hb => ?_) (fun hb => ?_) <;> simp only [hb, push_cast, simprocAttr]) | (refine at_ret ?_; simp only [Tryz.results112, push_cast, simprocAttr]) | (refine at_call ?_; (try simp only [push_cast, simprocAttr]); refine rwc_v (by first | exact h2) (go_on ?_); simp only [push_cast, simprocAttr]) | (show RWp _ _ _ _ _; simp only [push_cast, simprocAttr])
  all_goals simp [vX, *]
def pck (a b l : List Cm) (p : Cm → Bool) : List Cm := if canonV a && canonV b then l.filter p else []
theorem pick_pc (a b l x : List Cm) (ha : SmL a) (hb : SmL b) (hl : SmL l) (g : FuncId) (p : Cm → Bool) (hp : ∀ c ∈ l, PC Tryz.prog g [cmdA c, .ip [cmA x]] (vB (p c))) :
    PC Tryz.prog 111 [cmA a, cmA b, cmA l, .fn g [.ip [cmA x]]] (rX (.o 0 (pck a b l p).length) [rowC (pck a b l p)]) := by
  have hA := CanonValid_pc a ha
  have hB := CanonValid_pc b hb
  have hln := hl.n
  refine pc_enter Tryz.func111 rfl rfl fun w0 fb => go_on ?_; (try simp only [Tryz.ntmps111, push_cast, simprocAttr])
  refine at_call ?_
  (try simp only [push_cast, simprocAttr])
  refine rwc_v hA ?_
  (try simp only [push_cast, simprocAttr])
  (refine at_dropS [8] (by refine wk_ok ?_ ?_ ?_ ?_ <;> simp [dropS, dropT, hasN, delL, hdel, leL, leH, idsL, idsA, idsR, inH, hget, sameRow]) ?_; simp only [dropS, dropT, hasN, delL, hdel, idsA, idsL, hget, List.map_cons, List.map_nil, List.all_cons, List.all_nil, List.append_nil, Bool.not_false, Bool.not_true, Bool.and_true, if_true, if_false, simprocAttr])
  refine go_on ?_
  (try simp only [push_cast, simprocAttr])
  cases e1 : canonV a with
  | false =>
    have e : pck a b l p = [] := by simp [pck, e1]
    (try simp only [e1, Bool.not_false, push_cast, simprocAttr])
    refine at_ret ?_; simp only [Tryz.results111, push_cast, simprocAttr]
    simp [rX, e, ixOf]
  | true =>
  (try simp only [e1, Bool.not_true, push_cast, simprocAttr])
  cases e2 : canonV b with
  | false =>
    rw [e2] at hB
    have e : pck a b l p = [] := by simp [pck, e2]
    (refine at_call ?_; (try simp only [push_cast, simprocAttr]); refine rwc_v (hB) (go_on ?_); (try simp only [Bool.not_false, push_cast, simprocAttr]))
    refine at_ret ?_; simp only [Tryz.results111, push_cast, simprocAttr]
    simp [rX, e, ixOf]
  | true =>
  rw [e2] at hB
  (refine at_call ?_; (try simp only [push_cast, simprocAttr]); refine rwc_v (hB) (go_on ?_); (try simp only [Bool.not_true, push_cast, simprocAttr]))
  have e : pck a b l p = l.filter p := by simp [pck, e1, e2]
  rw [e]
  refine at_loop (X := Nat × List Cm) (fun x => [(8, .any), (9, .o 9 x.2.length), (22, iA x.1)]) (fun x => [(9, rowC x.2)])
    (fun x => x.1 ≤ l.length ∧ x.2 = (l.take x.1).filter p) (fun x => l.length - x.1) (0, []) ⟨Nat.zero_le _, rfl⟩ ?_ ?_
  · (refine wk_ok ?_ ?_ ?_ ?_ <;> simp [rowC, leL, leH, idsL, idsA, idsR, inH, hget, sameRow, upA, hvA, dsts, dstO, setA_0, setA_1, setA_8, List.append, List.cons_append, List.nil_append])
  · rintro ⟨i, o⟩ ⟨q1, q2⟩
    simp only at q1 q2
    simp only [upA, hvA, dsts, dstO, setA_0, setA_1, setA_8, List.append, List.cons_append, List.nil_append]
    refine go_on ?_
    (try simp only [push_cast, simprocAttr])
    have w1 : IntKind.i64.wrap ((i : Int) + 1) = (i : Int) + 1 := wr _ (by omega)
    have hol : o.length ≤ i := by rw [q2]; exact Nat.le_trans (List.length_filter_le _ _) (by simp; omega)
    by_cases hi : i < l.length
    · obtain ⟨c, hc⟩ := get_of_lt hi
      have i0 : ltI (i : Int) l.length = true := ltI_t (by omega)
      have i1 := ix_n hc
      have i2 := map_get cmC hc
      have hP := hp c (mem_of_get hc)
      unfold cmdA at hP
      simp only [cmC] at i2 hP
      (try simp only [i0, i1, i2, push_cast, simprocAttr])
      (refine at_call ?_; (try simp only [push_cast, simprocAttr]); refine rwc_v (hP) (go_on ?_); (try simp only [push_cast, simprocAttr]))
      have hq : (l.take (i + 1)).filter p = o ++ (if p c then [c] else []) := by
        rw [List.take_add_one, hc, List.filter_append, ← q2]
        cases hpc : p c <;> simp [hpc]
      cases hpc : p c with
      | true =>
        rw [hpc, if_pos rfl] at hq
        have happ : o.map cmC ++ [[sA c.p, iA c.a.k, iA c.a.v, iA c.b.k, iA c.b.v]] = (o ++ [c]).map cmC := by rw [List.map_append]; rfl
        (try simp only [hpc, rowC, push_cast, simprocAttr])
        refine at_chk (by omega) ?_
        (try simp only [happ, rowC, w1, push_cast, simprocAttr])
        refine at_fin ⟨(i + 1, o ++ [c]), ⟨by dsimp only; omega, hq.symm⟩, by dsimp only; omega, ?_⟩
        (refine wk_ok ?_ ?_ ?_ ?_ <;> simp [rowC, cmC, leL, leH, idsL, idsA, idsR, inH, hget, sameRow, upA, hvA, dsts, dstO, setA_0, setA_1, setA_8, List.append, List.cons_append, List.nil_append])
      | false =>
        rw [hpc, if_neg (by simp), List.append_nil] at hq
        (try simp only [hpc, w1, push_cast, simprocAttr])
        refine at_fin ⟨(i + 1, o), ⟨by dsimp only; omega, hq.symm⟩, by dsimp only; omega, ?_⟩
        (refine wk_ok ?_ ?_ ?_ ?_ <;> simp [rowC, cmC, leL, leH, idsL, idsA, idsR, inH, hget, sameRow, upA, hvA, dsts, dstO, setA_0, setA_1, setA_8, List.append, List.cons_append, List.nil_append])
    · have i0 : ltI (i : Int) l.length = false := ltI_f (by omega)
      rw [List.take_of_length_le (by omega)] at q2
      (try simp only [i0, push_cast, simprocAttr])
      refine at_ret ?_; simp only [Tryz.results111, push_cast, simprocAttr]
      simp [rX, ← q2, ixOf]
theorem SafeOf_pc (a b : List Cm) (ha : SmL a) (hb : SmL b) : PC Tryz.prog 105 [cmA a, cmA b] (rX (.o 0 (safeOf a b).length) [rowC (safeOf a b)]) := by
  have hP := pick_pc a b b a ha hb hb 149 _ (fun c hc => SafeOf1_pc a ha c (by have := hb.p c hc; omega))
  refine pc_enter Tryz.func105 rfl rfl fun w0 fb => go_on ?_; (try simp only [Tryz.ntmps105, push_cast, simprocAttr])
  (refine at_call ?_; (try simp only [push_cast, simprocAttr]); refine rwc_r (hP) rfl (flat_c _) (by simp [frB, baseOf]) (go_on ?_); (try simp only [push_cast, simprocAttr]))
  refine at_ret ?_; simp only [Tryz.results105, push_cast, simprocAttr]
  simp [rX, safeOf, pck, ixOf]
theorem LeftOf_pc (a b : List Cm) (ha : SmL a) (hb : SmL b) : PC Tryz.prog 73 [cmA a, cmA b] (rX (.o 0 (leftOf a b).length) [rowC (leftOf a b)]) := by
  have hP := pick_pc a b a b ha hb ha 112 _ (fun c hc => LeftOf1_pc b hb c (by have := ha.p c hc; omega))
  refine pc_enter Tryz.func73 rfl rfl fun w0 fb => go_on ?_; (try simp only [Tryz.ntmps73, push_cast, simprocAttr])
  (refine at_call ?_; (try simp only [push_cast, simprocAttr]); refine rwc_r (hP) rfl (flat_c _) (by simp [frB, baseOf]) (go_on ?_); (try simp only [push_cast, simprocAttr]))
  refine at_ret ?_; simp only [Tryz.results73, push_cast, simprocAttr]
  simp [rX, leftOf, pck, ixOf]
end Go.Proofs.YtjhbihooobingaaGreatDoor
/-
  Walks: ClashesOf, PairFits, all, meet, same.
-/
namespace Go.Proofs.YtjhbihooobingaaGreatDoor
open Go Go.RowKit Go.Proofs
def pC (p : Int × Int) : List AV := [iA p.1, iA p.2]
abbrev rowP (l : List (Int × Int)) : Row := ⟨107, 2, l.map pC, true⟩
abbrev pA (l : List (Int × Int)) : AV := .sl 2 (l.map pC)
theorem canonV_le {l : List Cm} (h : canonV l = true) : l.length ≤ 20 := by
  unfold canonV at h
  simp only [Bool.and_eq_true] at h
  exact lV_len h.1.1
attribute [local irreducible] RWp AW run kPe pe Kt effA gd gu br retR RDp runD kPeD brW gW effD
set_option maxRecDepth 100000
theorem ClashesOf_pc (a b : List Cm) (ha : SmL a) (hb : SmL b) : PC Tryz.prog 70 [cmA a, cmA b] (rX (.o 0 (clOf a b).length) [rowP (clOf a b)]) := by
  have hA := CanonValid_pc a ha
  have hB := CanonValid_pc b hb
  refine pc_enter Tryz.func70 rfl rfl fun w0 fb => go_on ?_; (try simp only [Tryz.ntmps70, push_cast, simprocAttr])
  refine at_call ?_
  (try simp only [push_cast, simprocAttr])
  refine rwc_v hA ?_
  (try simp only [push_cast, simprocAttr])
  (refine at_dropS [4] (by refine wk_ok ?_ ?_ ?_ ?_ <;> simp [dropS, dropT, hasN, delL, hdel, leL, leH, idsL, idsA, idsR, inH, hget, sameRow]) ?_; simp only [dropS, dropT, hasN, delL, hdel, idsA, idsL, hget, List.map_cons, List.map_nil, List.all_cons, List.all_nil, List.append_nil, Bool.not_false, Bool.not_true, Bool.and_true, if_true, if_false, simprocAttr])
  refine go_on ?_
  (try simp only [push_cast, simprocAttr])
  cases e1 : canonV a with
  | false =>
    have e : clOf a b = [] := by simp [clOf, e1]
    (try simp only [e1, Bool.not_false, push_cast, simprocAttr])
    refine at_ret ?_; simp only [Tryz.results70, push_cast, simprocAttr]
    simp [rX, e, ixOf]
  | true =>
  (try simp only [e1, Bool.not_true, push_cast, simprocAttr])
  cases e2 : canonV b with
  | false =>
    rw [e2] at hB
    have e : clOf a b = [] := by simp [clOf, e2]
    (refine at_call ?_; (try simp only [push_cast, simprocAttr]); refine rwc_v (hB) (go_on ?_); (try simp only [Bool.not_false, push_cast, simprocAttr]))
    refine at_ret ?_; simp only [Tryz.results70, push_cast, simprocAttr]
    simp [rX, e, ixOf]
  | true =>
  rw [e2] at hB
  (refine at_call ?_; (try simp only [push_cast, simprocAttr]); refine rwc_v (hB) (go_on ?_); (try simp only [Bool.not_true, push_cast, simprocAttr]))
  have e : clOf a b = clAll b 0 a := by simp [clOf, e1, e2]
  have hla := canonV_le e1
  have hlb := canonV_le e2
  rw [e]
  refine at_loop (X := Nat × List (Int × Int)) (fun x => [(4, .any), (5, .o 5 x.2.length), (20, iA x.1)]) (fun x => [(5, rowP x.2)])
    (fun x => x.1 ≤ a.length ∧ x.2.length ≤ x.1 * 20 ∧ clAll b 0 a = x.2 ++ clAll b x.1 (a.drop x.1)) (fun x => a.length - x.1) (0, []) ⟨Nat.zero_le _, Nat.zero_le _, rfl⟩ ?_ ?_
  · (refine wk_ok ?_ ?_ ?_ ?_ <;> simp [rowP, leL, leH, idsL, idsA, idsR, inH, hget, sameRow, upA, hvA, dsts, dstO, setA_0, setA_1, setA_8, List.append, List.cons_append, List.nil_append])
  · rintro ⟨i, o⟩ ⟨q1, q2, q3⟩
    simp only at q1 q2 q3
    simp only [upA, hvA, dsts, dstO, setA_0, setA_1, setA_8, List.append, List.cons_append, List.nil_append]
    refine go_on ?_
    (try simp only [push_cast, simprocAttr])
    have w1 : IntKind.i64.wrap ((i : Int) + 1) = (i : Int) + 1 := wr _ (by omega)
    by_cases hi : i < a.length
    · obtain ⟨c, hc⟩ := get_of_lt hi
      have i0 : ltI (i : Int) a.length = true := ltI_t (by omega)
      have i1 := ix_n hc
      have i2 := map_get cmC hc
      simp only [cmC] at i2
      rw [drop_of_get hc] at q3
      simp only [clAll] at q3
      (try simp only [i0, i1, i2, push_cast, simprocAttr])
      refine at_loop (X := Nat × List (Int × Int)) (fun x => [(5, .o 5 x.2.length), (27, iA x.1)]) (fun x => [(5, rowP x.2), (7, ⟨36, 5, [cmC c], true⟩)])
        (fun x => x.1 ≤ b.length ∧ x.2.length ≤ i * 20 + x.1 ∧ o ++ clRow i c 0 b = x.2 ++ clRow i c x.1 (b.drop x.1)) (fun x => b.length - x.1) (0, o) ⟨Nat.zero_le _, by omega, rfl⟩ ?_ ?_
      · (refine wk_ok ?_ ?_ ?_ ?_ <;> simp [rowP, cmC, leL, leH, idsL, idsA, idsR, inH, hget, sameRow, upA, hvA, dsts, dstO, setA_0, setA_1, setA_8, List.append, List.cons_append, List.nil_append])
      · rintro ⟨k, u⟩ ⟨r1, r2, r3⟩
        simp only at r1 r2 r3
        simp only [upA, hvA, dsts, dstO, setA_0, setA_1, setA_8, List.append, List.cons_append, List.nil_append]
        refine go_on ?_
        (try simp only [push_cast, simprocAttr])
        have w2 : IntKind.i64.wrap ((k : Int) + 1) = (k : Int) + 1 := wr _ (by omega)
        by_cases hk : k < b.length
        · obtain ⟨d, hd⟩ := get_of_lt hk
          have k0 : ltI (k : Int) b.length = true := ltI_t (by omega)
          have k1 := ix_n hd
          have k2 := map_get cmC hd
          have hX := clashes_pc c d (by have := ha.p c (mem_of_get hc); omega) (by have := hb.p d (mem_of_get hd); omega)
          unfold cmdA at hX
          simp only [cmC] at k2 hX
          rw [drop_of_get hd] at r3
          simp only [clRow] at r3
          (try simp only [k0, k1, k2, push_cast, simprocAttr])
          (refine at_call ?_; (try simp only [push_cast, simprocAttr]); refine rwc_v (hX) (go_on ?_); (try simp only [push_cast, simprocAttr]))
          cases hcl : clash c d with
          | true =>
            rw [hcl, if_pos rfl] at r3
            have happ : u.map pC ++ [[iA i, iA k]] = (u ++ [((i : Int), (k : Int))]).map pC := by rw [List.map_append]; rfl
            (try simp only [hcl, rowP, push_cast, simprocAttr])
            refine at_chk (by omega) ?_
            (try simp only [happ, rowP, w2, push_cast, simprocAttr])
            refine at_fin ⟨(k + 1, u ++ [((i : Int), (k : Int))]), ⟨by dsimp only; omega, by simp; omega, by simpa using r3⟩, by dsimp only; omega, ?_⟩
            (refine wk_ok ?_ ?_ ?_ ?_ <;> simp [rowP, cmC, pC, leL, leH, idsL, idsA, idsR, inH, hget, sameRow, upA, hvA, dsts, dstO, setA_0, setA_1, setA_8, List.append, List.cons_append, List.nil_append])
          | false =>
            rw [hcl, if_neg (by simp)] at r3
            (try simp only [hcl, w2, push_cast, simprocAttr])
            refine at_fin ⟨(k + 1, u), ⟨by dsimp only; omega, by dsimp only; omega, by simpa using r3⟩, by dsimp only; omega, ?_⟩
            (refine wk_ok ?_ ?_ ?_ ?_ <;> simp [rowP, cmC, pC, leL, leH, idsL, idsA, idsR, inH, hget, sameRow, upA, hvA, dsts, dstO, setA_0, setA_1, setA_8, List.append, List.cons_append, List.nil_append])
        · have k0 : ltI (k : Int) b.length = false := ltI_f (by omega)
          rw [List.drop_of_length_le (by omega)] at r3
          simp only [clRow, List.append_nil] at r3
          rw [← List.append_assoc, r3] at q3
          (try simp only [k0, w1, push_cast, simprocAttr])
          refine at_fin ⟨(i + 1, u), ⟨by dsimp only; omega, by dsimp only; omega, by simpa using q3⟩, by dsimp only; omega, ?_⟩
          (refine wk_ok ?_ ?_ ?_ ?_ <;> simp [rowP, cmC, pC, leL, leH, idsL, idsA, idsR, inH, hget, sameRow, upA, hvA, dsts, dstO, setA_0, setA_1, setA_8, List.append, List.cons_append, List.nil_append])
    · have i0 : ltI (i : Int) a.length = false := ltI_f (by omega)
      rw [List.drop_of_length_le (by omega)] at q3
      simp only [clAll, List.append_nil] at q3
      (try simp only [i0, push_cast, simprocAttr])
      refine at_ret ?_; simp only [Tryz.results70, push_cast, simprocAttr]
      simp [rX, q3, ixOf]
end Go.Proofs.YtjhbihooobingaaGreatDoor
/-
  Walks: PairFits, all, PairTree, PairBase.
-/
namespace Go.Proofs.YtjhbihooobingaaGreatDoor
open Go Go.RowKit Go.Proofs
theorem pf_cv {t : List Nd} {a b : List Cm} (h : pairFits t a b = true) : canonV a = true ∧ canonV b = true := by
  unfold pairFits at h
  simp only [Bool.and_eq_true] at h
  exact ⟨h.1.1.1, h.1.1.2⟩
theorem safeOf_mem {a b : List Cm} {c : Cm} (h : c ∈ safeOf a b) : c ∈ b := by
  unfold safeOf at h
  split at h
  · exact (List.mem_filter.1 h).1
  · simp at h
theorem safeOf_len (a b : List Cm) : (safeOf a b).length ≤ b.length := by
  unfold safeOf
  split
  · exact List.length_filter_le _ _
  · simp
theorem sm_app {a b : List Cm} (ha : SmL a) (hb : SmL b) (h : a.length + b.length < 4294967280) : SmL (a ++ b) :=
  ⟨by simpa using h, fun c hc => (List.mem_append.1 hc).elim (ha.p c) (hb.p c)⟩
theorem sm_safe {a b : List Cm} (hb : SmL b) : SmL (safeOf a b) := ⟨by have := safeOf_len a b; have := hb.n; omega, fun c hc => hb.p c (safeOf_mem hc)⟩
def tbD (x : Option (List Nd)) : AV → List Row → Prop := rX (.tup [.o 0 (x.getD []).length, bA x.isSome]) [rowN (x.getD [])]
attribute [local irreducible] RWp AW run kPe pe Kt effA gd gu br retR RDp runD kPeD brW gW effD
set_option maxRecDepth 100000
theorem PairFits_pc (t : List Nd) (ht : SmT2 t) (a b : List Cm) (ha : SmL a) (hb : SmL b) : PC Tryz.prog 104 [ndA t, cmA a, cmA b] (vB (pairFits t a b)) := by
  have h1 := CanonValid_pc a ha
  have h2 := CanonValid_pc b hb
  have h3 := LogFits_pc t ht a ha
  have h4 := LogFits_pc t ht b hb
  have e : pairFits t a b = (canonV a && canonV b && fits t a && fits t b) := rfl
  refine pc_enter Tryz.func104 rfl rfl fun w0 fb => go_on ?_; (try simp only [Tryz.ntmps104, push_cast, simprocAttr])
  repeat' first | (refine at_b (fun hb => ?_) (fun hb => ?_) <;> simp only [hb, push_cast, simprocAttr]) | (refine at_ret ?_; simp only [Tryz.results104, push_cast, simprocAttr]) | (refine at_call ?_; (try simp only [push_cast, simprocAttr]); refine rwc_v (by first | exact h1 | exact h2 | exact h3 | exact h4) (go_on ?_); simp only [push_cast, simprocAttr]) | (show RWp _ _ _ _ _; simp only [push_cast, simprocAttr])
  all_goals simp [vX, e, *]
theorem all_pc (t : List Nd) (ht : SmT2 t) (l : List Cm) (hl : SmL l) : PC Tryz.prog 109 [ndA t, cmA l] (tbD (allC t l)) := by
  have hA := applyAll_pc l hl t ht
  have hsm := apAll_sm l t ht
  refine pc_enter Tryz.func109 rfl rfl fun w0 fb => go_on ?_; (try simp only [Tryz.ntmps109, push_cast, simprocAttr])
  (try simp only [push_cast, simprocAttr])
  refine at_share2 (by simp [isC2, isC]) (by first | rfl | simp [ren]) hA ?_
  (try simp only [push_cast, simprocAttr])
  (refine at_dropS [4] (by refine wk_ok ?_ ?_ ?_ ?_ <;> simp [dropS, dropT, hasN, delL, hdel, leL, leH, idsL, idsA, idsR, inH, hget, sameRow]) ?_; simp only [dropS, dropT, hasN, delL, hdel, idsA, idsL, hget, List.map_cons, List.map_nil, List.all_cons, List.all_nil, List.append_nil, Bool.not_false, Bool.not_true, Bool.and_true, if_true, if_false, simprocAttr])
  refine go_on ?_
  (try simp only [push_cast, simprocAttr])
  by_cases h : (apAll t l).2 = l.length
  · have i0 : ltI ((apAll t l).2 : Int) l.length = false := ltI_f (by omega)
    have e : allC t l = some (apAll t l).1 := by simp [allC, h]
    (try simp only [i0, push_cast, simprocAttr])
    (refine at_call ?_; (try simp only [push_cast, simprocAttr]); refine rwc_r (cloneTree_pc _ hsm.s.n) rfl (flat_n _) (by simp [frB, baseOf]) (go_on ?_); (try simp only [push_cast, simprocAttr]))
    refine at_ret ?_; simp only [Tryz.results109, push_cast, simprocAttr]
    simp [tbD, rX, e, ixOf]
  · have hle : (apAll t l).2 ≤ l.length := apAll_le _ _
    have i0 : ltI ((apAll t l).2 : Int) l.length = true := ltI_t (by omega)
    have e : allC t l = none := by simp [allC, h]
    (try simp only [i0, push_cast, simprocAttr])
    refine at_ret ?_; simp only [Tryz.results109, push_cast, simprocAttr]
    simp [tbD, rX, e, ixOf]
theorem PairTree_pc (t : List Nd) (ht : SmT2 t) (a b : List Cm) (ha : SmL a) (hb : SmL b) : PC Tryz.prog 72 [ndA t, cmA a, cmA b] (tbD (pairTree t a b)) := by
  have hF := PairFits_pc t ht a b ha hb
  refine pc_enter Tryz.func72 rfl rfl fun w0 fb => go_on ?_; (try simp only [Tryz.ntmps72, push_cast, simprocAttr])
  refine at_call ?_
  (try simp only [push_cast, simprocAttr])
  refine rwc_v hF ?_
  (try simp only [push_cast, simprocAttr])
  (refine at_dropS [6] (by refine wk_ok ?_ ?_ ?_ ?_ <;> simp [dropS, dropT, hasN, delL, hdel, leL, leH, idsL, idsA, idsR, inH, hget, sameRow]) ?_; simp only [dropS, dropT, hasN, delL, hdel, idsA, idsL, hget, List.map_cons, List.map_nil, List.all_cons, List.all_nil, List.append_nil, Bool.not_false, Bool.not_true, Bool.and_true, if_true, if_false, simprocAttr])
  refine go_on ?_
  (try simp only [push_cast, simprocAttr])
  cases hf : pairFits t a b with
  | false =>
    have e : pairTree t a b = none := by simp [pairTree, hf]
    (try simp only [hf, Bool.not_false, push_cast, simprocAttr])
    refine at_ret ?_; simp only [Tryz.results72, push_cast, simprocAttr]
    simp [tbD, rX, e, ixOf]
  | true =>
    have e : pairTree t a b = allC t (a ++ safeOf a b) := by simp [pairTree, hf]
    obtain ⟨hc1, hc2⟩ := pf_cv hf
    have h1 := canonV_le hc1
    have h2 := canonV_le hc2
    have h3 := safeOf_len a b
    have hS := SafeOf_pc a b ha hb
    have hA := all_pc t ht (a ++ safeOf a b) (sm_app ha (sm_safe hb) (by omega))
    unfold tbD at hA
    rw [show cmA (a ++ safeOf a b) = AV.sl 5 (a.map cmC ++ (safeOf a b).map cmC) from by simp] at hA
    (try simp only [hf, Bool.not_true, push_cast, simprocAttr])
    (refine at_call ?_; (try simp only [push_cast, simprocAttr]); refine rwc_r (cloneLog_pc a (by omega)) rfl (flat_c _) (by simp [frB, baseOf]) (go_on ?_); (try simp only [push_cast, simprocAttr]))
    (refine at_call ?_; (try simp only [push_cast, simprocAttr]); refine rwc_r (hS) rfl (flat_c _) (by simp [frB, baseOf]) (go_on ?_); (try simp only [push_cast, simprocAttr]))
    refine at_chk (by omega) ?_
    (try simp only [push_cast, simprocAttr])
    have hll : (a.map cmC ++ (safeOf a b).map cmC).length = a.length + (safeOf a b).length := by simp
    refine at_call ?_
    simp only [hll, push_cast, simprocAttr]
    refine rwc_r hA (by simp [flatV, flatL]) (flat_n _) (by simp [frB, baseOf]) (go_on ?_)
    (try simp only [push_cast, simprocAttr])
    refine at_ret ?_; simp only [Tryz.results72, push_cast, simprocAttr]
    simp [tbD, rX, e, ixOf]
theorem kept_len_le (a b : List Cm) : (kept a b).length ≤ a.length + b.length := by
  have h1 := safeOf_len a b
  have h2 := List.length_filter_le (fun c => !disp b c) a
  unfold kept
  simp only [List.length_append]
  omega
theorem sm_kept {a b : List Cm} (ha : SmL a) (hb : SmL b) (h : a.length + b.length < 4294967280) : SmL (kept a b) := by
  refine ⟨by have := kept_len_le a b; omega, fun c hc => ?_⟩
  unfold kept at hc
  rcases List.mem_append.1 hc with hc | hc
  · exact hb.p c (safeOf_mem hc)
  · exact ha.p c (List.mem_filter.1 hc).1
theorem PairBase_pc (t : List Nd) (ht : SmT2 t) (a b : List Cm) (ha : SmL a) (hb : SmL b) : PC Tryz.prog 71 [ndA t, cmA a, cmA b] (tbD (pairBase t a b)) := by
  have hF := PairFits_pc t ht a b ha hb
  refine pc_enter Tryz.func71 rfl rfl fun w0 fb => go_on ?_; (try simp only [Tryz.ntmps71, push_cast, simprocAttr])
  refine at_call ?_
  (try simp only [push_cast, simprocAttr])
  refine rwc_v hF ?_
  (try simp only [push_cast, simprocAttr])
  (refine at_dropS [6] (by refine wk_ok ?_ ?_ ?_ ?_ <;> simp [dropS, dropT, hasN, delL, hdel, leL, leH, idsL, idsA, idsR, inH, hget, sameRow]) ?_; simp only [dropS, dropT, hasN, delL, hdel, idsA, idsL, hget, List.map_cons, List.map_nil, List.all_cons, List.all_nil, List.append_nil, Bool.not_false, Bool.not_true, Bool.and_true, if_true, if_false, simprocAttr])
  refine go_on ?_
  (try simp only [push_cast, simprocAttr])
  cases hf : pairFits t a b with
  | false =>
    have e : pairBase t a b = none := by simp [pairBase, hf]
    (try simp only [hf, Bool.not_false, push_cast, simprocAttr])
    refine at_ret ?_; simp only [Tryz.results71, push_cast, simprocAttr]
    simp [tbD, rX, e, ixOf]
  | true =>
    obtain ⟨hc1, hc2⟩ := pf_cv hf
    have h1 := canonV_le hc1
    have h2 := canonV_le hc2
    have h3 := safeOf_len a b
    have hS := SafeOf_pc a b ha hb
    (try simp only [hf, Bool.not_true, push_cast, simprocAttr])
    (refine at_call ?_; (try simp only [push_cast, simprocAttr]); refine rwc_r (hS) rfl (flat_c _) (by simp [frB, baseOf]) (go_on ?_); (try simp only [push_cast, simprocAttr]))
    refine at_loop (X := Nat × List Cm) (fun x => [(18, .any), (8, .o 19000 x.2.length), (21, iA x.1)]) (fun x => [(19000, rowC x.2)])
      (fun x => x.1 ≤ a.length ∧ x.2 = safeOf a b ++ (a.take x.1).filter fun c => !disp b c) (fun x => a.length - x.1) (0, safeOf a b) ⟨Nat.zero_le _, by simp⟩ ?_ ?_
    · (refine wk_ok ?_ ?_ ?_ ?_ <;> simp [rowC, leL, leH, idsL, idsA, idsR, inH, hget, sameRow, upA, hvA, dsts, dstO, setA_0, setA_1, setA_8, List.append, List.cons_append, List.nil_append])
    · rintro ⟨i, o⟩ ⟨q1, q2⟩
      simp only at q1 q2
      simp only [upA, hvA, dsts, dstO, setA_0, setA_1, setA_8, List.append, List.cons_append, List.nil_append]
      refine go_on ?_
      (try simp only [push_cast, simprocAttr])
      have w1 : IntKind.i64.wrap ((i : Int) + 1) = (i : Int) + 1 := wr _ (by omega)
      have hol : o.length ≤ b.length + i := by
        have := List.length_filter_le (fun c => !disp b c) (a.take i)
        rw [q2]; simp only [List.length_append]; simp only [List.length_take] at this; omega
      by_cases hi : i < a.length
      · obtain ⟨c, hc⟩ := get_of_lt hi
        have i0 : ltI (i : Int) a.length = true := ltI_t (by omega)
        have i1 := ix_n hc
        have i2 := map_get cmC hc
        have hP := disputed_pc c b (by have := ha.p c (mem_of_get hc); omega) hb
        unfold cmdA at hP
        simp only [cmC] at i2 hP
        (try simp only [i0, i1, i2, push_cast, simprocAttr])
        (refine at_call ?_; (try simp only [push_cast, simprocAttr]); refine rwc_v (hP) (go_on ?_); (try simp only [push_cast, simprocAttr]))
        have hq : safeOf a b ++ (a.take (i + 1)).filter (fun c => !disp b c) = o ++ (if disp b c then [] else [c]) := by
          rw [List.take_add_one, hc, List.filter_append, q2, List.append_assoc]
          cases hpc : disp b c <;> simp [hpc]
        cases hpc : disp b c with
        | false =>
          rw [hpc, if_neg (by simp)] at hq
          have happ : o.map cmC ++ [[sA c.p, iA c.a.k, iA c.a.v, iA c.b.k, iA c.b.v]] = (o ++ [c]).map cmC := by rw [List.map_append]; rfl
          (try simp only [hpc, Bool.not_false, rowC, push_cast, simprocAttr])
          refine at_chk (by omega) ?_
          (try simp only [happ, rowC, w1, push_cast, simprocAttr])
          refine at_fin ⟨(i + 1, o ++ [c]), ⟨by dsimp only; omega, hq.symm⟩, by dsimp only; omega, ?_⟩
          (refine wk_ok ?_ ?_ ?_ ?_ <;> simp [rowC, cmC, leL, leH, idsL, idsA, idsR, inH, hget, sameRow, upA, hvA, dsts, dstO, setA_0, setA_1, setA_8, List.append, List.cons_append, List.nil_append])
        | true =>
          rw [hpc, if_pos rfl, List.append_nil] at hq
          (try simp only [hpc, Bool.not_true, w1, push_cast, simprocAttr])
          refine at_fin ⟨(i + 1, o), ⟨by dsimp only; omega, hq.symm⟩, by dsimp only; omega, ?_⟩
          (refine wk_ok ?_ ?_ ?_ ?_ <;> simp [rowC, cmC, leL, leH, idsL, idsA, idsR, inH, hget, sameRow, upA, hvA, dsts, dstO, setA_0, setA_1, setA_8, List.append, List.cons_append, List.nil_append])
      · have i0 : ltI (i : Int) a.length = false := ltI_f (by omega)
        rw [List.take_of_length_le (by omega)] at q2
        have hk : o = kept a b := q2
        by_cases h20 : o.length ≤ 20
        · have g0 : ltI 20 (o.length : Int) = false := ltI_f (by omega)
          obtain ⟨ta, tb, hpf⟩ := (pairFits_iff t a b).1 hf
          have hone := kept_one hpf
          rw [← hk] at hone
          have e : pairBase t a b = allC t (cSort o) := by
            unfold pairBase
            rw [hf, ← hk]
            simp [h20]
          have hSo := SortC_pcl o (by omega)
          (try simp only [i0, g0, push_cast, simprocAttr])
          (try simp only [push_cast, simprocAttr]); refine call_lend [19000] none (lr := [rowC o]) (by simp [ndB]) (by first | rfl | simp [rowsOf, hget, rdR, rowS, rowN, rowC, sC, ndC, cmC]) (by simp [idsL, idsA]) (by simp [mvN]) (by simpa [rnA, ixOf] using hSo) ?_
          rintro rv lr' rows ⟨g, hgp, hgo, rfl, rfl, rfl⟩
          have hgl : g.length = o.length := hgp.length_eq
          obtain rfl : g = cSort o := cSort_eq hone hgp hgo
          have hcs : SmL (cSort o) := ⟨by omega, fun c hc => (sm_kept ha hb (by omega)).p c (by rw [← hk]; exact hgp.mem_iff.1 hc)⟩
          have hA := all_pc t ht (cSort o) hcs
          unfold tbD at hA
          refine ⟨by simp [shB, mvF, hgl], by simp [frB, baseOf], go_on ?_⟩
          (try simp only [killA, killH, killRow, push_cast, simprocAttr])
          refine at_call ?_
          simp only [hgl, push_cast, simprocAttr]
          refine rwc_r hA (by simp [flatV, flatL]) (flat_n _) (by simp [frB, baseOf]) (go_on ?_)
          (try simp only [push_cast, simprocAttr])
          refine at_ret ?_; simp only [Tryz.results71, push_cast, simprocAttr]
          simp [tbD, rX, e, ixOf]
        · have g0 : ltI 20 (o.length : Int) = true := ltI_t (by omega)
          have e : pairBase t a b = none := by
            unfold pairBase
            rw [hf, ← hk]
            simp [h20]
          (try simp only [i0, g0, push_cast, simprocAttr])
          refine at_ret ?_; simp only [Tryz.results71, push_cast, simprocAttr]
          simp [tbD, rX, e, ixOf]
end Go.Proofs.YtjhbihooobingaaGreatDoor
/-
  Walks: meet, SessionClashes, SessionRun.
-/
namespace Go.Proofs.YtjhbihooobingaaGreatDoor
open Go Go.RowKit Go.Proofs
theorem ClashesOf_d (a b : List Cm) (ha : SmL a) (hb : SmL b) : PC Tryz.prog 70 [cmA a, cmA b] (vX (pA (clOf a b))) := by
  have := (ClashesOf_pc a b ha hb).frzX
  simpa [viewN, hpOf, hget, isC, tk] using this
theorem LeftOf_d (a b : List Cm) (ha : SmL a) (hb : SmL b) : PC Tryz.prog 73 [cmA a, cmA b] (vX (cmA (leftOf a b))) := by
  have := (LeftOf_pc a b ha hb).frzX
  simpa [viewN, hpOf, hget, isC, tk] using this
theorem PairBase_d (t : List Nd) (ht : SmT2 t) (a b : List Cm) (ha : SmL a) (hb : SmL b) : PC Tryz.prog 71 [ndA t, cmA a, cmA b] (vX (.tup [ndA ((pairBase t a b).getD []), bA (pairBase t a b).isSome])) := by
  have := (PairBase_pc t ht a b ha hb).frzX
  simpa [tbD, viewN, hpOf, hget, isC, tk] using this
theorem PairTree_d (t : List Nd) (ht : SmT2 t) (a b : List Cm) (ha : SmL a) (hb : SmL b) : PC Tryz.prog 72 [ndA t, cmA a, cmA b] (vX (.tup [ndA ((pairTree t a b).getD []), bA (pairTree t a b).isSome])) := by
  have := (PairTree_pc t ht a b ha hb).frzX
  simpa [tbD, viewN, hpOf, hget, isC, tk] using this
attribute [local irreducible] RWp AW run kPe pe Kt effA gd gu br retR RDp runD kPeD brW gW effD
set_option maxRecDepth 100000
theorem meet_pc (a b : St) (ha : SmS a) (hb : SmS b) : PC Tryz.prog 69 [stA' a, stA' b] (vB (meet a b)) := by
  have h1 := SiteValid_pc a ha
  have h2 := SiteValid_pc b hb
  have h3 := EqualN_pc a.base b.base (by have := ha.t.n; omega)
  have e : meet a b = (siteV a && siteV b && decide (a.base = b.base) && eqI a.ep b.ep && ltI a.ep 99) := by unfold meet ltI; rw [eqI_d]
  unfold stA' stC at *
  refine pc_enter Tryz.func69 rfl rfl fun w0 fb => go_on ?_; (try simp only [Tryz.ntmps69, push_cast, simprocAttr])
  repeat' first | (refine at_b (fun hb => ?_) (fun hb => ?_) <;> simp only [hb, push_cast, simprocAttr]) | (refine at_ret ?_; simp only [Tryz.results69, push_cast, simprocAttr]) | (refine at_call ?_; (try simp only [push_cast, simprocAttr]); refine rwc_v (by first | exact h1 | exact h2 | exact h3) (go_on ?_); simp only [push_cast, simprocAttr]) | (show RWp _ _ _ _ _; simp only [push_cast, simprocAttr])
  all_goals simp [vX, e, *]
theorem SessionClashes_pc (a b : St) (ha : SmS a) (hb : SmS b) : PC Tryz.prog 43 [stA' a, stA' b] (vI (sCl a b)) := by
  have hM := meet_pc a b ha hb
  have hA := SiteCanon_d a ha
  have hB := SiteCanon_d b hb
  have hC := ClashesOf_d (siteC a) (siteC b) (siteC_sm a) (siteC_sm b)
  unfold stA' stC at *
  refine pc_enter Tryz.func43 rfl rfl fun w0 fb => go_on ?_; (try simp only [Tryz.ntmps43, push_cast, simprocAttr])
  (refine at_call ?_; (try simp only [push_cast, simprocAttr]); refine rwc_v (hM) (go_on ?_); (try simp only [push_cast, simprocAttr]))
  cases h : meet a b with
  | false =>
    (try simp only [h, Bool.not_false, push_cast, simprocAttr])
    refine at_ret ?_; simp only [Tryz.results43, push_cast, simprocAttr]
    simp [vX, sCl, h]
  | true =>
    (try simp only [h, Bool.not_true, push_cast, simprocAttr])
    refine at_draw rfl (by kernel_rfl) ?_; simp only [push_cast, simprocAttr]
    (refine at_shareD (by simp [isC2, isC]) (by first | rfl | simp [ren]) hA ?_; (try simp only [push_cast, simprocAttr]))
    (refine at_shareD (by simp [isC2, isC]) (by first | rfl | simp [ren]) hB ?_; (try simp only [push_cast, simprocAttr]))
    (refine at_shareD (by simp [isC2, isC]) (by first | rfl | simp [ren]) hC ?_; (try simp only [push_cast, simprocAttr]))
    refine at_done (by kernel_rfl) (by kernel_rfl) (go_on ?_)
    (try simp only [push_cast, simprocAttr])
    refine at_ret ?_; simp only [Tryz.results43, push_cast, simprocAttr]
    simp [vX, sCl, h]
end Go.Proofs.YtjhbihooobingaaGreatDoor
/-
  Walks: spec: the order of canonical logs, conflicts.
-/
namespace Go.Proofs.YtjhbihooobingaaGreatDoor
open Go Go.RowKit Go.Proofs
theorem und_take {a b : Str} (ha : pV a = true) (hb : pV b = true) (hr : a ≠ root) : (decide (a.length < b.length) && decide (b.take a.length = a)) = und a b := by
  unfold und
  rw [if_neg hr]
  simp only [pV, hr, decide_false, Bool.false_or, Bool.and_eq_true, decide_eq_true_eq] at ha
  obtain ⟨⟨ha0, ha1⟩, _⟩ := ha
  rw [Bool.eq_iff_iff, Bool.and_eq_true, decide_eq_true_eq, decide_eq_true_eq, List.isPrefixOf_iff_prefix]
  have hev := prs_even a ha1
  constructor
  · rintro ⟨h1, h2⟩
    have hb' : b ≠ root := by
      rintro rfl
      simp [root] at h1
      exact ha0 h1
    simp only [pV, hb', decide_false, Bool.false_or, Bool.and_eq_true, decide_eq_true_eq] at hb
    obtain ⟨x, hx⟩ := get_of_lt h1
    have := (prs_get b a.length x hb.1.2 hx).1 hev
    subst this
    rw [List.prefix_iff_eq_take]
    simp only [List.length_append, List.length_cons, List.length_nil]
    rw [List.take_add_one, h2, hx]
    rfl
  · intro h
    have hl := h.length_le
    simp only [List.length_append, List.length_cons, List.length_nil] at hl
    refine ⟨by omega, ?_⟩
    have h2 : a <+: b := (List.prefix_append a [47]).trans h
    exact (List.prefix_iff_eq_take.1 h2).symm
theorem canon_fail {l : List Cm} {j : Nat} {x y : Cm} (hx : l[j]? = some x) (hy : l[j + 1]? = some y) (h : cLt x y = false ∨ firstB l (j + 1) y.p = false) : canonV l = false := by
  cases hc : canonV l with
  | false => rfl
  | true =>
    exfalso
    unfold canonV at hc
    simp only [Bool.and_eq_true] at hc
    obtain ⟨⟨_, h1⟩, h2⟩ := hc
    have hnd := (one1_iff l).1 h1
    have hne : ∀ i z, i < j + 1 → l[i]? = some z → z.p ≠ y.p := fun i z hi hz => by
      have hli := lt_of_some hz
      have hlj := lt_of_some hy
      have := List.pairwise_iff_getElem.1 hnd i (j + 1) (by simpa using hli) (by simpa using hlj) hi
      simp only [List.getElem_map] at this
      rw [List.getElem?_eq_getElem hli] at hz
      rw [List.getElem?_eq_getElem hlj] at hy
      rwa [Option.some.inj hz, Option.some.inj hy] at this
    rcases h with h | h
    · have h3 : cOrd (l.drop j) = true := by
        cases h4 : cOrd (l.drop j) with
        | true => rfl
        | false => rw [cOrd_pre l j h4] at h2; cases h2
      rw [cOrd_step hy hx] at h3
      simp only [Bool.and_eq_true, Bool.not_eq_true'] at h3
      rw [cLt_total (hne j x (by omega) hx) h] at h3
      cases h3.1
    · simp only [firstB, Bool.not_eq_false', decide_eq_true_eq, List.mem_map] at h
      obtain ⟨z, hz, he⟩ := h
      obtain ⟨i, hi, hiz⟩ := List.mem_take_iff_getElem.1 hz
      exact hne i z (by omega) (by rw [List.getElem?_eq_getElem (by omega), hiz]) he
theorem cOrd_all : ∀ {l : List Cm}, (∀ (j : Nat) x y, l[j]? = some x → l[j + 1]? = some y → cLt y x = false) → cOrd l = true
  | [], _ => rfl
  | [_], _ => rfl
  | a :: b :: r, h => by
    have h1 := h 0 a b rfl rfl
    have h2 := cOrd_all (l := b :: r) fun j x y hx hy => h (j + 1) x y (by simpa using hx) (by simpa using hy)
    simp only [cOrd, h1, h2]
    rfl
theorem canon_all {l : List Cm} (h : ∀ (j : Nat) x y, l[j]? = some x → l[j + 1]? = some y → cLt x y = true ∧ firstB l (j + 1) y.p = true) : canonV l = lV l := by
  have h2 : cOrd l = true := cOrd_all fun j x y hx hy => cLt_asymm (h j x y hx hy).1
  have h1 : one1 l = true := by
    rw [one1_iff]
    refine List.pairwise_iff_getElem.2 fun i j hi hj hij => ?_
    simp only [List.length_map] at hi hj
    simp only [List.getElem_map]
    obtain ⟨k, rfl⟩ : ∃ k, j = k + 1 := ⟨j - 1, by omega⟩
    have := (h k l[k] l[k + 1] (List.getElem?_eq_getElem (by omega)) (List.getElem?_eq_getElem hj)).2
    simp only [firstB, Bool.not_eq_true', decide_eq_false_iff_not, List.mem_map, not_exists, not_and] at this
    exact this l[i] (List.mem_take_iff_getElem.2 ⟨i, by omega, rfl⟩)
  simp [canonV, h1, h2]
attribute [local irreducible] RWp AW run kPe pe Kt effA gd gu br retR RDp runD kPeD brW gW effD
set_option maxRecDepth 100000
theorem l1Under_pc (a b : Str) (ha : pV a = true) (hb : pV b = true) : PC Tryz.prog 194 [sA a, sA b] (vB (und a b)) := by
  have hla : a.length < 100 := by unfold pV at ha; simp only [Bool.or_eq_true, Bool.and_eq_true, decide_eq_true_eq] at ha; rcases ha with rfl | h; simp [root]; omega
  have hlb : b.length < 100 := by unfold pV at hb; simp only [Bool.or_eq_true, Bool.and_eq_true, decide_eq_true_eq] at hb; rcases hb with rfl | h; simp [root]; omega
  refine pc_enter Tryz.func194 rfl rfl fun w0 fb => go_on ?_; (try simp only [Tryz.ntmps194, push_cast, simprocAttr])
  by_cases hr : a = root
  · have d1 : decide (a = [47]) = true := by simpa [root] using hr
    by_cases hb2 : b = root
    · have d2 : decide (b = [47]) = true := by simpa [root] using hb2
      have i0 : ltI (a.length : Int) b.length = false := ltI_f (by rw [hr, hb2]; omega)
      (try simp only [d1, d2, i0, Bool.not_true, push_cast, simprocAttr])
      refine at_ret ?_; simp only [Tryz.results194, push_cast, simprocAttr]
      simp [vX, und, hr, hb2]
    · have d2 : decide (b = [47]) = false := by simpa [root] using hb2
      (try simp only [d1, d2, Bool.not_false, push_cast, simprocAttr])
      refine at_ret ?_; simp only [Tryz.results194, push_cast, simprocAttr]
      simp [vX, und, hr, hb2]
  · have d1 : decide (a = [47]) = false := by simpa [root] using hr
    rw [← und_take ha hb hr]
    by_cases hl : a.length < b.length
    · have i0 : ltI (a.length : Int) b.length = true := ltI_t (by omega)
      have i1 : (a.length : Int) ≤ b.length := by omega
      (try simp only [d1, i0, i1, push_cast, simprocAttr])
      refine at_ret ?_; simp only [Tryz.results194, push_cast, simprocAttr]
      simp [vX, hl]
    · have i0 : ltI (a.length : Int) b.length = false := ltI_f (by omega)
      (try simp only [d1, i0, push_cast, simprocAttr])
      refine at_ret ?_; simp only [Tryz.results194, push_cast, simprocAttr]
      simp [vX, hl]
theorem l16Over_pc (c d : Cm) (hc : pV c.p = true) (hd : pV d.p = true) : PC Tryz.prog 166 [cmdA c, cmdA d] (vB (stops c d)) := by
  have hU := l1Under_pc c.p d.p hc hd
  have e : stops c d = (und c.p d.p && !eqI c.b.k 1 && !eqI d.b.k 0) := by unfold stops; rw [eqI_d, eqI_d]; simp
  unfold cmdA cmC
  refine pc_enter Tryz.func166 rfl rfl fun w0 fb => go_on ?_; (try simp only [Tryz.ntmps166, push_cast, simprocAttr])
  repeat' first | (refine at_b (fun hb => ?_) (fun hb => ?_) <;> simp only [hb, push_cast, simprocAttr]) | (refine at_ret ?_; simp only [Tryz.results166, push_cast, simprocAttr]) | (refine at_call ?_; (try simp only [push_cast, simprocAttr]); refine rwc_v (by first | exact hU) (go_on ?_); simp only [push_cast, simprocAttr]) | (show RWp _ _ _ _ _; simp only [push_cast, simprocAttr])
  all_goals simp [vX, e, *]
theorem l16Clash_pc (c d : Cm) (hc : pV c.p = true) (hd : pV d.p = true) : PC Tryz.prog 126 [cmdA c, cmdA d] (vB (clash c d)) := by
  have h1 := l16Over_pc c d hc hd
  have h2 := l16Over_pc d c hd hc
  have e : clash c d = ((decide (c.p = d.p) && !decide (c.b = d.b)) || stops c d || stops d c) := by unfold clash; simp
  unfold cmdA cmC at *
  refine pc_enter Tryz.func126 rfl rfl fun w0 fb => go_on ?_; (try simp only [Tryz.ntmps126, push_cast, simprocAttr])
  repeat' first | (refine at_b (fun hb => ?_) (fun hb => ?_) <;> simp only [ctg, cth, ct_eq, hb, push_cast, simprocAttr]) | (refine at_ret ?_; simp only [ctg, cth, ct_eq, Tryz.results126, push_cast, simprocAttr]) | (refine at_call ?_; (try simp only [push_cast, simprocAttr]); refine rwc_v (by first | exact h1 | exact h2) (go_on ?_); simp only [ctg, cth, ct_eq, push_cast, simprocAttr]) | (show RWp _ _ _ _ _; simp only [ctg, cth, ct_eq, push_cast, simprocAttr])
  all_goals simp [vX, e, *]
theorem specCanonValid_pc (l : List Cm) (hl : SmL l) : PC Tryz.prog 165 [cmA l] (vB (canonV l)) := by
  have hln := hl.n
  have hV := specLogValid_pc l hl
  refine pc_enter Tryz.func165 rfl rfl fun w0 fb => go_on ?_; (try simp only [Tryz.ntmps165, push_cast, simprocAttr])
  refine at_loop (X := Nat) (fun k => [(3, iA ((k : Int) + 1))]) (fun _ => []) (fun k => (k = 0 ∨ k < l.length) ∧ ∀ (j : Nat) x y, j < k → l[j]? = some x → l[j + 1]? = some y → cLt x y = true ∧ firstB l (j + 1) y.p = true) (fun k => l.length - k) 0 ⟨.inl rfl, fun j x y h => by omega⟩ ?_ ?_
  · (refine wk_ok ?_ ?_ ?_ ?_ <;> simp [leL, leH, idsL, idsA, idsR, inH, hget, sameRow, upA, hvA, dsts, dstO, setA_0, setA_1, setA_8, List.append, List.cons_append, List.nil_append])
  · rintro k ⟨q1, q2⟩
    simp only [upA, hvA, dsts, dstO, setA_0, setA_1, setA_8, List.append, List.cons_append, List.nil_append]
    refine go_on ?_
    (try simp only [push_cast, simprocAttr])
    by_cases hk : k + 1 < l.length
    · obtain ⟨x, hx⟩ := get_of_lt (l := l) (k := k) (by omega)
      obtain ⟨y, hy⟩ := get_of_lt hk
      have i0 : ltI ((k : Int) + 1) l.length = true := ltI_t (by omega)
      have w0' : IntKind.i64.wrap ((k : Int) + 1 - 1) = (k : Int) := by rw [show (k : Int) + 1 - 1 = k by omega]; exact wr _ (by omega)
      have w1 : IntKind.i64.wrap ((k : Int) + 1 + 1) = (k : Int) + 1 + 1 := wr _ (by omega)
      have i1 := ix_n hx
      have i3 : toIx ((k : Int) + 1) l.length = some (k + 1) := by have := ix_n hy; simpa using this
      have i2 := map_get cmC hx
      have i4 := map_get cmC hy
      have hB := l14Before_pc x y
      have hF := l14First_pc l (by omega) (k + 1) y hy
      unfold cmdA at hB
      simp only [cmC] at i2 i4 hB
      rw [show ((k + 1 : Nat) : Int) = (k : Int) + 1 by omega] at hF
      (try simp only [i0, push_cast, simprocAttr])
      refine at_draw rfl (by kernel_rfl) ?_
      (try simp only [i1, i2, w0', i3, i4, push_cast, simprocAttr])
      refine at_callD (by simp [clB, idsL, idsA, hget]) ?_
      (try simp only [push_cast, simprocAttr])
      refine rcd_v hB ?_
      cases hb : cLt x y with
      | false =>
        (try simp only [hb, Bool.not_false, push_cast, simprocAttr])
        refine at_done (by kernel_rfl) (by kernel_rfl) (go_on ?_)
        (try simp only [push_cast, simprocAttr])
        refine at_ret ?_; simp only [Tryz.results165, push_cast, simprocAttr]
        simp [vX, canon_fail hx hy (.inl hb)]
      | true =>
        (try simp only [hb, Bool.not_true, push_cast, simprocAttr])
        refine at_callD (by simp [clB, idsL, idsA, hget]) ?_
        (try simp only [push_cast, simprocAttr])
        refine rcd_v hF ?_
        cases hf : firstB l (k + 1) y.p with
        | false =>
          (try simp only [hf, Bool.not_false, push_cast, simprocAttr])
          refine at_done (by kernel_rfl) (by kernel_rfl) (go_on ?_)
          (try simp only [push_cast, simprocAttr])
          refine at_ret ?_; simp only [Tryz.results165, push_cast, simprocAttr]
          simp [vX, canon_fail hx hy (.inr hf)]
        | true =>
          (try simp only [hf, Bool.not_true, push_cast, simprocAttr])
          refine at_done (by kernel_rfl) (by kernel_rfl) (go_on ?_)
          (try simp only [w1, push_cast, simprocAttr])
          refine at_fin ⟨k + 1, ⟨.inr (by omega), fun j u v hj hu hv => ?_⟩, by omega, ?_⟩
          · rcases Nat.lt_or_ge j k with h | h
            · exact q2 j u v h hu hv
            · obtain rfl : j = k := by omega
              rw [hx] at hu
              rw [hy] at hv
              cases hu
              cases hv
              exact ⟨hb, hf⟩
          · (refine wk_ok ?_ ?_ ?_ ?_ <;> simp [show ((k + 1 : Nat) : Int) = (k : Int) + 1 by omega, leL, leH, idsL, idsA, idsR, inH, hget, sameRow, upA, hvA, dsts, dstO, setA_0, setA_1, setA_8, List.append, List.cons_append, List.nil_append])
    · have i0 : ltI ((k : Int) + 1) l.length = false := ltI_f (by omega)
      have e := canon_all fun j x y hx hy => q2 j x y (by have := lt_of_some hy; omega) hx hy
      (try simp only [i0, push_cast, simprocAttr])
      (refine at_call ?_; (try simp only [push_cast, simprocAttr]); refine rwc_v (hV) (go_on ?_); (try simp only [push_cast, simprocAttr]))
      refine at_ret ?_; simp only [Tryz.results165, push_cast, simprocAttr]
      simp [vX, e]
end Go.Proofs.YtjhbihooobingaaGreatDoor
/-
  Walks: spec: l16Ok, l16Some, l16Has, ClashesOf, l42Ok, SessionClashes.
-/
namespace Go.Proofs.YtjhbihooobingaaGreatDoor
open Go Go.RowKit Go.Proofs
/-- All paths are well formed. -/
def PvL (l : List Cm) : Prop := ∀ c ∈ l, pV c.p = true
theorem canonV_pv {l : List Cm} (h : canonV l = true) : PvL l := fun c hc => by
  unfold canonV at h
  simp only [Bool.and_eq_true] at h
  exact (lV_cv h.1.1 c hc).p
attribute [local irreducible] RWp AW run kPe pe Kt effA gd gu br retR RDp runD kPeD brW gW effD
set_option maxRecDepth 100000
theorem l16Ok_pc (a b : List Cm) (ha : SmL a) (hb : SmL b) : PC Tryz.prog 125 [cmA a, cmA b] (vB (canonV a && canonV b)) := by
  have h1 := specCanonValid_pc a ha
  have h2 := specCanonValid_pc b hb
  refine pc_enter Tryz.func125 rfl rfl fun w0 fb => go_on ?_; (try simp only [Tryz.ntmps125, push_cast, simprocAttr])
  repeat' first | (refine at_b (fun hb => ?_) (fun hb => ?_) <;> simp only [hb, push_cast, simprocAttr]) | (refine at_ret ?_; simp only [Tryz.results125, push_cast, simprocAttr]) | (refine at_call ?_; (try simp only [push_cast, simprocAttr]); refine rwc_v (by first | exact h1 | exact h2) (go_on ?_); simp only [push_cast, simprocAttr]) | (show RWp _ _ _ _ _; simp only [push_cast, simprocAttr])
  all_goals simp [vX, *]
theorem any_drop {α : Type} {p : α → Bool} {l : List α} {k : Nat} {x : α} (hx : l[k]? = some x) : (l.drop k).any p = (p x || (l.drop (k + 1)).any p) := by
  rw [drop_of_get hx, List.any_cons]
theorem l16Some_pc (l : List Cm) (hl : SmL l) (hp : PvL l) (c : Cm) (hc : pV c.p = true) : PC Tryz.prog 131 [cmA l, cmdA c] (vB (disp l c)) := by
  have hln := hl.n
  have e : disp l c = l.any fun d => clash d c := by unfold disp; congr 1; funext d; exact clash_symm c d
  rw [e]
  unfold cmdA cmC
  refine pc_enter Tryz.func131 rfl rfl fun w0 fb => go_on ?_; (try simp only [Tryz.ntmps131, push_cast, simprocAttr])
  refine at_loop (X := Nat) (fun k => [(5, iA k)]) (fun _ => [(3, ⟨36, 5, [cmC c], true⟩)]) (fun k => k ≤ l.length ∧ (l.any fun d => clash d c) = ((l.drop k).any fun d => clash d c)) (fun k => l.length - k) 0 ⟨Nat.zero_le _, rfl⟩ ?_ ?_
  · (refine wk_ok ?_ ?_ ?_ ?_ <;> simp [cmC, leL, leH, idsL, idsA, idsR, inH, hget, sameRow, upA, hvA, dsts, dstO, setA_0, setA_1, setA_8, List.append, List.cons_append, List.nil_append])
  · rintro k ⟨q1, q2⟩
    simp only [upA, hvA, dsts, dstO, setA_0, setA_1, setA_8, List.append, List.cons_append, List.nil_append]
    refine go_on ?_
    (try simp only [push_cast, simprocAttr])
    by_cases hk : k < l.length
    · obtain ⟨x, hx⟩ := get_of_lt hk
      have i0 : ltI (k : Int) l.length = true := ltI_t (by omega)
      have i1 := ix_n hx
      have i2 := map_get cmC hx
      have w1 := wr ((k : Int) + 1) (by omega)
      have hX := l16Clash_pc x c (hp x (mem_of_get hx)) hc
      unfold cmdA at hX
      simp only [cmC] at i2 hX
      rw [any_drop hx] at q2
      (try simp only [i0, push_cast, simprocAttr])
      refine at_draw rfl (by kernel_rfl) ?_
      (try simp only [i1, i2, cmC, push_cast, simprocAttr])
      refine at_callD (by simp [clB, idsL, idsA, hget]) ?_
      (try simp only [push_cast, simprocAttr])
      refine rcd_v hX ?_
      (try simp only [push_cast, simprocAttr])
      refine at_done (by kernel_rfl) (by kernel_rfl) (go_on ?_)
      cases hcl : clash x c with
      | true =>
        rw [hcl] at q2
        (try simp only [hcl, push_cast, simprocAttr])
        refine at_ret ?_; simp only [Tryz.results131, push_cast, simprocAttr]
        simp [vX, q2]
      | false =>
        rw [hcl] at q2
        (try simp only [hcl, w1, push_cast, simprocAttr])
        refine at_fin ⟨k + 1, ⟨by omega, by simpa using q2⟩, by omega, ?_⟩
        (refine wk_ok ?_ ?_ ?_ ?_ <;> simp [cmC, leL, leH, idsL, idsA, idsR, inH, hget, sameRow, upA, hvA, dsts, dstO, setA_0, setA_1, setA_8, List.append, List.cons_append, List.nil_append])
    · have i0 : ltI (k : Int) l.length = false := ltI_f (by omega)
      rw [List.drop_of_length_le (by omega)] at q2
      (try simp only [i0, push_cast, simprocAttr])
      refine at_ret ?_; simp only [Tryz.results131, push_cast, simprocAttr]
      simp [vX, q2]
theorem l16Has_pc (l : List Cm) (hl : SmL l) (c : Cm) : PC Tryz.prog 167 [cmA l, cmdA c] (vB (decide (c ∈ l))) := by
  have hln := hl.n
  have e : decide (c ∈ l) = l.any fun d => decide (d = c) := by
    rw [Bool.eq_iff_iff, List.any_eq_true, decide_eq_true_eq]
    exact ⟨fun h => ⟨c, h, by simp⟩, fun ⟨x, h1, h2⟩ => by simp at h2; rwa [← h2]⟩
  rw [e]
  unfold cmdA cmC
  refine pc_enter Tryz.func167 rfl rfl fun w0 fb => go_on ?_; (try simp only [Tryz.ntmps167, push_cast, simprocAttr])
  refine at_loop (X := Nat) (fun k => [(5, iA k)]) (fun _ => [(3, ⟨36, 5, [cmC c], true⟩)]) (fun k => k ≤ l.length ∧ (l.any fun d => decide (d = c)) = ((l.drop k).any fun d => decide (d = c))) (fun k => l.length - k) 0 ⟨Nat.zero_le _, rfl⟩ ?_ ?_
  · (refine wk_ok ?_ ?_ ?_ ?_ <;> simp [cmC, leL, leH, idsL, idsA, idsR, inH, hget, sameRow, upA, hvA, dsts, dstO, setA_0, setA_1, setA_8, List.append, List.cons_append, List.nil_append])
  · rintro k ⟨q1, q2⟩
    simp only [upA, hvA, dsts, dstO, setA_0, setA_1, setA_8, List.append, List.cons_append, List.nil_append]
    refine go_on ?_
    (try simp only [push_cast, simprocAttr])
    by_cases hk : k < l.length
    · obtain ⟨x, hx⟩ := get_of_lt hk
      have i0 : ltI (k : Int) l.length = true := ltI_t (by omega)
      have i1 := ix_n hx
      have i2 := map_get cmC hx
      have w1 := wr ((k : Int) + 1) (by omega)
      have e := cm_eq x c
      simp only [cmC] at i2
      rw [any_drop hx] at q2
      (try simp only [i0, push_cast, simprocAttr])
      refine at_draw rfl (by kernel_rfl) ?_
      (try simp only [i1, i2, cmC, ctg, cth, cmg, cmh, push_cast, simprocAttr])
      refine at_done (by kernel_rfl) (by kernel_rfl) (go_on ?_)
      (try simp only [e, push_cast, simprocAttr])
      refine at_b (fun hn => ?_) (fun hn => ?_)
      · rw [hn] at q2
        (try simp only [hn, push_cast, simprocAttr])
        refine at_ret ?_; simp only [Tryz.results167, push_cast, simprocAttr]
        simp [vX, q2]
      · have hn' : decide (x = c) = false := hn
        rw [hn'] at q2
        (try simp only [hn', w1, push_cast, simprocAttr])
        refine at_fin ⟨k + 1, ⟨by omega, by simpa using q2⟩, by omega, ?_⟩
        (refine wk_ok ?_ ?_ ?_ ?_ <;> simp [cmC, leL, leH, idsL, idsA, idsR, inH, hget, sameRow, upA, hvA, dsts, dstO, setA_0, setA_1, setA_8, List.append, List.cons_append, List.nil_append])
    · have i0 : ltI (k : Int) l.length = false := ltI_f (by omega)
      rw [List.drop_of_length_le (by omega)] at q2
      (try simp only [i0, push_cast, simprocAttr])
      refine at_ret ?_; simp only [Tryz.results167, push_cast, simprocAttr]
      simp [vX, q2]
theorem specClashesOf_pc (a b : List Cm) (ha : SmL a) (hb : SmL b) : PC Tryz.prog 82 [cmA a, cmA b] (rX (.o 0 (clOf a b).length) [rowP (clOf a b)]) := by
  have hO := l16Ok_pc a b ha hb
  have hln := ha.n
  refine pc_enter Tryz.func82 rfl rfl fun w0 fb => go_on ?_; (try simp only [Tryz.ntmps82, push_cast, simprocAttr])
  cases hc : (canonV a && canonV b) with
  | false =>
    have e : clOf a b = [] := by simp [clOf, hc]
    rw [hc] at hO
    refine at_loop (X := Unit) (fun _ => [(4, .any), (5, .o 8 0), (6, iA 0)]) (fun _ => [(8, rowP [])]) (fun _ => True) (fun _ => 0) () trivial ?_ ?_
    · (refine wk_ok ?_ ?_ ?_ ?_ <;> simp [rowP, leL, leH, idsL, idsA, idsR, inH, hget, sameRow, upA, hvA, dsts, dstO, setA_0, setA_1, setA_8, List.append, List.cons_append, List.nil_append])
    · rintro ⟨⟩ -
      simp only [upA, hvA, dsts, dstO, setA_0, setA_1, setA_8, List.append, List.cons_append, List.nil_append]
      refine go_on ?_
      (try simp only [push_cast, simprocAttr])
      by_cases hi : 0 < a.length
      · have i0 : ltI 0 (a.length : Int) = true := ltI_t (by omega)
        (try simp only [i0, push_cast, simprocAttr])
        (refine at_call ?_; (try simp only [push_cast, simprocAttr]); refine rwc_v (hO) (go_on ?_); (try simp only [push_cast, simprocAttr]))
        refine at_ret ?_; simp only [Tryz.results82, push_cast, simprocAttr]
        simp [rX, e, ixOf]
      · have i0 : ltI 0 (a.length : Int) = false := ltI_f (by omega)
        (try simp only [i0, push_cast, simprocAttr])
        refine at_ret ?_; simp only [Tryz.results82, push_cast, simprocAttr]
        simp [rX, e, ixOf]
  | true =>
    rw [hc] at hO
    have e : clOf a b = clAll b 0 a := by simp [clOf, hc]
    simp only [Bool.and_eq_true] at hc
    have hla := canonV_le hc.1
    have hlb := canonV_le hc.2
    have hpa := canonV_pv hc.1
    have hpb := canonV_pv hc.2
    rw [e]
    refine at_loop (X := Nat × List (Int × Int)) (fun x => [(4, .any), (8, .any), (5, .o 8 x.2.length), (6, iA x.1)]) (fun x => [(8, rowP x.2)])
      (fun x => x.1 ≤ a.length ∧ x.2.length ≤ x.1 * 20 ∧ clAll b 0 a = x.2 ++ clAll b x.1 (a.drop x.1)) (fun x => a.length - x.1) (0, []) ⟨Nat.zero_le _, Nat.zero_le _, rfl⟩ ?_ ?_
    · (refine wk_ok ?_ ?_ ?_ ?_ <;> simp [rowP, leL, leH, idsL, idsA, idsR, inH, hget, sameRow, upA, hvA, dsts, dstO, setA_0, setA_1, setA_8, List.append, List.cons_append, List.nil_append])
    · rintro ⟨i, o⟩ ⟨q1, q2, q3⟩
      simp only at q1 q2 q3
      simp only [upA, hvA, dsts, dstO, setA_0, setA_1, setA_8, List.append, List.cons_append, List.nil_append]
      refine go_on ?_
      (try simp only [push_cast, simprocAttr])
      have w1 : IntKind.i64.wrap ((i : Int) + 1) = (i : Int) + 1 := wr _ (by omega)
      by_cases hi : i < a.length
      · obtain ⟨c, hc⟩ := get_of_lt hi
        have i0 : ltI (i : Int) a.length = true := ltI_t (by omega)
        have i1 := ix_n hc
        have i2 := map_get cmC hc
        simp only [cmC] at i2
        rw [drop_of_get hc] at q3
        simp only [clAll] at q3
        (try simp only [i0, push_cast, simprocAttr])
        (refine at_call ?_; (try simp only [push_cast, simprocAttr]); refine rwc_v (hO) (go_on ?_); (try simp only [push_cast, simprocAttr]))
        refine at_loop (X := Nat × List (Int × Int)) (fun x => [(4, .any), (8, .any), (5, .o 8 x.2.length), (7, iA x.1)]) (fun x => [(8, rowP x.2)])
          (fun x => x.1 ≤ b.length ∧ x.2.length ≤ i * 20 + x.1 ∧ o ++ clRow i c 0 b = x.2 ++ clRow i c x.1 (b.drop x.1)) (fun x => b.length - x.1) (0, o) ⟨Nat.zero_le _, by omega, rfl⟩ ?_ ?_
        · (refine wk_ok ?_ ?_ ?_ ?_ <;> simp [rowP, cmC, leL, leH, idsL, idsA, idsR, inH, hget, sameRow, upA, hvA, dsts, dstO, setA_0, setA_1, setA_8, List.append, List.cons_append, List.nil_append])
        · rintro ⟨k, u⟩ ⟨r1, r2, r3⟩
          simp only at r1 r2 r3
          simp only [upA, hvA, dsts, dstO, setA_0, setA_1, setA_8, List.append, List.cons_append, List.nil_append]
          refine go_on ?_
          (try simp only [push_cast, simprocAttr])
          have w2 : IntKind.i64.wrap ((k : Int) + 1) = (k : Int) + 1 := wr _ (by omega)
          by_cases hk : k < b.length
          · obtain ⟨d, hd⟩ := get_of_lt hk
            have k0 : ltI (k : Int) b.length = true := ltI_t (by omega)
            have k1 := ix_n hd
            have k2 := map_get cmC hd
            have hX := l16Clash_pc c d (hpa c (mem_of_get hc)) (hpb d (mem_of_get hd))
            unfold cmdA at hX
            simp only [cmC] at k2 hX
            rw [drop_of_get hd] at r3
            simp only [clRow] at r3
            (try simp only [k0, push_cast, simprocAttr])
            refine at_draw rfl (by kernel_rfl) ?_
            (try simp only [i1, i2, k1, k2, push_cast, simprocAttr])
            refine at_callD (by simp [clB, idsL, idsA, hget]) ?_
            (try simp only [push_cast, simprocAttr])
            refine rcd_v hX ?_
            (try simp only [push_cast, simprocAttr])
            refine at_done (by kernel_rfl) (by kernel_rfl) (go_on ?_)
            cases hcl : clash c d with
            | true =>
              rw [hcl, if_pos rfl] at r3
              have happ : u.map pC ++ [[iA i, iA k]] = (u ++ [((i : Int), (k : Int))]).map pC := by rw [List.map_append]; rfl
              (try simp only [hcl, rowP, push_cast, simprocAttr])
              refine at_chk (by omega) ?_
              (try simp only [happ, rowP, w2, push_cast, simprocAttr])
              refine at_fin ⟨(k + 1, u ++ [((i : Int), (k : Int))]), ⟨by dsimp only; omega, by simp; omega, by simpa using r3⟩, by dsimp only; omega, ?_⟩
              (refine wk_ok ?_ ?_ ?_ ?_ <;> simp [rowP, cmC, pC, leL, leH, idsL, idsA, idsR, inH, hget, sameRow, upA, hvA, dsts, dstO, setA_0, setA_1, setA_8, List.append, List.cons_append, List.nil_append])
            | false =>
              rw [hcl, if_neg (by simp)] at r3
              (try simp only [hcl, w2, push_cast, simprocAttr])
              refine at_fin ⟨(k + 1, u), ⟨by dsimp only; omega, by dsimp only; omega, by simpa using r3⟩, by dsimp only; omega, ?_⟩
              (refine wk_ok ?_ ?_ ?_ ?_ <;> simp [rowP, cmC, pC, leL, leH, idsL, idsA, idsR, inH, hget, sameRow, upA, hvA, dsts, dstO, setA_0, setA_1, setA_8, List.append, List.cons_append, List.nil_append])
          · have k0 : ltI (k : Int) b.length = false := ltI_f (by omega)
            rw [List.drop_of_length_le (by omega)] at r3
            simp only [clRow, List.append_nil] at r3
            rw [← List.append_assoc, r3] at q3
            (try simp only [k0, w1, push_cast, simprocAttr])
            refine at_fin ⟨(i + 1, u), ⟨by dsimp only; omega, by dsimp only; omega, by simpa using q3⟩, by dsimp only; omega, ?_⟩
            (refine wk_ok ?_ ?_ ?_ ?_ <;> simp [rowP, cmC, pC, leL, leH, idsL, idsA, idsR, inH, hget, sameRow, upA, hvA, dsts, dstO, setA_0, setA_1, setA_8, List.append, List.cons_append, List.nil_append])
      · have i0 : ltI (i : Int) a.length = false := ltI_f (by omega)
        rw [List.drop_of_length_le (by omega)] at q3
        simp only [clAll, List.append_nil] at q3
        (try simp only [i0, push_cast, simprocAttr])
        refine at_ret ?_; simp only [Tryz.results82, push_cast, simprocAttr]
        simp [rX, q3, ixOf]
end Go.Proofs.YtjhbihooobingaaGreatDoor
/-
  Walks: spec: l42Trees, l42Ok, SessionClashes.
-/
namespace Go.Proofs.YtjhbihooobingaaGreatDoor
open Go Go.RowKit Go.Proofs
attribute [local irreducible] RWp AW run kPe pe Kt effA gd gu br retR RDp runD kPeD brW gW effD
set_option maxRecDepth 100000
theorem l42Trees_pc (a b : List Nd) (hl : a.length < 4294967281) : PC Tryz.prog 124 [ndA a, ndA b] (vB (decide (a = b))) := by
  refine pc_enter Tryz.func124 rfl rfl fun w0 fb => go_on ?_; (try simp only [Tryz.ntmps124, push_cast, simprocAttr])
  refine at_b (fun hb => ?_) (fun hb => ?_)
  · have h1 := of_eqI_f (not_t hb)
    have h2 : a ≠ b := by rintro rfl; exact h1 rfl
    (try simp only [hb, push_cast, simprocAttr])
    refine at_ret ?_; simp only [Tryz.results124, push_cast, simprocAttr]
    simp [vX, h2]
  · have h1 : a.length = b.length := by have := of_eqI_t (not_f hb); omega
    (try simp only [hb, push_cast, simprocAttr])
    refine at_loop (X := Nat) (fun k => [(5, iA k)]) (fun _ => []) (fun k => k ≤ a.length ∧ decide (a = b) = decide (a.drop k = b.drop k)) (fun k => a.length - k) 0 ⟨Nat.zero_le _, rfl⟩ ?_ ?_
    · (refine wk_ok ?_ ?_ ?_ ?_ <;> simp [leL, leH, idsL, idsA, idsR, inH, hget, sameRow, upA, hvA, dsts, dstO, setA_0, setA_1, setA_8, List.append, List.cons_append, List.nil_append])
    · rintro k ⟨q1, q2⟩
      simp only [upA, hvA, dsts, dstO, setA_0, setA_1, setA_8, List.append, List.cons_append, List.nil_append]
      refine go_on ?_
      (try simp only [push_cast, simprocAttr])
      refine at_b (fun hg => ?_) (fun hg => ?_)
      · have hlt := lt_tt hg
        obtain ⟨x, hx⟩ := get_of_lt hlt
        obtain ⟨y, hy⟩ := get_of_lt (l := b) (k := k) (by omega)
        have i1 := ix_n hx
        have i3 := ix_n hy
        have i2 := map_get ndC hx
        have i4 := map_get ndC hy
        simp only [ndC] at i2 i4
        rw [drop_of_get hx, drop_of_get hy] at q2
        have w2 := wr ((k : Int) + 1) (by omega)
        (try simp only [hg, push_cast, simprocAttr])
        refine at_draw rfl (by kernel_rfl) ?_
        (try simp only [i1, i2, i3, i4, ctg, cth, ndg, ndh, push_cast, simprocAttr])
        refine at_done (by kernel_rfl) (by kernel_rfl) (go_on ?_)
        have e : (decide (x.p = y.p) && (eqI x.c.k y.c.k && eqI x.c.v y.c.v)) = decide (x = y) := by
          rw [Bool.eq_iff_iff]; simp [eqI_d, nd_ext, ct_ext]
        (try simp only [e, push_cast, simprocAttr])
        refine at_b (fun hn => ?_) (fun hn => ?_)
        · have hxy : x ≠ y := by simpa using hn
          (try simp only [hn, push_cast, simprocAttr])
          refine at_ret ?_; simp only [Tryz.results124, push_cast, simprocAttr]
          simp [vX, q2, hxy]
        · have hxy : x = y := by simpa using hn
          (try simp only [hn, w2, push_cast, simprocAttr])
          refine at_fin ⟨k + 1, ⟨by omega, ?_⟩, by omega, ?_⟩
          · rw [q2]; simp [hxy]
          · (refine wk_ok ?_ ?_ ?_ ?_ <;> simp [leL, leH, idsL, idsA, idsR, inH, hget, sameRow, upA, hvA, dsts, dstO, setA_0, setA_1, setA_8, List.append, List.cons_append, List.nil_append])
      · have h3 := lt_ff hg
        (try simp only [hg, push_cast, simprocAttr])
        refine at_ret ?_; simp only [Tryz.results124, push_cast, simprocAttr]
        rw [List.drop_of_length_le h3, List.drop_of_length_le (by omega)] at q2
        simp [vX, q2]
theorem l42Ok_pc (a b : St) (ha : SmS a) (hb : SmS b) : PC Tryz.prog 81 [stA' a, stA' b] (vB (meet a b)) := by
  have h1 := specSiteValid_pc a ha
  have h2 := specSiteValid_pc b hb
  have h3 := l42Trees_pc a.base b.base (by have := ha.t.n; omega)
  have e : meet a b = (siteV a && siteV b && eqI a.ep b.ep && ltI a.ep 99 && decide (a.base = b.base)) := by
    unfold meet ltI; rw [eqI_d]
    cases siteV a <;> cases siteV b <;> cases decide (a.base = b.base) <;> cases decide (a.ep = b.ep) <;> cases decide (a.ep < 99) <;> rfl
  unfold stA' stC at *
  refine pc_enter Tryz.func81 rfl rfl fun w0 fb => go_on ?_; (try simp only [Tryz.ntmps81, push_cast, simprocAttr])
  repeat' first | (refine at_b (fun hb => ?_) (fun hb => ?_) <;> simp only [hb, push_cast, simprocAttr]) | (refine at_ret ?_; simp only [Tryz.results81, push_cast, simprocAttr]) | (refine at_call ?_; (try simp only [push_cast, simprocAttr]); refine rwc_v (by first | exact h1 | exact h2 | exact h3) (go_on ?_); simp only [push_cast, simprocAttr]) | (show RWp _ _ _ _ _; simp only [push_cast, simprocAttr])
  all_goals simp [vX, e, *]
theorem specClashesOf_d (a b : List Cm) (ha : SmL a) (hb : SmL b) : PC Tryz.prog 82 [cmA a, cmA b] (vX (pA (clOf a b))) := by
  have := (specClashesOf_pc a b ha hb).frzX
  simpa [viewN, hpOf, hget, isC, tk] using this
theorem specSessionClashes_pc (a b : St) (ha : SmS a) (hb : SmS b) : PC Tryz.prog 50 [stA' a, stA' b] (vI (sCl a b)) := by
  have hM := l42Ok_pc a b ha hb
  have hA := specSiteCanon_pc a ha
  have hB := specSiteCanon_pc b hb
  have hC := specClashesOf_d (siteC a) (siteC b) (siteC_sm a) (siteC_sm b)
  unfold stA' stC at *
  refine pc_enter Tryz.func50 rfl rfl fun w0 fb => go_on ?_; (try simp only [Tryz.ntmps50, push_cast, simprocAttr])
  (refine at_call ?_; (try simp only [push_cast, simprocAttr]); refine rwc_v (hM) (go_on ?_); (try simp only [push_cast, simprocAttr]))
  cases h : meet a b with
  | false =>
    (try simp only [h, Bool.not_false, push_cast, simprocAttr])
    refine at_ret ?_; simp only [Tryz.results50, push_cast, simprocAttr]
    simp [vX, sCl, h]
  | true =>
    (try simp only [h, Bool.not_true, push_cast, simprocAttr])
    refine at_draw rfl (by kernel_rfl) ?_; simp only [push_cast, simprocAttr]
    (refine at_shareD (by simp [isC2, isC]) (by first | rfl | simp [ren]) hA ?_; (try simp only [push_cast, simprocAttr]))
    (refine at_shareD (by simp [isC2, isC]) (by first | rfl | simp [ren]) hB ?_; (try simp only [push_cast, simprocAttr]))
    (refine at_shareD (by simp [isC2, isC]) (by first | rfl | simp [ren]) hC ?_; (try simp only [push_cast, simprocAttr]))
    refine at_done (by kernel_rfl) (by kernel_rfl) (go_on ?_)
    (try simp only [push_cast, simprocAttr])
    refine at_ret ?_; simp only [Tryz.results50, push_cast, simprocAttr]
    simp [vX, sCl, h]
end Go.Proofs.YtjhbihooobingaaGreatDoor
/-
  Walks: texts of conflicts.
-/
namespace Go.Proofs.YtjhbihooobingaaGreatDoor
open Go Go.RowKit Go.Proofs
theorem txtM_le (c : Cm) : (txtM c).length ≤ 16 := by
  have h1 := txtC_len c.a
  have h2 := txtC_len c.b
  unfold txtM
  split
  · rename_i h
    have hc := (cmV_iff c).1 h
    have := (pV_len hc.p hc.r).2
    simp; omega
  · simp
theorem clRow_in {i : Int} {c : Cm} : ∀ {l : List Cm} {k : Int} {x : Int × Int}, x ∈ clRow i c k l → x.1 = i ∧ k ≤ x.2 ∧ x.2 < k + l.length
  | [], k, x, h => by simp [clRow] at h
  | d :: r, k, x, h => by
    simp only [clRow] at h
    split at h
    · rcases List.mem_cons.1 h with rfl | h
      · simp; omega
      · have := clRow_in h; simp; omega
    · have := clRow_in h; simp; omega
theorem clAll_in {b : List Cm} : ∀ {a : List Cm} {i : Int} {x : Int × Int}, x ∈ clAll b i a → (i ≤ x.1 ∧ x.1 < i + a.length) ∧ 0 ≤ x.2 ∧ x.2 < b.length
  | [], i, x, h => by simp [clAll] at h
  | c :: r, i, x, h => by
    simp only [clAll] at h
    rcases List.mem_append.1 h with h | h
    · have := clRow_in h; simp; omega
    · have := clAll_in h; simp; omega
theorem clOf_get {a b : List Cm} {x : Int × Int} (h : x ∈ clOf a b) : ∃ (i j : Nat) (c d : Cm), x = ((i : Int), (j : Int)) ∧ a[i]? = some c ∧ b[j]? = some d := by
  unfold clOf at h
  split at h
  · have := clAll_in h
    obtain ⟨x1, x2⟩ := x
    simp only at this
    have hi : x1.toNat < a.length := by omega
    have hj : x2.toNat < b.length := by omega
    exact ⟨x1.toNat, x2.toNat, a[x1.toNat], b[x2.toNat], by congr 1 <;> omega, List.getElem?_eq_getElem hi, List.getElem?_eq_getElem hj⟩
  · cases h
theorem clOf_le (a b : List Cm) : (clOf a b).length ≤ 400 := by
  unfold clOf
  split
  · rename_i h
    simp only [Bool.and_eq_true] at h
    have ha := canonV_le h.1
    have hb := canonV_le h.2
    have : ∀ (l : List Cm) (i : Int), (clAll b i l).length ≤ 20 * l.length := by
      intro l
      induction l with
      | nil => intro i; simp [clAll]
      | cons c r ih =>
        intro i
        have h1 := ih (i + 1)
        have h2 : (clRow i c 0 b).length ≤ b.length := by rw [clRow_len]; exact List.length_filter_le _ _
        simp only [clAll, List.length_append, List.length_cons]
        omega
    have := this a 0
    omega
  · simp
theorem clsT_le (a b : List Cm) (x : Int × Int) : (clsT a b x).length ≤ 36 := by
  have h1 := txtM_le (cm0D a x.1)
  have h2 := txtM_le (cm0D b x.2)
  simp [clsT]; omega
theorem clsTs_le (a b : List Cm) : ∀ (l : List (Int × Int)), (l.flatMap (clsT a b)).length ≤ 36 * l.length
  | [] => by simp
  | x :: l => by
    have h1 := clsT_le a b x
    have h2 := clsTs_le a b l
    simp only [List.flatMap_cons, List.length_append, List.length_cons]
    omega
theorem take_cls {a b : List Cm} {l : List (Int × Int)} {k : Nat} {x : Int × Int} (h : l[k]? = some x) : (l.take (k + 1)).flatMap (clsT a b) = (l.take k).flatMap (clsT a b) ++ clsT a b x := by
  rw [List.take_add_one, h]; simp
theorem cm0D_get {l : List Cm} {i : Nat} {c : Cm} (h : l[i]? = some c) : cm0D l (i : Int) = c := by
  simp [cm0D, List.getD_eq_getElem?_getD, h]
attribute [local irreducible] RWp AW run kPe pe Kt effA gd gu br retR RDp runD kPeD brW gW effD
set_option maxRecDepth 100000
theorem specClashText_pc (a b : List Cm) (ha : SmL a) (hb : SmL b) : PC Tryz.prog 53 [cmA a, cmA b] (vS (txtK a b)) := by
  have hC := specClashesOf_d a b ha hb
  have hle := clOf_le a b
  obtain ⟨ls, hls⟩ : ∃ ls, ls = clOf a b := ⟨_, rfl⟩
  have hk0 : txtK a b = ls.flatMap (clsT a b) := by rw [hls]; rfl
  rw [← hls] at hC hle
  have han := ha.n
  have hbn := hb.n
  rw [hk0]
  refine pc_enter Tryz.func53 rfl rfl fun w0 fb => go_on ?_; (try simp only [Tryz.ntmps53, push_cast, simprocAttr])
  ((try simp only [push_cast, simprocAttr]); refine at_share2 (by simp [isC2, isC]) (by first | rfl | simp [ren]) (hC) (go_on ?_); (try simp only [push_cast, simprocAttr]))
  refine at_loop (X := Nat) (fun k => [(5, sA ((ls.take k).flatMap (clsT a b))), (7, iA k)]) (fun _ => []) (fun k => k ≤ ls.length) (fun k => ls.length - k) 0 (Nat.zero_le _) ?_ ?_
  · (refine wk_ok ?_ ?_ ?_ ?_ <;> simp [leL, leH, idsL, idsA, idsR, inH, hget, sameRow, upA, hvA, dsts, dstO, setA_0, setA_1, setA_8, List.append, List.cons_append, List.nil_append])
  · rintro k hk
    simp only [upA, hvA, dsts, dstO, setA_0, setA_1, setA_8, List.append, List.cons_append, List.nil_append]
    refine go_on ?_
    (try simp only [List.length_map, push_cast, simprocAttr])
    refine at_b (fun hg => ?_) (fun hg => ?_)
    · have hlt := lt_tt hg
      obtain ⟨x, hx⟩ := get_of_lt hlt
      have j1 := ix_n hx
      have j2 := map_get pC hx
      obtain ⟨i, j, c, d, rfl, hc, hd⟩ := clOf_get (a := a) (b := b) (x := x) (by rw [← hls]; exact List.mem_of_getElem? hx)
      have i1 := ix_n hc
      have i2 := map_get cmC hc
      have i3 := ix_n hd
      have i4 := map_get cmC hd
      have hA := specCommandText_pc c (ha.p c (List.mem_of_getElem? hc))
      have hB := specCommandText_pc d (hb.p d (List.mem_of_getElem? hd))
      have la := txtM_le c
      have lb := txtM_le d
      simp only [pC] at j2
      simp only [cmC] at i2 i4
      unfold cmdA cmC at hA hB
      have w1 := wr ((k : Int) + 1) (by omega)
      have hcl := clsTs_le a b (ls.take k)
      rw [List.length_take, Nat.min_eq_left hk] at hcl
      obtain ⟨u, hu⟩ : ∃ u, u = (ls.take k).flatMap (clsT a b) := ⟨_, rfl⟩
      rw [← hu] at hcl
      have hfin : (((u ++ txtM c) ++ [32, 124, 32]) ++ txtM d) ++ [10] = (ls.take (k + 1)).flatMap (clsT a b) := by rw [take_cls hx, ← hu]; simp [clsT, cm0D_get hc, cm0D_get hd]
      rw [← hu]
      have f1 : u.length + (txtM c).length ≤ 9223372036854775807 := by omega
      have f2 : (u ++ txtM c).length ≤ 9223372036854775804 := by simp; omega
      have f3 : ((u ++ txtM c) ++ [32, 124, 32]).length + (txtM d).length ≤ 9223372036854775807 := by simp; omega
      have f4 : (((u ++ txtM c) ++ [32, 124, 32]) ++ txtM d).length ≤ 9223372036854775806 := by simp; omega
      (try simp only [hg, push_cast, simprocAttr])
      refine at_draw rfl (by kernel_rfl) ?_; simp only [push_cast, simprocAttr]
      (try simp only [j1, j2, i1, i2, i3, i4, f1, f2, f3, f4, push_cast, simprocAttr])
      repeat' first | (refine at_bWn (fun hb => ?_) (fun hb => ?_) <;> simp only [j1, j2, i1, i2, i3, i4, f1, f2, f3, f4, hb, push_cast, simprocAttr]) | (refine at_bW (fun hb => ?_) (fun hb => ?_) <;> simp only [j1, j2, i1, i2, i3, i4, f1, f2, f3, f4, hb, push_cast, simprocAttr]) | (refine at_callD (by simp [clB, idsL, idsA, hget]) ?_; (try simp only [push_cast, simprocAttr]); first | (refine rcd_v (hA) ?_; simp only [j1, j2, i1, i2, i3, i4, f1, f2, f3, f4, push_cast, simprocAttr]) | (refine rcd_d (hA) (by simp [flatV, flatL, ctC, ndC, cmC]) (by simp [ren, ctC, ndC, cmC]) ?_; simp only [j1, j2, i1, i2, i3, i4, f1, f2, f3, f4, push_cast, simprocAttr]) | (refine rcd_v (hB) ?_; simp only [j1, j2, i1, i2, i3, i4, f1, f2, f3, f4, push_cast, simprocAttr]) | (refine rcd_d (hB) (by simp [flatV, flatL, ctC, ndC, cmC]) (by simp [ren, ctC, ndC, cmC]) ?_; simp only [j1, j2, i1, i2, i3, i4, f1, f2, f3, f4, push_cast, simprocAttr])) | (refine at_done (by kernel_rfl) (by kernel_rfl) (go_on ?_); (try simp only [j1, j2, i1, i2, i3, i4, f1, f2, f3, f4, push_cast, simprocAttr]))
      (try simp only [f1, f2, f3, f4, w1, hfin, push_cast, simprocAttr])
      refine at_fin ⟨k + 1, by omega, by omega, ?_⟩
      (refine wk_ok ?_ ?_ ?_ ?_ <;> simp [leL, leH, idsL, idsA, idsR, inH, hget, sameRow, upA, hvA, dsts, dstO, setA_0, setA_1, setA_8, List.append, List.cons_append, List.nil_append])
    · have h3 := lt_ff hg
      have hk' : k = ls.length := by omega
      subst hk'
      (try simp only [hg, push_cast, simprocAttr])
      refine at_ret ?_; simp only [Tryz.results53, push_cast, simprocAttr]
      simp [vX]
end Go.Proofs.YtjhbihooobingaaGreatDoor
/-
  Walks: impl.ClashText.
-/
namespace Go.Proofs.YtjhbihooobingaaGreatDoor
open Go Go.RowKit Go.Proofs
/-- The builder's rows: before the first write, and behind it. -/
def bldH (r : Nat) : Option Str → Hp
  | none => [(r, bldR (.v (.pointer none)) (.v (.slice none 0 0)))]
  | some l => [(r, bldR (.p r 0 0) (.o 450000 l.length)), (450000, bufR l)]
attribute [local irreducible] RWp AW run kPe pe Kt effA gd gu br retR RDp runD kPeD brW gW effD
set_option maxRecDepth 100000
theorem ClashText_pc (a b : List Cm) (ha : SmL a) (hb : SmL b) : PC Tryz.prog 46 [cmA a, cmA b] (vS (txtK a b)) := by
  have hC := ClashesOf_d a b ha hb
  have hle := clOf_le a b
  obtain ⟨ls, hls⟩ : ∃ ls, ls = clOf a b := ⟨_, rfl⟩
  have hk0 : txtK a b = ls.flatMap (clsT a b) := by rw [hls]; rfl
  rw [← hls] at hC hle
  have han := ha.n
  have hbn := hb.n
  rw [hk0]
  refine pc_enter Tryz.func46 rfl rfl fun w0 fb => go_on ?_; (try simp only [Tryz.ntmps46, push_cast, simprocAttr])
  ((try simp only [push_cast, simprocAttr]); refine at_share2 (by simp [isC2, isC]) (by first | rfl | simp [ren]) (hC) (go_on ?_); (try simp only [push_cast, simprocAttr]))
  refine at_loop (X := Nat × Option Str) (fun x => [(12, iA x.1)]) (fun x => bldH 5 x.2) (fun x => x.1 ≤ ls.length ∧ (x.2 = none ∧ x.1 = 0 ∨ ∃ u, x.2 = some u ∧ u = (ls.take x.1).flatMap (clsT a b) ∧ u ≠ [])) (fun x => ls.length - x.1) (0, none) ⟨Nat.zero_le _, .inl ⟨rfl, rfl⟩⟩ ?_ ?_
  · (refine wk_ok ?_ ?_ ?_ ?_ <;> simp [bldH, leL, leH, idsL, idsA, idsR, inH, hget, sameRow, upA, hvA, dsts, dstO, setA_0, setA_1, setA_8, List.append, List.cons_append, List.nil_append])
  · rintro ⟨k, o⟩ ⟨hk, ho⟩
    simp only at hk ho
    simp only [upA, hvA, dsts, dstO, setA_0, setA_1, setA_8, List.append, List.cons_append, List.nil_append]
    refine go_on ?_
    (try simp only [List.length_map, push_cast, simprocAttr])
    refine at_b (fun hg => ?_) (fun hg => ?_)
    · have hlt := lt_tt hg
      obtain ⟨x, hx⟩ := get_of_lt hlt
      have j1 := ix_n hx
      have j2 := map_get pC hx
      obtain ⟨i, j, c, d, rfl, hc, hd⟩ := clOf_get (a := a) (b := b) (x := x) (by rw [← hls]; exact List.mem_of_getElem? hx)
      have i1 := ix_n hc
      have i2 := map_get cmC hc
      have i3 := ix_n hd
      have i4 := map_get cmC hd
      have hA := CommandText_pc c (ha.p c (List.mem_of_getElem? hc))
      have hB := CommandText_pc d (hb.p d (List.mem_of_getElem? hd))
      have la := txtM_le c
      have lb := txtM_le d
      simp only [pC] at j2
      simp only [cmC] at i2 i4
      unfold cmdA cmC at hA hB
      have w1 := wr ((k : Int) + 1) (by omega)
      have hcl := clsTs_le a b (ls.take k)
      rw [List.length_take, Nat.min_eq_left hk] at hcl
      obtain ⟨z, hz⟩ : ∃ z, z = ((txtM c ++ [32, 124, 32]) ++ txtM d) ++ [10] := ⟨_, rfl⟩
      have hzl : z.length ≤ 36 := by rw [hz]; simp; omega
      have hz0 : z ≠ [] := by rw [hz]; simp
      have htk : (ls.take (k + 1)).flatMap (clsT a b) = (ls.take k).flatMap (clsT a b) ++ z := by rw [take_cls hx, hz]; simp [clsT, cm0D_get hc, cm0D_get hd]
      have f1 : (txtM c).length ≤ 9223372036854775804 := by omega
      have f2 : (txtM c ++ [32, 124, 32]).length + (txtM d).length ≤ 9223372036854775807 := by simp; omega
      have f3 : ((txtM c ++ [32, 124, 32]) ++ txtM d).length ≤ 9223372036854775806 := by simp; omega
      have f4 := hz.symm
      rcases ho with ⟨rfl, k0⟩ | ⟨u, rfl, hu, hu0⟩
      · simp only [bldH]
        (try simp only [hg, j1, j2, push_cast, simprocAttr])
        refine at_drawZ rfl 15 rfl rfl (by rfl) (by kernel_rfl) (by kernel_rfl) ?_
        (try simp only [i1, i2, i3, i4, f1, f2, f3, f4, push_cast, simprocAttr])
        (refine at_callD (by simp [clB, idsL, idsA, hget]) ?_; (try simp only [push_cast, simprocAttr]); refine rcd_v hA ?_)
        (try simp only [i1, i2, i3, i4, f1, f2, f3, f4, push_cast, simprocAttr])
        (refine at_callD (by simp [clB, idsL, idsA, hget]) ?_; (try simp only [push_cast, simprocAttr]); refine rcd_v hB ?_)
        (try simp only [i1, i2, i3, i4, f1, f2, f3, f4, push_cast, simprocAttr])
        refine at_doneZ (by kernel_rfl) (by kernel_rfl) (go_on ?_)
        (try simp only [push_cast, simprocAttr])
        refine at_ws0 5 450000 rfl rfl (by decide) (by decide) (by omega) (go_on ?_)
        simp only [wsS, AS.put, killH, killRow, killA, push_cast, simprocAttr]
        simp only [w1]
        refine at_fin ⟨(k + 1, some z), ⟨by dsimp only; omega, .inr ⟨z, rfl, by dsimp only; rw [htk, k0]; simp, hz0⟩⟩, by dsimp only; omega, ?_⟩
        (refine wk_ok ?_ ?_ ?_ ?_ <;> simp [bldH, leL, leH, idsL, idsA, idsR, inH, hget, sameRow, upA, hvA, dsts, dstO, setA_0, setA_1, setA_8, List.append, List.cons_append, List.nil_append])
      · simp only [bldH]
        have hul : u.length ≤ 14400 := by rw [hu]; omega
        (try simp only [hg, j1, j2, push_cast, simprocAttr])
        refine at_drawZ rfl 15 rfl rfl (by rfl) (by kernel_rfl) (by kernel_rfl) ?_
        (try simp only [i1, i2, i3, i4, f1, f2, f3, f4, push_cast, simprocAttr])
        (refine at_callD (by simp [clB, idsL, idsA, hget]) ?_; (try simp only [push_cast, simprocAttr]); refine rcd_v hA ?_)
        (try simp only [i1, i2, i3, i4, f1, f2, f3, f4, push_cast, simprocAttr])
        (refine at_callD (by simp [clB, idsL, idsA, hget]) ?_; (try simp only [push_cast, simprocAttr]); refine rcd_v hB ?_)
        (try simp only [i1, i2, i3, i4, f1, f2, f3, f4, push_cast, simprocAttr])
        refine at_doneZ (by kernel_rfl) (by kernel_rfl) (go_on ?_)
        (try simp only [push_cast, simprocAttr])
        refine at_ws1 (r := 5) (r2 := 450000) (l := u) rfl rfl (by decide) (by decide) (by omega) (go_on ?_)
        simp only [wsS, AS.put, killH, killRow, killA, push_cast, simprocAttr]
        simp only [w1]
        refine at_fin ⟨(k + 1, some (u ++ z)), ⟨by dsimp only; omega, .inr ⟨u ++ z, rfl, by dsimp only; rw [htk, hu], by simp [hu0]⟩⟩, by dsimp only; omega, ?_⟩
        (refine wk_ok ?_ ?_ ?_ ?_ <;> simp [bldH, leL, leH, idsL, idsA, idsR, inH, hget, sameRow, upA, hvA, dsts, dstO, setA_0, setA_1, setA_8, List.append, List.cons_append, List.nil_append])
    · have h3 := lt_ff hg
      have hk' : k = ls.length := by omega
      subst hk'
      rcases ho with ⟨rfl, k0⟩ | ⟨u, rfl, hu, hu0⟩
      · have e : ls = [] := List.eq_nil_of_length_eq_zero k0
        simp only [bldH]
        (try simp only [hg, push_cast, simprocAttr])
        refine at_bs0 (r := 5) rfl (fun _ => rfl) (go_on ?_)
        simp only [frgS, AS.put, push_cast, simprocAttr]
        refine at_ret ?_; simp only [Tryz.results46, push_cast, simprocAttr]
        simp [vX, e]
      · have hcl := clsTs_le a b ls
        rw [List.take_length] at hu
        simp only [bldH]
        (try simp only [hg, push_cast, simprocAttr])
        refine at_bs1 (r := 5) (r2 := 450000) (l := u) rfl rfl (fun _ => rfl) (fun _ h => h) hu0 (by rw [hu]; omega) (go_on ?_)
        simp only [frgS, AS.put, push_cast, simprocAttr]
        refine at_ret ?_; simp only [Tryz.results46, push_cast, simprocAttr]
        simp [vX, hu]
end Go.Proofs.YtjhbihooobingaaGreatDoor
/-
  Walks: spec: SafeOf, LeftOf, PairFits.
-/
namespace Go.Proofs.YtjhbihooobingaaGreatDoor
open Go Go.RowKit Go.Proofs
attribute [local irreducible] RWp AW run kPe pe Kt effA gd gu br retR RDp runD kPeD brW gW effD
set_option maxRecDepth 100000
theorem specSafeOf_pc (a b : List Cm) (ha : SmL a) (hb : SmL b) : PC Tryz.prog 130 [cmA a, cmA b] (rX (.o 0 (safeOf a b).length) [rowC (safeOf a b)]) := by
  have hO := l16Ok_pc a b ha hb
  have hln := hb.n
  refine pc_enter Tryz.func130 rfl rfl fun w0 fb => go_on ?_; (try simp only [Tryz.ntmps130, push_cast, simprocAttr])
  cases hc : (canonV a && canonV b) with
  | false =>
    have e : safeOf a b = [] := by simp [safeOf, hc]
    rw [hc] at hO
    refine at_loop (X := Unit) (fun _ => [(4, .any), (5, .o 7 0), (6, iA 0)]) (fun _ => [(7, rowC [])]) (fun _ => True) (fun _ => 0) () trivial ?_ ?_
    · (refine wk_ok ?_ ?_ ?_ ?_ <;> simp [rowC, leL, leH, idsL, idsA, idsR, inH, hget, sameRow, upA, hvA, dsts, dstO, setA_0, setA_1, setA_8, List.append, List.cons_append, List.nil_append])
    · rintro ⟨⟩ -
      simp only [upA, hvA, dsts, dstO, setA_0, setA_1, setA_8, List.append, List.cons_append, List.nil_append]
      refine go_on ?_
      (try simp only [push_cast, simprocAttr])
      by_cases hi : 0 < b.length
      · have i0 : ltI 0 (b.length : Int) = true := ltI_t (by omega)
        (try simp only [i0, push_cast, simprocAttr])
        (refine at_call ?_; (try simp only [push_cast, simprocAttr]); refine rwc_v (hO) (go_on ?_); (try simp only [push_cast, simprocAttr]))
        refine at_ret ?_; simp only [Tryz.results130, push_cast, simprocAttr]
        simp [rX, e, ixOf]
      · have i0 : ltI 0 (b.length : Int) = false := ltI_f (by omega)
        (try simp only [i0, push_cast, simprocAttr])
        refine at_ret ?_; simp only [Tryz.results130, push_cast, simprocAttr]
        simp [rX, e, ixOf]
  | true =>
    rw [hc] at hO
    have e : safeOf a b = b.filter (fun c => !decide (c ∈ a) && !disp a c) := by simp [safeOf, hc]
    simp only [Bool.and_eq_true] at hc
    have hla := canonV_le hc.1
    have hlb := canonV_le hc.2
    have hpa := canonV_pv hc.1
    have hpb := canonV_pv hc.2
    rw [e]
    refine at_loop (X := Nat × List Cm) (fun x => [(4, .any), (7, .any), (5, .o 7 x.2.length), (6, iA x.1)]) (fun x => [(7, rowC x.2)])
      (fun x => x.1 ≤ b.length ∧ x.2 = (b.take x.1).filter (fun c => !decide (c ∈ a) && !disp a c)) (fun x => b.length - x.1) (0, []) ⟨Nat.zero_le _, rfl⟩ ?_ ?_
    · (refine wk_ok ?_ ?_ ?_ ?_ <;> simp [rowC, leL, leH, idsL, idsA, idsR, inH, hget, sameRow, upA, hvA, dsts, dstO, setA_0, setA_1, setA_8, List.append, List.cons_append, List.nil_append])
    · rintro ⟨i, o⟩ ⟨q1, q2⟩
      simp only at q1 q2
      simp only [upA, hvA, dsts, dstO, setA_0, setA_1, setA_8, List.append, List.cons_append, List.nil_append]
      refine go_on ?_
      (try simp only [push_cast, simprocAttr])
      have w1 : IntKind.i64.wrap ((i : Int) + 1) = (i : Int) + 1 := wr _ (by omega)
      have hol : o.length ≤ i := by rw [q2]; exact Nat.le_trans (List.length_filter_le _ _) (by simp; omega)
      by_cases hi : i < b.length
      · obtain ⟨c, hc⟩ := get_of_lt hi
        have i0 : ltI (i : Int) b.length = true := ltI_t (by omega)
        have i1 := ix_n hc
        have i2 := map_get cmC hc
        have hS := l16Some_pc a ha hpa c (hpb c (mem_of_get hc))
        have hH := l16Has_pc a ha c
        unfold cmdA at hS hH
        simp only [cmC] at i2 hS hH
        have hq : (b.take (i + 1)).filter (fun c => !decide (c ∈ a) && !disp a c) = o ++ (if !decide (c ∈ a) && !disp a c then [c] else []) := by
          rw [List.take_add_one, hc, List.filter_append, ← q2]
          cases hpc : (!decide (c ∈ a) && !disp a c) <;> simp [hpc]
        (try simp only [i0, push_cast, simprocAttr])
        (refine at_call ?_; (try simp only [push_cast, simprocAttr]); refine rwc_v (hO) (go_on ?_); (try simp only [push_cast, simprocAttr]))
        (try simp only [i1, i2, push_cast, simprocAttr])
        (refine at_call ?_; (try simp only [push_cast, simprocAttr]); refine rwc_v (hS) (go_on ?_); (try simp only [push_cast, simprocAttr]))
        cases hd : disp a c with
        | true =>
          rw [hd, Bool.not_true, Bool.and_false, if_neg (by simp), List.append_nil] at hq
          (try simp only [hd, Bool.not_true, w1, push_cast, simprocAttr])
          refine at_fin ⟨(i + 1, o), ⟨by dsimp only; omega, hq.symm⟩, by dsimp only; omega, ?_⟩
          (refine wk_ok ?_ ?_ ?_ ?_ <;> simp [rowC, cmC, leL, leH, idsL, idsA, idsR, inH, hget, sameRow, upA, hvA, dsts, dstO, setA_0, setA_1, setA_8, List.append, List.cons_append, List.nil_append])
        | false =>
          rw [hd, Bool.not_false, Bool.and_true] at hq
          (try simp only [hd, Bool.not_false, i1, i2, push_cast, simprocAttr])
          (refine at_call ?_; (try simp only [push_cast, simprocAttr]); refine rwc_v (hH) (go_on ?_); (try simp only [push_cast, simprocAttr]))
          refine at_b (fun hm => ?_) (fun hm => ?_)
          · have hm' : decide (c ∈ a) = false := by simpa using hm
            rw [hm', Bool.not_false, if_pos rfl] at hq
            have happ : o.map cmC ++ [[sA c.p, iA c.a.k, iA c.a.v, iA c.b.k, iA c.b.v]] = (o ++ [c]).map cmC := by rw [List.map_append]; rfl
            (try simp only [hm', Bool.not_false, i1, i2, rowC, push_cast, simprocAttr])
            refine at_chk (by omega) ?_
            (try simp only [happ, rowC, w1, push_cast, simprocAttr])
            refine at_fin ⟨(i + 1, o ++ [c]), ⟨by dsimp only; omega, hq.symm⟩, by dsimp only; omega, ?_⟩
            (refine wk_ok ?_ ?_ ?_ ?_ <;> simp [rowC, cmC, leL, leH, idsL, idsA, idsR, inH, hget, sameRow, upA, hvA, dsts, dstO, setA_0, setA_1, setA_8, List.append, List.cons_append, List.nil_append])
          · have hm' : decide (c ∈ a) = true := by simpa using hm
            rw [hm', Bool.not_true, if_neg (by simp), List.append_nil] at hq
            (try simp only [hm', Bool.not_true, w1, push_cast, simprocAttr])
            refine at_fin ⟨(i + 1, o), ⟨by dsimp only; omega, hq.symm⟩, by dsimp only; omega, ?_⟩
            (refine wk_ok ?_ ?_ ?_ ?_ <;> simp [rowC, cmC, leL, leH, idsL, idsA, idsR, inH, hget, sameRow, upA, hvA, dsts, dstO, setA_0, setA_1, setA_8, List.append, List.cons_append, List.nil_append])
      · have i0 : ltI (i : Int) b.length = false := ltI_f (by omega)
        rw [List.take_of_length_le (by omega)] at q2
        (try simp only [i0, push_cast, simprocAttr])
        refine at_ret ?_; simp only [Tryz.results130, push_cast, simprocAttr]
        simp [rX, ← q2, ixOf]
theorem specLeftOf_pc (a b : List Cm) (ha : SmL a) (hb : SmL b) : PC Tryz.prog 85 [cmA a, cmA b] (rX (.o 0 (leftOf a b).length) [rowC (leftOf a b)]) := by
  have hO := l16Ok_pc a b ha hb
  have hln := ha.n
  refine pc_enter Tryz.func85 rfl rfl fun w0 fb => go_on ?_; (try simp only [Tryz.ntmps85, push_cast, simprocAttr])
  cases hc : (canonV a && canonV b) with
  | false =>
    have e : leftOf a b = [] := by simp [leftOf, hc]
    rw [hc] at hO
    refine at_loop (X := Unit) (fun _ => [(4, .any), (5, .o 7 0), (6, iA 0)]) (fun _ => [(7, rowC [])]) (fun _ => True) (fun _ => 0) () trivial ?_ ?_
    · (refine wk_ok ?_ ?_ ?_ ?_ <;> simp [rowC, leL, leH, idsL, idsA, idsR, inH, hget, sameRow, upA, hvA, dsts, dstO, setA_0, setA_1, setA_8, List.append, List.cons_append, List.nil_append])
    · rintro ⟨⟩ -
      simp only [upA, hvA, dsts, dstO, setA_0, setA_1, setA_8, List.append, List.cons_append, List.nil_append]
      refine go_on ?_
      (try simp only [push_cast, simprocAttr])
      by_cases hi : 0 < a.length
      · have i0 : ltI 0 (a.length : Int) = true := ltI_t (by omega)
        (try simp only [i0, push_cast, simprocAttr])
        (refine at_call ?_; (try simp only [push_cast, simprocAttr]); refine rwc_v (hO) (go_on ?_); (try simp only [push_cast, simprocAttr]))
        refine at_ret ?_; simp only [Tryz.results85, push_cast, simprocAttr]
        simp [rX, e, ixOf]
      · have i0 : ltI 0 (a.length : Int) = false := ltI_f (by omega)
        (try simp only [i0, push_cast, simprocAttr])
        refine at_ret ?_; simp only [Tryz.results85, push_cast, simprocAttr]
        simp [rX, e, ixOf]
  | true =>
    rw [hc] at hO
    have e : leftOf a b = a.filter (disp b) := by simp [leftOf, hc]
    simp only [Bool.and_eq_true] at hc
    have hla := canonV_le hc.1
    have hlb := canonV_le hc.2
    have hpa := canonV_pv hc.1
    have hpb := canonV_pv hc.2
    rw [e]
    refine at_loop (X := Nat × List Cm) (fun x => [(4, .any), (7, .any), (5, .o 7 x.2.length), (6, iA x.1)]) (fun x => [(7, rowC x.2)])
      (fun x => x.1 ≤ a.length ∧ x.2 = (a.take x.1).filter (disp b)) (fun x => a.length - x.1) (0, []) ⟨Nat.zero_le _, rfl⟩ ?_ ?_
    · (refine wk_ok ?_ ?_ ?_ ?_ <;> simp [rowC, leL, leH, idsL, idsA, idsR, inH, hget, sameRow, upA, hvA, dsts, dstO, setA_0, setA_1, setA_8, List.append, List.cons_append, List.nil_append])
    · rintro ⟨i, o⟩ ⟨q1, q2⟩
      simp only at q1 q2
      simp only [upA, hvA, dsts, dstO, setA_0, setA_1, setA_8, List.append, List.cons_append, List.nil_append]
      refine go_on ?_
      (try simp only [push_cast, simprocAttr])
      have w1 : IntKind.i64.wrap ((i : Int) + 1) = (i : Int) + 1 := wr _ (by omega)
      have hol : o.length ≤ i := by rw [q2]; exact Nat.le_trans (List.length_filter_le _ _) (by simp; omega)
      by_cases hi : i < a.length
      · obtain ⟨c, hc⟩ := get_of_lt hi
        have i0 : ltI (i : Int) a.length = true := ltI_t (by omega)
        have i1 := ix_n hc
        have i2 := map_get cmC hc
        have hS := l16Some_pc b hb hpb c (hpa c (mem_of_get hc))
        unfold cmdA at hS
        simp only [cmC] at i2 hS
        have hq : (a.take (i + 1)).filter (disp b) = o ++ (if disp b c then [c] else []) := by
          rw [List.take_add_one, hc, List.filter_append, ← q2]
          cases hpc : disp b c <;> simp [hpc]
        (try simp only [i0, push_cast, simprocAttr])
        (refine at_call ?_; (try simp only [push_cast, simprocAttr]); refine rwc_v (hO) (go_on ?_); (try simp only [push_cast, simprocAttr]))
        (try simp only [i1, i2, push_cast, simprocAttr])
        (refine at_call ?_; (try simp only [push_cast, simprocAttr]); refine rwc_v (hS) (go_on ?_); (try simp only [push_cast, simprocAttr]))
        cases hd : disp b c with
        | false =>
          rw [hd, if_neg (by simp), List.append_nil] at hq
          (try simp only [hd, w1, push_cast, simprocAttr])
          refine at_fin ⟨(i + 1, o), ⟨by dsimp only; omega, hq.symm⟩, by dsimp only; omega, ?_⟩
          (refine wk_ok ?_ ?_ ?_ ?_ <;> simp [rowC, cmC, leL, leH, idsL, idsA, idsR, inH, hget, sameRow, upA, hvA, dsts, dstO, setA_0, setA_1, setA_8, List.append, List.cons_append, List.nil_append])
        | true =>
          rw [hd, if_pos rfl] at hq
          have happ : o.map cmC ++ [[sA c.p, iA c.a.k, iA c.a.v, iA c.b.k, iA c.b.v]] = (o ++ [c]).map cmC := by rw [List.map_append]; rfl
          (try simp only [hd, i1, i2, rowC, push_cast, simprocAttr])
          refine at_chk (by omega) ?_
          (try simp only [happ, rowC, w1, push_cast, simprocAttr])
          refine at_fin ⟨(i + 1, o ++ [c]), ⟨by dsimp only; omega, hq.symm⟩, by dsimp only; omega, ?_⟩
          (refine wk_ok ?_ ?_ ?_ ?_ <;> simp [rowC, cmC, leL, leH, idsL, idsA, idsR, inH, hget, sameRow, upA, hvA, dsts, dstO, setA_0, setA_1, setA_8, List.append, List.cons_append, List.nil_append])
      · have i0 : ltI (i : Int) a.length = false := ltI_f (by omega)
        rw [List.take_of_length_le (by omega)] at q2
        (try simp only [i0, push_cast, simprocAttr])
        refine at_ret ?_; simp only [Tryz.results85, push_cast, simprocAttr]
        simp [rX, ← q2, ixOf]
theorem specPairFits_pc (t : List Nd) (ht : SmT2 t) (a b : List Cm) (ha : SmL a) (hb : SmL b) : PC Tryz.prog 127 [ndA t, cmA a, cmA b] (vB (pairFits t a b)) := by
  have h1 := l16Ok_pc a b ha hb
  have h3 := specLogFits_pc t ht a ha
  have h4 := specLogFits_pc t ht b hb
  obtain ⟨u, hu⟩ : ∃ u, u = (canonV a && canonV b) := ⟨_, rfl⟩
  have e : pairFits t a b = (u && fits t a && fits t b) := by rw [hu]; rfl
  rw [← hu] at h1
  clear hu
  refine pc_enter Tryz.func127 rfl rfl fun w0 fb => go_on ?_; (try simp only [Tryz.ntmps127, push_cast, simprocAttr])
  repeat' first | (refine at_b (fun hb => ?_) (fun hb => ?_) <;> simp only [hb, push_cast, simprocAttr]) | (refine at_ret ?_; simp only [Tryz.results127, push_cast, simprocAttr]) | (refine at_call ?_; (try simp only [push_cast, simprocAttr]); refine rwc_v (by first | exact h1 | exact h3 | exact h4) (go_on ?_); simp only [push_cast, simprocAttr]) | (show RWp _ _ _ _ _; simp only [push_cast, simprocAttr])
  all_goals simp [vX, e, *]
end Go.Proofs.YtjhbihooobingaaGreatDoor
/-
  Walks: spec: l21Kept, PairTree, PairBase.
-/
namespace Go.Proofs.YtjhbihooobingaaGreatDoor
open Go Go.RowKit Go.Proofs
attribute [local irreducible] RWp AW run kPe pe Kt effA gd gu br retR RDp runD kPeD brW gW effD
set_option maxRecDepth 100000
theorem l21Kept_pc (a b : List Cm) (ha : SmL a) (hb : SmL b) (h1 : canonV a = true) (h2 : canonV b = true) : PC Tryz.prog 128 [cmA a, cmA b] (vX (cmA (cSort (kept a b)))) := by
  have hS := specSafeOf_pc a b ha hb
  have hla := canonV_le h1
  have hlb := canonV_le h2
  have hpa := canonV_pv h1
  have hpb := canonV_pv h2
  have h3 := safeOf_len a b
  refine pc_enter Tryz.func128 rfl rfl fun w0 fb => go_on ?_; (try simp only [Tryz.ntmps128, push_cast, simprocAttr])
  (refine at_call ?_; (try simp only [push_cast, simprocAttr]); refine rwc_r (hS) rfl (flat_c _) (by simp [frB, baseOf]) (go_on ?_); (try simp only [push_cast, simprocAttr]))
  refine at_loop (X := Nat × List Cm) (fun x => [(4, .any), (9, .any), (5, .o 10000 x.2.length), (6, iA x.1)]) (fun x => [(10000, rowC x.2)])
    (fun x => x.1 ≤ a.length ∧ x.2 = safeOf a b ++ (a.take x.1).filter fun c => !disp b c) (fun x => a.length - x.1) (0, safeOf a b) ⟨Nat.zero_le _, by simp⟩ ?_ ?_
  · (refine wk_ok ?_ ?_ ?_ ?_ <;> simp [rowC, leL, leH, idsL, idsA, idsR, inH, hget, sameRow, upA, hvA, dsts, dstO, setA_0, setA_1, setA_8, List.append, List.cons_append, List.nil_append])
  · rintro ⟨i, o⟩ ⟨q1, q2⟩
    simp only at q1 q2
    simp only [upA, hvA, dsts, dstO, setA_0, setA_1, setA_8, List.append, List.cons_append, List.nil_append]
    have w1 : IntKind.i64.wrap ((i : Int) + 1) = (i : Int) + 1 := wr _ (by omega)
    have hol : o.length ≤ b.length + i := by
      have := List.length_filter_le (fun c => !disp b c) (a.take i)
      rw [q2]; simp only [List.length_append]; simp only [List.length_take] at this; omega
    by_cases hi : i < a.length
    · refine go_on ?_
      (try simp only [push_cast, simprocAttr])
      obtain ⟨c, hc⟩ := get_of_lt hi
      have i0 : ltI (i : Int) a.length = true := ltI_t (by omega)
      have i1 := ix_n hc
      have i2 := map_get cmC hc
      have hP := l16Some_pc b hb hpb c (hpa c (mem_of_get hc))
      unfold cmdA at hP
      simp only [cmC] at i2 hP
      (try simp only [i0, i1, i2, push_cast, simprocAttr])
      (refine at_call ?_; (try simp only [push_cast, simprocAttr]); refine rwc_v (hP) (go_on ?_); (try simp only [push_cast, simprocAttr]))
      have hq : safeOf a b ++ (a.take (i + 1)).filter (fun c => !disp b c) = o ++ (if disp b c then [] else [c]) := by
        rw [List.take_add_one, hc, List.filter_append, q2, List.append_assoc]
        cases hpc : disp b c <;> simp [hpc]
      cases hpc : disp b c with
      | false =>
        rw [hpc, if_neg (by simp)] at hq
        have happ : o.map cmC ++ [[sA c.p, iA c.a.k, iA c.a.v, iA c.b.k, iA c.b.v]] = (o ++ [c]).map cmC := by rw [List.map_append]; rfl
        (try simp only [hpc, Bool.not_false, i1, i2, rowC, push_cast, simprocAttr])
        refine at_chk (by omega) ?_
        (try simp only [happ, rowC, w1, push_cast, simprocAttr])
        refine at_fin ⟨(i + 1, o ++ [c]), ⟨by dsimp only; omega, hq.symm⟩, by dsimp only; omega, ?_⟩
        (refine wk_ok ?_ ?_ ?_ ?_ <;> simp [rowC, cmC, leL, leH, idsL, idsA, idsR, inH, hget, sameRow, upA, hvA, dsts, dstO, setA_0, setA_1, setA_8, List.append, List.cons_append, List.nil_append])
      | true =>
        rw [hpc, if_pos rfl, List.append_nil] at hq
        (try simp only [hpc, Bool.not_true, w1, push_cast, simprocAttr])
        refine at_fin ⟨(i + 1, o), ⟨by dsimp only; omega, hq.symm⟩, by dsimp only; omega, ?_⟩
        (refine wk_ok ?_ ?_ ?_ ?_ <;> simp [rowC, cmC, leL, leH, idsL, idsA, idsR, inH, hget, sameRow, upA, hvA, dsts, dstO, setA_0, setA_1, setA_8, List.append, List.cons_append, List.nil_append])
    · have i0 : ltI (i : Int) a.length = false := ltI_f (by omega)
      rw [List.take_of_length_le (by omega)] at q2
      have hk : o = kept a b := q2
      rw [← hk]
      have hSo := l14Sort_pc o (by omega)
      refine go_on_n 12 ?_
      (try simp only [i0, run_0, push_cast, simprocAttr])
      refine at_more ?_
      (refine at_frzS [10000] (by refine wk_frz ?_ ?_ ?_ ?_ <;> simp [frzS, frzT, hasN, delL, hdel, leF, leHF, frzB, idsL, idsA, idsR, inH, hget, sameRow, viewN, tk]) ?_; simp only [frzS, frzT, hasN, delL, hdel, idsA, idsL, viewN, hget, List.map_cons, List.map_nil, List.all_cons, List.all_nil, List.append_nil, List.drop, List.getElem?_cons_zero, List.getElem?_cons_succ, Bool.not_false, Bool.not_true, Bool.and_true, if_true, if_false, simprocAttr])
      refine go_on ?_
      (try simp only [push_cast, simprocAttr])
      ((try simp only [push_cast, simprocAttr]); refine at_share (by first | rfl | simp [isC]) (by first | rfl | simp only [ren]) (hSo) (go_on ?_); (try simp only [push_cast, simprocAttr]))
      refine at_ret ?_; simp only [Tryz.results128, push_cast, simprocAttr]
      simp [vX]
end Go.Proofs.YtjhbihooobingaaGreatDoor
/-
  Walks: spec: PairTree, PairBase.
-/
namespace Go.Proofs.YtjhbihooobingaaGreatDoor
open Go Go.RowKit Go.Proofs
theorem specSafeOf_d (a b : List Cm) (ha : SmL a) (hb : SmL b) : PC Tryz.prog 130 [cmA a, cmA b] (vX (cmA (safeOf a b))) := by
  have := (specSafeOf_pc a b ha hb).frzX
  simpa [viewN, hpOf, hget, isC, tk] using this
theorem specLeftOf_d (a b : List Cm) (ha : SmL a) (hb : SmL b) : PC Tryz.prog 85 [cmA a, cmA b] (vX (cmA (leftOf a b))) := by
  have := (specLeftOf_pc a b ha hb).frzX
  simpa [viewN, hpOf, hget, isC, tk] using this
def tbV (x : Option (List Nd)) : AV → List Row → Prop := vX (.tup [ndA (x.getD []), bA x.isSome])
attribute [local irreducible] RWp AW run kPe pe Kt effA gd gu br retR RDp runD kPeD brW gW effD
set_option maxRecDepth 100000
theorem specPairTree_pc (t : List Nd) (ht : SmT2 t) (a b : List Cm) (ha : SmL a) (hb : SmL b) : PC Tryz.prog 84 [ndA t, cmA a, cmA b] (tbV (pairTree t a b)) := by
  have hF := specPairFits_pc t ht a b ha hb
  have hS := specSafeOf_d a b ha hb
  have hA := specLogApply_pc t ht a ha
  refine pc_enter Tryz.func84 rfl rfl fun w0 fb => go_on ?_; (try simp only [Tryz.ntmps84, push_cast, simprocAttr])
  refine at_call ?_
  (try simp only [push_cast, simprocAttr])
  refine rwc_v hF ?_
  (try simp only [push_cast, simprocAttr])
  (refine at_dropS [6] (by refine wk_ok ?_ ?_ ?_ ?_ <;> simp [dropS, dropT, hasN, delL, hdel, leL, leH, idsL, idsA, idsR, inH, hget, sameRow]) ?_; simp only [dropS, dropT, hasN, delL, hdel, idsA, idsL, hget, List.map_cons, List.map_nil, List.all_cons, List.all_nil, List.append_nil, Bool.not_false, Bool.not_true, Bool.and_true, if_true, if_false, simprocAttr])
  refine go_on ?_
  (try simp only [push_cast, simprocAttr])
  cases hf : pairFits t a b with
  | false =>
    have e : pairTree t a b = none := by simp [pairTree, hf]
    (try simp only [hf, Bool.not_false, push_cast, simprocAttr])
    refine at_retf ?_; simp only [Tryz.results84, push_cast, simprocAttr]
    simp [tbV, vX, e, ixOf]
  | true =>
    obtain ⟨ta, tb, h⟩ := (pairFits_iff t a b).1 hf
    obtain ⟨hc1, hc2⟩ := pf_cv hf
    have e1 : lap t a = (ta, (a.length : Int)) := by
      unfold lap
      have : lV a = true := by unfold canonV at hc1; simp only [Bool.and_eq_true] at hc1; exact hc1.1.1
      rw [if_pos (by rw [(tV_iff t).2 h.tv, this]; rfl), h.fa]
    rw [e1] at hA
    have hta : SmT2 ta := sm_tv h.tva
    have hsv : lV (safeOf a b) = true := lV_mk h.safe_co.cv (by have := safeOf_len a b; have := canonV_le hc2; omega)
    have hB := specLogApply_pc ta hta (safeOf a b) (sm_safe hb)
    have e2 : lap ta (safeOf a b) = ((apAll ta (safeOf a b)).1, ((apAll ta (safeOf a b)).2 : Int)) := by
      unfold lap
      rw [if_pos (by rw [(tV_iff ta).2 h.tva, hsv]; rfl)]
    rw [e2] at hB
    (try simp only [hf, Bool.not_true, push_cast, simprocAttr])
    ((try simp only [push_cast, simprocAttr]); refine at_share2 (by simp [isC2, isC]) (by first | rfl | simp [ren]) (hA) (go_on ?_); (try simp only [push_cast, simprocAttr]))
    ((try simp only [push_cast, simprocAttr]); refine at_share2 (by simp [isC2, isC]) (by first | rfl | simp [ren]) (hS) (go_on ?_); (try simp only [push_cast, simprocAttr]))
    ((try simp only [push_cast, simprocAttr]); refine at_share2 (by simp [isC2, isC]) (by first | rfl | simp [ren]) (hB) (go_on ?_); (try simp only [push_cast, simprocAttr]))
    by_cases hn : (apAll ta (safeOf a b)).2 = (safeOf a b).length
    · have i0 : eqI ((apAll ta (safeOf a b)).2 : Int) (safeOf a b).length = true := eqI_t (by omega)
      have e : pairTree t a b = some (apAll ta (safeOf a b)).1 := h.tree.2 (by rw [← hn])
      (try simp only [i0, Bool.not_true, push_cast, simprocAttr])
      refine at_ret ?_; simp only [Tryz.results84, push_cast, simprocAttr]
      simp [tbV, vX, e]
    · have i0 : eqI ((apAll ta (safeOf a b)).2 : Int) (safeOf a b).length = false := eqI_f (by omega)
      have e : pairTree t a b = none := by
        cases hx : pairTree t a b with
        | none => rfl
        | some T => exact absurd (by rw [h.tree.1 hx]) hn
      (try simp only [i0, Bool.not_false, push_cast, simprocAttr])
      refine at_retf ?_; simp only [Tryz.results84, push_cast, simprocAttr]
      simp [tbV, vX, e, ixOf]
theorem specPairBase_pc (t : List Nd) (ht : SmT2 t) (a b : List Cm) (ha : SmL a) (hb : SmL b) : PC Tryz.prog 83 [ndA t, cmA a, cmA b] (tbV (pairBase t a b)) := by
  have hF := specPairFits_pc t ht a b ha hb
  refine pc_enter Tryz.func83 rfl rfl fun w0 fb => go_on ?_; (try simp only [Tryz.ntmps83, push_cast, simprocAttr])
  refine at_call ?_
  (try simp only [push_cast, simprocAttr])
  refine rwc_v hF ?_
  (try simp only [push_cast, simprocAttr])
  (refine at_dropS [6] (by refine wk_ok ?_ ?_ ?_ ?_ <;> simp [dropS, dropT, hasN, delL, hdel, leL, leH, idsL, idsA, idsR, inH, hget, sameRow]) ?_; simp only [dropS, dropT, hasN, delL, hdel, idsA, idsL, hget, List.map_cons, List.map_nil, List.all_cons, List.all_nil, List.append_nil, Bool.not_false, Bool.not_true, Bool.and_true, if_true, if_false, simprocAttr])
  refine go_on ?_
  (try simp only [push_cast, simprocAttr])
  cases hf : pairFits t a b with
  | false =>
    have e : pairBase t a b = none := by simp [pairBase, hf]
    (try simp only [hf, Bool.not_false, push_cast, simprocAttr])
    refine at_retf ?_; simp only [Tryz.results83, push_cast, simprocAttr]
    simp [tbV, vX, e, ixOf]
  | true =>
    obtain ⟨ta, tb, h⟩ := (pairFits_iff t a b).1 hf
    obtain ⟨hc1, hc2⟩ := pf_cv hf
    have hl1 := canonV_le hc1
    have hl2 := canonV_le hc2
    have hK := l21Kept_pc a b ha hb hc1 hc2
    have hkl := kept_len_le a b
    obtain ⟨q, hq⟩ : ∃ q, q = cSort (kept a b) := ⟨_, rfl⟩
    have hql : q.length = (kept a b).length := by rw [hq, cSort_len]
    have hqc : ∀ c ∈ q, CV c := fun c hc => kept_cv h c ((cSort_perm _).mem_iff.1 (by rw [← hq]; exact hc))
    rw [← hq] at hK
    have hqs : SmL q := ⟨by omega, fun c hc => by have h2 := hqc c hc; have := (pV_len h2.p h2.r).2; omega⟩
    have hL := specLogFits_pc t ht q hqs
    have hA := specLogApply_pc t ht q hqs
    (try simp only [hf, Bool.not_true, push_cast, simprocAttr])
    ((try simp only [push_cast, simprocAttr]); refine at_share2 (by simp [isC2, isC]) (by first | rfl | simp [ren]) (hK) (go_on ?_); (try simp only [push_cast, simprocAttr]))
    (refine at_call ?_; (try simp only [push_cast, simprocAttr]); refine rwc_v (hL) (go_on ?_); (try simp only [push_cast, simprocAttr]))
    cases hfq : fits t q with
    | false =>
      have e : pairBase t a b = none := by
        cases hx : pairBase t a b with
        | none => rfl
        | some B =>
          obtain ⟨g1, g2⟩ := h.base_iff.1 hx
          rw [← hq] at g2
          have : fits t q = true := by
            unfold fits
            rw [(tV_iff t).2 h.tv, lV_mk hqc (by omega), g2]
            simp [hql]
          rw [hfq] at this; cases this
      (try simp only [hfq, Bool.not_false, push_cast, simprocAttr])
      refine at_retf ?_; simp only [Tryz.results83, push_cast, simprocAttr]
      simp [tbV, vX, e, ixOf]
    | true =>
      have hfq2 := hfq
      unfold fits at hfq2
      simp only [Bool.and_eq_true, decide_eq_true_eq] at hfq2
      obtain ⟨⟨f1, f2⟩, f3⟩ := hfq2
      have e1 : lap t q = ((apAll t q).1, ((apAll t q).2 : Int)) := by
        unfold lap
        rw [if_pos (by rw [f1, f2]; rfl)]
      rw [e1] at hA
      have e : pairBase t a b = some (apAll t q).1 := h.base_iff.2 ⟨by have := lV_len f2; omega, by rw [← hq, ← hql, ← f3]⟩
      (try simp only [hfq, Bool.not_true, push_cast, simprocAttr])
      ((try simp only [push_cast, simprocAttr]); refine at_share2 (by simp [isC2, isC]) (by first | rfl | simp [ren]) (hA) (go_on ?_); (try simp only [push_cast, simprocAttr]))
      refine at_ret ?_; simp only [Tryz.results83, push_cast, simprocAttr]
      simp [tbV, vX, e]
end Go.Proofs.YtjhbihooobingaaGreatDoor
/-
  Walks: impl.SessionRun, read as data.
-/
namespace Go.Proofs.YtjhbihooobingaaGreatDoor
open Go Go.RowKit Go.Proofs
theorem cloneTree_d (l : List Nd) (hl : l.length < 4294967281) : PC Tryz.prog 74 [ndA l] (vX (ndA l)) := by
  have := (cloneTree_pc l hl).frzX
  simpa [viewN, hpOf, hget, isC, tk] using this
def srV (x : Option (St × St)) : AV → List Row → Prop := vX (.tup (match x with
  | some (x, y) => [stA' x, stA' y, bA true]
  | none => [st00, st00, bA false]))
attribute [local irreducible] RWp AW run kPe pe Kt effA gd gu br retR RDp runD kPeD brW gW effD
set_option maxRecDepth 100000
theorem SessionRun_d (a b : St) (ha : SmS a) (hb : SmS b) : PC Tryz.prog 44 [stA' a, stA' b] (srV (sRun a b)) := by
  have hM := meet_pc a b ha hb
  have hA := SiteCanon_d a ha
  have hB := SiteCanon_d b hb
  have s1 := siteC_sm a
  have s2 := siteC_sm b
  have hP := PairBase_d a.base ha.t (siteC a) (siteC b) s1 s2
  have hT := PairTree_d a.base ha.t (siteC a) (siteC b) s1 s2
  have hU := PairTree_d a.base ha.t (siteC b) (siteC a) s2 s1
  have hL := LeftOf_d (siteC a) (siteC b) s1 s2
  have hR := LeftOf_d (siteC b) (siteC a) s2 s1
  unfold stA' stC at *
  refine pc_enter Tryz.func44 rfl rfl fun w0 fb => go_on ?_; (try simp only [Tryz.ntmps44, push_cast, simprocAttr])
  (refine at_call ?_; (try simp only [push_cast, simprocAttr]); refine rwc_v (hM) (go_on ?_); (try simp only [push_cast, simprocAttr]))
  cases h : meet a b with
  | false =>
    have e : sRun a b = none := by simp [sRun, h]
    (try simp only [h, Bool.not_false, push_cast, simprocAttr])
    refine at_ret ?_; simp only [Tryz.results44, push_cast, simprocAttr]
    simp [srV, vX, e, st00]
  | true =>
    (try simp only [h, Bool.not_true, push_cast, simprocAttr])
    refine at_draw rfl (by kernel_rfl) ?_; simp only [push_cast, simprocAttr]
    (refine at_shareD (by simp [isC2, isC]) (by first | rfl | simp [ren]) hA ?_; (try simp only [push_cast, simprocAttr]))
    (refine at_shareD (by simp [isC2, isC]) (by first | rfl | simp [ren]) hB ?_; (try simp only [push_cast, simprocAttr]))
    refine at_done (by kernel_rfl) (by kernel_rfl) (go_on ?_)
    (try simp only [push_cast, simprocAttr])
    ((try simp only [push_cast, simprocAttr]); refine at_share2 (by simp [isC2, isC]) (by first | rfl | simp [ren]) (hP) (go_on ?_); (try simp only [push_cast, simprocAttr]))
    ((try simp only [push_cast, simprocAttr]); refine at_share2 (by simp [isC2, isC]) (by first | rfl | simp [ren]) (hT) (go_on ?_); (try simp only [push_cast, simprocAttr]))
    ((try simp only [push_cast, simprocAttr]); refine at_share2 (by simp [isC2, isC]) (by first | rfl | simp [ren]) (hU) (go_on ?_); (try simp only [push_cast, simprocAttr]))
    cases e1 : pairBase a.base (siteC a) (siteC b) with
    | none =>
      have e : sRun a b = none := by simp [sRun, h, e1]
      (try simp only [e1, Option.isSome_none, Bool.not_false, push_cast, simprocAttr])
      refine at_ret ?_; simp only [Tryz.results44, push_cast, simprocAttr]
      simp [srV, vX, e, st00]
    | some t =>
    cases e2 : pairTree a.base (siteC a) (siteC b) with
    | none =>
      have e : sRun a b = none := by simp [sRun, h, e1, e2]
      (try simp only [e1, e2, Option.isSome_none, Option.isSome_some, Bool.not_false, Bool.not_true, push_cast, simprocAttr])
      refine at_ret ?_; simp only [Tryz.results44, push_cast, simprocAttr]
      simp [srV, vX, e, st00]
    | some u =>
    cases e3 : pairTree a.base (siteC b) (siteC a) with
    | none =>
      have e : sRun a b = none := by simp [sRun, h, e1, e2, e3]
      (try simp only [e1, e2, e3, Option.isSome_none, Option.isSome_some, Bool.not_false, Bool.not_true, push_cast, simprocAttr])
      refine at_ret ?_; simp only [Tryz.results44, push_cast, simprocAttr]
      simp [srV, vX, e, st00]
    | some v =>
    have e : sRun a b = some (⟨a.ep + 1, t, leftOf (siteC a) (siteC b)⟩, ⟨a.ep + 1, t, leftOf (siteC b) (siteC a)⟩) := by simp [sRun, h, e1, e2, e3]
    have hm := (meet_iff a b).1 h
    obtain ⟨ta, tb, La, Lb, hsa, hsb, hbb, hee, hlt⟩ := hm
    have hep := hsa.ep
    have w1 : IntKind.i64.wrap (a.ep + 1) = a.ep + 1 := wr _ (by first | omega | (simp [inR] at hep; omega))
    have htl : t.length ≤ 10 := by
      obtain ⟨x, y, hpf⟩ := (pairFits_iff a.base (siteC a) (siteC b)).1 (by
        unfold pairBase at e1
        split at e1
        · rename_i hh; simp only [Bool.and_eq_true] at hh; exact hh.1
        · cases e1)
      exact (hpf.base_ov e1).2.le
    have hC := cloneTree_d t (by omega)
    (try simp only [e1, e2, e3, Option.isSome_some, Bool.not_true, Option.getD_some, push_cast, simprocAttr])
    refine at_draw rfl (by kernel_rfl) ?_; simp only [push_cast, simprocAttr]
    (try simp only [w1, push_cast, simprocAttr])
    (refine at_shareD (by simp [isC2, isC]) (by first | rfl | simp [ren]) hL ?_; (try simp only [push_cast, simprocAttr]))
    (try simp only [w1, push_cast, simprocAttr])
    (refine at_shareD (by simp [isC2, isC]) (by first | rfl | simp [ren]) hC ?_; (try simp only [push_cast, simprocAttr]))
    (refine at_shareD (by simp [isC2, isC]) (by first | rfl | simp [ren]) hR ?_; (try simp only [push_cast, simprocAttr]))
    (try simp only [w1, push_cast, simprocAttr])
    refine at_done (by kernel_rfl) (by kernel_rfl) (go_on ?_)
    (try simp only [push_cast, simprocAttr])
    refine at_ret ?_; simp only [Tryz.results44, push_cast, simprocAttr]
    simp [srV, vX, e, stC]
end Go.Proofs.YtjhbihooobingaaGreatDoor
/-
  Walks: spec.SessionRun.
-/
namespace Go.Proofs.YtjhbihooobingaaGreatDoor
open Go Go.RowKit Go.Proofs
attribute [local irreducible] RWp AW run kPe pe Kt effA gd gu br retR RDp runD kPeD brW gW effD
set_option maxRecDepth 100000
theorem specSessionRun_d (a b : St) (ha : SmS a) (hb : SmS b) : PC Tryz.prog 51 [stA' a, stA' b] (srV (sRun a b)) := by
  have hM := l42Ok_pc a b ha hb
  have hA := specSiteCanon_pc a ha
  have hB := specSiteCanon_pc b hb
  have s1 := siteC_sm a
  have s2 := siteC_sm b
  have hP := specPairBase_pc a.base ha.t (siteC a) (siteC b) s1 s2
  have hT := specPairTree_pc a.base ha.t (siteC a) (siteC b) s1 s2
  have hU := specPairTree_pc a.base ha.t (siteC b) (siteC a) s2 s1
  have hL := specLeftOf_d (siteC a) (siteC b) s1 s2
  have hR := specLeftOf_d (siteC b) (siteC a) s2 s1
  unfold tbV at hP hT hU
  unfold stA' stC at *
  unfold srV
  refine PC.toF ?_
  refine pc_enter Tryz.func51 rfl rfl fun w0 fb => go_on ?_; (try simp only [Tryz.ntmps51, push_cast, simprocAttr])
  (refine at_call ?_; (try simp only [push_cast, simprocAttr]); refine rwc_v (hM) (go_on ?_); (try simp only [push_cast, simprocAttr]))
  cases h : meet a b with
  | false =>
    have e : sRun a b = none := by simp [sRun, h]
    (try simp only [h, Bool.not_false, push_cast, simprocAttr])
    refine at_ret ?_; simp only [Tryz.results51, push_cast, simprocAttr]
    simp [vF, viewN, isC, hpOf, hget, tk, ixOf, e, st00]
  | true =>
    (try simp only [h, Bool.not_true, push_cast, simprocAttr])
    ((try simp only [push_cast, simprocAttr]); refine at_share2 (by simp [isC2, isC]) (by first | rfl | simp [ren]) (hA) (go_on ?_); (try simp only [push_cast, simprocAttr]))
    ((try simp only [push_cast, simprocAttr]); refine at_share2 (by simp [isC2, isC]) (by first | rfl | simp [ren]) (hB) (go_on ?_); (try simp only [push_cast, simprocAttr]))
    ((try simp only [push_cast, simprocAttr]); refine at_share2 (by simp [isC2, isC]) (by first | rfl | simp [ren]) (hP) (go_on ?_); (try simp only [push_cast, simprocAttr]))
    ((try simp only [push_cast, simprocAttr]); refine at_share2 (by simp [isC2, isC]) (by first | rfl | simp [ren]) (hT) (go_on ?_); (try simp only [push_cast, simprocAttr]))
    ((try simp only [push_cast, simprocAttr]); refine at_share2 (by simp [isC2, isC]) (by first | rfl | simp [ren]) (hU) (go_on ?_); (try simp only [push_cast, simprocAttr]))
    cases e1 : pairBase a.base (siteC a) (siteC b) with
    | none =>
      have e : sRun a b = none := by simp [sRun, h, e1]
      (try simp only [e1, Option.isSome_none, Bool.not_false, push_cast, simprocAttr])
      refine at_ret ?_; simp only [Tryz.results51, push_cast, simprocAttr]
      simp [vF, viewN, isC, hpOf, hget, tk, ixOf, e, st00]
    | some t =>
    cases e2 : pairTree a.base (siteC a) (siteC b) with
    | none =>
      have e : sRun a b = none := by simp [sRun, h, e1, e2]
      (try simp only [e1, e2, Option.isSome_none, Option.isSome_some, Bool.not_false, Bool.not_true, push_cast, simprocAttr])
      refine at_ret ?_; simp only [Tryz.results51, push_cast, simprocAttr]
      simp [vF, viewN, isC, hpOf, hget, tk, ixOf, e, st00]
    | some u =>
    cases e3 : pairTree a.base (siteC b) (siteC a) with
    | none =>
      have e : sRun a b = none := by simp [sRun, h, e1, e2, e3]
      (try simp only [e1, e2, e3, Option.isSome_none, Option.isSome_some, Bool.not_false, Bool.not_true, push_cast, simprocAttr])
      refine at_ret ?_; simp only [Tryz.results51, push_cast, simprocAttr]
      simp [vF, viewN, isC, hpOf, hget, tk, ixOf, e, st00]
    | some v =>
    have e : sRun a b = some (⟨a.ep + 1, t, leftOf (siteC a) (siteC b)⟩, ⟨a.ep + 1, t, leftOf (siteC b) (siteC a)⟩) := by simp [sRun, h, e1, e2, e3]
    have hm := (meet_iff a b).1 h
    obtain ⟨ta, tb, La, Lb, hsa, hsb, hbb, hee, hlt⟩ := hm
    have hep := hsa.ep
    have htl : t.length ≤ 10 := by
      obtain ⟨x, y, hpf⟩ := (pairFits_iff a.base (siteC a) (siteC b)).1 (by
        unfold pairBase at e1
        split at e1
        · rename_i hh; simp only [Bool.and_eq_true] at hh; exact hh.1
        · cases e1)
      exact (hpf.base_ov e1).2.le
    have w1 : IntKind.i64.wrap (a.ep + 1) = a.ep + 1 := wr _ (by omega)
    (try simp only [e1, e2, e3, Option.isSome_some, Bool.not_true, Option.getD_some, push_cast, simprocAttr])
    refine at_draw rfl (by kernel_rfl) ?_; simp only [push_cast, simprocAttr]
    (try simp only [w1, push_cast, simprocAttr])
    (refine at_shareD (by simp [isC2, isC]) (by first | rfl | simp [ren]) hL ?_; (try simp only [push_cast, simprocAttr]))
    (try simp only [w1, push_cast, simprocAttr])
    refine at_done (by kernel_rfl) (by kernel_rfl) (go_on ?_)
    (try simp only [push_cast, simprocAttr])
    refine at_draw rfl (by kernel_rfl) ?_; simp only [push_cast, simprocAttr]
    (try simp only [w1, push_cast, simprocAttr])
    (try simp only [effD_app2, w1, push_cast, simprocAttr])
    refine at_chkD (by omega) ?_
    (try simp only [push_cast, simprocAttr])
    (refine at_shareD (by simp [isC2, isC]) (by first | rfl | simp [ren]) hR ?_; (try simp only [push_cast, simprocAttr]))
    refine at_done (by kernel_rfl) (by kernel_rfl) (go_on ?_)
    (try simp only [push_cast, simprocAttr])
    refine at_draw rfl (by kernel_rfl) ?_; simp only [push_cast, simprocAttr]
    refine at_done (by kernel_rfl) (by kernel_rfl) (go_on ?_)
    (try simp only [push_cast, simprocAttr])
    refine at_ret ?_; simp only [Tryz.results51, push_cast, simprocAttr]
    simp [vF, viewN, isC, hpOf, hget, tk, ixOf, e, stC]
end Go.Proofs.YtjhbihooobingaaGreatDoor
/-
  Walks: sessions in steps: SessionNew, SessionRecover (read as data).
-/
namespace Go.Proofs.YtjhbihooobingaaGreatDoor
open Go Go.RowKit Go.Proofs
theorem SmS.c1 {s : St} (h : SmS s) : s.base.length < 4294967281 := by have := h.t.n; omega
theorem SmS.c2 {s : St} (h : SmS s) : s.log.length < 4294967281 := by have := h.l.n; omega
attribute [local irreducible] RWp AW run kPe pe Kt effA gd gu br retR RDp runD kPeD brW gW effD
set_option maxRecDepth 100000
end Go.Proofs.YtjhbihooobingaaGreatDoor
/-
  Walks: sessions in steps: SessionNew (read as data).
-/
namespace Go.Proofs.YtjhbihooobingaaGreatDoor
open Go Go.RowKit Go.Proofs
attribute [local irreducible] RWp AW run kPe pe Kt effA gd gu br retR RDp runD kPeD brW gW effD
set_option maxRecDepth 100000
end Go.Proofs.YtjhbihooobingaaGreatDoor
/-
  Walks: sessions in steps: SessionStep (read as data).
-/
namespace Go.Proofs.YtjhbihooobingaaGreatDoor
open Go Go.RowKit Go.Proofs
attribute [local irreducible] RWp AW run kPe pe Kt effA gd gu br retR RDp runD kPeD brW gW effD
set_option maxRecDepth 100000
end Go.Proofs.YtjhbihooobingaaGreatDoor
/-
  Walks: sessions in steps: SessionStep behind its plan (read as data).
-/
namespace Go.Proofs.YtjhbihooobingaaGreatDoor
open Go Go.RowKit Go.Proofs
attribute [local irreducible] RWp AW run kPe pe Kt effA gd gu br retR RDp runD kPeD brW gW effD
set_option maxRecDepth 100000
end Go.Proofs.YtjhbihooobingaaGreatDoor
/-
  Walks: spec.SessionNew (read as data).
-/
namespace Go.Proofs.YtjhbihooobingaaGreatDoor
open Go Go.RowKit Go.Proofs
attribute [local irreducible] RWp AW run kPe pe Kt effA gd gu br retR RDp runD kPeD brW gW effD
set_option maxRecDepth 100000
end Go.Proofs.YtjhbihooobingaaGreatDoor
/-
  Walks: laws.sameSession.
-/
namespace Go.Proofs.YtjhbihooobingaaGreatDoor
open Go Go.RowKit Go.Proofs
attribute [local irreducible] RWp AW run kPe pe Kt effA gd gu br retR RDp runD kPeD brW gW effD
set_option maxRecDepth 100000
end Go.Proofs.YtjhbihooobingaaGreatDoor
/-
  Walks: impl.TreeGet.
-/
namespace Go.Proofs.YtjhbihooobingaaGreatDoor
open Go Go.RowKit Go.Proofs
attribute [local irreducible] RWp AW run kPe pe Kt effA gd gu br retR RDp runD kPeD brW gW effD
set_option maxRecDepth 100000
end Go.Proofs.YtjhbihooobingaaGreatDoor
/-
  Walks: sessions, read as data, with the empty side and the empty session where there is none.
-/
namespace Go.Proofs.YtjhbihooobingaaGreatDoor
open Go Go.RowKit Go.Proofs
def rA (a b : St) : St := ((sRun a b).map (·.1)).getD st0
def rB (a b : St) : St := ((sRun a b).map (·.2)).getD st0
theorem rA_some {a b x y : St} (h : sRun a b = some (x, y)) : rA a b = x := by simp [rA, h]
theorem rB_some {a b x y : St} (h : sRun a b = some (x, y)) : rB a b = y := by simp [rB, h]
theorem rA_none {a b : St} (h : sRun a b = none) : rA a b = st0 := by simp [rA, h]
theorem rB_none {a b : St} (h : sRun a b = none) : rB a b = st0 := by simp [rB, h]
theorem siteV_sm {s : St} (h : siteV s = true) : SmS s := by
  obtain ⟨t, L, h3⟩ := (siteV_iff s).1 h
  have := lV_len h3.lv
  refine ⟨sm_tv h3.tv, ⟨by omega, fun c hc => ?_⟩⟩
  have hc := lV_cv h3.lv c hc
  have := (pV_len hc.p hc.r).2
  omega
theorem st0_sm : SmS st0 := ⟨⟨⟨by simp [st0], fun n hn => by simp [st0] at hn⟩, by simp [st0]⟩, ⟨by simp [st0], fun c hc => by simp [st0] at hc⟩⟩
theorem srV_e {P : Program} {f : FuncId} {args : List AV} {a b : St} (h : PC P f args (srV (sRun a b))) : PC P f args (vX (.tup [stA' (rA a b), stA' (rB a b), bA (sRun a b).isSome])) := by
  cases hr : sRun a b with
  | none =>
    rw [hr] at h
    rw [rA_none hr, rB_none hr]
    refine PC.less h fun h loc w v hg => hg.tup2 rfl fun j x y u h1 h2 h3 => ?_
    rcases j with _ | _ | _ | j
    · cases h1; cases h2; exact nil_st0 h3
    · cases h1; cases h2; exact nil_st0 h3
    · cases h1; cases h2; exact h3
    · cases h1
  | some p =>
    obtain ⟨x, y⟩ := p
    rw [hr] at h
    rw [rA_some hr, rB_some hr]
    exact h
theorem SessionRun_e (a b : St) (ha : SmS a) (hb : SmS b) : PC Tryz.prog 44 [stA' a, stA' b] (vX (.tup [stA' (rA a b), stA' (rB a b), bA (sRun a b).isSome])) := srV_e (SessionRun_d a b ha hb)
theorem specSessionRun_e (a b : St) (ha : SmS a) (hb : SmS b) : PC Tryz.prog 51 [stA' a, stA' b] (vX (.tup [stA' (rA a b), stA' (rB a b), bA (sRun a b).isSome])) := srV_e (specSessionRun_d a b ha hb)
end Go.Proofs.YtjhbihooobingaaGreatDoor
/-
  Walks: strings.Cut at one byte; impl.do.
-/
namespace Go.Proofs.YtjhbihooobingaaGreatDoor
open Go Go.RowKit Go.Proofs
attribute [local irreducible] RWp AW run kPe pe Kt effA gd gu br retR RDp runD kPeD brW gW effD
set_option maxRecDepth 100000
theorem litIndex_pc (s : Str) (b : UInt8) : PC Tryz.prog 96 [sA s, sA [b]] (vI (Lib.indexByte s b)) :=
  pc_val (P := Tryz.prog) (f := 96) (argv := [.string ⟨s.toArray⟩, .string ⟨#[b]⟩]) (x := .int .i64 (Lib.indexByte s b)) (enters_of Tryz.func96 (by kernel_rfl) rfl) fun w => Any.stringslite_Index_one { Tryz.lays143 with } ⟨s.toArray⟩ b w
theorem litCut_no {s : Str} {b : UInt8} (h : Lib.indexByte s b = -1) : PC Tryz.prog 66 [sA s, sA [b]] (vX (.tup [sA s, sA [], bA false])) := by
  have hI := litIndex_pc s b
  rw [h] at hI
  refine pc_enter Tryz.func66 rfl rfl fun w0 fb => go_on ?_; (try simp only [Tryz.ntmps66, push_cast, simprocAttr])
  (refine at_call ?_; (try simp only [push_cast, simprocAttr]); refine rwc_v (hI) (go_on ?_); (try simp only [push_cast, simprocAttr]))
  (try simp only [show leI 0 (-1) = false from rfl, push_cast, simprocAttr])
  refine at_ret ?_; simp only [Tryz.results66, push_cast, simprocAttr]
  simp [vX]
theorem litCut_at {u v : Str} {b : UInt8} (hl : (u ++ b :: v).length < 4294967281) (h : Lib.indexByte (u ++ b :: v) b = (u.length : Nat)) : PC Tryz.prog 66 [sA (u ++ b :: v), sA [b]] (vX (.tup [sA u, sA v, bA true])) := by
  have hI := litIndex_pc (u ++ b :: v) b
  rw [h] at hI
  have hn : (u ++ b :: v).length = u.length + (v.length + 1) := by simp
  obtain ⟨s, hs⟩ : ∃ s, s = u ++ b :: v := ⟨_, rfl⟩
  rw [← hs] at hI hl hn ⊢
  have i1 : leI 0 (u.length : Int) = true := leI_t (by omega)
  have w1 := wr ((u.length : Int) + 1) (by omega)
  have c1 : (u.length : Int) ≤ s.length := by omega
  have c2 : (u.length : Int) + 1 ≤ s.length := by omega
  have c3 : (0 : Int) ≤ (u.length : Int) + 1 := by omega
  have n1 : ((u.length : Int) + 1).toNat = u.length + 1 := by omega
  have d1 : List.drop (u.length + 1) (List.take s.length s) = v := by rw [List.take_length, hs]; simp
  have d2 : List.take u.length s = u := by rw [hs]; simp
  refine pc_enter Tryz.func66 rfl rfl fun w0 fb => go_on ?_; (try simp only [Tryz.ntmps66, push_cast, simprocAttr])
  (refine at_call ?_; (try simp only [push_cast, simprocAttr]); refine rwc_v (hI) (go_on ?_); (try simp only [push_cast, simprocAttr]))
  (try simp only [i1, push_cast, simprocAttr])
  refine at_draw rfl (by kernel_rfl) ?_; simp only [push_cast, simprocAttr]
  (try simp only [w1, c1, c2, c3, n1, d1, d2, push_cast, simprocAttr])
  refine at_done (by kernel_rfl) (by kernel_rfl) (go_on ?_)
  (try simp only [push_cast, simprocAttr])
  refine at_ret ?_; simp only [Tryz.results66, push_cast, simprocAttr]
  simp [vX]
theorem Cut_no {s : Str} {b : UInt8} (h : Lib.indexByte s b = -1) : PC Tryz.prog 41 [sA s, sA [b]] (vX (.tup [sA s, sA [], bA false])) := by
  have hI := litCut_no h
  refine pc_enter Tryz.func41 rfl rfl fun w0 fb => go_on ?_; (try simp only [Tryz.ntmps41, push_cast, simprocAttr])
  ((try simp only [push_cast, simprocAttr]); refine at_share2 (by simp [isC2, isC]) (by first | rfl | simp [ren]) (hI) (go_on ?_); (try simp only [push_cast, simprocAttr]))
  refine at_ret ?_; simp only [Tryz.results41, push_cast, simprocAttr]
  simp [vX]
theorem Cut_at {u v : Str} {b : UInt8} (hl : (u ++ b :: v).length < 4294967281) (h : Lib.indexByte (u ++ b :: v) b = (u.length : Nat)) : PC Tryz.prog 41 [sA (u ++ b :: v), sA [b]] (vX (.tup [sA u, sA v, bA true])) := by
  have hI := litCut_at hl h
  refine pc_enter Tryz.func41 rfl rfl fun w0 fb => go_on ?_; (try simp only [Tryz.ntmps41, push_cast, simprocAttr])
  ((try simp only [push_cast, simprocAttr]); refine at_share2 (by simp [isC2, isC]) (by first | rfl | simp [ren]) (hI) (go_on ?_); (try simp only [push_cast, simprocAttr]))
  refine at_ret ?_; simp only [Tryz.results41, push_cast, simprocAttr]
  simp [vX]
abbrev dskR (a b : St) : Row := ⟨47, 6, [[iA a.ep, ndA a.base, cmA a.log, iA b.ep, ndA b.base, cmA b.log]], true⟩
def dskD (a b : St) (o : Str) (rv : AV) (lr' rows : List Row) : Prop := rv = sA o ∧ lr' = [dskR a b] ∧ rows = []
theorem do_a (a b : St) (ha : SmS a) (t : Str) (ht : t.length < 4294967281) : PCL Tryz.prog 42 [dskR a b] (mvF none) [.p 0 0 0, sA t] (dskD (doT a t).1 b (doT a t).2) := by
  have hM := CommandParse_pc t ht
  unfold mpR at hM
  cases hp : parM t with
  | none =>
    have e : doT a t = (a, wWhat) := by unfold doT; rw [hp]
    have hfin : dskD (doT a t).1 b (doT a t).2 (sA wWhat) [dskR a b] [] := by rw [e]; exact ⟨rfl, rfl, rfl⟩
    rw [hp] at hM
    simp only [Option.getD_none, Option.isSome_none, cmC, cm0, ct0] at hM
    refine pcl_enter Tryz.func42 rfl rfl (by simp) fun w0 fb loc => go_on ?_; simp only [Tryz.ntmps42, hpL, nmL, mvF, renL, decide_true, decide_false, push_cast, simprocAttr]
    ((try simp only [push_cast, simprocAttr]); refine at_share2 (by simp [isC2, isC]) (by first | rfl | simp [ren]) (hM) (go_on ?_); (try simp only [push_cast, simprocAttr]))
    (try simp only [Bool.not_false, push_cast, simprocAttr])
    (refine at_retL ?_; simp only [Tryz.results42, retL, push_cast, simprocAttr]; simp [show List.range 1 = [0] from rfl, show List.range 2 = [0, 1] from rfl, show List.range 3 = [0, 1, 2] from rfl, nmL, mvF, ndB, ixOf, rowsOf, hget, rdR, rowS, rowN, rowC]; exact  hfin)
  | some c =>
    obtain ⟨hcp, hcv⟩ := parM_p hp
    have hD := SiteDo_d a ha c (by omega)
    rw [hp] at hM
    simp only [Option.getD_some, Option.isSome_some, cmC] at hM
    obtain ⟨s', ok, hs⟩ : ∃ s' ok, siteDo a c = (s', ok) := ⟨_, _, rfl⟩
    rw [hs] at hD
    unfold stA' stC at hD
    unfold cmdA cmC at hD
    simp only at hD
    cases ok with
    | false =>
      have e : doT a t = (a, wBreaks) := by unfold doT; rw [hp]; simp [hs]
      have hfin : dskD (doT a t).1 b (doT a t).2 (sA wBreaks) [dskR a b] [] := by rw [e]; exact ⟨rfl, rfl, rfl⟩
      refine pcl_enter Tryz.func42 rfl rfl (by simp) fun w0 fb loc => go_on ?_; simp only [Tryz.ntmps42, hpL, nmL, mvF, renL, decide_true, decide_false, push_cast, simprocAttr]
      ((try simp only [push_cast, simprocAttr]); refine at_share2 (by simp [isC2, isC]) (by first | rfl | simp [ren]) (hM) (go_on ?_); (try simp only [push_cast, simprocAttr]))
      (try simp only [Bool.not_true, push_cast, simprocAttr])
      refine at_draw rfl (by kernel_rfl) ?_; simp only [push_cast, simprocAttr]
      (refine at_shareD (by simp [isC2, isC]) (by first | rfl | simp [ren]) hD ?_; (try simp only [push_cast, simprocAttr]))
      refine at_done (by kernel_rfl) (by kernel_rfl) (go_on ?_)
      (try simp only [Bool.not_false, push_cast, simprocAttr])
      (refine at_retL ?_; simp only [Tryz.results42, retL, push_cast, simprocAttr]; simp [show List.range 1 = [0] from rfl, show List.range 2 = [0, 1] from rfl, show List.range 3 = [0, 1, 2] from rfl, nmL, mvF, ndB, ixOf, rowsOf, hget, rdR, rowS, rowN, rowC]; exact  hfin)
    | true =>
      have e : doT a t = (s', wOk) := by unfold doT; rw [hp]; simp [hs]
      have hfin : dskD (doT a t).1 b (doT a t).2 (sA wOk) [dskR s' b] [] := by rw [e]; exact ⟨rfl, rfl, rfl⟩
      refine pcl_enter Tryz.func42 rfl rfl (by simp) fun w0 fb loc => go_on ?_; simp only [Tryz.ntmps42, hpL, nmL, mvF, renL, decide_true, decide_false, push_cast, simprocAttr]
      ((try simp only [push_cast, simprocAttr]); refine at_share2 (by simp [isC2, isC]) (by first | rfl | simp [ren]) (hM) (go_on ?_); (try simp only [push_cast, simprocAttr]))
      (try simp only [Bool.not_true, push_cast, simprocAttr])
      refine at_draw rfl (by kernel_rfl) ?_; simp only [push_cast, simprocAttr]
      (refine at_shareD (by simp [isC2, isC]) (by first | rfl | simp [ren]) hD ?_; (try simp only [push_cast, simprocAttr]))
      refine at_done (by kernel_rfl) (by kernel_rfl) (go_on ?_)
      (try simp only [Bool.not_true, push_cast, simprocAttr])
      (refine at_retL ?_; simp only [Tryz.results42, retL, push_cast, simprocAttr]; simp [show List.range 1 = [0] from rfl, show List.range 2 = [0, 1] from rfl, show List.range 3 = [0, 1, 2] from rfl, nmL, mvF, ndB, ixOf, rowsOf, hget, rdR, rowS, rowN, rowC]; exact  hfin)
end Go.Proofs.YtjhbihooobingaaGreatDoor
/-
  Walks: impl.(*desk).line.
-/
namespace Go.Proofs.YtjhbihooobingaaGreatDoor
open Go Go.RowKit Go.Proofs
structure WS (x : St) : Prop where
  s : SmS x
  b : SmW x.base
theorem ws_st0 : WS st0 := ⟨st0_sm, by simp [st0], fun n hn => by simp [st0] at hn⟩
theorem ws_v {s : St} (h : siteV s = true) : WS s := by
  obtain ⟨t, L, h3⟩ := (siteV_iff s).1 h
  exact ⟨siteV_sm h, smW_tv h3.tv⟩
theorem ws_do {s : St} (h : WS s) {t : Str} (ht : t.length < 4294967281) : WS (doT s t).1 := by
  refine ⟨?_, by rw [doT_base]; exact h.b⟩
  unfold doT
  split
  · exact h.s
  · rename_i c hc
    split
    · exact siteDo_sm h.s (by have := (parM_p hc).1; omega)
    · exact h.s
theorem smW_siteT (s : St) : SmW (siteT s) := smW_tv ((tV_iff _).1 (tV_siteT s))
theorem ws_wrd {a b : St} (ha : WS a) (hb : WS b) (l : Str) : WS (wrdT a b l).1 ∧ WS (wrdT a b l).2.1 ∧ (wrdT a b l).2.2.length ≤ 15000 := by
  unfold wrdT
  repeat' split
  · exact ⟨ha, hb, by simp [wNo, wWhat]⟩
  · rename_i x y hr
    have h := law_session hr
    have := dec_len (sCl a b).toNat
    exact ⟨ws_v h.1, ws_v h.2.1, by simp [wCl]; omega⟩
  · refine ⟨ha, hb, ?_⟩
    have h1 := clsTs_le (siteC a) (siteC b) (clOf (siteC a) (siteC b))
    have h2 := clOf_le (siteC a) (siteC b)
    simp only [txtK, List.length_append, wEnd, List.length_cons, List.length_nil]
    omega
  · refine ⟨ha, hb, ?_⟩
    have h1 := txtT_len (w := [97]) (smW_siteT a)
    have h2 := txtT_len (w := [98]) (smW_siteT b)
    simp only [List.length_append, List.length_cons, List.length_nil] at h1 h2 ⊢
    omega
  · exact ⟨ha, hb, by simp [wNo, wWhat]⟩
theorem doT_len (s : St) (t : Str) : (doT s t).2.length ≤ 7 := by
  unfold doT
  split
  · simp [wWhat]
  · split <;> simp [wOk, wBreaks]
theorem ws_line {a b : St} (ha : WS a) (hb : WS b) {l : Str} (hl : l.length < 4294967281) : WS (lineT a b l).1 ∧ WS (lineT a b l).2.1 ∧ (lineT a b l).2.2.length ≤ 15000 := by
  have hd : (l.drop 2).length < 4294967281 := by rw [List.length_drop]; omega
  by_cases h1 : ([97, 32] : Str).isPrefixOf l = true
  · unfold lineT
    rw [if_pos h1]
    exact ⟨ws_do ha hd, hb, by have := doT_len a (l.drop 2); simp only; omega⟩
  · by_cases h2 : ([98, 32] : Str).isPrefixOf l = true
    · unfold lineT
      rw [if_neg h1, if_pos h2]
      exact ⟨ha, ws_do hb hd, by have := doT_len b (l.drop 2); simp only; omega⟩
    · rw [lineT_w (Bool.eq_false_iff.2 h1) (Bool.eq_false_iff.2 h2)]
      exact ws_wrd ha hb l
attribute [local irreducible] RWp AW run kPe pe Kt effA gd gu br retR RDp runD kPeD brW gW effD
set_option maxRecDepth 100000
theorem do_b (a b : St) (hb : SmS b) (t : Str) (ht : t.length < 4294967281) : PCL Tryz.prog 42 [dskR a b] (mvF none) [.p 0 0 3, sA t] (dskD a (doT b t).1 (doT b t).2) := by
  have hM := CommandParse_pc t ht
  unfold mpR at hM
  cases hp : parM t with
  | none =>
    have e : doT b t = (b, wWhat) := by unfold doT; rw [hp]
    have hfin : dskD a (doT b t).1 (doT b t).2 (sA wWhat) [dskR a b] [] := by rw [e]; exact ⟨rfl, rfl, rfl⟩
    rw [hp] at hM
    simp only [Option.getD_none, Option.isSome_none, cmC, cm0, ct0] at hM
    refine pcl_enter Tryz.func42 rfl rfl (by simp) fun w0 fb loc => go_on ?_; simp only [Tryz.ntmps42, hpL, nmL, mvF, renL, decide_true, decide_false, push_cast, simprocAttr]
    ((try simp only [push_cast, simprocAttr]); refine at_share2 (by simp [isC2, isC]) (by first | rfl | simp [ren]) (hM) (go_on ?_); (try simp only [push_cast, simprocAttr]))
    (try simp only [Bool.not_false, push_cast, simprocAttr])
    (refine at_retL ?_; simp only [Tryz.results42, retL, push_cast, simprocAttr]; simp [show List.range 1 = [0] from rfl, show List.range 2 = [0, 1] from rfl, show List.range 3 = [0, 1, 2] from rfl, nmL, mvF, ndB, ixOf, rowsOf, hget, rdR, rowS, rowN, rowC]; exact  hfin)
  | some c =>
    obtain ⟨hcp, hcv⟩ := parM_p hp
    have hD := SiteDo_d b hb c (by omega)
    rw [hp] at hM
    simp only [Option.getD_some, Option.isSome_some, cmC] at hM
    obtain ⟨s', ok, hs⟩ : ∃ s' ok, siteDo b c = (s', ok) := ⟨_, _, rfl⟩
    rw [hs] at hD
    unfold stA' stC at hD
    unfold cmdA cmC at hD
    simp only at hD
    cases ok with
    | false =>
      have e : doT b t = (b, wBreaks) := by unfold doT; rw [hp]; simp [hs]
      have hfin : dskD a (doT b t).1 (doT b t).2 (sA wBreaks) [dskR a b] [] := by rw [e]; exact ⟨rfl, rfl, rfl⟩
      refine pcl_enter Tryz.func42 rfl rfl (by simp) fun w0 fb loc => go_on ?_; simp only [Tryz.ntmps42, hpL, nmL, mvF, renL, decide_true, decide_false, push_cast, simprocAttr]
      ((try simp only [push_cast, simprocAttr]); refine at_share2 (by simp [isC2, isC]) (by first | rfl | simp [ren]) (hM) (go_on ?_); (try simp only [push_cast, simprocAttr]))
      (try simp only [Bool.not_true, push_cast, simprocAttr])
      refine at_draw rfl (by kernel_rfl) ?_; simp only [push_cast, simprocAttr]
      (refine at_shareD (by simp [isC2, isC]) (by first | rfl | simp [ren]) hD ?_; (try simp only [push_cast, simprocAttr]))
      refine at_done (by kernel_rfl) (by kernel_rfl) (go_on ?_)
      (try simp only [Bool.not_false, push_cast, simprocAttr])
      (refine at_retL ?_; simp only [Tryz.results42, retL, push_cast, simprocAttr]; simp [show List.range 1 = [0] from rfl, show List.range 2 = [0, 1] from rfl, show List.range 3 = [0, 1, 2] from rfl, nmL, mvF, ndB, ixOf, rowsOf, hget, rdR, rowS, rowN, rowC]; exact  hfin)
    | true =>
      have e : doT b t = (s', wOk) := by unfold doT; rw [hp]; simp [hs]
      have hfin : dskD a (doT b t).1 (doT b t).2 (sA wOk) [dskR a s'] [] := by rw [e]; exact ⟨rfl, rfl, rfl⟩
      refine pcl_enter Tryz.func42 rfl rfl (by simp) fun w0 fb loc => go_on ?_; simp only [Tryz.ntmps42, hpL, nmL, mvF, renL, decide_true, decide_false, push_cast, simprocAttr]
      ((try simp only [push_cast, simprocAttr]); refine at_share2 (by simp [isC2, isC]) (by first | rfl | simp [ren]) (hM) (go_on ?_); (try simp only [push_cast, simprocAttr]))
      (try simp only [Bool.not_true, push_cast, simprocAttr])
      refine at_draw rfl (by kernel_rfl) ?_; simp only [push_cast, simprocAttr]
      (refine at_shareD (by simp [isC2, isC]) (by first | rfl | simp [ren]) hD ?_; (try simp only [push_cast, simprocAttr]))
      refine at_done (by kernel_rfl) (by kernel_rfl) (go_on ?_)
      (try simp only [Bool.not_true, push_cast, simprocAttr])
      (refine at_retL ?_; simp only [Tryz.results42, retL, push_cast, simprocAttr]; simp [show List.range 1 = [0] from rfl, show List.range 2 = [0, 1] from rfl, show List.range 3 = [0, 1, 2] from rfl, nmL, mvF, ndB, ixOf, rowsOf, hget, rdR, rowS, rowN, rowC]; exact  hfin)
end Go.Proofs.YtjhbihooobingaaGreatDoor
/-
  Walks: spec.l51Site, spec.l51Line.
-/
namespace Go.Proofs.YtjhbihooobingaaGreatDoor
open Go Go.RowKit Go.Proofs
attribute [local irreducible] RWp AW run kPe pe Kt effA gd gu br retR RDp runD kPeD brW gW effD
set_option maxRecDepth 100000
theorem l51Site_d (s : St) (hsm : SmS s) (t : Str) (ht : t.length < 4294967281) : PC Tryz.prog 56 [stA' s, sA t] (vX (.tup [stA' (doT s t).1, sA (doT s t).2])) := by
  have hM := specCommandParse_pc t ht
  unfold mpR at hM
  cases hp : parM t with
  | none =>
    have e : doT s t = (s, wWhat) := by unfold doT; rw [hp]
    rw [e]
    rw [hp] at hM
    simp only [Option.getD_none, Option.isSome_none, cmC, cm0, ct0] at hM
    unfold stA' stC
    refine pc_enter Tryz.func56 rfl rfl fun w0 fb => go_on ?_; (try simp only [Tryz.ntmps56, push_cast, simprocAttr])
    ((try simp only [push_cast, simprocAttr]); refine at_share2 (by simp [isC2, isC]) (by first | rfl | simp [ren]) (hM) (go_on ?_); (try simp only [push_cast, simprocAttr]))
    (try simp only [Bool.not_false, push_cast, simprocAttr])
    refine at_ret ?_; simp only [Tryz.results56, push_cast, simprocAttr]
    simp [vX, wWhat]
  | some c =>
    obtain ⟨hcp, hcv⟩ := parM_p hp
    have hD := specSiteDo_d s hsm c (by omega)
    rw [hp] at hM
    simp only [Option.getD_some, Option.isSome_some, cmC] at hM
    obtain ⟨s', ok, hs⟩ : ∃ s' ok, siteDo s c = (s', ok) := ⟨_, _, rfl⟩
    rw [hs] at hD
    simp only at hD
    unfold cmdA cmC at hD
    cases ok with
    | false =>
      have e : doT s t = (s, wBreaks) := by unfold doT; rw [hp]; simp [hs]
      rw [e]
      simp only
      unfold stA' stC at *
      refine pc_enter Tryz.func56 rfl rfl fun w0 fb => go_on ?_; (try simp only [Tryz.ntmps56, push_cast, simprocAttr])
      ((try simp only [push_cast, simprocAttr]); refine at_share2 (by simp [isC2, isC]) (by first | rfl | simp [ren]) (hM) (go_on ?_); (try simp only [push_cast, simprocAttr]))
      (try simp only [Bool.not_true, push_cast, simprocAttr])
      ((try simp only [push_cast, simprocAttr]); refine at_share2 (by simp [isC2, isC]) (by first | rfl | simp [ren]) (hD) (go_on ?_); (try simp only [push_cast, simprocAttr]))
      (try simp only [Bool.not_false, push_cast, simprocAttr])
      refine at_ret ?_; simp only [Tryz.results56, push_cast, simprocAttr]
      simp [vX, wBreaks]
    | true =>
      have e : doT s t = (s', wOk) := by unfold doT; rw [hp]; simp [hs]
      rw [e]
      simp only
      unfold stA' stC at *
      refine pc_enter Tryz.func56 rfl rfl fun w0 fb => go_on ?_; (try simp only [Tryz.ntmps56, push_cast, simprocAttr])
      ((try simp only [push_cast, simprocAttr]); refine at_share2 (by simp [isC2, isC]) (by first | rfl | simp [ren]) (hM) (go_on ?_); (try simp only [push_cast, simprocAttr]))
      (try simp only [Bool.not_true, push_cast, simprocAttr])
      ((try simp only [push_cast, simprocAttr]); refine at_share2 (by simp [isC2, isC]) (by first | rfl | simp [ren]) (hD) (go_on ?_); (try simp only [push_cast, simprocAttr]))
      (try simp only [Bool.not_true, push_cast, simprocAttr])
      refine at_ret ?_; simp only [Tryz.results56, push_cast, simprocAttr]
      simp [vX, wOk]
end Go.Proofs.YtjhbihooobingaaGreatDoor
/-
  Walks: spec.l51Line.
-/
namespace Go.Proofs.YtjhbihooobingaaGreatDoor
open Go Go.RowKit Go.Proofs
attribute [local irreducible] RWp AW run kPe pe Kt effA gd gu br retR RDp runD kPeD brW gW effD
set_option maxRecDepth 100000
theorem l51Line_d (a b : St) (ha : WS a) (hb : WS b) (l : Str) (hl : l.length < 4294967281) : PC Tryz.prog 30 [stA' a, stA' b, sA l] (vX (.tup [stA' (lineT a b l).1, stA' (lineT a b l).2.1, sA (lineT a b l).2.2])) := by
  have ew : ∀ w, (w = wSync ∨ w = wCl ∨ w = wShow) → lineT a b w = wrdT a b w := fun w h => lineT_w (wrd_no h).1 (wrd_no h).2
  by_cases hs : l = wSync
  · have j1 : decide (l = [115, 121, 110, 99]) = true := by simpa [wSync] using hs
    have hCl := specSessionClashes_pc a b ha.s hb.s
    have hR := specSessionRun_e a b ha.s hb.s
    cases hr : sRun a b with
    | none =>
      have e : lineT a b l = (a, b, wNo) := by rw [hs, ew wSync (.inl rfl)]; unfold wrdT; rw [if_pos rfl, hr]
      rw [e]
      rw [rA_none hr, rB_none hr, hr] at hR
      simp only [Option.isSome_none, wNo]
      unfold stA' stC at *
      simp only [Option.isSome_none, st0] at hR
      refine pc_enter Tryz.func30 rfl rfl fun w0 fb => go_on ?_; (try simp only [Tryz.ntmps30, push_cast, simprocAttr])
      (try simp only [j1, push_cast, simprocAttr])
      (refine at_call ?_; (try simp only [push_cast, simprocAttr]); refine rwc_v (hCl) (go_on ?_); (try simp only [push_cast, simprocAttr]))
      ((try simp only [push_cast, simprocAttr]); refine at_share2 (by simp [isC2, isC]) (by first | rfl | simp [ren]) (hR) (go_on ?_); (try simp only [push_cast, simprocAttr]))
      (try simp only [Bool.not_false, push_cast, simprocAttr])
      refine at_draw rfl (by kernel_rfl) ?_; simp only [push_cast, simprocAttr]
      refine at_done (by kernel_rfl) (by kernel_rfl) (go_on ?_)
      (try simp only [push_cast, simprocAttr])
      refine at_ret ?_; simp only [Tryz.results30, push_cast, simprocAttr]
      simp [vX]
    | some p =>
      obtain ⟨x, y⟩ := p
      obtain ⟨n, hn⟩ : ∃ n : Nat, n = (sCl a b).toNat := ⟨_, rfl⟩
      have h100 := sCl_lt hr
      have en : sCl a b = (n : Int) := by omega
      have e : lineT a b l = (x, y, wCl ++ ([32] ++ (dec n ++ [10]))) := by rw [hs, ew wSync (.inl rfl)]; unfold wrdT; rw [if_pos rfl, hr, hn]
      have hI := l6Dec_pc n (by omega)
      have hdl := dec_len n
      rw [e]
      rw [rA_some hr, rB_some hr, hr] at hR
      rw [en] at hCl
      simp only [Option.isSome_some, wCl]
      unfold stA' stC at *
      simp only [Option.isSome_some] at hR
      have f1 : 8 + (dec n).length ≤ 9223372036854775807 := by omega
      have f2 : (dec n).length ≤ 9223372036854775798 := by omega
      refine pc_enter Tryz.func30 rfl rfl fun w0 fb => go_on ?_; (try simp only [Tryz.ntmps30, push_cast, simprocAttr])
      (try simp only [j1, push_cast, simprocAttr])
      (refine at_call ?_; (try simp only [push_cast, simprocAttr]); refine rwc_v (hCl) (go_on ?_); (try simp only [push_cast, simprocAttr]))
      ((try simp only [push_cast, simprocAttr]); refine at_share2 (by simp [isC2, isC]) (by first | rfl | simp [ren]) (hR) (go_on ?_); (try simp only [push_cast, simprocAttr]))
      (try simp only [Bool.not_true, push_cast, simprocAttr])
      refine at_draw rfl (by kernel_rfl) ?_; simp only [push_cast, simprocAttr]
      (try simp only [f1, f2, push_cast, simprocAttr])
      repeat' first | (refine at_bWn (fun hb => ?_) (fun hb => ?_) <;> simp only [f1, f2, hb, push_cast, simprocAttr]) | (refine at_bW (fun hb => ?_) (fun hb => ?_) <;> simp only [f1, f2, hb, push_cast, simprocAttr]) | (refine at_callD (by simp [clB, idsL, idsA, hget]) ?_; (try simp only [push_cast, simprocAttr]); first | (refine rcd_v (hI) ?_; simp only [f1, f2, push_cast, simprocAttr]) | (refine rcd_d (hI) (by simp [flatV, flatL, ctC, ndC, cmC]) (by simp [ren, ctC, ndC, cmC]) ?_; simp only [f1, f2, push_cast, simprocAttr])) | (refine at_done (by kernel_rfl) (by kernel_rfl) (go_on ?_); (try simp only [f1, f2, push_cast, simprocAttr]))
      (try simp only [f1, f2, push_cast, simprocAttr])
      refine at_ret ?_; simp only [Tryz.results30, push_cast, simprocAttr]
      simp [vX]
  have j1 : decide (l = [115, 121, 110, 99]) = false := by simpa [wSync] using hs
  by_cases hc : l = wCl
  · have j2 : decide (l = [99, 108, 97, 115, 104, 101, 115]) = true := by simpa [wCl] using hc
    have e : lineT a b l = (a, b, txtK (siteC a) (siteC b) ++ wEnd) := by
      have h := ew l (.inr (.inl hc))
      unfold wrdT at h
      rw [if_neg hs, if_pos hc] at h
      exact h
    have hA := specSiteCanon_pc a ha.s
    have hB := specSiteCanon_pc b hb.s
    have hT := specClashText_pc (siteC a) (siteC b) (siteC_sm a) (siteC_sm b)
    have hTl : (txtK (siteC a) (siteC b)).length ≤ 14400 := by
      have h1 := clsTs_le (siteC a) (siteC b) (clOf (siteC a) (siteC b))
      have h2 := clOf_le (siteC a) (siteC b)
      unfold txtK; omega
    rw [e]
    simp only
    unfold stA' stC at *
    have f1 : (txtK (siteC a) (siteC b)).length ≤ 9223372036854775803 := by omega
    refine pc_enter Tryz.func30 rfl rfl fun w0 fb => go_on ?_; (try simp only [Tryz.ntmps30, push_cast, simprocAttr])
    (try simp only [j1, j2, push_cast, simprocAttr])
    refine at_draw rfl (by kernel_rfl) ?_; simp only [push_cast, simprocAttr]
    (refine at_shareD (by simp [isC2, isC]) (by first | rfl | simp [ren]) hA ?_; (try simp only [push_cast, simprocAttr]))
    (refine at_shareD (by simp [isC2, isC]) (by first | rfl | simp [ren]) hB ?_; (try simp only [push_cast, simprocAttr]))
    repeat' first | (refine at_bWn (fun hb => ?_) (fun hb => ?_) <;> simp only [f1, hb, push_cast, simprocAttr]) | (refine at_bW (fun hb => ?_) (fun hb => ?_) <;> simp only [f1, hb, push_cast, simprocAttr]) | (refine at_callD (by simp [clB, idsL, idsA, hget]) ?_; (try simp only [push_cast, simprocAttr]); first | (refine rcd_v (hT) ?_; simp only [f1, push_cast, simprocAttr]) | (refine rcd_d (hT) (by simp [flatV, flatL, ctC, ndC, cmC]) (by simp [ren, ctC, ndC, cmC]) ?_; simp only [f1, push_cast, simprocAttr])) | (refine at_done (by kernel_rfl) (by kernel_rfl) (go_on ?_); (try simp only [f1, push_cast, simprocAttr]))
    refine at_ret ?_; simp only [Tryz.results30, push_cast, simprocAttr]
    simp [vX, wEnd]
  have j2 : decide (l = [99, 108, 97, 115, 104, 101, 115]) = false := by simpa [wCl] using hc
  by_cases hw : l = wShow
  · have j3 : decide (l = [115, 104, 111, 119]) = true := by simpa [wShow] using hw
    have e : lineT a b l = (a, b, txtT [97] (siteT a) ++ txtT [98] (siteT b)) := by
      have h := ew l (.inr (.inr hw))
      unfold wrdT at h
      rw [if_neg hs, if_neg hc, if_pos hw] at h
      exact h
    have hA := specSiteTree_pc a ha.s
    have hB := specSiteTree_pc b hb.s
    have hTA := l51Tree_pc [97] (by simp) (siteT a) (smW_siteT a)
    have hTB := l51Tree_pc [98] (by simp) (siteT b) (smW_siteT b)
    have l1 := txtT_len (w := [97]) (smW_siteT a)
    have l2 := txtT_len (w := [98]) (smW_siteT b)
    rw [e]
    simp only
    unfold stA' stC at *
    simp only [List.length_cons, List.length_nil] at l1 l2
    have f1 : (txtT [97] (siteT a)).length + (txtT [98] (siteT b)).length ≤ 9223372036854775807 := by omega
    refine pc_enter Tryz.func30 rfl rfl fun w0 fb => go_on ?_; (try simp only [Tryz.ntmps30, push_cast, simprocAttr])
    (try simp only [j1, j2, j3, push_cast, simprocAttr])
    refine at_draw rfl (by kernel_rfl) ?_; simp only [push_cast, simprocAttr]
    (refine at_shareD (by simp [isC2, isC]) (by first | rfl | simp [ren]) hA ?_; (try simp only [push_cast, simprocAttr]))
    (refine at_callD (by simp [clB, idsL, idsA, hget]) ?_; (try simp only [push_cast, simprocAttr]); refine rcd_v hTA ?_)
    (try simp only [push_cast, simprocAttr])
    (refine at_shareD (by simp [isC2, isC]) (by first | rfl | simp [ren]) hB ?_; (try simp only [push_cast, simprocAttr]))
    (refine at_callD (by simp [clB, idsL, idsA, hget]) ?_; (try simp only [push_cast, simprocAttr]); refine rcd_v hTB ?_)
    (try simp only [f1, push_cast, simprocAttr])
    refine at_done (by kernel_rfl) (by kernel_rfl) (go_on ?_)
    (try simp only [push_cast, simprocAttr])
    refine at_ret ?_; simp only [Tryz.results30, push_cast, simprocAttr]
    simp [vX]
  have j3 : decide (l = [115, 104, 111, 119]) = false := by simpa [wShow] using hw
  by_cases h2 : 2 < l.length
  · obtain ⟨p, q, v, rfl⟩ : ∃ p q v, l = p :: q :: v := by
      match l, h2 with
      | p :: q :: v, _ => exact ⟨p, q, v, rfl⟩
    have hv : v.length < 4294967281 := by simp at hl; omega
    obtain ⟨l, hl0⟩ : ∃ l, l = p :: q :: v := ⟨_, rfl⟩
    have i2 : ltI 2 (l.length : Int) = true := ltI_t (by rw [hl0]; simp at h2 ⊢; omega)
    have c1 : (2 : Int) ≤ l.length := by have := of_ltI_t i2; omega
    obtain ⟨w2, hw2⟩ : ∃ w2 : Str, w2 = [p, q] := ⟨_, rfl⟩
    have d1 : List.take 2 l = w2 := by rw [hl0, hw2]; rfl
    have d2 : List.drop 2 (List.take l.length l) = v := by rw [List.take_length, hl0]; rfl
    rw [← hl0] at j1 j2 j3 hl hs hc hw ⊢
    by_cases ha' : w2 = [97, 32]
    · have e1 : decide (w2 = [97, 32]) = true := by simpa using ha'
      have e : lineT a b l = ((doT a v).1, b, (doT a v).2) := by
        have h0 := hw2.symm.trans ha'
        simp only [List.cons.injEq, and_true] at h0
        rw [hl0, h0.1, h0.2]; exact lineT_a a b v
      have hD := l51Site_d a ha.s v hv
      obtain ⟨s', o, hso⟩ : ∃ s' o, doT a v = (s', o) := ⟨_, _, rfl⟩
      rw [e, hso]
      rw [hso] at hD
      simp only at hD ⊢
      unfold stA' stC at *
      refine pc_enter Tryz.func30 rfl rfl fun w0 fb => go_on ?_; (try simp only [Tryz.ntmps30, push_cast, simprocAttr])
      (try simp only [j1, j2, j3, i2, c1, d1, e1, push_cast, simprocAttr])
      refine at_draw rfl (by kernel_rfl) ?_; simp only [push_cast, simprocAttr]
      (try simp only [c1, d2, push_cast, simprocAttr])
      (refine at_shareD (by simp [isC2, isC]) (by first | rfl | simp [ren]) hD ?_; (try simp only [push_cast, simprocAttr]))
      refine at_done (by kernel_rfl) (by kernel_rfl) (go_on ?_)
      (try simp only [push_cast, simprocAttr])
      refine at_draw rfl (by kernel_rfl) ?_; simp only [push_cast, simprocAttr]
      refine at_done (by kernel_rfl) (by kernel_rfl) (go_on ?_)
      (try simp only [push_cast, simprocAttr])
      refine at_ret ?_; simp only [Tryz.results30, push_cast, simprocAttr]
      simp [vX]
    · have e1 : decide (w2 = [97, 32]) = false := by simpa using ha'
      by_cases hb' : w2 = [98, 32]
      · have e2 : decide (w2 = [98, 32]) = true := by simpa using hb'
        have e : lineT a b l = (a, (doT b v).1, (doT b v).2) := by
          have h0 := hw2.symm.trans hb'
          simp only [List.cons.injEq, and_true] at h0
          rw [hl0, h0.1, h0.2]; exact lineT_b a b v
        have hD := l51Site_d b hb.s v hv
        obtain ⟨s', o, hso⟩ : ∃ s' o, doT b v = (s', o) := ⟨_, _, rfl⟩
        rw [e, hso]
        rw [hso] at hD
        simp only at hD ⊢
        unfold stA' stC at *
        refine pc_enter Tryz.func30 rfl rfl fun w0 fb => go_on ?_; (try simp only [Tryz.ntmps30, push_cast, simprocAttr])
        (try simp only [j1, j2, j3, i2, c1, d1, e1, e2, push_cast, simprocAttr])
        refine at_draw rfl (by kernel_rfl) ?_; simp only [push_cast, simprocAttr]
        (try simp only [c1, d2, push_cast, simprocAttr])
        (refine at_shareD (by simp [isC2, isC]) (by first | rfl | simp [ren]) hD ?_; (try simp only [push_cast, simprocAttr]))
        refine at_done (by kernel_rfl) (by kernel_rfl) (go_on ?_)
        (try simp only [push_cast, simprocAttr])
        refine at_draw rfl (by kernel_rfl) ?_; simp only [push_cast, simprocAttr]
        refine at_done (by kernel_rfl) (by kernel_rfl) (go_on ?_)
        (try simp only [push_cast, simprocAttr])
        refine at_ret ?_; simp only [Tryz.results30, push_cast, simprocAttr]
        simp [vX]
      · have e2 : decide (w2 = [98, 32]) = false := by simpa using hb'
        have e : lineT a b l = (a, b, wWhat) := by
          rw [lineT_w (Bool.eq_false_iff.2 fun h => ?_) (Bool.eq_false_iff.2 fun h => ?_)]
          · unfold wrdT; rw [if_neg hs, if_neg hc, if_neg hw]
          · rw [hl0, List.isPrefixOf_iff_prefix] at h
            obtain ⟨r, hr⟩ := h
            exact ha' (by rw [hw2]; simp only [List.cons_append, List.nil_append, List.cons.injEq] at hr; rw [hr.1, hr.2.1])
          · rw [hl0, List.isPrefixOf_iff_prefix] at h
            obtain ⟨r, hr⟩ := h
            exact hb' (by rw [hw2]; simp only [List.cons_append, List.nil_append, List.cons.injEq] at hr; rw [hr.1, hr.2.1])
        rw [e]
        simp only
        unfold stA' stC at *
        refine pc_enter Tryz.func30 rfl rfl fun w0 fb => go_on ?_; (try simp only [Tryz.ntmps30, push_cast, simprocAttr])
        (try simp only [j1, j2, j3, i2, c1, d1, e1, e2, push_cast, simprocAttr])
        refine at_draw rfl (by kernel_rfl) ?_; simp only [push_cast, simprocAttr]
        refine at_done (by kernel_rfl) (by kernel_rfl) (go_on ?_)
        (try simp only [push_cast, simprocAttr])
        refine at_ret ?_; simp only [Tryz.results30, push_cast, simprocAttr]
        simp [vX, wWhat]
  · have i2 : ltI 2 (l.length : Int) = false := ltI_f (by omega)
    have e : lineT a b l = (a, b, wWhat) := by
      by_cases h3 : ∃ v, l = 97 :: 32 :: v
      · obtain ⟨v, rfl⟩ := h3
        have : v = [] := by
          cases v with
          | nil => rfl
          | cons x r => simp at h2
        subst this
        rw [lineT_a, doT_nil]
      · by_cases h4 : ∃ v, l = 98 :: 32 :: v
        · obtain ⟨v, rfl⟩ := h4
          have : v = [] := by
            cases v with
            | nil => rfl
            | cons x r => simp at h2
          subst this
          rw [lineT_b, doT_nil]
        · rw [lineT_w (Bool.eq_false_iff.2 fun h => ?_) (Bool.eq_false_iff.2 fun h => ?_)]
          · unfold wrdT; rw [if_neg hs, if_neg hc, if_neg hw]
          · rw [List.isPrefixOf_iff_prefix] at h
            obtain ⟨r, hr⟩ := h
            exact h3 ⟨r, hr.symm⟩
          · rw [List.isPrefixOf_iff_prefix] at h
            obtain ⟨r, hr⟩ := h
            exact h4 ⟨r, hr.symm⟩
    rw [e]
    simp only
    unfold stA' stC at *
    refine pc_enter Tryz.func30 rfl rfl fun w0 fb => go_on ?_; (try simp only [Tryz.ntmps30, push_cast, simprocAttr])
    (try simp only [j1, j2, j3, i2, push_cast, simprocAttr])
    refine at_draw rfl (by kernel_rfl) ?_; simp only [push_cast, simprocAttr]
    refine at_done (by kernel_rfl) (by kernel_rfl) (go_on ?_)
    (try simp only [push_cast, simprocAttr])
    refine at_ret ?_; simp only [Tryz.results30, push_cast, simprocAttr]
    simp [vX, wWhat]
end Go.Proofs.YtjhbihooobingaaGreatDoor
/-
  Walks: spec.Execute.
-/
namespace Go.Proofs.YtjhbihooobingaaGreatDoor
open Go Go.RowKit Go.Proofs
theorem cutC_ne (b : UInt8) (s acc : Str) : cutC b acc s ≠ [] := by
  rw [cutC_eq]
  split
  · simp
  · simp
/-- All that is still to come, behind what has been said. -/
def endT (a b : St) (L : List Str) : Str := (runT a b L).2.2 ++ txtT wCommon (runT a b L).1.base
theorem endT_cons (a b : St) (l : Str) (L : List Str) : endT a b (l :: L) = (lineT a b l).2.2 ++ endT (lineT a b l).1 (lineT a b l).2.1 L := by
  simp [endT, runT]
theorem dropLast_ne {α : Type} {x : α} {l : List α} (h : l ≠ []) : (x :: l).dropLast = x :: l.dropLast := by
  cases l with
  | nil => exact absurd rfl h
  | cons y r => rfl
attribute [local irreducible] RWp AW run kPe pe Kt effA gd gu br retR RDp runD kPeD brW gW effD
set_option maxRecDepth 100000
theorem specExecute_pc (t : Str) : PC Tryz.prog 14 [sA t] (vS (execT t)) := by
  by_cases h600 : 600 < t.length
  · have i0 : ltI 600 (t.length : Int) = true := ltI_t (by omega)
    rw [law_long h600]
    refine pc_enter Tryz.func14 rfl rfl fun w0 fb => go_on ?_; (try simp only [Tryz.ntmps14, push_cast, simprocAttr])
    (try simp only [i0, push_cast, simprocAttr])
    refine at_ret ?_; simp only [Tryz.results14, push_cast, simprocAttr]
    simp [vX, wLong]
  have i0 : ltI 600 (t.length : Int) = false := ltI_f (by omega)
  have eE : execT t = endT st0 st0 (cutC 10 [] t).dropLast := by unfold execT; rw [if_neg h600, cutC_nil]; rfl
  obtain ⟨E, hE⟩ : ∃ E, E = execT t := ⟨_, rfl⟩
  have hL := l41Copy_pc st0 (by simp [st0]) (by simp [st0])
  unfold stA' stC stO at hL
  simp only [st0, List.length_nil] at hL
  rw [← hE] at eE ⊢
  refine pc_enter Tryz.func14 rfl rfl fun w0 fb => go_on ?_; (try simp only [Tryz.ntmps14, push_cast, simprocAttr])
  (try simp only [i0, push_cast, simprocAttr])
  refine at_call ?_
  (try simp only [push_cast, simprocAttr])
  refine rwc_r hL (by simp [flatV, flatL]) (flat_nc _ _) (by simp [frB, baseOf]) (go_on ?_)
  (try simp only [push_cast, simprocAttr])
  refine at_loop (X := St × St × Str × Nat × Nat) (fun x => [(5, sA x.2.2.1), (6, iA x.2.2.2.1), (7, iA x.2.2.2.2), (14, .any), (15, .any), (16, .any), (17, .any), (18, .any)])
    (fun x => [(3, ⟨45, 3, [[iA x.1.ep, ndA x.1.base, cmA x.1.log]], true⟩), (4, ⟨45, 3, [[iA x.2.1.ep, ndA x.2.1.base, cmA x.2.1.log]], true⟩)])
    (fun x => WS x.1 ∧ WS x.2.1 ∧ x.2.2.1.length ≤ 15000 * x.2.2.2.2 ∧ x.2.2.2.1 ≤ x.2.2.2.2 ∧ x.2.2.2.2 ≤ t.length ∧ x.2.2.1 ++ endT x.1 x.2.1 (cutC 10 ((t.take x.2.2.2.2).drop x.2.2.2.1) (t.drop x.2.2.2.2)).dropLast = E)
    (fun x => t.length - x.2.2.2.2) (st0, st0, [], 0, 0) ⟨ws_st0, ws_st0, by simp, by simp, by simp, ?_⟩ ?_ ?_
  · simp [eE]
  · (refine wk_frz ?_ ?_ ?_ ?_ <;> simp [st0, rowF, rowN, rowC, leF, leHF, frzB, idsL, idsA, idsR, inH, hget, sameRow, viewN, tk, upA, hvA, dsts, dstO, setA_0, setA_1, setA_8, List.append, List.cons_append, List.nil_append])
  · rintro ⟨a, b, out, from_, i⟩ ⟨q1, q2, q3, q4, q5, q6⟩
    simp only at q1 q2 q3 q4 q5 q6
    simp only [upA, hvA, dsts, dstO, setA_0, setA_1, setA_8, List.append, List.cons_append, List.nil_append]
    refine go_on ?_
    (try simp only [push_cast, simprocAttr])
    refine at_b (fun hb => ?_) (fun hb => ?_)
    · have hlt : i < t.length := by simp [ltI] at hb; omega
      obtain ⟨x, hx⟩ := get_of_lt hlt
      have hd : t.drop i = x :: t.drop (i + 1) := drop_of_get hx
      have w1 := wr ((i : Int) + 1) (by omega)
      (try simp only [hb, hx, push_cast, simprocAttr])
      refine at_b (fun hc => ?_) (fun hc => ?_)
      · have hfi : (from_ : Int) ≤ i := by omega
        have hil : (i : Int) ≤ t.length := by omega
        have hx10 := u8_tt 10 rfl hc
        obtain ⟨l, hl⟩ : ∃ l, l = (t.take i).drop from_ := ⟨_, rfl⟩
        have hll : l.length ≤ 600 := by rw [hl, List.length_drop, List.length_take]; omega
        have hD := l51Line_d a b q1 q2 l (by omega)
        obtain ⟨g1, g2, g3⟩ := ws_line q1 q2 (l := l) (by omega)
        have hq : out ++ ((lineT a b l).2.2 ++ endT (lineT a b l).1 (lineT a b l).2.1 (cutC 10 [] (t.drop (i + 1))).dropLast) = E := by
          rw [← endT_cons, ← dropLast_ne (cutC_ne 10 _ _), ← q6, hd, hx10, hl]
          simp [cutC]
        obtain ⟨a', b', o, hab⟩ : ∃ a' b' o, lineT a b l = (a', b', o) := ⟨_, _, _, rfl⟩
        rw [hab] at hD hq g1 g2 g3
        simp only at hD hq g1 g2 g3
        unfold stA' stC at hD
        have f1 : out.length + o.length ≤ 9223372036854775807 := by omega
        have hl' := hl.symm
        (try simp only [hc, push_cast, simprocAttr])
        refine at_draw rfl (by kernel_rfl) ?_; simp only [push_cast, simprocAttr]
        (try simp only [hfi, hil, hl', push_cast, simprocAttr])
        (refine at_shareD (by simp [isC2, isC]) (by first | rfl | simp [ren]) hD ?_; (try simp only [push_cast, simprocAttr]))
        refine at_done (by kernel_rfl) (by kernel_rfl) (go_on ?_)
        (try simp only [f1, w1, push_cast, simprocAttr])
        refine at_fin ⟨(a', b', out ++ o, i + 1, i + 1), ⟨g1, g2, by simp; omega, by dsimp only; omega, by dsimp only; omega, ?_⟩, by dsimp only; omega, ?_⟩
        · simpa using hq
        · (refine wk_frz ?_ ?_ ?_ ?_ <;> simp [leF, leHF, frzB, idsL, idsA, idsR, inH, hget, sameRow, viewN, tk, upA, hvA, dsts, dstO, setA_0, setA_1, setA_8, List.append, List.cons_append, List.nil_append])
      · have hx10 := u8_ff 10 rfl hc
        (try simp only [hc, w1, push_cast, simprocAttr])
        refine at_fin ⟨(a, b, out, from_, i + 1), ⟨q1, q2, by dsimp only; omega, by dsimp only; omega, by dsimp only; omega, ?_⟩, by dsimp only; omega, ?_⟩
        · rw [← q6, hd]
          simp only [cutC, hx10, if_false]
          rw [take_drop_succ q4 hx]
        · (refine wk_frz ?_ ?_ ?_ ?_ <;> simp [leF, leHF, frzB, idsL, idsA, idsR, inH, hget, sameRow, viewN, tk, upA, hvA, dsts, dstO, setA_0, setA_1, setA_8, List.append, List.cons_append, List.nil_append])
    · have hi : i = t.length := by simp [ltI] at hb; omega
      subst hi
      have hT := l51Tree_pc wCommon (by simp [wCommon]) a.base q1.b
      have hTl := txtT_len (w := wCommon) q1.b
      have hc6 : wCommon.length = 6 := rfl
      have f1 : out.length + (txtT wCommon a.base).length ≤ 9223372036854775807 := by omega
      unfold wCommon at hT
      (try simp only [hb, push_cast, simprocAttr])
      (refine at_call ?_; (try simp only [push_cast, simprocAttr]); refine rwc_v (hT) (go_on ?_); (try simp only [push_cast, simprocAttr]))
      unfold wCommon at f1
      (try simp only [f1, push_cast, simprocAttr])
      refine at_ret ?_; simp only [Tryz.results14, push_cast, simprocAttr]
      rw [← q6]
      simp [vX, cutC, endT, runT, wCommon]
end Go.Proofs.YtjhbihooobingaaGreatDoor
