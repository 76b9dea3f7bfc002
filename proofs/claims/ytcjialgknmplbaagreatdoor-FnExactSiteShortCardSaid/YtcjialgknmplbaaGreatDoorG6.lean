/- A part of the proof of FnExactSiteShort: texts W20 W21 W22 W23 W24 W25 W26 W27 VFnExactSiteShort. -/
import Derived.Test.YtcjialgknmplbaaGreatDoorG5
import Derived.Test.YtcjialgknmplbaaGreatDoorG1
import Derived.Test.YtcjialgknmplbaaGreatDoorGp
set_option linter.unusedSimpArgs false
set_option linter.unusedVariables false
/-
  Walks: slices.DeleteFunc at commands.
-/
namespace Go.Proofs.YtcjialgknmplbaaGreatDoor
open Go Go.RowKit Go.Proofs
attribute [local irreducible] RWp AW run kPe pe Kt effA gd gu br retR RDp runD kPeD brW gW effD
set_option maxRecDepth 100000
def delC (f : List Cm) (rv : AV) (lr' rows : List Row) : Prop := rv = .o 0 f.length ∧ lr' = [rowC f] ∧ rows = []
theorem DeleteFuncC_pcl (l : List Cm) (hl : l.length < 4294967281) (g : FuncId) (caps : List AV) (hc : caps.all isC = true) (p : Cm → Bool) (hp : ∀ n ∈ l, PC Tryz.prog g (cmdA n :: caps) (vB (p n))) :
    PCL Tryz.prog 82 [rowC l] (mvF (some 0)) [.o 0 l.length, .fn g caps] (delC (l.filter fun n => !p n)) := by
  refine pcl_enter Tryz.func82 rfl rfl (by simp) fun w0 fb loc => go_on ?_
  (try simp only [Tryz.ntmps82, hpL, nmL, mvF, renL, closed_renL hc, decide_true, decide_false, push_cast, simprocAttr])
  refine at_call ?_
  simp only [List.map_cons, List.map_nil, view_fn 2, closed_view hc]
  (try simp only [push_cast, simprocAttr])
  refine rwc_v (IndexFuncC_pc l hl g caps hc p hp) (go_on ?_)
  rcases idxF_spec p l 0 with ⟨h1, h2⟩ | ⟨j, n, h1, h2, h3⟩
  · rw [h1]
    (try simp only [push_cast, simprocAttr])
    refine at_retL ?_
    simp only [Tryz.results82, retL, push_cast, simprocAttr]
    have hf : l.filter (fun n => !p n) = l := by
      rw [List.filter_eq_self]
      intro a ha
      have := List.find?_eq_none.1 h2 a ha
      simpa using this
    simp [show List.range 1 = [0] from rfl, nmL, mvF, ndB, ixOf, rowsOf, hget, delC, hf]
  · rw [h1, Nat.zero_add]
    have i0 : eqI (j : Int) (-1) = false := eqI_f (by omega)
    have hj := lt_of_some h2
    have w1 := wr ((j : Int) + 1) (by omega)
    (try simp only [i0, w1, push_cast, simprocAttr])
    have hpn : p n = true := by have := List.find?_some h3; exact this
    obtain ⟨kp, hkp⟩ : ∃ kp : Nat → List Cm, kp = fun i => (l.take i).filter fun n => !p n := ⟨_, rfl⟩
    have k1 : ∀ i a, l[i]? = some a → kp (i + 1) = kp i ++ (if p a then [] else [a]) := by
      intro i a ha
      rw [hkp]
      simp only
      rw [List.take_add_one, ha, List.filter_append]
      cases hpa : p a <;> simp [hpa]
    have kl : ∀ i, (kp i).length ≤ i := fun i => by rw [hkp]; exact Nat.le_trans (List.length_filter_le _ _) (by rw [List.length_take]; omega)
    have kj : kp j = l.take j := by rw [hkp]; exact idxF_take p l 0 j h1
    have kj1 : kp (j + 1) = l.take j := by rw [k1 j n h2, hpn, kj]; simp
    have kn : kp l.length = l.filter fun n => !p n := by rw [hkp]; simp
    have e0 : kp (j + 1) ++ [n] ++ l.drop (j + 1) = l := by
      rw [kj1, List.append_assoc, List.singleton_append, ← drop_of_get h2, List.take_append_drop]
    have e1 : (kp (j + 1)).length = j := by rw [kj1, List.length_take]; omega
    refine at_loop (X := Nat × List Cm) (fun x => [(5, iA (kp x.1).length), (6, iA x.1)]) (fun x => [(600000, rowC (kp x.1 ++ x.2 ++ l.drop x.1)), (4, rowC [])])
      (fun x => x.1 ≤ l.length ∧ (kp x.1).length + x.2.length = x.1 ∧ 0 < x.2.length) (fun x => l.length - x.1) (j + 1, [n]) ⟨by dsimp only; omega, by dsimp only; rw [e1]; rfl, by simp⟩ ?_ ?_
    · simp only [e0, e1]
      (refine wk_ok ?_ ?_ ?_ ?_ <;> simp [closed_ids hc, leL, leH, idsL, idsA, idsR, inH, hget, sameRow, upA, hvA, dsts, dstO, setA_0, setA_1, setA_8, List.append, List.cons_append, List.nil_append])
    · rintro ⟨q, M⟩ ⟨q1, q2, q3⟩
      simp only at q1 q2 q3
      simp only [upA, hvA, dsts, dstO, setA_0, setA_1, setA_8, List.append, List.cons_append, List.nil_append]
      refine go_on_n 11 ?_
      (try simp only [run_0, push_cast, simprocAttr])
      obtain ⟨y, M1, rfl⟩ : ∃ y M1, M = y :: M1 := by
        cases M with
        | nil => simp at q3
        | cons y M1 => exact ⟨y, M1, rfl⟩
      simp only [List.length_cons] at q2
      refine at_b (fun hg => ?_) (fun hg => ?_)
      · have hlt := lt_tt hg
        obtain ⟨x, hx⟩ := get_of_lt hlt
        obtain ⟨R, hRR⟩ : ∃ R, R = kp q ++ y :: M1 ++ l.drop q := ⟨_, rfl⟩
        have hRq : R[q]? = some x := by
          rw [hRR, drop_of_get hx, List.getElem?_append_right (by simp; omega)]
          simp
          rw [show q - ((kp q).length + (M1.length + 1)) = 0 by omega]
          rfl
        have hRi : R[(kp q).length]? = some y := by
          rw [hRR, List.append_assoc, List.getElem?_append_right (Nat.le_refl _)]
          simp
        have hRl : R.length = l.length := by rw [hRR]; simp; omega
        have i1 := ix_n hx
        have i2 := map_get cmC hRq
        have i3 : toIx ((kp q).length : Int) l.length = some (kp q).length := by
          have := ix_n hRi
          rw [hRl] at this
          exact this
        have i4 := map_get cmC hRi
        simp only [cmC] at i2 i4
        have w2 := wr ((q : Int) + 1) (by omega)
        have w3 := wr (((kp q).length : Int) + 1) (by omega)
        rw [← hRR]
        (try simp only [hg, run_0, push_cast, simprocAttr])
        refine at_more (go_on ?_)
        (try simp only [hg, i1, i2, push_cast, simprocAttr])
        refine at_call ?_
        simp only [List.map_cons, List.map_nil, closed_view hc]
        (try simp only [push_cast, simprocAttr])
        refine rwc_v (hp x (mem_of_get hx)) (go_on ?_)
        (try simp only [push_cast, simprocAttr])
        refine at_b (fun hd => ?_) (fun hd => ?_)
        · have hpx := not_t hd
          have hk2 : kp (q + 1) = kp q ++ [x] := by rw [k1 q x hx, hpx]; simp
          have hset : R.set (kp q).length x = kp (q + 1) ++ (M1 ++ [x]) ++ l.drop (q + 1) := by
            rw [hRR, hk2, drop_of_get hx]
            simp
          (try simp only [hd, i3, i4, w2, w3, push_cast, simprocAttr])
          have hs : (List.map cmC R).set (kp q).length [sA x.p, iA x.a.k, iA x.a.v, iA x.b.k, iA x.b.v] = List.map cmC (kp (q + 1) ++ (M1 ++ [x]) ++ l.drop (q + 1)) := by rw [← hset, List.map_set]; rfl
          have hl2 : (((kp (q + 1)).length : Nat) : Int) = (kp q).length + 1 := by rw [hk2]; simp
          refine at_fin ⟨(q + 1, M1 ++ [x]), ⟨by dsimp only; omega, by rw [hk2]; simp; omega, by simp⟩, by dsimp only; omega, ?_⟩
          rw [hs]
          (refine wk_ok ?_ ?_ ?_ ?_ <;> simp [closed_ids hc, hl2, leL, leH, idsL, idsA, idsR, inH, hget, sameRow, upA, hvA, dsts, dstO, setA_0, setA_1, setA_8, List.append, List.cons_append, List.nil_append])
        · have hpx := not_f hd
          have hk2 : kp (q + 1) = kp q := by rw [k1 q x hx, hpx]; simp
          have hs : R = kp (q + 1) ++ (y :: M1 ++ [x]) ++ l.drop (q + 1) := by
            rw [hRR, hk2, drop_of_get hx]
            simp
          (try simp only [hd, w2, push_cast, simprocAttr])
          refine at_fin ⟨(q + 1, y :: M1 ++ [x]), ⟨by dsimp only; omega, by rw [hk2]; simp; omega, by simp⟩, by dsimp only; omega, ?_⟩
          simp only [← hs]
          (refine wk_ok ?_ ?_ ?_ ?_ <;> simp [closed_ids hc, hk2, leL, leH, idsL, idsA, idsR, inH, hget, sameRow, upA, hvA, dsts, dstO, setA_0, setA_1, setA_8, List.append, List.cons_append, List.nil_append])
      · have hq := lt_ff hg
        have hq1 : q = l.length := by omega
        subst hq1
        (try simp only [hg, run_0, push_cast, simprocAttr])
        refine at_more (go_on_n 3 ?_)
        (try simp only [run_0, push_cast, simprocAttr])
        refine at_more ?_
        have hRl : (kp l.length ++ y :: M1 ++ l.drop l.length).length = l.length := by simp; omega
        refine aw_slclear (row := rowC (kp l.length ++ y :: M1 ++ l.drop l.length)) (r := 600000) (n := l.length) (i := (kp l.length).length) rfl rfl (by simp) (by simp [hget]) (by simp only [List.length_map]; exact hRl.symm) (by omega) ty24 rfl ty30 rfl rfl rfl rfl (fun w => ⟨_, rfl, rfl⟩) (go_on ?_)
        have hki : ((kp l.length).length : Int) ≤ l.length := by have := kl l.length; omega
        (try simp only [hki, push_cast, simprocAttr])
        have hes : (List.take (kp l.length).length (List.map cmC (kp l.length ++ y :: M1 ++ l.drop l.length)) ++ List.replicate (l.length - (kp l.length).length) [AV.any, AV.any, AV.any, AV.any, AV.any]).take (kp l.length).length = (kp l.length).map cmC := by
          rw [List.append_assoc, List.map_append, List.take_append_of_le_length (by simp), List.take_take, Nat.min_self, List.take_append_of_le_length (by simp), take_map]
        refine ret_wk (wk_trunc 600000 (kp l.length).length (by simp only [hget]; rfl) (by simp) (by simp)) ?_
        refine at_retL ?_
        simp only [Tryz.results82, retL, hes, okT, Nat.le_refl, push_cast, decide_true, simprocAttr]
        simp [show List.range 1 = [0] from rfl, nmL, mvF, ndB, ixOf, rowsOf, hget, delC, kn]
end Go.Proofs.YtcjialgknmplbaaGreatDoor
/-
  Walks: slices.SortFunc at commands.
-/
namespace Go.Proofs.YtcjialgknmplbaaGreatDoor
open Go Go.RowKit Go.Proofs
open Go.Sort (grow SWO PermIn SortedIn)
instance : Inhabited Cm := ⟨cm0⟩
def encC (c : Cm) : List Value := [sV c.p, .int .i64 c.a.k, .int .i64 c.a.v, .int .i64 c.b.k, .int .i64 c.b.v]
def cmpS (a b : Str) : Int := if slt a b then -1 else if slt b a then 1 else 0
def cfC (c d : Cm) : Int := if cEnds c && cEnds d then cmpS d.p c.p else if cEnds c then -1 else if cEnds d then 1 else cmpS c.p d.p
theorem cmpS_lt (a b : Str) : decide (cmpS a b < 0) = slt a b := by
  unfold cmpS
  cases slt a b <;> cases slt b a <;> rfl
theorem ltOf_cf (c d : Cm) : ltOf cfC c d = cLt c d := by
  unfold ltOf cfC cLt
  cases cEnds c <;> cases cEnds d <;> simp [cmpS_lt]
theorem cLt_trans {a b c : Cm} (h1 : cLt a b = true) (h2 : cLt b c = true) : cLt a c = true := by
  have h3 := cLt_asymm h2
  cases h : cLt a c with
  | true => rfl
  | false =>
    have := cLt_neg_trans (a := b) (b := c) (c := a) h3 h
    rw [h1] at this
    cases this
theorem swoC : SWO (ltOf cfC) where
  irrefl x := by rw [ltOf_cf]; exact cLt_irrefl x
  trans x y z h1 h2 := by rw [ltOf_cf] at *; exact cLt_trans h1 h2
  ntrans x y z h1 h2 := by rw [ltOf_cf] at *; exact cLt_neg_trans (a := z) (b := y) (c := x) h2 h1
theorem gtr_slt (a b : Str) : (!(Op.bytesLess a b || a == b)) = slt b a := by
  show (!(slt a b || a == b)) = slt b a
  by_cases h : a = b
  · subst h; simp [slt_irrefl]
  · cases h1 : slt a b with
    | true => simp [slt_asymm h1]
    | false => simp [slt_of_ne h h1, h]
set_option maxRecDepth 100000
set_option maxHeartbeats 1000000
theorem nan_c (a : Str) (W : World) : Calls Tryz.prog 125 #[sV a] W fun e w' => e = .returned (.bool false) ∧ w' = W := by
  go_enter Tryz.func125, Tryz.ntmps125
  go_wp2
  go_ret
  exact ⟨rfl, rfl⟩
theorem cmpS_c (a b : Str) (W : World) : Calls Tryz.prog 95 #[sV a, sV b] W fun e w' => e = .returned (.int .i64 (cmpS a b)) ∧ w' = W := by
  have h1 := nan_c a
  have h2 := nan_c b
  have hgt : ∀ W, (binOp .gtr 9 (sV a) (sV b)).run Tryz.prog W = .ok (.bool (slt b a)) W := fun W => by
    have : binOp .gtr 9 (sV a) (sV b) = pure (.bool !(Op.bytesLess a b || a == b)) := by simp [binOp, Op.stringOp, ba_list]
    rw [this, gtr_slt]
    rfl
  have hlt : Op.bytesLess a b = slt a b := rfl
  go_enter Tryz.func95, Tryz.ntmps95
  go_wp2_with (go_at_call 125; first | (refine (h1 _).mono ?_; rintro e w' ⟨rfl, rfl⟩) | (refine (h2 _).mono ?_; rintro e w' ⟨rfl, rfl⟩))
  all_goals go_ret
  all_goals refine ⟨?_, rfl⟩
  all_goals simp [cmpS, *]
theorem ends_c (c : Cm) (W : World) : Calls Tryz.prog 94 #[.agg #[sV c.p, .int .i64 c.a.k, .int .i64 c.a.v, .int .i64 c.b.k, .int .i64 c.b.v]] W fun e w' => e = .returned (.bool (cEnds c)) ∧ w' = W.alloc (.cells #[sV c.p, .int .i64 c.a.k, .int .i64 c.a.v, .int .i64 c.b.k, .int .i64 c.b.v] 30) := by
  have hc : cEnds c = (decide (c.b.k = 0) || decide (c.a.k = 1)) := rfl
  go_enter Tryz.func94, Tryz.ntmps94
  go_wp2
  all_goals go_ret
  · refine ⟨?_, by simp [*]⟩
    show Ending.returned (Value.bool true) = _
    simp [hc, *]
  · refine ⟨?_, rfl⟩
    show Ending.returned (Value.bool (c.b.k == 0 || c.a.k == 1)) = _
    rw [hc]
    congr 2
theorem canonOrder_c (c d : Cm) (W : World) : Calls Tryz.prog 53 #[.agg #[sV c.p, .int .i64 c.a.k, .int .i64 c.a.v, .int .i64 c.b.k, .int .i64 c.b.v], .agg #[sV d.p, .int .i64 d.a.k, .int .i64 d.a.v, .int .i64 d.b.k, .int .i64 d.b.v]] W fun e w' =>
    e = .returned (.int .i64 (cfC c d)) ∧ ∃ q os', w' = grow (W.drewN q) os' := by
  have h1 := ends_c c
  have h2 := ends_c d
  have h3 := cmpS_c c.p d.p
  have h4 := cmpS_c d.p c.p
  have hf : cfC c d = if cEnds c && cEnds d then cmpS d.p c.p else if cEnds c then -1 else if cEnds d then 1 else cmpS c.p d.p := rfl
  generalize cfC c d = r at hf ⊢
  generalize cmpS c.p d.p = x at h3 hf
  generalize cmpS d.p c.p = y at h4 hf
  generalize cEnds c = u at h1 hf
  generalize cEnds d = v at h2 hf
  subst hf
  go_enter Tryz.func53, Tryz.ntmps53
  go_wp2_with (first
    | (go_at_call 94; first | (with_reducible refine (h1 _).mono ?_; rintro e w' ⟨rfl, rfl⟩) | (with_reducible refine (h2 _).mono ?_; rintro e w' ⟨rfl, rfl⟩))
    | (go_at_call 95; first | (with_reducible refine (h3 _).mono ?_; rintro e w' ⟨rfl, rfl⟩) | (with_reducible refine (h4 _).mono ?_; rintro e w' ⟨rfl, rfl⟩)))
  all_goals go_ret
  all_goals exact ⟨rfl, 0, _, by simp only [Go.Sort.alloc_eq_grow, Go.Sort.grow_grow]; rfl⟩
theorem lays_c (blk off size : Nat) (w : World) : CmpLays Tryz.prog 53 #[] encC 5 cfC blk off size w := fun _ _ _ _ x y => canonOrder_c x y _
end Go.Proofs.YtcjialgknmplbaaGreatDoor
/-
  Walks: slices.SortFunc at commands: a contract with a lent row.
-/
namespace Go.Proofs.YtcjialgknmplbaaGreatDoor
open Go Go.RowKit Go.Proofs
open Go.Sort (grow SWO PermIn SortedIn)
theorem cOrd_of : ∀ {l : List Cm}, l.Pairwise (fun a b => cLt b a = false) → cOrd l = true
  | [], _ => rfl
  | a :: l, h => by
    rw [List.pairwise_cons] at h
    exact cOrd_mk (cOrd_of h.2) h.1
def sortD (l : List Cm) (rv : AV) (lr' rows : List Row) : Prop := ∃ l' : List Cm, l'.Perm l ∧ cOrd l' = true ∧ rv = .tup [] ∧ lr' = [rowC l'] ∧ rows = []
theorem encC_cm (c : Cm) (j : Nat) (x : AV) (h : (cmC c)[j]? = some x) : x = .v ((encC c)[j]!) ∧ ((encC c)[j]!).oneCell' = true ∧ j < 5 := by
  rcases j with _ | _ | _ | _ | _ | j
  · cases h; exact ⟨rfl, rfl, by omega⟩
  · cases h; exact ⟨rfl, rfl, by omega⟩
  · cases h; exact ⟨rfl, rfl, by omega⟩
  · cases h; exact ⟨rfl, rfl, by omega⟩
  · cases h; exact ⟨rfl, rfl, by omega⟩
  · simp [cmC] at h
theorem encC_get (c : Cm) (j : Nat) (h : j < 5) : (cmC c)[j]? = some (.v ((encC c)[j]!)) := by
  rcases j with _ | _ | _ | _ | _ | j
  · rfl
  · rfl
  · rfl
  · rfl
  · rfl
  · omega
set_option maxRecDepth 100000
set_option maxHeartbeats 1000000
theorem SortC_pcl (l : List Cm) (hl : l.length < 4294967281) : PCL Tryz.prog 52 [rowC l] (mvF none) [.o 0 l.length, .fn 53 []] (sortD l) := by
  refine ⟨fun vs W => enters_of Tryz.func52 (by kernel_rfl) rfl vs W, fun w fb loc vs hlw hs hg => ?_⟩
  have h0 := hg 0 _ rfl
  have h1 := hg 1 _ rfl
  obtain ⟨cs, hv1, hcs, _⟩ := h1.fn_inv
  obtain rfl : cs = #[] := Array.eq_empty_of_size_eq_zero hcs
  have hvs : vs = #[vs.getD 0 undef, vs.getD 1 undef] := by
    apply Array.ext
    · simpa using hs
    · intro i h1 h2
      have : i < 2 := by simpa using h2
      rcases i with _ | _ | i
      · simp [Array.getD, h1]
      · simp [Array.getD, h1]
      · omega
  rw [hv1] at hvs
  generalize vs.getD 0 undef = v0 at h0 hvs
  subst hvs
  clear hs hg hv1 h1 hcs
  have hrow : hget (hpOf 0 [rowC l]) 0 = some (rowC l) := rfl
  generalize hL : l.length = L at h0
  cases h0 with
  | cl hc => cases hc
  | @onil _ row hr hl' =>
    obtain rfl : l = [] := List.eq_nil_of_length_eq_zero hL
    have hcon := AnyF.slices_SortFunc_none Tryz.sortC none 0 (.func (.func 53) #[] #[]) w
    change Calls Tryz.prog 52 _ _ _ at hcon
    refine hcon.mono ?_
    rintro e w' ⟨rfl, rfl⟩
    refine ⟨.tup [], [rowC []], [], _, loc, ⟨[], List.Perm.refl _, rfl, rfl, rfl, rfl⟩, rfl, ⟨rfl, rfl, rfl, rfl, Nat.le_refl _, fun _ _ _ => rfl, hlw.fbe, fun _ _ _ => rfl, .tup #[] rfl (fun j a ha => by simp at ha), hlw.rw, hlw.inj, fun r row b c h1 h2 => .inr ⟨r, row, c, h1, h2⟩⟩⟩
  | @o _ _ row b c hr hl' hn =>
    subst hL
    rw [hrow] at hr
    cases hr
    obtain ⟨hlen, hn', hm, cur, hh, hsz, hcells⟩ := (hlw.rw 0 _ hrow).2.open hl'
    simp only [List.length_map] at hn hn'
    have hcm : ∀ (k : Nat) (hk : k < l.length) (j : Nat), j < 5 → cur[k * 5 + j]? = some ((encC l[k])[j]!) := fun k hk j hj => by
      obtain ⟨u, g1, _, g3, _⟩ := hcells k (cmC l[k]) j _ (by simp [List.getElem?_eq_getElem hk]) (encC_get _ j hj)
      rw [g1, g3.v_inv]
    have hH : Go.Sort.HoldsK encC 5 w b 0 l.toArray := by
      intro j hj
      rw [Go.Sort.size_flatK] at hj
      have hj' : j < l.length * 5 := by simpa using hj
      have hk : j / 5 < l.length := by omega
      rw [Nat.zero_add]
      refine ⟨?_, by simp [World.frozen?, hh]⟩
      have := hcm (j / 5) hk (j % 5) (by omega)
      rw [show j / 5 * 5 + j % 5 = j by omega] at this
      simp only [World.cell?, hh, Option.isSome_none, Bool.false_eq_true, if_false, id]
      rw [this, Go.Sort.get_flatK _ _ _ _ hj]
      congr 3
      simp [hk]
    have hblk : b < w.heap.size := by
      rcases Nat.lt_or_ge b w.heap.size with h | h
      · exact h
      · rw [Array.getElem?_eq_none h] at hh; cases hh
    have eg : ∀ args w, (callFunc 53 args).run Tryz.prog w = .ok (.enter 53 args) w := enters_of Tryz.func53 (by kernel_rfl) rfl
    have hcon := AnyQ.slices_SortFunc Tryz.sortC 5 Tryz.isAgg30 Tryz.sizeOf30 encC (fun _ => rfl) (fun x v hv => by simp [encC] at hv; rcases hv with rfl | rfl | rfl | rfl | rfl <;> rfl) cfC swoC 53 #[] b 0 c l.toArray w eg (lays_c b 0 _ w) hH hblk (by simp; omega)
    change Calls Tryz.prog 52 _ _ _ at hcon
    rw [show l.toArray.size = l.length from by simp] at hcon
    refine hcon.mono ?_
    rintro e w' ⟨rfl, d', n, os, hp, hsd, rfl⟩
    obtain ⟨hps, _, hpp⟩ := hp
    have hps' : d'.size = l.length := by simpa using hps
    have hperm : d'.toList.Perm l := by
      have e1 : d'.extract 0 l.length = d' := by rw [← hps']; simp
      have e2 : l.toArray.extract 0 l.length = l.toArray := by simp
      rw [e1, e2] at hpp
      simpa using hpp
    have hord : cOrd d'.toList = true := by
      apply cOrd_of
      rw [List.pairwise_iff_getElem]
      intro i j hi hj hij
      have := hsd i j (Nat.zero_le _) hij (by simpa [hps'] using hj)
      rw [ltOf_cf] at this
      simp only [Array.length_toList] at hi hj
      simpa [hi, hj] using this
    generalize hd : d'.toList = l' at hperm hord
    have hdl : l'.length = l.length := by rw [← hd, Array.length_toList, hps']
    refine ⟨.tup [], [rowC l'], [], _, loc, ⟨l', hperm, hord, rfl, rfl, rfl⟩, rfl, ?_⟩
    have hbh : (sortWorldK encC 5 w b 0 n d' os).heap[b]? = some (.cells (Go.Sort.putCells id 0 (Go.Sort.flatK encC 5 d') cur) 30 (0, 0)) := by
      unfold sortWorldK
      show ((Go.Sort.putRowK encC 5 (Go.Sort.ahead w n) b 0 d').heap ++ os)[b]? = _
      rw [Array.getElem?_append_left (by rw [Go.Sort.size_putRowK]; exact hblk)]
      unfold Go.Sort.putRowK Go.Sort.putRow Go.Sort.mapBlock
      simp only [Array.getElem?_modify, if_true]
      show Option.map _ w.heap[b]? = _
      rw [hh]
      rfl
    have hbk : ∀ k, k < w.heap.size → k ≠ b → (sortWorldK encC 5 w b 0 n d' os).heap[k]? = w.heap[k]? := fun k hk hne => by
      unfold sortWorldK
      show ((Go.Sort.putRowK encC 5 (Go.Sort.ahead w n) b 0 d').heap ++ os)[k]? = _
      rw [Array.getElem?_append_left (by rw [Go.Sort.size_putRowK]; exact hk)]
      unfold Go.Sort.putRowK Go.Sort.putRow Go.Sort.mapBlock
      simp only [Array.getElem?_modify]
      rw [if_neg (fun e => hne e.symm)]
      rfl
    have hcell : ∀ (k : Nat) (e : List AV) (j : Nat) (x : AV), (rowC l').es[k]? = some e → e[j]? = some x → ∃ u, (Go.Sort.putCells id 0 (Go.Sort.flatK encC 5 d') cur)[k * 5 + j]? = some u ∧ u.oneCell' = true ∧ x = .v u := fun k e j x he hx => by
      rw [List.getElem?_map, Option.map_eq_some_iff] at he
      obtain ⟨y, hy, rfl⟩ := he
      obtain ⟨g1, g2, g3⟩ := encC_cm y j x hx
      have hk := lt_of_some hy
      refine ⟨_, ?_, g2, g1⟩
      have hin : k * 5 + j < (Go.Sort.flatK encC 5 d').size := by rw [Go.Sort.size_flatK, hps']; omega
      have hcu : k * 5 + j < cur.size := by rw [hsz]; show _ < c * 5; omega
      unfold Go.Sort.putCells
      rw [Array.getElem?_mapIdx, Array.getElem?_eq_getElem hcu]
      simp only [Option.map_some, Option.some.injEq]
      rw [if_pos ⟨by omega, by omega⟩, Nat.sub_zero, Go.Sort.get_flatK _ _ _ _ (by rw [Go.Sort.size_flatK] at hin; exact hin)]
      rw [show (k * 5 + j) / 5 = k by omega, show (k * 5 + j) % 5 = j by omega]
      have : d'[k]! = y := by
        rw [← hd, Array.getElem?_toList] at hy
        rw [Array.getElem!_eq_getD, Array.getD_eq_getD_getElem?, hy]
        rfl
      rw [this]
      rfl
    have hc5 : (Go.Sort.putCells id 0 (Go.Sort.flatK encC 5 d') cur).size = c * 5 := by
      unfold Go.Sort.putCells
      rw [Array.size_mapIdx]
      exact hsz
    have hG : ∀ (x : AV) (u : Value), x = .v u → G (hpOf 0 [rowC l']) loc (sortWorldK encC 5 w b 0 n d' os) x u ∧ C (Live (hpOf 0 [rowC l']) loc) 0 (sortWorldK encC 5 w b 0 n d' os) x u := fun x u h => by
      subst h
      exact ⟨.cl .v, .v⟩
    have hone : ∀ r row, hget (hpOf 0 [rowC l']) r = some row → r = 0 ∧ row = rowC l' := fun r row h => by
      rcases r with _ | r
      · cases h; exact ⟨rfl, rfl⟩
      · simp [hpOf, hget] at h
    refine ⟨rfl, rfl, rfl, rfl, ?_, fun k hk hnl => hbk k hk fun e => hnl ⟨0, _, c, hrow, by rw [e]; exact hl'⟩, hlw.fbe, fun _ _ _ => rfl, .tup #[] rfl (fun j a ha => by simp at ha), fun r row h => ?_, fun r r' row row' _ _ _ h h' _ _ => ?_, fun r row b' c' h h' => ?_⟩
    · unfold sortWorldK
      show w.heap.size ≤ ((Go.Sort.putRowK encC 5 (Go.Sort.ahead w n) b 0 d').heap ++ os).size
      rw [Array.size_append, Go.Sort.size_putRowK]
      exact Nat.le_add_right _ _
    · obtain ⟨rfl, rfl⟩ := hone r row h
      refine ⟨rfl, RowOk.mk' hl' (fun k e he => ?_) (by rw [List.length_map, hdl]; exact hn') hm hbh hc5 fun k e j x he hx => ?_⟩
      · rw [List.getElem?_map, Option.map_eq_some_iff] at he
        obtain ⟨y, _, rfl⟩ := he
        rfl
      · obtain ⟨u, g1, g2, g3⟩ := hcell k e j x he hx
        exact ⟨u, g1, g2, (hG x u g3).1, fun _ => (hG x u g3).2⟩
    · rw [(hone r row h).1, (hone r' row' h').1]
    · obtain ⟨rfl, rfl⟩ := hone r row h
      rw [hl'] at h'
      cases h'
      exact .inr ⟨0, _, c, hrow, hl'⟩
end Go.Proofs.YtcjialgknmplbaaGreatDoor
/-
  Walks: impl.LogCanon.
-/
namespace Go.Proofs.YtcjialgknmplbaaGreatDoor
open Go Go.RowKit Go.Proofs
theorem idxF_first {α : Type} (p : α → Bool) : ∀ (l : List α) (k j : Nat), idxF p k l = ((k + j : Nat) : Int) → ∀ i e, i < j → l[i]? = some e → p e = false
  | [], k, j, h, _, _, _, he => by simp at he
  | a :: l, k, 0, h, i, e, hi, _ => by omega
  | a :: l, k, j + 1, h, i, e, hi, he => by
    by_cases hp : p a = true
    · simp only [idxF, hp, if_true] at h
      omega
    · have hp : p a = false := by simpa using hp
      have h' : idxF p (k + 1) l = ((k + 1 + j : Nat) : Int) := by
        rw [show idxF p k (a :: l) = idxF p (k + 1) l by simp [idxF, hp]] at h
        rw [h]; congr 1; omega
      cases i with
      | zero => simp at he; subst he; exact hp
      | succ i => exact idxF_first p l (k + 1) j h' i e (by omega) (by simpa using he)
def canD (l : List Cm) : AV → List Row → Prop := rX (.tup [.o 0 ((lCanon l).getD []).length, bA (lCanon l).isSome]) [rowC ((lCanon l).getD [])]
attribute [local irreducible] RWp AW run kPe pe Kt effA gd gu br retR RDp runD kPeD brW gW effD
set_option maxRecDepth 100000
theorem LogCanon1_pc (d : Cm) (c : Cm) : PC Tryz.prog 81 [cmdA d, .ip (cmC c)] (vB (decide (d.p = c.p))) := by
  unfold cmdA cmC
  refine pc_enter Tryz.func81 rfl rfl fun w0 fb => go_on ?_; (try simp only [Tryz.ntmps81, push_cast, simprocAttr])
  repeat' first | (refine at_b (fun hb => ?_) (fun hb => ?_) <;> simp only [hb, push_cast, simprocAttr]) | (refine at_ret ?_; simp only [Tryz.results81, push_cast, simprocAttr]) | (show RWp _ _ _ _ _; simp only [push_cast, simprocAttr])
  simp [vX]
theorem LogCanon2_pc (c : Cm) : PC Tryz.prog 83 [cmdA c] (vB (decide (c.a = c.b))) := by
  unfold cmdA cmC
  refine pc_enter Tryz.func83 rfl rfl fun w0 fb => go_on ?_; (try simp only [Tryz.ntmps83, push_cast, simprocAttr])
  repeat' first | (refine at_b (fun hb => ?_) (fun hb => ?_) <;> simp only [ctg, cth, hb, push_cast, simprocAttr]) | (refine at_ret ?_; simp only [ctg, cth, Tryz.results83, push_cast, simprocAttr]) | (show RWp _ _ _ _ _; simp only [ctg, cth, push_cast, simprocAttr])
  simp [vX, ct_eq]
theorem LogCanon_pc (l : List Cm) (hs : SmL l) : PC Tryz.prog 43 [cmA l] (canD l) := by
  refine pc_enter Tryz.func43 rfl rfl fun w0 fb => go_on ?_; (try simp only [Tryz.ntmps43, push_cast, simprocAttr])
  refine at_call ?_
  (try simp only [push_cast, simprocAttr])
  refine rwc_v (LogValid_pc l hs) ?_
  (try simp only [push_cast, simprocAttr])
  (refine at_dropS [2] (by refine wk_ok ?_ ?_ ?_ ?_ <;> simp [dropS, dropT, hasN, delL, hdel, leL, leH, idsL, idsA, idsR, inH, hget, sameRow]) ?_; simp only [dropS, dropT, hasN, delL, hdel, idsA, idsL, hget, List.map_cons, List.map_nil, List.all_cons, List.all_nil, List.append_nil, Bool.not_false, Bool.not_true, Bool.and_true, if_true, if_false, simprocAttr])
  refine go_on ?_
  (try simp only [push_cast, simprocAttr])
  refine at_b (fun hb => ?_) (fun hb => ?_)
  · have h : lV l = false := not_t hb
    (try simp only [hb, push_cast, simprocAttr])
    refine at_ret ?_; simp only [Tryz.results43, push_cast, simprocAttr]
    simp [canD, rX, lCanon, h, ixOf]
  have h : lV l = true := not_f hb
  have hl20 := lV_len h
  (try simp only [hb, push_cast, simprocAttr])
  refine at_loop (X := Nat × List Cm) (fun x => [(4, .o 4 x.2.length), (13, iA x.1)]) (fun x => [(4, rowC x.2)])
    (fun x => x.1 ≤ l.length ∧ x.2.length ≤ x.1 ∧ one1 x.2 = true ∧ cFold [] l = cFold x.2 (l.drop x.1)) (fun x => l.length - x.1) (0, []) ⟨Nat.zero_le _, by simp, rfl, rfl⟩ ?_ ?_
  · (refine wk_ok ?_ ?_ ?_ ?_ <;> simp [leL, leH, idsL, idsA, idsR, inH, hget, sameRow, upA, hvA, dsts, dstO, setA_0, setA_1, setA_8, List.append, List.cons_append, List.nil_append])
  · rintro ⟨i, o⟩ ⟨q1, q2, q3, q4⟩
    simp only at q1 q2 q3 q4
    simp only [upA, hvA, dsts, dstO, setA_0, setA_1, setA_8, List.append, List.cons_append, List.nil_append]
    refine go_on ?_
    (try simp only [push_cast, simprocAttr])
    by_cases hlt : i < l.length
    · obtain ⟨c, hc⟩ := get_of_lt hlt
      have i0 : ltI (i : Int) l.length = true := ltI_t (by omega)
      have i1 := ix_n hc
      have i2 := map_get cmC hc
      simp only [cmC] at i2
      rw [drop_of_get hc] at q4
      have w1 := wr ((i : Int) + 1) (by omega)
      (try simp only [i0, i1, i2, push_cast, simprocAttr])
      have hI := IndexFuncC_pc o (by omega) 81 [.ip (cmC c)] rfl (fun d => decide (d.p = c.p)) (fun d _ => LogCanon1_pc d c)
      unfold cmC at hI
      refine at_call ?_
      (try simp only [push_cast, simprocAttr])
      refine rwc_v hI (go_on ?_)
      rcases idxF_spec (fun d : Cm => decide (d.p = c.p)) o 0 with ⟨h1, h2⟩ | ⟨j, d, h1, h2, h3⟩
      · have hno : ∀ d ∈ o, d.p ≠ c.p := fun d hd => by simpa using List.find?_eq_none.1 h2 d hd
        have hadd := cAdd_no hno
        have happ : o.map cmC ++ [[sA c.p, iA c.a.k, iA c.a.v, iA c.b.k, iA c.b.v]] = (o ++ [c]).map cmC := by rw [List.map_append]; rfl
        have j0 : ltI (-1) 0 = true := ltI_t (by omega)
        rw [h1]
        (try simp only [j0, w1, push_cast, simprocAttr])
        refine at_chk (by omega) ?_
        (try simp only [happ, w1, push_cast, simprocAttr])
        refine at_fin ⟨(i + 1, o ++ [c]), ⟨by dsimp only; omega, by simp; omega, (cAdd_one q3 hadd).1, ?_⟩, by dsimp only; omega, ?_⟩
        · rw [q4]; simp only [cFold, hadd, Option.bind_some]
        · (refine wk_ok ?_ ?_ ?_ ?_ <;> simp [cmC, leL, leH, idsL, idsA, idsR, inH, hget, sameRow, upA, hvA, dsts, dstO, setA_0, setA_1, setA_8, List.append, List.cons_append, List.nil_append])
      · rw [Nat.zero_add] at h1
        have hj := lt_of_some h2
        have hdp : d.p = c.p := by have := List.find?_some h3; simpa using this
        have hadd := cAdd_at h2 hdp (fun k e hk he => by have := idxF_first (fun d : Cm => decide (d.p = c.p)) o 0 j (by rw [h1]; simp) k e hk he; simpa using this)
        have j0 : ltI (j : Int) 0 = false := ltI_f (by omega)
        have k1 := ix_n h2
        have k2 := map_get cmC h2
        simp only [cmC] at k2
        rw [h1]
        (try simp only [j0, push_cast, simprocAttr])
        refine at_draw rfl (by kernel_rfl) ?_
        (try simp only [k1, k2, ctg, cth, push_cast, simprocAttr])
        have e : (eqI d.b.k c.a.k && eqI d.b.v c.a.v) = decide (d.b = c.a) := by
          rw [Bool.eq_iff_iff]; simp [eqI_d, ct_ext]
        refine at_done (by kernel_rfl) (by kernel_rfl) (go_on ?_)
        (try simp only [e, push_cast, simprocAttr])
        refine at_b (fun hn => ?_) (fun hn => ?_)
        · have hne : d.b ≠ c.a := by simpa using hn
          rw [if_neg hne] at hadd
          have hnone : lCanon l = none := by
            unfold lCanon
            rw [if_pos h, q4]
            simp only [cFold, hadd, Option.bind_none, Option.map_none]
          (try simp only [hn, push_cast, simprocAttr])
          refine at_ret ?_; simp only [Tryz.results43, push_cast, simprocAttr]
          simp [canD, rX, hnone, ixOf]
        · have heq : d.b = c.a := by simpa using hn
          rw [if_pos heq] at hadd
          have hset : (o.map cmC).set j [sA d.p, iA d.a.k, iA d.a.v, iA c.b.k, iA c.b.v] = (o.set j ⟨d.p, d.a, c.b⟩).map cmC := by rw [List.map_set]; rfl
          (try simp only [hn, k1, k2, hset, w1, push_cast, simprocAttr])
          refine at_fin ⟨(i + 1, o.set j ⟨d.p, d.a, c.b⟩), ⟨by dsimp only; omega, by simp; omega, (cAdd_one q3 hadd).1, ?_⟩, by dsimp only; omega, ?_⟩
          · rw [q4]; simp only [cFold, hadd, Option.bind_some]
          · (refine wk_ok ?_ ?_ ?_ ?_ <;> simp [cmC, leL, leH, idsL, idsA, idsR, inH, hget, sameRow, upA, hvA, dsts, dstO, setA_0, setA_1, setA_8, List.append, List.cons_append, List.nil_append])
    · have i0 : ltI (i : Int) l.length = false := ltI_f (by omega)
      rw [List.drop_of_length_le (by omega)] at q4
      simp only [cFold] at q4
      have hcan : lCanon l = some (cSort (o.filter fun c => decide (c.a ≠ c.b))) := by
        unfold lCanon
        rw [if_pos h, q4]
        rfl
      have hD := DeleteFuncC_pcl o (by omega) 83 [] rfl (fun c => decide (c.a = c.b)) (fun c _ => LogCanon2_pc c)
      obtain ⟨f, hf⟩ : ∃ f, f = o.filter fun c => !decide (c.a = c.b) := ⟨_, rfl⟩
      have hff : (o.filter fun c => decide (c.a ≠ c.b)) = f := by rw [hf]; apply List.filter_congr; intro c _; simp
      have hfl : f.length ≤ o.length := by rw [hf]; exact List.length_filter_le _ _
      have hf1 : one1 f = true := by rw [hf]; exact one1_sub List.filter_sublist q3
      rw [← hf] at hD
      rw [hff] at hcan
      have hS := SortC_pcl f (by omega)
      (try simp only [i0, push_cast, simprocAttr])
      (try simp only [push_cast, simprocAttr]); refine call_lend [4] (some 0) (lr := [rowC o]) (by simp [ndB]) (by first | rfl | simp [rowsOf, hget, rdR, rowS, rowN, rowC, sC, ndC, cmC]) (by simp [idsL, idsA]) (by simp [mvN]) (by simpa [rnA, ixOf] using hD) ?_
      rintro rv lr' rows ⟨rfl, rfl, rfl⟩
      refine ⟨by simp [shB, mvF], by simp [frB], go_on ?_⟩
      (try simp only [killA, killH, killRow, push_cast, simprocAttr])
      (try simp only [push_cast, simprocAttr]); refine call_lend [4] none (lr := [rowC f]) (by simp [ndB]) (by first | rfl | simp [rowsOf, hget, rdR, rowS, rowN, rowC, sC, ndC, cmC]) (by simp [idsL, idsA]) (by simp [mvN]) (by simpa [rnA, ixOf] using hS) ?_
      rintro rv lr' rows ⟨g, hgp, hgo, rfl, rfl, rfl⟩
      have hgl : g.length = f.length := hgp.length_eq
      obtain rfl : g = cSort f := cSort_eq hf1 hgp hgo
      refine ⟨by simp [shB, mvF, hgl], by simp [frB, baseOf], go_on ?_⟩
      (try simp only [killA, killH, killRow, push_cast, simprocAttr])
      refine at_call ?_
      simp only [hgl, push_cast, simprocAttr]
      refine rwc_r (cloneLog_pc (cSort f) (by omega)) (by simp [flatV, flatL]) (flat_c _) (by simp [frB, baseOf]) (go_on ?_)
      (try simp only [push_cast, simprocAttr])
      refine at_ret ?_; simp only [Tryz.results43, push_cast, simprocAttr]
      simp [canD, rX, hcan, hgl, ixOf]
end Go.Proofs.YtcjialgknmplbaaGreatDoor
/-
  Walks: the reference's canonical order and sort.
-/
namespace Go.Proofs.YtcjialgknmplbaaGreatDoor
open Go Go.RowKit Go.Proofs
attribute [local irreducible] RWp AW run kPe pe Kt effA gd gu br retR RDp runD kPeD brW gW effD
set_option maxRecDepth 100000
theorem l14Ends_pc (c : Cm) : PC Tryz.prog 147 [cmdA c] (vB (cEnds c)) := by
  have hc : cEnds c = (decide (c.b.k = 0) || decide (c.a.k = 1)) := rfl
  unfold cmdA cmC
  refine pc_enter Tryz.func147 rfl rfl fun w0 fb => go_on ?_; (try simp only [Tryz.ntmps147, push_cast, simprocAttr])
  repeat' first | (refine at_b (fun hb => ?_) (fun hb => ?_) <;> simp only [hb, push_cast, simprocAttr]) | (refine at_ret ?_; simp only [Tryz.results147, push_cast, simprocAttr]) | (show RWp _ _ _ _ _; simp only [push_cast, simprocAttr])
  all_goals simp [vX, hc, eqI_d, *]
  all_goals simp [eqI_d] at *
  all_goals simp [*]
theorem gtrS_l (a b : Str) : (!(slt a b || decide (a = b))) = slt b a := by
  rw [← gtr_slt a b]
  show _ = (!(slt a b || a == b))
  by_cases h : a = b <;> simp [h]
theorem l14Before_pc (c d : Cm) : PC Tryz.prog 135 [cmdA c, cmdA d] (vB (cLt c d)) := by
  have h1 := l14Ends_pc c
  have h2 := l14Ends_pc d
  have hL : cLt c d = if cEnds c then (if cEnds d then slt d.p c.p else true) else (if cEnds d then false else slt c.p d.p) := rfl
  unfold cmdA cmC at *
  refine pc_enter Tryz.func135 rfl rfl fun w0 fb => go_on ?_; (try simp only [Tryz.ntmps135, push_cast, simprocAttr])
  repeat' first | (refine at_b (fun hb => ?_) (fun hb => ?_) <;> simp only [hb, push_cast, simprocAttr]) | (refine at_ret ?_; simp only [Tryz.results135, push_cast, simprocAttr]) | (refine at_call ?_; (try simp only [push_cast, simprocAttr]); refine rwc_v (by first | exact h1 | exact h2) (go_on ?_); simp only [push_cast, simprocAttr]) | (show RWp _ _ _ _ _; simp only [push_cast, simprocAttr])
  all_goals (try simp only [Bool.not_eq_true', Bool.not_eq_false'] at *)
  all_goals simp_all [vX]
  rw [← gtrS_l c.p d.p, Bool.not_or]
/-- What stands before the place of a command. -/
theorem cPut_split (c : Cm) : ∀ (l : List Cm) (k : Nat), (∀ i d, i < k → l[i]? = some d → cLt c d = false) → k ≤ l.length → cPut c l = l.take k ++ cPut c (l.drop k)
  | l, 0, _, _ => rfl
  | [], k + 1, _, h => by simp at h
  | d :: l, k + 1, h, hk => by
    have h0 : cLt c d = false := h 0 d (by omega) rfl
    simp only [cPut, h0, Bool.false_eq_true, if_false, List.take_succ_cons, List.drop_succ_cons, List.cons_append]
    rw [cPut_split c l k (fun i e hi he => h (i + 1) e (by omega) (by simpa using he)) (by simpa using hk)]
def putI (c : Cm) (l : List Cm) (k : Nat) (o : List Cm) (b : Bool) : Prop := o.length ≤ k + 1 ∧ cPut c l = o ++ (if b = true then l.drop k else cPut c (l.drop k))
theorem putI_next {c d : Cm} {l : List Cm} {k : Nat} {o : List Cm} (hd : l[k]? = some d) :
    (putI c l k o true → putI c l (k + 1) (o ++ [d]) true) ∧ (o.length ≤ k → putI c l k o false → cLt c d = false → putI c l (k + 1) (o ++ [d]) false ∧ (o ++ [d]).length ≤ k + 1) ∧
      (o.length ≤ k → putI c l k o false → cLt c d = true → putI c l (k + 1) (o ++ [c] ++ [d]) true) := by
  have hdr : l.drop k = d :: l.drop (k + 1) := by
    have hi : k < l.length := lt_of_some hd
    rw [List.drop_eq_getElem_cons hi]
    rw [List.getElem?_eq_getElem hi] at hd
    cases hd
    rfl
  refine ⟨fun ⟨h1, h2⟩ => ⟨by simp; omega, ?_⟩, fun h0 ⟨h1, h2⟩ hc => ⟨⟨by simp; omega, ?_⟩, by simp; omega⟩, fun h0 ⟨h1, h2⟩ hc => ⟨by simp; omega, ?_⟩⟩
  · rw [h2, if_pos rfl, if_pos rfl, hdr]; simp
  · rw [h2]
    simp only [Bool.false_eq_true, if_false]
    rw [hdr]
    simp [cPut, hc]
  · rw [h2]
    simp only [Bool.false_eq_true, if_false, if_true]
    rw [hdr]
    simp [cPut, hc]
theorem l14Put_pc (l : List Cm) (hl : l.length < 4294967280) (c : Cm) : PC Tryz.prog 113 [cmA l, cmdA c] (rX (.o 0 (cPut c l).length) [rowC (cPut c l)]) := by
  unfold cmdA cmC
  refine pc_enter Tryz.func113 rfl rfl fun w0 fb => go_on ?_; (try simp only [Tryz.ntmps113, push_cast, simprocAttr])
  refine at_loop (X := Nat × List Cm × Bool) (fun x => [(5, .o 8 x.2.1.length), (6, bA x.2.2), (7, iA x.1), (8, .any)]) (fun x => [(3, ⟨30, 5, [cmC c], true⟩), (4, rowC []), (8, rowC x.2.1)])
    (fun x => x.1 ≤ l.length ∧ putI c l x.1 x.2.1 x.2.2 ∧ (x.2.2 = false → x.2.1.length ≤ x.1)) (fun x => l.length - x.1) (0, [], false) ⟨Nat.zero_le _, ⟨by simp, rfl⟩, fun _ => by simp⟩ ?_ ?_
  · (refine wk_ok ?_ ?_ ?_ ?_ <;> simp [cmC, leL, leH, idsL, idsA, idsR, inH, hget, sameRow, upA, hvA, dsts, dstO, setA_0, setA_1, setA_8, List.append, List.cons_append, List.nil_append])
  · rintro ⟨k, o, b⟩ ⟨q1, q2, q3⟩
    simp only at q1 q2 q3
    have q5 := q2.1
    simp only [upA, hvA, dsts, dstO, setA_0, setA_1, setA_8, List.append, List.cons_append, List.nil_append]
    refine go_on ?_
    (try simp only [push_cast, simprocAttr])
    by_cases hlt : k < l.length
    · obtain ⟨d, hd⟩ := get_of_lt hlt
      have i0 : ltI (k : Int) l.length = true := ltI_t (by omega)
      have i1 := ix_n hd
      have i2 := map_get cmC hd
      simp only [cmC] at i2
      have w1 := wr ((k : Int) + 1) (by omega)
      have hB := l14Before_pc c d
      unfold cmdA cmC at hB
      obtain ⟨n1, n2, n3⟩ := putI_next (c := c) (o := o) hd
      have happ : ∀ m : List Cm, m.map cmC ++ [[sA d.p, iA d.a.k, iA d.a.v, iA d.b.k, iA d.b.v]] = (m ++ [d]).map cmC := fun m => by rw [List.map_append]; rfl
      have happc : o.map cmC ++ [[sA c.p, iA c.a.k, iA c.a.v, iA c.b.k, iA c.b.v]] = (o ++ [c]).map cmC := by rw [List.map_append]; rfl
      (try simp only [i0, push_cast, simprocAttr])
      cases b with
      | true =>
        refine at_draw rfl (by kernel_rfl) ?_
        (try simp only [Bool.not_true, push_cast, simprocAttr])
        refine at_done (by kernel_rfl) (by kernel_rfl) (go_on ?_)
        (try simp only [i1, i2, push_cast, simprocAttr])
        refine at_chk (by omega) ?_
        (try simp only [happ, w1, push_cast, simprocAttr])
        refine at_fin ⟨(k + 1, o ++ [d], true), ⟨by dsimp only; omega, n1 q2, fun h => by cases h⟩, by dsimp only; omega, ?_⟩
        (refine wk_ok ?_ ?_ ?_ ?_ <;> simp [cmC, leL, leH, idsL, idsA, idsR, inH, hget, sameRow, upA, hvA, dsts, dstO, setA_0, setA_1, setA_8, List.append, List.cons_append, List.nil_append])
      | false =>
        have q4 := q3 rfl
        refine at_draw rfl (by kernel_rfl) ?_
        (try simp only [Bool.not_false, i1, i2, push_cast, simprocAttr])
        repeat' first | (refine at_bWn (fun hb => ?_) (fun hb => ?_) <;> simp only [Bool.not_false, hb, push_cast, simprocAttr]) | (refine at_bW (fun hb => ?_) (fun hb => ?_) <;> simp only [Bool.not_false, hb, push_cast, simprocAttr]) | (refine at_callD (by simp [clB, idsL, idsA, hget]) ?_; (try simp only [push_cast, simprocAttr]); first | (refine rcd_v (hB) ?_; simp only [Bool.not_false, push_cast, simprocAttr]) | (refine rcd_d (hB) (by simp [flatV, flatL, ctC, ndC, cmC]) (by simp [ren, ctC, ndC, cmC]) ?_; simp only [Bool.not_false, push_cast, simprocAttr])) | (refine at_done (by kernel_rfl) (by kernel_rfl) (go_on ?_); (try simp only [Bool.not_false, push_cast, simprocAttr]))
        refine at_b (fun hs => ?_) (fun hs => ?_)
        · have ht : List.take (o.length + 1) (List.map cmC (o ++ [c])) = List.map cmC (o ++ [c]) := List.take_of_length_le (by simp)
          (try simp only [hs, push_cast, simprocAttr])
          refine at_chk (by omega) ?_
          (try simp only [happc, i1, i2, push_cast, simprocAttr])
          refine at_chk (by omega) ?_
          (try simp only [ht, happ, w1, push_cast, simprocAttr])
          refine at_fin ⟨(k + 1, o ++ [c] ++ [d], true), ⟨by dsimp only; omega, n3 q4 q2 hs, fun h => by cases h⟩, by dsimp only; omega, ?_⟩
          (refine wk_ok ?_ ?_ ?_ ?_ <;> simp [cmC, leL, leH, idsL, idsA, idsR, inH, hget, sameRow, upA, hvA, dsts, dstO, setA_0, setA_1, setA_8, List.append, List.cons_append, List.nil_append])
        · (try simp only [hs, i1, i2, push_cast, simprocAttr])
          refine at_chk (by omega) ?_
          (try simp only [happ, w1, push_cast, simprocAttr])
          refine at_fin ⟨(k + 1, o ++ [d], false), ⟨by dsimp only; omega, (n2 q4 q2 hs).1, fun _ => (n2 q4 q2 hs).2⟩, by dsimp only; omega, ?_⟩
          (refine wk_ok ?_ ?_ ?_ ?_ <;> simp [cmC, leL, leH, idsL, idsA, idsR, inH, hget, sameRow, upA, hvA, dsts, dstO, setA_0, setA_1, setA_8, List.append, List.cons_append, List.nil_append])
    · have i0 : ltI (k : Int) l.length = false := ltI_f (by omega)
      have hk : k = l.length := by omega
      have happc : o.map cmC ++ [[sA c.p, iA c.a.k, iA c.a.v, iA c.b.k, iA c.b.v]] = (o ++ [c]).map cmC := by rw [List.map_append]; rfl
      have hd0 : l.drop k = [] := List.drop_of_length_le (by omega)
      (try simp only [i0, push_cast, simprocAttr])
      cases b with
      | true =>
        have e := q2.2
        rw [if_pos rfl, hd0, List.append_nil] at e
        (try simp only [Bool.not_true, push_cast, simprocAttr])
        refine at_ret ?_; simp only [Tryz.results113, push_cast, simprocAttr]
        simp [rX, e, ixOf]
      | false =>
        have e := q2.2
        rw [if_neg (by simp), hd0] at e
        simp only [cPut] at e
        (try simp only [Bool.not_false, push_cast, simprocAttr])
        refine at_chk (by omega) ?_
        (try simp only [happc, push_cast, simprocAttr])
        refine at_ret ?_; simp only [Tryz.results113, push_cast, simprocAttr]
        simp [rX, e, ixOf]
theorem cSort_snoc (l : List Cm) (c : Cm) : cSort (l ++ [c]) = cPut c (cSort l) := by
  unfold cSort
  rw [List.foldl_append]
  rfl
theorem l14Sort_pc (l : List Cm) (hl : l.length < 4294967270) : PC Tryz.prog 90 [cmA l] (vX (cmA (cSort l))) := by
  refine pc_enter Tryz.func90 rfl rfl fun w0 fb => go_on ?_; (try simp only [Tryz.ntmps90, push_cast, simprocAttr])
  refine at_loop (X := Nat) (fun k => [(3, cmA (cSort (l.take k))), (4, iA k), (5, .any)]) (fun _ => [(2, rowC [])]) (fun k => k ≤ l.length) (fun k => l.length - k) 0 (Nat.zero_le _) ?_ ?_
  · (refine wk_frz ?_ ?_ ?_ ?_ <;> simp [cSort, leF, leHF, frzB, idsL, idsA, idsR, inH, hget, sameRow, viewN, tk, upA, hvA, dsts, dstO, setA_0, setA_1, setA_8, List.append, List.cons_append, List.nil_append])
  · rintro k q1
    simp only [upA, hvA, dsts, dstO, setA_0, setA_1, setA_8, List.append, List.cons_append, List.nil_append]
    refine go_on ?_
    (try simp only [push_cast, simprocAttr])
    by_cases hlt : k < l.length
    · obtain ⟨d, hd⟩ := get_of_lt hlt
      have i0 : ltI (k : Int) l.length = true := ltI_t (by omega)
      have i1 := ix_n hd
      have i2 := map_get cmC hd
      simp only [cmC] at i2
      have w1 := wr ((k : Int) + 1) (by omega)
      have hsl : (cSort (l.take k)).length ≤ l.length := by rw [cSort_len, List.length_take]; omega
      have hP := l14Put_pc (cSort (l.take k)) (by omega) d
      have hnx : cPut d (cSort (l.take k)) = cSort (l.take (k + 1)) := by rw [List.take_add_one, hd, ← cSort_snoc]; rfl
      rw [hnx] at hP
      unfold cmdA cmC at hP
      (try simp only [i0, i1, i2, push_cast, simprocAttr])
      (refine at_call ?_; (try simp only [push_cast, simprocAttr]); refine rwc_r (hP) rfl (flat_c _) (by simp [frB, baseOf]) (go_on ?_); (try simp only [push_cast, simprocAttr]))
      (try simp only [w1, push_cast, simprocAttr])
      refine at_fin ⟨k + 1, by omega, by omega, ?_⟩
      (refine wk_frz ?_ ?_ ?_ ?_ <;> simp [leF, leHF, frzB, idsL, idsA, idsR, inH, hget, sameRow, viewN, tk, upA, hvA, dsts, dstO, setA_0, setA_1, setA_8, List.append, List.cons_append, List.nil_append])
    · have i0 : ltI (k : Int) l.length = false := ltI_f (by omega)
      have hk : k = l.length := by omega
      subst hk
      (try simp only [i0, push_cast, simprocAttr])
      refine at_ret ?_; simp only [Tryz.results90, push_cast, simprocAttr]
      simp [vX]
end Go.Proofs.YtcjialgknmplbaaGreatDoor
/-
  Walks: spec.LogCanon.
-/
namespace Go.Proofs.YtcjialgknmplbaaGreatDoor
open Go Go.RowKit Go.Proofs
/-- No command ahead of a place has its path. -/
def firstB (l : List Cm) (i : Nat) (p : Str) : Bool := !decide (p ∈ (l.take i).map (·.p))
attribute [local irreducible] RWp AW run kPe pe Kt effA gd gu br retR RDp runD kPeD brW gW effD
set_option maxRecDepth 100000
theorem l14First_pc (l : List Cm) (hl : l.length < 4294967280) (i : Nat) (c : Cm) (hc : l[i]? = some c) : PC Tryz.prog 89 [cmA l, iA i] (vB (firstB l i c.p)) := by
  have hi := lt_of_some hc
  have c1 := ix_n hc
  have c2 := map_get cmC hc
  simp only [cmC] at c2
  refine pc_enter Tryz.func89 rfl rfl fun w0 fb => go_on ?_; (try simp only [Tryz.ntmps89, push_cast, simprocAttr])
  refine at_loop (X := Nat) (fun k => [(5, iA k)]) (fun _ => []) (fun k => k ≤ i ∧ ∀ j d, j < k → l[j]? = some d → d.p ≠ c.p) (fun k => i - k) 0 ⟨Nat.zero_le _, fun j d hj => by omega⟩ ?_ ?_
  · (refine wk_ok ?_ ?_ ?_ ?_ <;> simp [leL, leH, idsL, idsA, idsR, inH, hget, sameRow, upA, hvA, dsts, dstO, setA_0, setA_1, setA_8, List.append, List.cons_append, List.nil_append])
  · rintro k ⟨q1, q2⟩
    simp only [upA, hvA, dsts, dstO, setA_0, setA_1, setA_8, List.append, List.cons_append, List.nil_append]
    refine go_on ?_
    (try simp only [push_cast, simprocAttr])
    by_cases hlt : k < i
    · obtain ⟨d, hd⟩ := get_of_lt (l := l) (k := k) (by omega)
      have i0 : ltI (k : Int) (i : Int) = true := ltI_t (by omega)
      have i1 := ix_n hd
      have i2 := map_get cmC hd
      simp only [cmC] at i2
      have w1 := wr ((k : Int) + 1) (by omega)
      (try simp only [i0, push_cast, simprocAttr])
      refine at_draw rfl (by kernel_rfl) ?_
      (try simp only [i1, i2, c1, c2, push_cast, simprocAttr])
      refine at_done (by kernel_rfl) (by kernel_rfl) (go_on ?_)
      (try simp only [push_cast, simprocAttr])
      refine at_b (fun hn => ?_) (fun hn => ?_)
      · have he : d.p = c.p := by simpa using hn
        have hf : firstB l i c.p = false := by
          unfold firstB
          simp only [Bool.not_eq_false', decide_eq_true_eq, List.mem_map]
          exact ⟨d, List.mem_of_getElem? (i := k) (by rw [List.getElem?_take, if_pos hlt]; exact hd), he⟩
        (try simp only [hn, push_cast, simprocAttr])
        refine at_ret ?_; simp only [Tryz.results89, push_cast, simprocAttr]
        simp [vX, hf]
      · have he : d.p ≠ c.p := by simpa using hn
        (try simp only [hn, w1, push_cast, simprocAttr])
        refine at_fin ⟨k + 1, ⟨by omega, fun j e hj hje => ?_⟩, by omega, ?_⟩
        · rcases Nat.lt_or_ge j k with h | h
          · exact q2 j e h hje
          · obtain rfl : j = k := by omega
            rw [hd] at hje
            cases hje
            exact he
        · (refine wk_ok ?_ ?_ ?_ ?_ <;> simp [leL, leH, idsL, idsA, idsR, inH, hget, sameRow, upA, hvA, dsts, dstO, setA_0, setA_1, setA_8, List.append, List.cons_append, List.nil_append])
    · have i0 : ltI (k : Int) (i : Int) = false := ltI_f (by omega)
      have hf : firstB l i c.p = true := by
        unfold firstB
        simp only [Bool.not_eq_true', decide_eq_false_iff_not, List.mem_map, not_exists, not_and]
        intro d hd e
        obtain ⟨j, hj, hje⟩ := List.getElem_of_mem hd
        have hj2 := hj
        rw [List.length_take] at hj2
        have : l[j]? = some d := by
          have h3 : (l.take i)[j]? = some d := by rw [List.getElem?_eq_getElem hj, hje]
          rw [List.getElem?_take, if_pos (by omega)] at h3
          exact h3
        exact q2 j d (by omega) this e
      (try simp only [i0, push_cast, simprocAttr])
      refine at_ret ?_; simp only [Tryz.results89, push_cast, simprocAttr]
      simp [vX, hf]
def canS (l : List Cm) : AV → List Row → Prop := vX (.tup [cmA ((lCanon l).getD []), bA (lCanon l).isSome])
theorem specLogCanon_pc (l : List Cm) (hs : SmL l) : PC Tryz.prog 47 [cmA l] (canS l) := by
  refine pc_enter Tryz.func47 rfl rfl fun w0 fb => go_on ?_; (try simp only [Tryz.ntmps47, push_cast, simprocAttr])
  (refine at_call ?_; (try simp only [push_cast, simprocAttr]); refine rwc_v (specLogValid_pc l hs) (go_on ?_); (try simp only [push_cast, simprocAttr]))
  refine at_b (fun hb => ?_) (fun hb => ?_)
  · have h : lV l = false := not_t hb
    (try simp only [hb, push_cast, simprocAttr])
    refine at_retf ?_; simp only [Tryz.results47, push_cast, simprocAttr]
    simp [canS, vX, lCanon, h]
  have h : lV l = true := not_f hb
  have hl20 := lV_len h
  have hO := lCanon_out h
  (try simp only [hb, push_cast, simprocAttr])
  refine at_loop (X := Nat × List Cm) (fun x => [(4, .o 12 x.2.length), (5, iA x.1), (12, .any)]) (fun x => [(2, rowC []), (12, rowC x.2)])
    (fun x => x.1 ≤ l.length ∧ x.2.length ≤ x.1 ∧ (outA [] l).map fltC = ((outA ((l.take x.1).map (·.p)) (l.drop x.1)).map fltC).map (x.2 ++ ·)) (fun x => l.length - x.1) (0, []) ⟨Nat.zero_le _, by simp, by simp [Function.comp_def]⟩ ?_ ?_
  · (refine wk_ok ?_ ?_ ?_ ?_ <;> simp [leL, leH, idsL, idsA, idsR, inH, hget, sameRow, upA, hvA, dsts, dstO, setA_0, setA_1, setA_8, List.append, List.cons_append, List.nil_append])
  · rintro ⟨i, o⟩ ⟨q1, q2, q3⟩
    simp only at q1 q2 q3
    simp only [upA, hvA, dsts, dstO, setA_0, setA_1, setA_8, List.append, List.cons_append, List.nil_append]
    by_cases hlt : i < l.length
    · refine go_on ?_
      (try simp only [push_cast, simprocAttr])
      obtain ⟨c, hc⟩ := get_of_lt hlt
      obtain ⟨s1, s2⟩ := out_step hc q3
      have i0 : ltI (i : Int) l.length = true := ltI_t (by omega)
      have i1 := ix_n hc
      have i2 := map_get cmC hc
      simp only [cmC] at i2
      have w1 := wr ((i : Int) + 1) (by omega)
      have hF := l14First_pc l (by omega) i c hc
      (try simp only [i0, push_cast, simprocAttr])
      (refine at_call ?_; (try simp only [push_cast, simprocAttr]); refine rwc_v (hF) (go_on ?_); (try simp only [push_cast, simprocAttr]))
      refine at_b (fun hf => ?_) (fun hf => ?_)
      · have hm : c.p ∉ (l.take i).map (·.p) := by simpa [firstB] using hf
        obtain ⟨s3, s4⟩ := s2 hm
        (try simp only [hf, i1, i2, w1, push_cast, simprocAttr])
        refine at_loop (X := Nat × Ct) (fun y => [(7, iA y.1)]) (fun y => [(2, rowC []), (12, rowC o), (6, ⟨30, 5, [cmC ⟨c.p, c.a, y.2⟩], true⟩)])
          (fun y => i + 1 ≤ y.1 ∧ y.1 ≤ l.length ∧ chn c.p c.b (l.drop (i + 1)) = chn c.p y.2 (l.drop y.1)) (fun y => l.length - y.1) (i + 1, c.b) ⟨Nat.le_refl _, by dsimp only; omega, rfl⟩ ?_ ?_
        · (refine wk_ok ?_ ?_ ?_ ?_ <;> simp [cmC, leL, leH, idsL, idsA, idsR, inH, hget, sameRow, upA, hvA, dsts, dstO, setA_0, setA_1, setA_8, List.append, List.cons_append, List.nil_append])
        · rintro ⟨k, t⟩ ⟨r1, r2, r3⟩
          simp only at r1 r2 r3
          simp only [upA, hvA, dsts, dstO, setA_0, setA_1, setA_8, List.append, List.cons_append, List.nil_append]
          refine go_on ?_
          (try simp only [push_cast, simprocAttr])
          by_cases hlk : k < l.length
          · obtain ⟨d, hd⟩ := get_of_lt hlk
            have j0 : ltI (k : Int) l.length = true := ltI_t (by omega)
            have j1 := ix_n hd
            have j2 := map_get cmC hd
            simp only [cmC] at j2
            have w2 := wr ((k : Int) + 1) (by omega)
            rw [drop_of_get hd] at r3
            simp only [chn] at r3
            (try simp only [j0, push_cast, simprocAttr])
            refine at_draw rfl (by kernel_rfl) ?_
            (try simp only [j1, j2, push_cast, simprocAttr])
            refine at_done (by kernel_rfl) (by kernel_rfl) (go_on ?_)
            (try simp only [push_cast, simprocAttr])
            refine at_b (fun hp => ?_) (fun hp => ?_)
            · have hp' : d.p = c.p := by simpa using hp
              rw [if_pos hp'] at r3
              (try simp only [hp, push_cast, simprocAttr])
              refine at_draw rfl (by kernel_rfl) ?_
              (try simp only [j1, j2, ctg, cth, push_cast, simprocAttr])
              have e : (eqI d.a.k t.k && eqI d.a.v t.v) = decide (d.a = t) := ct_eq _ _
              refine at_done (by kernel_rfl) (by kernel_rfl) (go_on ?_)
              (try simp only [e, push_cast, simprocAttr])
              refine at_b (fun hn => ?_) (fun hn => ?_)
              · have hne : d.a ≠ t := by simpa using hn
                rw [if_neg hne] at r3
                have hnone : lCanon l = none := by rw [hO, s3 r3]; rfl
                (try simp only [hn, push_cast, simprocAttr])
                refine at_retf ?_; simp only [Tryz.results47, push_cast, simprocAttr]
                simp [canS, vX, hnone]
              · have heq : d.a = t := by simpa using hn
                rw [if_pos heq] at r3
                (try simp only [hn, j1, j2, w2, push_cast, simprocAttr])
                refine at_fin ⟨(k + 1, d.b), ⟨by dsimp only; omega, by dsimp only; omega, r3⟩, by dsimp only; omega, ?_⟩
                (refine wk_ok ?_ ?_ ?_ ?_ <;> simp [cmC, leL, leH, idsL, idsA, idsR, inH, hget, sameRow, upA, hvA, dsts, dstO, setA_0, setA_1, setA_8, List.append, List.cons_append, List.nil_append])
            · have hp' : ¬ d.p = c.p := by simpa using hp
              rw [if_neg hp'] at r3
              (try simp only [hp, w2, push_cast, simprocAttr])
              refine at_fin ⟨(k + 1, t), ⟨by dsimp only; omega, by dsimp only; omega, r3⟩, by dsimp only; omega, ?_⟩
              (refine wk_ok ?_ ?_ ?_ ?_ <;> simp [cmC, leL, leH, idsL, idsA, idsR, inH, hget, sameRow, upA, hvA, dsts, dstO, setA_0, setA_1, setA_8, List.append, List.cons_append, List.nil_append])
          · have j0 : ltI (k : Int) l.length = false := ltI_f (by omega)
            rw [List.drop_of_length_le (show l.length ≤ k by omega)] at r3
            have s5 := s4 t r3
            have e : (eqI c.a.k t.k && eqI c.a.v t.v) = decide (c.a = t) := ct_eq _ _
            (try simp only [j0, ctg, cth, e, push_cast, simprocAttr])
            refine at_b (fun hn => ?_) (fun hn => ?_)
            · have hne : c.a ≠ t := by simpa using hn
              rw [if_pos hne] at s5
              have happ : o.map cmC ++ [[sA c.p, iA c.a.k, iA c.a.v, iA t.k, iA t.v]] = (o ++ [(⟨c.p, c.a, t⟩ : Cm)]).map cmC := by rw [List.map_append]; rfl
              (try simp only [hn, push_cast, simprocAttr])
              refine at_chk (by omega) ?_
              (try simp only [happ, w1, push_cast, simprocAttr])
              refine at_fin ⟨(i + 1, o ++ [(⟨c.p, c.a, t⟩ : Cm)]), ⟨by dsimp only; omega, by simp; omega, s5⟩, by dsimp only; omega, ?_⟩
              (refine wk_ok ?_ ?_ ?_ ?_ <;> simp [cmC, leL, leH, idsL, idsA, idsR, inH, hget, sameRow, upA, hvA, dsts, dstO, setA_0, setA_1, setA_8, List.append, List.cons_append, List.nil_append])
            · have heq : c.a = t := by simpa using hn
              rw [if_neg (by simpa using heq)] at s5
              (try simp only [hn, w1, push_cast, simprocAttr])
              refine at_fin ⟨(i + 1, o), ⟨by dsimp only; omega, by dsimp only; omega, s5⟩, by dsimp only; omega, ?_⟩
              (refine wk_ok ?_ ?_ ?_ ?_ <;> simp [cmC, leL, leH, idsL, idsA, idsR, inH, hget, sameRow, upA, hvA, dsts, dstO, setA_0, setA_1, setA_8, List.append, List.cons_append, List.nil_append])
      · have hm : c.p ∈ (l.take i).map (·.p) := by simpa [firstB] using hf
        (try simp only [hf, w1, push_cast, simprocAttr])
        refine at_fin ⟨(i + 1, o), ⟨by dsimp only; omega, by dsimp only; omega, s1 hm⟩, by dsimp only; omega, ?_⟩
        (refine wk_ok ?_ ?_ ?_ ?_ <;> simp [leL, leH, idsL, idsA, idsR, inH, hget, sameRow, upA, hvA, dsts, dstO, setA_0, setA_1, setA_8, List.append, List.cons_append, List.nil_append])
    · have i0 : ltI (i : Int) l.length = false := ltI_f (by omega)
      rw [List.drop_of_length_le (by omega)] at q3
      simp only [outA, Option.map_some, show fltC [] = [] from rfl, List.append_nil] at q3
      have hcan : lCanon l = some (cSort o) := by rw [hO, q3]; rfl
      have hS := l14Sort_pc o (by omega)
      refine go_on_n 12 ?_
      (try simp only [i0, run_0, push_cast, simprocAttr])
      refine at_more ?_
      (refine at_frzS [12] (by refine wk_frz ?_ ?_ ?_ ?_ <;> simp [frzS, frzT, hasN, delL, hdel, leF, leHF, frzB, idsL, idsA, idsR, inH, hget, sameRow, viewN, tk]) ?_; simp only [frzS, frzT, hasN, delL, hdel, idsA, idsL, viewN, hget, List.map_cons, List.map_nil, List.all_cons, List.all_nil, List.append_nil, List.drop, List.getElem?_cons_zero, List.getElem?_cons_succ, Bool.not_false, Bool.not_true, Bool.and_true, if_true, if_false, simprocAttr])
      refine go_on ?_
      (try simp only [push_cast, simprocAttr])
      ((try simp only [push_cast, simprocAttr]); refine at_share (by first | rfl | simp [isC]) (by first | rfl | simp only [ren]) (hS) (go_on ?_); (try simp only [push_cast, simprocAttr]))
      refine at_ret ?_; simp only [Tryz.results47, push_cast, simprocAttr]
      simp [canS, vX, hcan]
end Go.Proofs.YtcjialgknmplbaaGreatDoor
/-
  Walks: SiteCanon, SiteShort, twice.
-/
namespace Go.Proofs.YtcjialgknmplbaaGreatDoor
open Go Go.RowKit Go.Proofs
theorem siteSh_bad {s : St} (h : siteV s = false) : siteSh s = (st0, false) := by simp [siteSh, h]
theorem siteSh_ok {s : St} (h : siteV s = true) : siteSh s = (⟨s.ep, s.base, siteC s⟩, true) := by simp [siteSh, h]
attribute [local irreducible] RWp AW run kPe pe Kt effA gd gu br retR RDp runD kPeD brW gW effD
set_option maxRecDepth 100000
theorem SiteCanon_pc (s : St) (hs : SmS s) : PC Tryz.prog 16 [stA' s] (rX (.o 0 (siteC s).length) [rowC (siteC s)]) := by
  have hL := LogCanon_pc s.log hs.l
  have hV := SiteValid_pc s hs
  unfold stA' stC at hV ⊢
  unfold canD at hL
  refine pc_enter Tryz.func16 rfl rfl fun w0 fb => go_on ?_; (try simp only [Tryz.ntmps16, push_cast, simprocAttr])
  refine at_call ?_
  (try simp only [push_cast, simprocAttr])
  refine rwc_v hV ?_
  (try simp only [push_cast, simprocAttr])
  (refine at_dropS [2] (by refine wk_ok ?_ ?_ ?_ ?_ <;> simp [dropS, dropT, hasN, delL, hdel, leL, leH, idsL, idsA, idsR, inH, hget, sameRow]) ?_; simp only [dropS, dropT, hasN, delL, hdel, idsA, idsL, hget, List.map_cons, List.map_nil, List.all_cons, List.all_nil, List.append_nil, Bool.not_false, Bool.not_true, Bool.and_true, if_true, if_false, simprocAttr])
  refine go_on ?_
  (try simp only [push_cast, simprocAttr])
  refine at_b (fun hb => ?_) (fun hb => ?_)
  · have h : siteV s = false := not_t hb
    (try simp only [hb, push_cast, simprocAttr])
    refine at_ret ?_; simp only [Tryz.results16, push_cast, simprocAttr]
    simp [rX, siteC, h, ixOf]
  · have h : siteV s = true := not_f hb
    have e : siteC s = (lCanon s.log).getD [] := by simp [siteC, h]
    rw [← e] at hL
    (try simp only [hb, push_cast, simprocAttr])
    (refine at_call ?_; (try simp only [push_cast, simprocAttr]); refine rwc_r (hL) (by simp [flatV, flatL]) (flat_c _) (by simp [frB, baseOf]) (go_on ?_); (try simp only [push_cast, simprocAttr]))
    refine at_ret ?_; simp only [Tryz.results16, push_cast, simprocAttr]
    simp [rX, ixOf]
theorem SiteCanon_d (s : St) (hs : SmS s) : PC Tryz.prog 16 [stA' s] (vX (cmA (siteC s))) := by
  have := (SiteCanon_pc s hs).frzX
  simpa [viewN, hpOf, hget, isC, tk] using this
theorem specSiteCanon_pc (s : St) (hs : SmS s) : PC Tryz.prog 22 [stA' s] (vX (cmA (siteC s))) := by
  have hL := specLogCanon_pc s.log hs.l
  have hV := specSiteValid_pc s hs
  unfold stA' stC at hV ⊢
  unfold canS at hL
  refine pc_enter Tryz.func22 rfl rfl fun w0 fb => go_on ?_; (try simp only [Tryz.ntmps22, push_cast, simprocAttr])
  (refine at_call ?_; (try simp only [push_cast, simprocAttr]); refine rwc_v (hV) (go_on ?_); (try simp only [push_cast, simprocAttr]))
  refine at_b (fun hb => ?_) (fun hb => ?_)
  · have h : siteV s = false := not_t hb
    (try simp only [hb, push_cast, simprocAttr])
    refine at_retf ?_; simp only [Tryz.results22, push_cast, simprocAttr]
    simp [vX, siteC, h, ixOf]
  · have h : siteV s = true := not_f hb
    have e : siteC s = (lCanon s.log).getD [] := by simp [siteC, h]
    rw [← e] at hL
    (try simp only [hb, push_cast, simprocAttr])
    ((try simp only [push_cast, simprocAttr]); refine at_share2 (by simp [isC2, isC]) (by first | rfl | simp [ren]) (hL) (go_on ?_); (try simp only [push_cast, simprocAttr]))
    refine at_ret ?_; simp only [Tryz.results22, push_cast, simprocAttr]
    simp [vX, ixOf]
def shR (s : St) : AV → List Row → Prop := rX (.tup [stO (siteSh s).1, bA (siteSh s).2]) [rowN (siteSh s).1.base, rowC (siteSh s).1.log]
theorem SiteShort_pc0 (s : St) (hs : SmS s) (h : siteV s = false) : PC Tryz.prog 18 [stA' s] (vX (.tup [st00, bA false])) := by
  have hV := SiteValid_pc s hs
  unfold stA' stC at hV ⊢
  refine pc_enter Tryz.func18 rfl rfl fun w0 fb => go_on ?_; (try simp only [Tryz.ntmps18, push_cast, simprocAttr])
  (refine at_call ?_; (try simp only [push_cast, simprocAttr]); refine rwc_v (hV) (go_on ?_); (try simp only [push_cast, simprocAttr]))
  (try simp only [h, Bool.not_false, push_cast, simprocAttr])
  refine at_ret ?_; simp only [Tryz.results18, push_cast, simprocAttr]
  simp [vX, st00]
theorem SiteShort_pc1 (s : St) (hs : SmS s) (h : siteV s = true) : PC Tryz.prog 18 [stA' s] (shR s) := by
  have hV := SiteValid_pc s hs
  have hb : s.base.length < 4294967281 := hs.t.n'
  have hl : s.log.length < 4294967280 := hs.l.n
  have hK := clone_pc s hb (by omega)
  have hC := SiteCanon_pc s hs
  have e := siteSh_ok h
  unfold stA' stC at hV hK hC ⊢
  unfold stO at hK
  refine pc_enter Tryz.func18 rfl rfl fun w0 fb => go_on ?_; (try simp only [Tryz.ntmps18, push_cast, simprocAttr])
  (refine at_call ?_; (try simp only [push_cast, simprocAttr]); refine rwc_v (hV) (go_on ?_); (try simp only [push_cast, simprocAttr]))
  (try simp only [h, Bool.not_true, push_cast, simprocAttr])
  (refine at_call ?_; (try simp only [push_cast, simprocAttr]); refine rwc_r (hK) (by simp [flatV, flatL]) (flat_nc _ _) (by simp [frB, baseOf]) (go_on ?_); (try simp only [push_cast, simprocAttr]))
  (refine at_call ?_; (try simp only [push_cast, simprocAttr]); refine rwc_r (hC) rfl (flat_c _) (by simp [frB, baseOf]) (go_on ?_); (try simp only [push_cast, simprocAttr]))
  refine at_ret ?_; simp only [Tryz.results18, push_cast, simprocAttr]
  simp [shR, rX, e, stO, ixOf]
theorem specSiteShort_pc0 (s : St) (hs : SmS s) (h : siteV s = false) : PC Tryz.prog 19 [stA' s] (vX (.tup [st00, bA false])) := by
  have hV := specSiteValid_pc s hs
  unfold stA' stC at hV ⊢
  refine pc_enter Tryz.func19 rfl rfl fun w0 fb => go_on ?_; (try simp only [Tryz.ntmps19, push_cast, simprocAttr])
  (refine at_call ?_; (try simp only [push_cast, simprocAttr]); refine rwc_v (hV) (go_on ?_); (try simp only [push_cast, simprocAttr]))
  (try simp only [h, Bool.not_false, push_cast, simprocAttr])
  refine at_ret ?_; simp only [Tryz.results19, push_cast, simprocAttr]
  simp [vX, st00]
theorem specSiteShort_pc1 (s : St) (hs : SmS s) (h : siteV s = true) : PC Tryz.prog 19 [stA' s] (vX (.tup [stA' (siteSh s).1, bA (siteSh s).2])) := by
  have hV := specSiteValid_pc s hs
  have hb : s.base.length < 4294967281 := hs.t.n'
  have hl : s.log.length < 4294967280 := hs.l.n
  have hK := (l41Copy_pc s hb (by omega)).frzX
  have hC := specSiteCanon_pc s hs
  have e := siteSh_ok h
  simp [viewN, hpOf, hget, stO, stC, isC, tk] at hK
  rw [e]
  unfold stA' stC at hV hC ⊢
  refine pc_enter Tryz.func19 rfl rfl fun w0 fb => go_on ?_; (try simp only [Tryz.ntmps19, push_cast, simprocAttr])
  (refine at_call ?_; (try simp only [push_cast, simprocAttr]); refine rwc_v (hV) (go_on ?_); (try simp only [push_cast, simprocAttr]))
  (try simp only [h, Bool.not_true, push_cast, simprocAttr])
  ((try simp only [push_cast, simprocAttr]); refine at_share2 (by simp [isC2, isC]) (by first | rfl | simp [ren]) (hK) (go_on ?_); (try simp only [push_cast, simprocAttr]))
  ((try simp only [push_cast, simprocAttr]); refine at_share2 (by simp [isC2, isC]) (by first | rfl | simp [ren]) (hC) (go_on ?_); (try simp only [push_cast, simprocAttr]))
  refine at_ret ?_; simp only [Tryz.results19, push_cast, simprocAttr]
  simp [vX]
theorem SiteShort_d (s : St) (hs : SmS s) : PC Tryz.prog 18 [stA' s] (vX (.tup [stA' (siteSh s).1, bA (siteSh s).2])) := by
  cases h : siteV s with
  | false =>
    rw [siteSh_bad h]
    refine (SiteShort_pc0 s hs h).less fun h loc w v hg => hg.tup2 rfl fun j x y u h1 h2 h3 => ?_
    rcases j with _ | _ | j
    · cases h1; cases h2; exact nil_st0 h3
    · cases h1; cases h2; exact h3
    · cases h1
  | true =>
    have := (SiteShort_pc1 s hs h).frzX
    simpa [viewN, hpOf, hget, stO, stA', stC, isC, tk] using this
theorem specSiteShort_d (s : St) (hs : SmS s) : PC Tryz.prog 19 [stA' s] (vX (.tup [stA' (siteSh s).1, bA (siteSh s).2])) := by
  cases h : siteV s with
  | false =>
    rw [siteSh_bad h]
    refine (specSiteShort_pc0 s hs h).less fun h loc w v hg => hg.tup2 rfl fun j x y u h1 h2 h3 => ?_
    rcases j with _ | _ | j
    · cases h1; cases h2; exact nil_st0 h3
    · cases h1; cases h2; exact h3
    · cases h1
  | true => exact specSiteShort_pc1 s hs h
end Go.Proofs.YtcjialgknmplbaaGreatDoor
/-
  Walks: canonical logs are short.
-/
namespace Go.Proofs.YtcjialgknmplbaaGreatDoor
open Go Go.RowKit Go.Proofs
theorem siteC_cv (s : St) : (siteC s).length ≤ 20 ∧ ∀ c ∈ siteC s, CV c := by
  cases h : siteV s with
  | true =>
    obtain ⟨t, L, hs⟩ := (siteV_iff s).1 h
    rw [hs.C]
    exact ⟨hs.l20, hs.co.cv⟩
  | false =>
    have : siteC s = [] := by simp [siteC, h]
    rw [this]
    exact ⟨by simp, by simp⟩
theorem siteC_sm (s : St) : SmL (siteC s) := by
  obtain ⟨h1, h2⟩ := siteC_cv s
  refine ⟨by omega, fun c hc => ?_⟩
  have h := h2 c hc
  have := (pV_len h.p h.r).2
  omega
theorem siteSh_sm {s : St} (hs : SmS s) : SmS (siteSh s).1 := by
  cases h : siteV s with
  | true => rw [siteSh_ok h]; exact ⟨hs.t, siteC_sm s⟩
  | false =>
    rw [siteSh_bad h]
    exact ⟨⟨⟨by simp [st0], by simp [st0]⟩, by simp [st0]⟩, ⟨by simp [st0], by simp [st0]⟩⟩
end Go.Proofs.YtcjialgknmplbaaGreatDoor
/-
  Walks: FnExactSiteShort.
-/
namespace Go.Proofs.YtcjialgknmplbaaGreatDoor
open Go Go.RowKit Go.Proofs
attribute [local irreducible] RWp AW run kPe pe Kt effA gd gu br retR RDp runD kPeD brW gW effD
set_option maxRecDepth 100000
theorem FnExactSiteShort_pc (s : St) (q : SiteOk s) : PC Tryz.prog 7 [stA' s] (vB true) := by
  have hZ := szSite_pc s 1048576 (by omega) (by omega) q
  unfold stA' stC at hZ ⊢
  refine pc_enter Tryz.func7 rfl rfl fun w0 fb => go_on ?_; (try simp only [Tryz.ntmps7, push_cast, simprocAttr])
  (refine at_call ?_; (try simp only [push_cast, simprocAttr]); refine rwc_v (hZ) (go_on ?_); (try simp only [push_cast, simprocAttr]))
  refine at_b (fun hb => ?_) (fun hb => ?_)
  · (try simp only [hb, push_cast, simprocAttr])
    refine at_ret ?_; simp only [Tryz.results7, push_cast, simprocAttr]
    simp [vX]
  have hb' := of_ltI_f hb
  obtain ⟨a0, a1, a2, _⟩ := szT_ok (by omega) (by omega) hb'
  have hs := szT_sm (by omega) (by omega) hb'
  have hT := toSite_pc s a1 a2
  have hTd := toSite_d s a1 a2
  have hE := eqSite_pc s s (by omega) (by omega)
  rw [decide_eq_true rfl] at hE
  have hSd := specSiteShort_d s hs
  have hId := SiteShort_d s hs
  have hos := siteSh_sm hs
  have hI1 := SiteShort_pc1 s hs
  have hM := markSite_pcl s 1 (by omega) (by omega)
  have e0 : siteV s = false → siteSh s = (st0, false) := siteSh_bad
  unfold shR at hI1
  obtain ⟨o, b, hob⟩ : ∃ o b, siteSh s = (o, b) := ⟨_, _, rfl⟩
  rw [hob] at hSd hId hos hI1 e0
  simp only at hSd hId hos hI1
  have hol : o.base.length < 4294967280 := hos.t.n
  have hol2 : o.log.length < 4294967280 := hos.l.n
  have hEo := eqSite_pc o o (by omega) (by omega)
  rw [decide_eq_true rfl] at hEo
  have hMo := markSite_pcl o 1 (by omega) (by omega)
  have hHo := heldSite_pc o 1 (by omega) (by omega)
  have b1 : (!(b == b)) = false := by simp
  have i1 : ltI (1 + 3 * (s.base.length : Int) + 5 * (s.log.length : Int)) 0 = false := ltI_f (by omega)
  have i2 : ltI (1 + 3 * (o.base.length : Int) + 5 * (o.log.length : Int)) 0 = false := ltI_f (by omega)
  unfold stA' stC at hTd hE hSd hId hEo hHo hI1
  unfold stO at hT hM hI1 hMo
  (try simp only [hb, push_cast, simprocAttr])
  ((try simp only [push_cast, simprocAttr]); refine at_share2 (by simp [isC2, isC]) (by first | rfl | simp [ren]) (hTd) (go_on ?_); (try simp only [push_cast, simprocAttr]))
  ((try simp only [push_cast, simprocAttr]); refine at_share2 (by simp [isC2, isC]) (by first | rfl | simp [ren]) (hSd) (go_on ?_); (try simp only [push_cast, simprocAttr]))
  (refine at_call ?_; (try simp only [push_cast, simprocAttr]); refine rwc_r (hT) (by simp [flatV, flatL]) (flat_nc _ _) (by simp [frB, baseOf]) (go_on ?_); (try simp only [push_cast, simprocAttr]))
  cases hv : siteV s with
  | true =>
    have hI1 := hI1 hv
    (refine at_call ?_; (try simp only [push_cast, simprocAttr]); refine rwc_r (hI1) (by simp [flatV, flatL]) (flat_nc _ _) (by simp [frB, baseOf]) (go_on ?_); (try simp only [push_cast, simprocAttr]))
    (refine at_call ?_; (try simp only [push_cast, simprocAttr]); refine rwc_v (hEo) (go_on ?_); (try simp only [push_cast, simprocAttr]))
    (try simp only [Bool.not_true, b1, push_cast, simprocAttr])
    refine at_draw rfl (by kernel_rfl) ?_; simp only [push_cast, simprocAttr]
    (refine at_shareD (by simp [isC2, isC]) (by first | rfl | simp [ren]) hTd ?_; (try simp only [push_cast, simprocAttr]))
    repeat' first | (refine at_bWn (fun hb => ?_) (fun hb => ?_) <;> simp only [Bool.not_true, hb, push_cast, simprocAttr]) | (refine at_bW (fun hb => ?_) (fun hb => ?_) <;> simp only [Bool.not_true, hb, push_cast, simprocAttr]) | (refine at_callD (by simp [clB, idsL, idsA, hget]) ?_; (try simp only [push_cast, simprocAttr]); first | (refine rcd_v (hE) ?_; simp only [Bool.not_true, push_cast, simprocAttr]) | (refine rcd_d (hE) (by simp [flatV, flatL, ctC, ndC, cmC]) (by simp [ren, ctC, ndC, cmC]) ?_; simp only [Bool.not_true, push_cast, simprocAttr])) | (refine at_done (by kernel_rfl) (by kernel_rfl) (go_on ?_); (try simp only [Bool.not_true, push_cast, simprocAttr]))
    (try simp only [push_cast, simprocAttr]); refine call_lend [27000, 27001] none (lr := [rowN s.base, rowC s.log]) (by simp [ndB]) (by first | rfl | simp [rowsOf, hget, rdR, rowS, rowN, rowC, sC, ndC, cmC]) (by simp [idsL, idsA]) (by simp [mvN]) (by simpa [rnA, ixOf] using hM) ?_
    rintro rv lr' rows ⟨rfl, rfl, rfl⟩
    (refine ⟨by simp [shB, mvF, rdR, rowS, rowN, rowC, mkN_len, mkC_len], by simp [frB, baseOf], go_on ?_⟩; simp only [killA, killH, killRow, push_cast, simprocAttr])
    (try simp only [i1, push_cast, simprocAttr])
    (refine at_call ?_; (try simp only [push_cast, simprocAttr]); refine rwc_v (hEo) (go_on ?_); (try simp only [push_cast, simprocAttr]))
    (try simp only [Bool.not_true, b1, push_cast, simprocAttr])
    (try simp only [push_cast, simprocAttr]); refine call_lend [30000, 30001] none (lr := [rowN o.base, rowC o.log]) (by simp [ndB]) (by first | rfl | simp [rowsOf, hget, rdR, rowS, rowN, rowC, sC, ndC, cmC]) (by simp [idsL, idsA]) (by simp [mvN]) (by simpa [rnA, ixOf] using hMo) ?_
    rintro rv lr' rows ⟨rfl, rfl, rfl⟩
    (refine ⟨by simp [shB, mvF, rdR, rowS, rowN, rowC, mkN_len, mkC_len], by simp [frB, baseOf], go_on ?_⟩; simp only [killA, killH, killRow, push_cast, simprocAttr])
    refine at_call ?_
    simp only [mkN_len, mkC_len, push_cast, simprocAttr]
    refine rwc_v hHo (go_on ?_)
    (try simp only [i2, push_cast, simprocAttr])
    ((try simp only [push_cast, simprocAttr]); refine at_share2 (by simp [isC2, isC]) (by first | rfl | simp [ren]) (hTd) (go_on ?_); (try simp only [push_cast, simprocAttr]))
    ((try simp only [push_cast, simprocAttr]); refine at_share2 (by simp [isC2, isC]) (by first | rfl | simp [ren]) (hId) (go_on ?_); (try simp only [push_cast, simprocAttr]))
    (refine at_call ?_; (try simp only [push_cast, simprocAttr]); refine rwc_v (hEo) (go_on ?_); (try simp only [push_cast, simprocAttr]))
    (try simp only [Bool.not_true, b1, push_cast, simprocAttr])
    refine at_call ?_
    simp only [mkN_len, mkC_len, push_cast, simprocAttr]
    refine rwc_v hHo (go_on ?_)
    (try simp only [i2, push_cast, simprocAttr])
    refine at_ret ?_; simp only [Tryz.results7, push_cast, simprocAttr]
    simp [vX]
  | false =>
    obtain ⟨rfl, rfl⟩ := Prod.mk.inj (e0 hv)
    have hI0 := SiteShort_pc0 s hs hv
    have hE0 := eqSite_0
    have hM0 := markSite_00 1
    have hH0 := heldSite_00
    unfold st00 stA' stC at hI0 hE0
    unfold st00 at hM0 hH0
    (refine at_call ?_; (try simp only [push_cast, simprocAttr]); refine rwc_d (hI0) (by simp [flatV, flatL, ctC, ndC, cmC]) (by simp [ren, ctC, ndC, cmC]) (go_on ?_); (try simp only [push_cast, simprocAttr]))
    (refine at_call ?_; (try simp only [push_cast, simprocAttr]); refine rwc_v (hE0) (go_on ?_); (try simp only [push_cast, simprocAttr]))
    (try simp only [Bool.not_true, b1, push_cast, simprocAttr])
    refine at_draw rfl (by kernel_rfl) ?_; simp only [push_cast, simprocAttr]
    (refine at_shareD (by simp [isC2, isC]) (by first | rfl | simp [ren]) hTd ?_; (try simp only [push_cast, simprocAttr]))
    repeat' first | (refine at_bWn (fun hb => ?_) (fun hb => ?_) <;> simp only [Bool.not_true, hb, push_cast, simprocAttr]) | (refine at_bW (fun hb => ?_) (fun hb => ?_) <;> simp only [Bool.not_true, hb, push_cast, simprocAttr]) | (refine at_callD (by simp [clB, idsL, idsA, hget]) ?_; (try simp only [push_cast, simprocAttr]); first | (refine rcd_v (hE) ?_; simp only [Bool.not_true, push_cast, simprocAttr]) | (refine rcd_d (hE) (by simp [flatV, flatL, ctC, ndC, cmC]) (by simp [ren, ctC, ndC, cmC]) ?_; simp only [Bool.not_true, push_cast, simprocAttr])) | (refine at_done (by kernel_rfl) (by kernel_rfl) (go_on ?_); (try simp only [Bool.not_true, push_cast, simprocAttr]))
    (try simp only [push_cast, simprocAttr]); refine call_lend [27000, 27001] none (lr := [rowN s.base, rowC s.log]) (by simp [ndB]) (by first | rfl | simp [rowsOf, hget, rdR, rowS, rowN, rowC, sC, ndC, cmC]) (by simp [idsL, idsA]) (by simp [mvN]) (by simpa [rnA, ixOf] using hM) ?_
    rintro rv lr' rows ⟨rfl, rfl, rfl⟩
    (refine ⟨by simp [shB, mvF, rdR, rowS, rowN, rowC, mkN_len, mkC_len], by simp [frB, baseOf], go_on ?_⟩; simp only [killA, killH, killRow, push_cast, simprocAttr])
    (try simp only [i1, push_cast, simprocAttr])
    (refine at_call ?_; (try simp only [push_cast, simprocAttr]); refine rwc_v (hE0) (go_on ?_); (try simp only [push_cast, simprocAttr]))
    (try simp only [Bool.not_true, b1, push_cast, simprocAttr])
    (refine at_call ?_; (try simp only [push_cast, simprocAttr]); refine rwc_v (hM0) (go_on ?_); (try simp only [push_cast, simprocAttr]))
    refine at_call ?_
    simp only [mkN_len, mkC_len, push_cast, simprocAttr]
    refine rwc_v hH0 (go_on ?_)
    (try simp only [show ltI 1 0 = false from rfl, push_cast, simprocAttr])
    ((try simp only [push_cast, simprocAttr]); refine at_share2 (by simp [isC2, isC]) (by first | rfl | simp [ren]) (hTd) (go_on ?_); (try simp only [push_cast, simprocAttr]))
    ((try simp only [push_cast, simprocAttr]); refine at_share2 (by simp [isC2, isC]) (by first | rfl | simp [ren]) (hId) (go_on ?_); (try simp only [push_cast, simprocAttr]))
    (refine at_call ?_; (try simp only [push_cast, simprocAttr]); refine rwc_v (hEo) (go_on ?_); (try simp only [push_cast, simprocAttr]))
    (try simp only [Bool.not_true, b1, push_cast, simprocAttr])
    refine at_call ?_
    simp only [mkN_len, mkC_len, push_cast, simprocAttr]
    refine rwc_v hH0 (go_on ?_)
    (try simp only [show ltI 1 0 = false from rfl, push_cast, simprocAttr])
    refine at_ret ?_; simp only [Tryz.results7, push_cast, simprocAttr]
    simp [vX]
end Go.Proofs.YtcjialgknmplbaaGreatDoor
