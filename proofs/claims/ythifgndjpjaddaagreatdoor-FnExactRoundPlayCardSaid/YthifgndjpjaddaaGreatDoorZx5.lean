/- A part of the proof of FnExactRoundPlay: texts W23 W24 W25 W26 W27 W30 W31 W32 W33 W34 W35 W36 W37 W38 W39 W40 W41 W42 W43 W44 W45 W46 W47 W48 W49 W50 W51 W52 W53 W54 W55 W56 M36 W57 O3 Y1. -/
import Derived.Test.YthifgndjpjaddaaGreatDoorZx4
import Derived.Test.YthifgndjpjaddaaGreatDoorZxp
import Derived.Maps.OwnSet
import Derived.Maps.Views
import Derived.Carry
set_option linter.unusedSimpArgs false
set_option linter.unusedVariables false
/-
  Walks: impl.LogCanon.
-/
namespace Go.Proofs.YthifgndjpjaddaaGreatDoor
open Go Go.RowKit Go.Proofs
theorem idxF_first {α : Type} (p : α → Bool) : ∀ (l : List α) (k j : Nat), idxF p k l = ((k + j : Nat) : Int) → ∀ i e, i < j → l[i]? = some e → p e = false
  | [], k, j, h, _, _, _, he => by simp at he
  | a :: l, k, 0, h, i, e, hi, _ => by omega
  | a :: l, k, j + 1, h, i, e, hi, he => by
    by_cases hp : p a = true
    · simp only [idxF, hp, if_true] at h
      omega
    · have hp : p a = false := by simpa using hp
      have h' : idxF p (k + 1) l = ((k + 1 + j : Nat) : Int) := by
        rw [show idxF p k (a :: l) = idxF p (k + 1) l by simp [idxF, hp]] at h
        rw [h]; congr 1; omega
      cases i with
      | zero => simp at he; subst he; exact hp
      | succ i => exact idxF_first p l (k + 1) j h' i e (by omega) (by simpa using he)
def canD (l : List Cm) : AV → List Row → Prop := rX (.tup [.o 0 ((lCanon l).getD []).length, bA (lCanon l).isSome]) [rowC ((lCanon l).getD [])]
attribute [local irreducible] RWp AW run kPe pe Kt effA gd gu br retR RDp runD kPeD brW gW effD
set_option maxRecDepth 100000
theorem LogCanon1_pc (d : Cm) (c : Cm) : PC Tryz.prog 132 [cmdA d, .ip (cmC c)] (vB (decide (d.p = c.p))) := by
  unfold cmdA cmC
  refine pc_enter Tryz.func132 rfl rfl fun w0 fb => go_on ?_; (try simp only [Tryz.ntmps132, push_cast, simprocAttr])
  repeat' first | (refine at_b (fun hb => ?_) (fun hb => ?_) <;> simp only [hb, push_cast, simprocAttr]) | (refine at_ret ?_; simp only [Tryz.results132, push_cast, simprocAttr]) | (show RWp _ _ _ _ _; simp only [push_cast, simprocAttr])
  simp [vX]
theorem LogCanon2_pc (c : Cm) : PC Tryz.prog 134 [cmdA c] (vB (decide (c.a = c.b))) := by
  unfold cmdA cmC
  refine pc_enter Tryz.func134 rfl rfl fun w0 fb => go_on ?_; (try simp only [Tryz.ntmps134, push_cast, simprocAttr])
  repeat' first | (refine at_b (fun hb => ?_) (fun hb => ?_) <;> simp only [ctg, cth, hb, push_cast, simprocAttr]) | (refine at_ret ?_; simp only [ctg, cth, Tryz.results134, push_cast, simprocAttr]) | (show RWp _ _ _ _ _; simp only [ctg, cth, push_cast, simprocAttr])
  simp [vX, ct_eq]
theorem LogCanon_pc (l : List Cm) (hs : SmL l) : PC Tryz.prog 108 [cmA l] (canD l) := by
  refine pc_enter Tryz.func108 rfl rfl fun w0 fb => go_on ?_; (try simp only [Tryz.ntmps108, push_cast, simprocAttr])
  refine at_call ?_
  (try simp only [push_cast, simprocAttr])
  refine rwc_v (LogValid_pc l hs) ?_
  (try simp only [push_cast, simprocAttr])
  (refine at_dropS [2] (by refine wk_ok ?_ ?_ ?_ ?_ <;> simp [dropS, dropT, hasN, delL, hdel, leL, leH, idsL, idsA, idsR, inH, hget, sameRow]) ?_; simp only [dropS, dropT, hasN, delL, hdel, idsA, idsL, hget, List.map_cons, List.map_nil, List.all_cons, List.all_nil, List.append_nil, Bool.not_false, Bool.not_true, Bool.and_true, if_true, if_false, simprocAttr])
  refine go_on ?_
  (try simp only [push_cast, simprocAttr])
  refine at_b (fun hb => ?_) (fun hb => ?_)
  · have h : lV l = false := not_t hb
    (try simp only [hb, push_cast, simprocAttr])
    refine at_ret ?_; simp only [Tryz.results108, push_cast, simprocAttr]
    simp [canD, rX, lCanon, h, ixOf]
  have h : lV l = true := not_f hb
  have hl20 := lV_len h
  (try simp only [hb, push_cast, simprocAttr])
  refine at_loop (X := Nat × List Cm) (fun x => [(4, .o 4 x.2.length), (13, iA x.1)]) (fun x => [(4, rowC x.2)])
    (fun x => x.1 ≤ l.length ∧ x.2.length ≤ x.1 ∧ one1 x.2 = true ∧ cFold [] l = cFold x.2 (l.drop x.1)) (fun x => l.length - x.1) (0, []) ⟨Nat.zero_le _, by simp, rfl, rfl⟩ ?_ ?_
  · (refine wk_ok ?_ ?_ ?_ ?_ <;> simp [leL, leH, idsL, idsA, idsR, inH, hget, sameRow, upA, hvA, dsts, dstO, setA_0, setA_1, setA_8, List.append, List.cons_append, List.nil_append])
  · rintro ⟨i, o⟩ ⟨q1, q2, q3, q4⟩
    simp only at q1 q2 q3 q4
    simp only [upA, hvA, dsts, dstO, setA_0, setA_1, setA_8, List.append, List.cons_append, List.nil_append]
    refine go_on ?_
    (try simp only [push_cast, simprocAttr])
    by_cases hlt : i < l.length
    · obtain ⟨c, hc⟩ := get_of_lt hlt
      have i0 : ltI (i : Int) l.length = true := ltI_t (by omega)
      have i1 := ix_n hc
      have i2 := map_get cmC hc
      simp only [cmC] at i2
      rw [drop_of_get hc] at q4
      have w1 := wr ((i : Int) + 1) (by omega)
      (try simp only [i0, i1, i2, push_cast, simprocAttr])
      have hI := IndexFuncC_pc o (by omega) 132 [.ip (cmC c)] rfl (fun d => decide (d.p = c.p)) (fun d _ => LogCanon1_pc d c)
      unfold cmC at hI
      refine at_call ?_
      (try simp only [push_cast, simprocAttr])
      refine rwc_v hI (go_on ?_)
      rcases idxF_spec (fun d : Cm => decide (d.p = c.p)) o 0 with ⟨h1, h2⟩ | ⟨j, d, h1, h2, h3⟩
      · have hno : ∀ d ∈ o, d.p ≠ c.p := fun d hd => by simpa using List.find?_eq_none.1 h2 d hd
        have hadd := cAdd_no hno
        have happ : o.map cmC ++ [[sA c.p, iA c.a.k, iA c.a.v, iA c.b.k, iA c.b.v]] = (o ++ [c]).map cmC := by rw [List.map_append]; rfl
        have j0 : ltI (-1) 0 = true := ltI_t (by omega)
        rw [h1]
        (try simp only [j0, w1, push_cast, simprocAttr])
        refine at_chk (by omega) ?_
        (try simp only [happ, w1, push_cast, simprocAttr])
        refine at_fin ⟨(i + 1, o ++ [c]), ⟨by dsimp only; omega, by simp; omega, (cAdd_one q3 hadd).1, ?_⟩, by dsimp only; omega, ?_⟩
        · rw [q4]; simp only [cFold, hadd, Option.bind_some]
        · (refine wk_ok ?_ ?_ ?_ ?_ <;> simp [cmC, leL, leH, idsL, idsA, idsR, inH, hget, sameRow, upA, hvA, dsts, dstO, setA_0, setA_1, setA_8, List.append, List.cons_append, List.nil_append])
      · rw [Nat.zero_add] at h1
        have hj := lt_of_some h2
        have hdp : d.p = c.p := by have := List.find?_some h3; simpa using this
        have hadd := cAdd_at h2 hdp (fun k e hk he => by have := idxF_first (fun d : Cm => decide (d.p = c.p)) o 0 j (by rw [h1]; simp) k e hk he; simpa using this)
        have j0 : ltI (j : Int) 0 = false := ltI_f (by omega)
        have k1 := ix_n h2
        have k2 := map_get cmC h2
        simp only [cmC] at k2
        rw [h1]
        (try simp only [j0, push_cast, simprocAttr])
        refine at_draw rfl (by kernel_rfl) ?_
        (try simp only [k1, k2, ctg, cth, push_cast, simprocAttr])
        have e : (eqI d.b.k c.a.k && eqI d.b.v c.a.v) = decide (d.b = c.a) := by
          rw [Bool.eq_iff_iff]; simp [eqI_d, ct_ext]
        refine at_done (by kernel_rfl) (by kernel_rfl) (go_on ?_)
        (try simp only [e, push_cast, simprocAttr])
        refine at_b (fun hn => ?_) (fun hn => ?_)
        · have hne : d.b ≠ c.a := by simpa using hn
          rw [if_neg hne] at hadd
          have hnone : lCanon l = none := by
            unfold lCanon
            rw [if_pos h, q4]
            simp only [cFold, hadd, Option.bind_none, Option.map_none]
          (try simp only [hn, push_cast, simprocAttr])
          refine at_ret ?_; simp only [Tryz.results108, push_cast, simprocAttr]
          simp [canD, rX, hnone, ixOf]
        · have heq : d.b = c.a := by simpa using hn
          rw [if_pos heq] at hadd
          have hset : (o.map cmC).set j [sA d.p, iA d.a.k, iA d.a.v, iA c.b.k, iA c.b.v] = (o.set j ⟨d.p, d.a, c.b⟩).map cmC := by rw [List.map_set]; rfl
          (try simp only [hn, k1, k2, hset, w1, push_cast, simprocAttr])
          refine at_fin ⟨(i + 1, o.set j ⟨d.p, d.a, c.b⟩), ⟨by dsimp only; omega, by simp; omega, (cAdd_one q3 hadd).1, ?_⟩, by dsimp only; omega, ?_⟩
          · rw [q4]; simp only [cFold, hadd, Option.bind_some]
          · (refine wk_ok ?_ ?_ ?_ ?_ <;> simp [cmC, leL, leH, idsL, idsA, idsR, inH, hget, sameRow, upA, hvA, dsts, dstO, setA_0, setA_1, setA_8, List.append, List.cons_append, List.nil_append])
    · have i0 : ltI (i : Int) l.length = false := ltI_f (by omega)
      rw [List.drop_of_length_le (by omega)] at q4
      simp only [cFold] at q4
      have hcan : lCanon l = some (cSort (o.filter fun c => decide (c.a ≠ c.b))) := by
        unfold lCanon
        rw [if_pos h, q4]
        rfl
      have hD := DeleteFuncC_pcl o (by omega) 134 [] rfl (fun c => decide (c.a = c.b)) (fun c _ => LogCanon2_pc c)
      obtain ⟨f, hf⟩ : ∃ f, f = o.filter fun c => !decide (c.a = c.b) := ⟨_, rfl⟩
      have hff : (o.filter fun c => decide (c.a ≠ c.b)) = f := by rw [hf]; apply List.filter_congr; intro c _; simp
      have hfl : f.length ≤ o.length := by rw [hf]; exact List.length_filter_le _ _
      have hf1 : one1 f = true := by rw [hf]; exact one1_sub List.filter_sublist q3
      rw [← hf] at hD
      rw [hff] at hcan
      have hS := SortC_pcl f (by omega)
      (try simp only [i0, push_cast, simprocAttr])
      (try simp only [push_cast, simprocAttr]); refine call_lend [4] (some 0) (lr := [rowC o]) (by simp [ndB]) (by first | rfl | simp [rowsOf, hget, rowS, rowN, rowC, sC, ndC, cmC]) (by simp [idsL, idsA]) (by simp [mvN]) (by simpa [rnA, ixOf] using hD) ?_
      rintro rv lr' rows ⟨rfl, rfl, rfl⟩
      refine ⟨by simp [shB, mvF], by simp [frB], go_on ?_⟩
      (try simp only [killA, killH, killRow, push_cast, simprocAttr])
      (try simp only [push_cast, simprocAttr]); refine call_lend [4] none (lr := [rowC f]) (by simp [ndB]) (by first | rfl | simp [rowsOf, hget, rowS, rowN, rowC, sC, ndC, cmC]) (by simp [idsL, idsA]) (by simp [mvN]) (by simpa [rnA, ixOf] using hS) ?_
      rintro rv lr' rows ⟨g, hgp, hgo, rfl, rfl, rfl⟩
      have hgl : g.length = f.length := hgp.length_eq
      obtain rfl : g = cSort f := cSort_eq hf1 hgp hgo
      refine ⟨by simp [shB, mvF, hgl], by simp [frB, baseOf], go_on ?_⟩
      (try simp only [killA, killH, killRow, push_cast, simprocAttr])
      refine at_call ?_
      simp only [hgl, push_cast, simprocAttr]
      refine rwc_r (cloneLog_pc (cSort f) (by omega)) (by simp [flatV, flatL]) (flat_c _) (by simp [frB, baseOf]) (go_on ?_)
      (try simp only [push_cast, simprocAttr])
      refine at_ret ?_; simp only [Tryz.results108, push_cast, simprocAttr]
      simp [canD, rX, hcan, hgl, ixOf]
end Go.Proofs.YthifgndjpjaddaaGreatDoor
/-
  Walks: the reference's canonical order and sort.
-/
namespace Go.Proofs.YthifgndjpjaddaaGreatDoor
open Go Go.RowKit Go.Proofs
attribute [local irreducible] RWp AW run kPe pe Kt effA gd gu br retR RDp runD kPeD brW gW effD
set_option maxRecDepth 100000
theorem l14Ends_pc (c : Cm) : PC Tryz.prog 186 [cmdA c] (vB (cEnds c)) := by
  have hc : cEnds c = (decide (c.b.k = 0) || decide (c.a.k = 1)) := rfl
  unfold cmdA cmC
  refine pc_enter Tryz.func186 rfl rfl fun w0 fb => go_on ?_; (try simp only [Tryz.ntmps186, push_cast, simprocAttr])
  repeat' first | (refine at_b (fun hb => ?_) (fun hb => ?_) <;> simp only [hb, push_cast, simprocAttr]) | (refine at_ret ?_; simp only [Tryz.results186, push_cast, simprocAttr]) | (show RWp _ _ _ _ _; simp only [push_cast, simprocAttr])
  all_goals simp [vX, hc, eqI_d, *]
  all_goals simp [eqI_d] at *
  all_goals simp [*]
theorem gtrS_l (a b : Str) : (!(slt a b || decide (a = b))) = slt b a := by
  rw [← gtr_slt a b]
  show _ = (!(slt a b || a == b))
  by_cases h : a = b <;> simp [h]
theorem l14Before_pc (c d : Cm) : PC Tryz.prog 171 [cmdA c, cmdA d] (vB (cLt c d)) := by
  have h1 := l14Ends_pc c
  have h2 := l14Ends_pc d
  have hL : cLt c d = if cEnds c then (if cEnds d then slt d.p c.p else true) else (if cEnds d then false else slt c.p d.p) := rfl
  unfold cmdA cmC at *
  refine pc_enter Tryz.func171 rfl rfl fun w0 fb => go_on ?_; (try simp only [Tryz.ntmps171, push_cast, simprocAttr])
  repeat' first | (refine at_b (fun hb => ?_) (fun hb => ?_) <;> simp only [hb, push_cast, simprocAttr]) | (refine at_ret ?_; simp only [Tryz.results171, push_cast, simprocAttr]) | (refine at_call ?_; (try simp only [push_cast, simprocAttr]); refine rwc_v (by first | exact h1 | exact h2) (go_on ?_); simp only [push_cast, simprocAttr]) | (show RWp _ _ _ _ _; simp only [push_cast, simprocAttr])
  all_goals (try simp only [Bool.not_eq_true', Bool.not_eq_false'] at *)
  all_goals simp_all [vX]
  rw [← gtrS_l c.p d.p, Bool.not_or]
def putI (c : Cm) (l : List Cm) (k : Nat) (o : List Cm) (b : Bool) : Prop := o.length ≤ k + 1 ∧ cPut c l = o ++ (if b = true then l.drop k else cPut c (l.drop k))
theorem putI_next {c d : Cm} {l : List Cm} {k : Nat} {o : List Cm} (hd : l[k]? = some d) :
    (putI c l k o true → putI c l (k + 1) (o ++ [d]) true) ∧ (o.length ≤ k → putI c l k o false → cLt c d = false → putI c l (k + 1) (o ++ [d]) false ∧ (o ++ [d]).length ≤ k + 1) ∧
      (o.length ≤ k → putI c l k o false → cLt c d = true → putI c l (k + 1) (o ++ [c] ++ [d]) true) := by
  have hdr : l.drop k = d :: l.drop (k + 1) := by
    have hi : k < l.length := lt_of_some hd
    rw [List.drop_eq_getElem_cons hi]
    rw [List.getElem?_eq_getElem hi] at hd
    cases hd
    rfl
  refine ⟨fun ⟨h1, h2⟩ => ⟨by simp; omega, ?_⟩, fun h0 ⟨h1, h2⟩ hc => ⟨⟨by simp; omega, ?_⟩, by simp; omega⟩, fun h0 ⟨h1, h2⟩ hc => ⟨by simp; omega, ?_⟩⟩
  · rw [h2, if_pos rfl, if_pos rfl, hdr]; simp
  · rw [h2]
    simp only [Bool.false_eq_true, if_false]
    rw [hdr]
    simp [cPut, hc]
  · rw [h2]
    simp only [Bool.false_eq_true, if_false, if_true]
    rw [hdr]
    simp [cPut, hc]
theorem l14Put_pc (l : List Cm) (hl : l.length < 4294967280) (c : Cm) : PC Tryz.prog 170 [cmA l, cmdA c] (rX (.o 0 (cPut c l).length) [rowC (cPut c l)]) := by
  unfold cmdA cmC
  refine pc_enter Tryz.func170 rfl rfl fun w0 fb => go_on ?_; (try simp only [Tryz.ntmps170, push_cast, simprocAttr])
  refine at_loop (X := Nat × List Cm × Bool) (fun x => [(5, .o 8 x.2.1.length), (6, bA x.2.2), (7, iA x.1), (8, .any)]) (fun x => [(3, ⟨68, 5, [cmC c], true⟩), (4, rowC []), (8, rowC x.2.1)])
    (fun x => x.1 ≤ l.length ∧ putI c l x.1 x.2.1 x.2.2 ∧ (x.2.2 = false → x.2.1.length ≤ x.1)) (fun x => l.length - x.1) (0, [], false) ⟨Nat.zero_le _, ⟨by simp, rfl⟩, fun _ => by simp⟩ ?_ ?_
  · (refine wk_ok ?_ ?_ ?_ ?_ <;> simp [cmC, leL, leH, idsL, idsA, idsR, inH, hget, sameRow, upA, hvA, dsts, dstO, setA_0, setA_1, setA_8, List.append, List.cons_append, List.nil_append])
  · rintro ⟨k, o, b⟩ ⟨q1, q2, q3⟩
    simp only at q1 q2 q3
    have q5 := q2.1
    simp only [upA, hvA, dsts, dstO, setA_0, setA_1, setA_8, List.append, List.cons_append, List.nil_append]
    refine go_on ?_
    (try simp only [push_cast, simprocAttr])
    by_cases hlt : k < l.length
    · obtain ⟨d, hd⟩ := get_of_lt hlt
      have i0 : ltI (k : Int) l.length = true := ltI_t (by omega)
      have i1 := ix_n hd
      have i2 := map_get cmC hd
      simp only [cmC] at i2
      have w1 := wr ((k : Int) + 1) (by omega)
      have hB := l14Before_pc c d
      unfold cmdA cmC at hB
      obtain ⟨n1, n2, n3⟩ := putI_next (c := c) (o := o) hd
      have happ : ∀ m : List Cm, m.map cmC ++ [[sA d.p, iA d.a.k, iA d.a.v, iA d.b.k, iA d.b.v]] = (m ++ [d]).map cmC := fun m => by rw [List.map_append]; rfl
      have happc : o.map cmC ++ [[sA c.p, iA c.a.k, iA c.a.v, iA c.b.k, iA c.b.v]] = (o ++ [c]).map cmC := by rw [List.map_append]; rfl
      (try simp only [i0, push_cast, simprocAttr])
      cases b with
      | true =>
        refine at_draw rfl (by kernel_rfl) ?_
        (try simp only [Bool.not_true, push_cast, simprocAttr])
        refine at_done (by kernel_rfl) (by kernel_rfl) (go_on ?_)
        (try simp only [i1, i2, push_cast, simprocAttr])
        refine at_chk (by omega) ?_
        (try simp only [happ, w1, push_cast, simprocAttr])
        refine at_fin ⟨(k + 1, o ++ [d], true), ⟨by dsimp only; omega, n1 q2, fun h => by cases h⟩, by dsimp only; omega, ?_⟩
        (refine wk_ok ?_ ?_ ?_ ?_ <;> simp [cmC, leL, leH, idsL, idsA, idsR, inH, hget, sameRow, upA, hvA, dsts, dstO, setA_0, setA_1, setA_8, List.append, List.cons_append, List.nil_append])
      | false =>
        have q4 := q3 rfl
        refine at_draw rfl (by kernel_rfl) ?_
        (try simp only [Bool.not_false, i1, i2, push_cast, simprocAttr])
        repeat' first | (refine at_bWn (fun hb => ?_) (fun hb => ?_) <;> simp only [Bool.not_false, hb, push_cast, simprocAttr]) | (refine at_bW (fun hb => ?_) (fun hb => ?_) <;> simp only [Bool.not_false, hb, push_cast, simprocAttr]) | (refine at_callD (by simp [clB, idsL, idsA, hget]) ?_; (try simp only [push_cast, simprocAttr]); first | (refine rcd_v (hB) ?_; simp only [Bool.not_false, push_cast, simprocAttr]) | (refine rcd_d (hB) (by simp [flatV, flatL, ctC, ndC, cmC]) (by simp [ren, ctC, ndC, cmC]) ?_; simp only [Bool.not_false, push_cast, simprocAttr])) | (refine at_done (by kernel_rfl) (by kernel_rfl) (go_on ?_); (try simp only [Bool.not_false, push_cast, simprocAttr]))
        refine at_b (fun hs => ?_) (fun hs => ?_)
        · have ht : List.take (o.length + 1) (List.map cmC (o ++ [c])) = List.map cmC (o ++ [c]) := List.take_of_length_le (by simp)
          (try simp only [hs, push_cast, simprocAttr])
          refine at_chk (by omega) ?_
          (try simp only [happc, i1, i2, push_cast, simprocAttr])
          refine at_chk (by omega) ?_
          (try simp only [ht, happ, w1, push_cast, simprocAttr])
          refine at_fin ⟨(k + 1, o ++ [c] ++ [d], true), ⟨by dsimp only; omega, n3 q4 q2 hs, fun h => by cases h⟩, by dsimp only; omega, ?_⟩
          (refine wk_ok ?_ ?_ ?_ ?_ <;> simp [cmC, leL, leH, idsL, idsA, idsR, inH, hget, sameRow, upA, hvA, dsts, dstO, setA_0, setA_1, setA_8, List.append, List.cons_append, List.nil_append])
        · (try simp only [hs, i1, i2, push_cast, simprocAttr])
          refine at_chk (by omega) ?_
          (try simp only [happ, w1, push_cast, simprocAttr])
          refine at_fin ⟨(k + 1, o ++ [d], false), ⟨by dsimp only; omega, (n2 q4 q2 hs).1, fun _ => (n2 q4 q2 hs).2⟩, by dsimp only; omega, ?_⟩
          (refine wk_ok ?_ ?_ ?_ ?_ <;> simp [cmC, leL, leH, idsL, idsA, idsR, inH, hget, sameRow, upA, hvA, dsts, dstO, setA_0, setA_1, setA_8, List.append, List.cons_append, List.nil_append])
    · have i0 : ltI (k : Int) l.length = false := ltI_f (by omega)
      have hk : k = l.length := by omega
      have happc : o.map cmC ++ [[sA c.p, iA c.a.k, iA c.a.v, iA c.b.k, iA c.b.v]] = (o ++ [c]).map cmC := by rw [List.map_append]; rfl
      have hd0 : l.drop k = [] := List.drop_of_length_le (by omega)
      (try simp only [i0, push_cast, simprocAttr])
      cases b with
      | true =>
        have e := q2.2
        rw [if_pos rfl, hd0, List.append_nil] at e
        (try simp only [Bool.not_true, push_cast, simprocAttr])
        refine at_ret ?_; simp only [Tryz.results170, push_cast, simprocAttr]
        simp [rX, e, ixOf]
      | false =>
        have e := q2.2
        rw [if_neg (by simp), hd0] at e
        simp only [cPut] at e
        (try simp only [Bool.not_false, push_cast, simprocAttr])
        refine at_chk (by omega) ?_
        (try simp only [happc, push_cast, simprocAttr])
        refine at_ret ?_; simp only [Tryz.results170, push_cast, simprocAttr]
        simp [rX, e, ixOf]
theorem cSort_snoc (l : List Cm) (c : Cm) : cSort (l ++ [c]) = cPut c (cSort l) := by
  unfold cSort
  rw [List.foldl_append]
  rfl
theorem l14Sort_pc (l : List Cm) (hl : l.length < 4294967270) : PC Tryz.prog 147 [cmA l] (vX (cmA (cSort l))) := by
  refine pc_enter Tryz.func147 rfl rfl fun w0 fb => go_on ?_; (try simp only [Tryz.ntmps147, push_cast, simprocAttr])
  refine at_loop (X := Nat) (fun k => [(3, cmA (cSort (l.take k))), (4, iA k), (5, .any)]) (fun _ => [(2, rowC [])]) (fun k => k ≤ l.length) (fun k => l.length - k) 0 (Nat.zero_le _) ?_ ?_
  · (refine wk_frz ?_ ?_ ?_ ?_ <;> simp [cSort, leF, leHF, frzB, idsL, idsA, idsR, inH, hget, sameRow, viewN, tk, upA, hvA, dsts, dstO, setA_0, setA_1, setA_8, List.append, List.cons_append, List.nil_append])
  · rintro k q1
    simp only [upA, hvA, dsts, dstO, setA_0, setA_1, setA_8, List.append, List.cons_append, List.nil_append]
    refine go_on ?_
    (try simp only [push_cast, simprocAttr])
    by_cases hlt : k < l.length
    · obtain ⟨d, hd⟩ := get_of_lt hlt
      have i0 : ltI (k : Int) l.length = true := ltI_t (by omega)
      have i1 := ix_n hd
      have i2 := map_get cmC hd
      simp only [cmC] at i2
      have w1 := wr ((k : Int) + 1) (by omega)
      have hsl : (cSort (l.take k)).length ≤ l.length := by rw [cSort_len, List.length_take]; omega
      have hP := l14Put_pc (cSort (l.take k)) (by omega) d
      have hnx : cPut d (cSort (l.take k)) = cSort (l.take (k + 1)) := by rw [List.take_add_one, hd, ← cSort_snoc]; rfl
      rw [hnx] at hP
      unfold cmdA cmC at hP
      (try simp only [i0, i1, i2, push_cast, simprocAttr])
      (refine at_call ?_; (try simp only [push_cast, simprocAttr]); refine rwc_r (hP) rfl (flat_c _) (by simp [frB, baseOf]) (go_on ?_); (try simp only [push_cast, simprocAttr]))
      (try simp only [w1, push_cast, simprocAttr])
      refine at_fin ⟨k + 1, by omega, by omega, ?_⟩
      (refine wk_frz ?_ ?_ ?_ ?_ <;> simp [leF, leHF, frzB, idsL, idsA, idsR, inH, hget, sameRow, viewN, tk, upA, hvA, dsts, dstO, setA_0, setA_1, setA_8, List.append, List.cons_append, List.nil_append])
    · have i0 : ltI (k : Int) l.length = false := ltI_f (by omega)
      have hk : k = l.length := by omega
      subst hk
      (try simp only [i0, push_cast, simprocAttr])
      refine at_ret ?_; simp only [Tryz.results147, push_cast, simprocAttr]
      simp [vX]
end Go.Proofs.YthifgndjpjaddaaGreatDoor
/-
  Walks: spec.LogCanon.
-/
namespace Go.Proofs.YthifgndjpjaddaaGreatDoor
open Go Go.RowKit Go.Proofs
/-- No command ahead of a place has its path. -/
def firstB (l : List Cm) (i : Nat) (p : Str) : Bool := !decide (p ∈ (l.take i).map (·.p))
attribute [local irreducible] RWp AW run kPe pe Kt effA gd gu br retR RDp runD kPeD brW gW effD
set_option maxRecDepth 100000
theorem l14First_pc (l : List Cm) (hl : l.length < 4294967280) (i : Nat) (c : Cm) (hc : l[i]? = some c) : PC Tryz.prog 146 [cmA l, iA i] (vB (firstB l i c.p)) := by
  have hi := lt_of_some hc
  have c1 := ix_n hc
  have c2 := map_get cmC hc
  simp only [cmC] at c2
  refine pc_enter Tryz.func146 rfl rfl fun w0 fb => go_on ?_; (try simp only [Tryz.ntmps146, push_cast, simprocAttr])
  refine at_loop (X := Nat) (fun k => [(5, iA k)]) (fun _ => []) (fun k => k ≤ i ∧ ∀ j d, j < k → l[j]? = some d → d.p ≠ c.p) (fun k => i - k) 0 ⟨Nat.zero_le _, fun j d hj => by omega⟩ ?_ ?_
  · (refine wk_ok ?_ ?_ ?_ ?_ <;> simp [leL, leH, idsL, idsA, idsR, inH, hget, sameRow, upA, hvA, dsts, dstO, setA_0, setA_1, setA_8, List.append, List.cons_append, List.nil_append])
  · rintro k ⟨q1, q2⟩
    simp only [upA, hvA, dsts, dstO, setA_0, setA_1, setA_8, List.append, List.cons_append, List.nil_append]
    refine go_on ?_
    (try simp only [push_cast, simprocAttr])
    by_cases hlt : k < i
    · obtain ⟨d, hd⟩ := get_of_lt (l := l) (k := k) (by omega)
      have i0 : ltI (k : Int) (i : Int) = true := ltI_t (by omega)
      have i1 := ix_n hd
      have i2 := map_get cmC hd
      simp only [cmC] at i2
      have w1 := wr ((k : Int) + 1) (by omega)
      (try simp only [i0, push_cast, simprocAttr])
      refine at_draw rfl (by kernel_rfl) ?_
      (try simp only [i1, i2, c1, c2, push_cast, simprocAttr])
      refine at_done (by kernel_rfl) (by kernel_rfl) (go_on ?_)
      (try simp only [push_cast, simprocAttr])
      refine at_b (fun hn => ?_) (fun hn => ?_)
      · have he : d.p = c.p := by simpa using hn
        have hf : firstB l i c.p = false := by
          unfold firstB
          simp only [Bool.not_eq_false', decide_eq_true_eq, List.mem_map]
          exact ⟨d, List.mem_of_getElem? (i := k) (by rw [List.getElem?_take, if_pos hlt]; exact hd), he⟩
        (try simp only [hn, push_cast, simprocAttr])
        refine at_ret ?_; simp only [Tryz.results146, push_cast, simprocAttr]
        simp [vX, hf]
      · have he : d.p ≠ c.p := by simpa using hn
        (try simp only [hn, w1, push_cast, simprocAttr])
        refine at_fin ⟨k + 1, ⟨by omega, fun j e hj hje => ?_⟩, by omega, ?_⟩
        · rcases Nat.lt_or_ge j k with h | h
          · exact q2 j e h hje
          · obtain rfl : j = k := by omega
            rw [hd] at hje
            cases hje
            exact he
        · (refine wk_ok ?_ ?_ ?_ ?_ <;> simp [leL, leH, idsL, idsA, idsR, inH, hget, sameRow, upA, hvA, dsts, dstO, setA_0, setA_1, setA_8, List.append, List.cons_append, List.nil_append])
    · have i0 : ltI (k : Int) (i : Int) = false := ltI_f (by omega)
      have hf : firstB l i c.p = true := by
        unfold firstB
        simp only [Bool.not_eq_true', decide_eq_false_iff_not, List.mem_map, not_exists, not_and]
        intro d hd e
        obtain ⟨j, hj, hje⟩ := List.getElem_of_mem hd
        have hj2 := hj
        rw [List.length_take] at hj2
        have : l[j]? = some d := by
          have h3 : (l.take i)[j]? = some d := by rw [List.getElem?_eq_getElem hj, hje]
          rw [List.getElem?_take, if_pos (by omega)] at h3
          exact h3
        exact q2 j d (by omega) this e
      (try simp only [i0, push_cast, simprocAttr])
      refine at_ret ?_; simp only [Tryz.results146, push_cast, simprocAttr]
      simp [vX, hf]
def canS (l : List Cm) : AV → List Row → Prop := vX (.tup [cmA ((lCanon l).getD []), bA (lCanon l).isSome])
theorem specLogCanon_pc (l : List Cm) (hs : SmL l) : PC Tryz.prog 123 [cmA l] (canS l) := by
  refine pc_enter Tryz.func123 rfl rfl fun w0 fb => go_on ?_; (try simp only [Tryz.ntmps123, push_cast, simprocAttr])
  (refine at_call ?_; (try simp only [push_cast, simprocAttr]); refine rwc_v (specLogValid_pc l hs) (go_on ?_); (try simp only [push_cast, simprocAttr]))
  refine at_b (fun hb => ?_) (fun hb => ?_)
  · have h : lV l = false := not_t hb
    (try simp only [hb, push_cast, simprocAttr])
    refine at_retf ?_; simp only [Tryz.results123, push_cast, simprocAttr]
    simp [canS, vX, lCanon, h]
  have h : lV l = true := not_f hb
  have hl20 := lV_len h
  have hO := lCanon_out h
  (try simp only [hb, push_cast, simprocAttr])
  refine at_loop (X := Nat × List Cm) (fun x => [(4, .o 12 x.2.length), (5, iA x.1), (12, .any)]) (fun x => [(2, rowC []), (12, rowC x.2)])
    (fun x => x.1 ≤ l.length ∧ x.2.length ≤ x.1 ∧ (outA [] l).map fltC = ((outA ((l.take x.1).map (·.p)) (l.drop x.1)).map fltC).map (x.2 ++ ·)) (fun x => l.length - x.1) (0, []) ⟨Nat.zero_le _, by simp, by simp [Function.comp_def]⟩ ?_ ?_
  · (refine wk_ok ?_ ?_ ?_ ?_ <;> simp [leL, leH, idsL, idsA, idsR, inH, hget, sameRow, upA, hvA, dsts, dstO, setA_0, setA_1, setA_8, List.append, List.cons_append, List.nil_append])
  · rintro ⟨i, o⟩ ⟨q1, q2, q3⟩
    simp only at q1 q2 q3
    simp only [upA, hvA, dsts, dstO, setA_0, setA_1, setA_8, List.append, List.cons_append, List.nil_append]
    by_cases hlt : i < l.length
    · refine go_on ?_
      (try simp only [push_cast, simprocAttr])
      obtain ⟨c, hc⟩ := get_of_lt hlt
      obtain ⟨s1, s2⟩ := out_step hc q3
      have i0 : ltI (i : Int) l.length = true := ltI_t (by omega)
      have i1 := ix_n hc
      have i2 := map_get cmC hc
      simp only [cmC] at i2
      have w1 := wr ((i : Int) + 1) (by omega)
      have hF := l14First_pc l (by omega) i c hc
      (try simp only [i0, push_cast, simprocAttr])
      (refine at_call ?_; (try simp only [push_cast, simprocAttr]); refine rwc_v (hF) (go_on ?_); (try simp only [push_cast, simprocAttr]))
      refine at_b (fun hf => ?_) (fun hf => ?_)
      · have hm : c.p ∉ (l.take i).map (·.p) := by simpa [firstB] using hf
        obtain ⟨s3, s4⟩ := s2 hm
        (try simp only [hf, i1, i2, w1, push_cast, simprocAttr])
        refine at_loop (X := Nat × Ct) (fun y => [(7, iA y.1)]) (fun y => [(2, rowC []), (12, rowC o), (6, ⟨68, 5, [cmC ⟨c.p, c.a, y.2⟩], true⟩)])
          (fun y => i + 1 ≤ y.1 ∧ y.1 ≤ l.length ∧ chn c.p c.b (l.drop (i + 1)) = chn c.p y.2 (l.drop y.1)) (fun y => l.length - y.1) (i + 1, c.b) ⟨Nat.le_refl _, by dsimp only; omega, rfl⟩ ?_ ?_
        · (refine wk_ok ?_ ?_ ?_ ?_ <;> simp [cmC, leL, leH, idsL, idsA, idsR, inH, hget, sameRow, upA, hvA, dsts, dstO, setA_0, setA_1, setA_8, List.append, List.cons_append, List.nil_append])
        · rintro ⟨k, t⟩ ⟨r1, r2, r3⟩
          simp only at r1 r2 r3
          simp only [upA, hvA, dsts, dstO, setA_0, setA_1, setA_8, List.append, List.cons_append, List.nil_append]
          refine go_on ?_
          (try simp only [push_cast, simprocAttr])
          by_cases hlk : k < l.length
          · obtain ⟨d, hd⟩ := get_of_lt hlk
            have j0 : ltI (k : Int) l.length = true := ltI_t (by omega)
            have j1 := ix_n hd
            have j2 := map_get cmC hd
            simp only [cmC] at j2
            have w2 := wr ((k : Int) + 1) (by omega)
            rw [drop_of_get hd] at r3
            simp only [chn] at r3
            (try simp only [j0, push_cast, simprocAttr])
            refine at_draw rfl (by kernel_rfl) ?_
            (try simp only [j1, j2, push_cast, simprocAttr])
            refine at_done (by kernel_rfl) (by kernel_rfl) (go_on ?_)
            (try simp only [push_cast, simprocAttr])
            refine at_b (fun hp => ?_) (fun hp => ?_)
            · have hp' : d.p = c.p := by simpa using hp
              rw [if_pos hp'] at r3
              (try simp only [hp, push_cast, simprocAttr])
              refine at_draw rfl (by kernel_rfl) ?_
              (try simp only [j1, j2, ctg, cth, push_cast, simprocAttr])
              have e : (eqI d.a.k t.k && eqI d.a.v t.v) = decide (d.a = t) := ct_eq _ _
              refine at_done (by kernel_rfl) (by kernel_rfl) (go_on ?_)
              (try simp only [e, push_cast, simprocAttr])
              refine at_b (fun hn => ?_) (fun hn => ?_)
              · have hne : d.a ≠ t := by simpa using hn
                rw [if_neg hne] at r3
                have hnone : lCanon l = none := by rw [hO, s3 r3]; rfl
                (try simp only [hn, push_cast, simprocAttr])
                refine at_retf ?_; simp only [Tryz.results123, push_cast, simprocAttr]
                simp [canS, vX, hnone]
              · have heq : d.a = t := by simpa using hn
                rw [if_pos heq] at r3
                (try simp only [hn, j1, j2, w2, push_cast, simprocAttr])
                refine at_fin ⟨(k + 1, d.b), ⟨by dsimp only; omega, by dsimp only; omega, r3⟩, by dsimp only; omega, ?_⟩
                (refine wk_ok ?_ ?_ ?_ ?_ <;> simp [cmC, leL, leH, idsL, idsA, idsR, inH, hget, sameRow, upA, hvA, dsts, dstO, setA_0, setA_1, setA_8, List.append, List.cons_append, List.nil_append])
            · have hp' : ¬ d.p = c.p := by simpa using hp
              rw [if_neg hp'] at r3
              (try simp only [hp, w2, push_cast, simprocAttr])
              refine at_fin ⟨(k + 1, t), ⟨by dsimp only; omega, by dsimp only; omega, r3⟩, by dsimp only; omega, ?_⟩
              (refine wk_ok ?_ ?_ ?_ ?_ <;> simp [cmC, leL, leH, idsL, idsA, idsR, inH, hget, sameRow, upA, hvA, dsts, dstO, setA_0, setA_1, setA_8, List.append, List.cons_append, List.nil_append])
          · have j0 : ltI (k : Int) l.length = false := ltI_f (by omega)
            rw [List.drop_of_length_le (show l.length ≤ k by omega)] at r3
            have s5 := s4 t r3
            have e : (eqI c.a.k t.k && eqI c.a.v t.v) = decide (c.a = t) := ct_eq _ _
            (try simp only [j0, ctg, cth, e, push_cast, simprocAttr])
            refine at_b (fun hn => ?_) (fun hn => ?_)
            · have hne : c.a ≠ t := by simpa using hn
              rw [if_pos hne] at s5
              have happ : o.map cmC ++ [[sA c.p, iA c.a.k, iA c.a.v, iA t.k, iA t.v]] = (o ++ [(⟨c.p, c.a, t⟩ : Cm)]).map cmC := by rw [List.map_append]; rfl
              (try simp only [hn, push_cast, simprocAttr])
              refine at_chk (by omega) ?_
              (try simp only [happ, w1, push_cast, simprocAttr])
              refine at_fin ⟨(i + 1, o ++ [(⟨c.p, c.a, t⟩ : Cm)]), ⟨by dsimp only; omega, by simp; omega, s5⟩, by dsimp only; omega, ?_⟩
              (refine wk_ok ?_ ?_ ?_ ?_ <;> simp [cmC, leL, leH, idsL, idsA, idsR, inH, hget, sameRow, upA, hvA, dsts, dstO, setA_0, setA_1, setA_8, List.append, List.cons_append, List.nil_append])
            · have heq : c.a = t := by simpa using hn
              rw [if_neg (by simpa using heq)] at s5
              (try simp only [hn, w1, push_cast, simprocAttr])
              refine at_fin ⟨(i + 1, o), ⟨by dsimp only; omega, by dsimp only; omega, s5⟩, by dsimp only; omega, ?_⟩
              (refine wk_ok ?_ ?_ ?_ ?_ <;> simp [cmC, leL, leH, idsL, idsA, idsR, inH, hget, sameRow, upA, hvA, dsts, dstO, setA_0, setA_1, setA_8, List.append, List.cons_append, List.nil_append])
      · have hm : c.p ∈ (l.take i).map (·.p) := by simpa [firstB] using hf
        (try simp only [hf, w1, push_cast, simprocAttr])
        refine at_fin ⟨(i + 1, o), ⟨by dsimp only; omega, by dsimp only; omega, s1 hm⟩, by dsimp only; omega, ?_⟩
        (refine wk_ok ?_ ?_ ?_ ?_ <;> simp [leL, leH, idsL, idsA, idsR, inH, hget, sameRow, upA, hvA, dsts, dstO, setA_0, setA_1, setA_8, List.append, List.cons_append, List.nil_append])
    · have i0 : ltI (i : Int) l.length = false := ltI_f (by omega)
      rw [List.drop_of_length_le (by omega)] at q3
      simp only [outA, Option.map_some, show fltC [] = [] from rfl, List.append_nil] at q3
      have hcan : lCanon l = some (cSort o) := by rw [hO, q3]; rfl
      have hS := l14Sort_pc o (by omega)
      refine go_on_n 12 ?_
      (try simp only [i0, run_0, push_cast, simprocAttr])
      refine at_more ?_
      (refine at_frzS [12] (by refine wk_frz ?_ ?_ ?_ ?_ <;> simp [frzS, frzT, hasN, delL, hdel, leF, leHF, frzB, idsL, idsA, idsR, inH, hget, sameRow, viewN, tk]) ?_; simp only [frzS, frzT, hasN, delL, hdel, idsA, idsL, viewN, hget, List.map_cons, List.map_nil, List.all_cons, List.all_nil, List.append_nil, List.drop, List.getElem?_cons_zero, List.getElem?_cons_succ, Bool.not_false, Bool.not_true, Bool.and_true, if_true, if_false, simprocAttr])
      refine go_on ?_
      (try simp only [push_cast, simprocAttr])
      ((try simp only [push_cast, simprocAttr]); refine at_share (by first | rfl | simp [isC]) (by first | rfl | simp only [ren]) (hS) (go_on ?_); (try simp only [push_cast, simprocAttr]))
      refine at_ret ?_; simp only [Tryz.results123, push_cast, simprocAttr]
      simp [canS, vX, hcan]
end Go.Proofs.YthifgndjpjaddaaGreatDoor
/-
  Walks: SiteCanon, SiteShort, twice.
-/
namespace Go.Proofs.YthifgndjpjaddaaGreatDoor
open Go Go.RowKit Go.Proofs
attribute [local irreducible] RWp AW run kPe pe Kt effA gd gu br retR RDp runD kPeD brW gW effD
set_option maxRecDepth 100000
theorem SiteCanon_pc (s : St) (hs : SmS s) : PC Tryz.prog 83 [stA' s] (rX (.o 0 (siteC s).length) [rowC (siteC s)]) := by
  have hL := LogCanon_pc s.log hs.l
  have hV := SiteValid_pc s hs
  unfold stA' stC at hV ⊢
  unfold canD at hL
  refine pc_enter Tryz.func83 rfl rfl fun w0 fb => go_on ?_; (try simp only [Tryz.ntmps83, push_cast, simprocAttr])
  refine at_call ?_
  (try simp only [push_cast, simprocAttr])
  refine rwc_v hV ?_
  (try simp only [push_cast, simprocAttr])
  (refine at_dropS [2] (by refine wk_ok ?_ ?_ ?_ ?_ <;> simp [dropS, dropT, hasN, delL, hdel, leL, leH, idsL, idsA, idsR, inH, hget, sameRow]) ?_; simp only [dropS, dropT, hasN, delL, hdel, idsA, idsL, hget, List.map_cons, List.map_nil, List.all_cons, List.all_nil, List.append_nil, Bool.not_false, Bool.not_true, Bool.and_true, if_true, if_false, simprocAttr])
  refine go_on ?_
  (try simp only [push_cast, simprocAttr])
  refine at_b (fun hb => ?_) (fun hb => ?_)
  · have h : siteV s = false := not_t hb
    (try simp only [hb, push_cast, simprocAttr])
    refine at_ret ?_; simp only [Tryz.results83, push_cast, simprocAttr]
    simp [rX, siteC, h, ixOf]
  · have h : siteV s = true := not_f hb
    have e : siteC s = (lCanon s.log).getD [] := by simp [siteC, h]
    rw [← e] at hL
    (try simp only [hb, push_cast, simprocAttr])
    (refine at_call ?_; (try simp only [push_cast, simprocAttr]); refine rwc_r (hL) (by simp [flatV, flatL]) (flat_c _) (by simp [frB, baseOf]) (go_on ?_); (try simp only [push_cast, simprocAttr]))
    refine at_ret ?_; simp only [Tryz.results83, push_cast, simprocAttr]
    simp [rX, ixOf]
theorem SiteCanon_d (s : St) (hs : SmS s) : PC Tryz.prog 83 [stA' s] (vX (cmA (siteC s))) := by
  have := (SiteCanon_pc s hs).frzX
  simpa [viewN, hpOf, hget, isC, tk] using this
theorem specSiteCanon_pc (s : St) (hs : SmS s) : PC Tryz.prog 97 [stA' s] (vX (cmA (siteC s))) := by
  have hL := specLogCanon_pc s.log hs.l
  have hV := specSiteValid_pc s hs
  unfold stA' stC at hV ⊢
  unfold canS at hL
  refine pc_enter Tryz.func97 rfl rfl fun w0 fb => go_on ?_; (try simp only [Tryz.ntmps97, push_cast, simprocAttr])
  (refine at_call ?_; (try simp only [push_cast, simprocAttr]); refine rwc_v (hV) (go_on ?_); (try simp only [push_cast, simprocAttr]))
  refine at_b (fun hb => ?_) (fun hb => ?_)
  · have h : siteV s = false := not_t hb
    (try simp only [hb, push_cast, simprocAttr])
    refine at_retf ?_; simp only [Tryz.results97, push_cast, simprocAttr]
    simp [vX, siteC, h, ixOf]
  · have h : siteV s = true := not_f hb
    have e : siteC s = (lCanon s.log).getD [] := by simp [siteC, h]
    rw [← e] at hL
    (try simp only [hb, push_cast, simprocAttr])
    ((try simp only [push_cast, simprocAttr]); refine at_share2 (by simp [isC2, isC]) (by first | rfl | simp [ren]) (hL) (go_on ?_); (try simp only [push_cast, simprocAttr]))
    refine at_ret ?_; simp only [Tryz.results97, push_cast, simprocAttr]
    simp [vX, ixOf]
end Go.Proofs.YthifgndjpjaddaaGreatDoor
/-
  Walks: canonical logs are short.
-/
namespace Go.Proofs.YthifgndjpjaddaaGreatDoor
open Go Go.RowKit Go.Proofs
theorem siteC_cv (s : St) : (siteC s).length ≤ 20 ∧ ∀ c ∈ siteC s, CV c := by
  cases h : siteV s with
  | true =>
    obtain ⟨t, L, hs⟩ := (siteV_iff s).1 h
    rw [hs.C]
    exact ⟨hs.l20, hs.co.cv⟩
  | false =>
    have : siteC s = [] := by simp [siteC, h]
    rw [this]
    exact ⟨by simp, by simp⟩
theorem siteC_sm (s : St) : SmL (siteC s) := by
  obtain ⟨h1, h2⟩ := siteC_cv s
  refine ⟨by omega, fun c hc => ?_⟩
  have h := h2 c hc
  have := (pV_len h.p h.r).2
  omega
end Go.Proofs.YthifgndjpjaddaaGreatDoor
/-
  Walks: conflicts of commands.
-/
namespace Go.Proofs.YthifgndjpjaddaaGreatDoor
open Go Go.RowKit Go.Proofs
/-- A command as a value. -/
def vC (c : Cm) : Value := .agg #[sV c.p, .int .i64 c.a.k, .int .i64 c.a.v, .int .i64 c.b.k, .int .i64 c.b.v]
theorem C.vC {lv : Nat → Prop} {w : World} {u : Value} {c : Cm} (h : C lv 0 w (.v (Go.Proofs.YthifgndjpjaddaaGreatDoor.vC c)) u) : C lv 0 w (cmdA c) u := by
  cases h
  refine .agg _ rfl fun j a ha => ?_
  rcases j with _ | _ | _ | _ | _ | j
  · cases ha; exact .v
  · cases ha; exact .v
  · cases ha; exact .v
  · cases ha; exact .v
  · cases ha; exact .v
  · simp [cmC] at ha
theorem isPrefix_take (a b : Str) : (decide (b.length ≤ a.length) && decide (a.take b.length = b)) = b.isPrefixOf a := by
  rw [Bool.eq_iff_iff, Bool.and_eq_true, decide_eq_true_eq, decide_eq_true_eq, List.isPrefixOf_iff_prefix, List.prefix_iff_eq_take]
  constructor
  · rintro ⟨_, h⟩; exact h.symm
  · intro h
    refine ⟨?_, h.symm⟩
    rw [h, List.length_take]; omega
theorem cm_eq (x y : Cm) : (decide (x.p = y.p) && ((eqI x.a.k y.a.k && eqI x.a.v y.a.v) && (eqI x.b.k y.b.k && eqI x.b.v y.b.v))) = decide (x = y) := by
  rw [Bool.eq_iff_iff]; simp [eqI_d, cm_ext, ct_ext]
attribute [local irreducible] RWp AW run kPe pe Kt effA gd gu br retR RDp runD kPeD brW gW effD
set_option maxRecDepth 100000
theorem HasPrefix0_pc (a b : Str) (ha : a.length < 4294967290) (hb : b.length < 4294967290) : PC Tryz.prog 200 [sA a, sA b] (vB (b.isPrefixOf a)) := by
  rw [← isPrefix_take]
  refine pc_enter Tryz.func200 rfl rfl fun w0 fb => go_on ?_; (try simp only [Tryz.ntmps200, push_cast, simprocAttr])
  by_cases h : b.length ≤ a.length
  · have i0 : leI (b.length : Int) a.length = true := leI_t (by omega)
    have i1 : (b.length : Int) ≤ a.length := by omega
    (try simp only [i0, i1, push_cast, simprocAttr])
    refine at_ret ?_; simp only [Tryz.results200, push_cast, simprocAttr]
    simp [vX, h]
  · have i0 : leI (b.length : Int) a.length = false := leI_f (by omega)
    (try simp only [i0, push_cast, simprocAttr])
    refine at_ret ?_; simp only [Tryz.results200, push_cast, simprocAttr]
    simp [vX, h]
theorem HasPrefix_pc (a b : Str) (ha : a.length < 4294967290) (hb : b.length < 4294967290) : PC Tryz.prog 195 [sA a, sA b] (vB (b.isPrefixOf a)) := by
  refine pc_enter Tryz.func195 rfl rfl fun w0 fb => go_on ?_; (try simp only [Tryz.ntmps195, push_cast, simprocAttr])
  (refine at_call ?_; (try simp only [push_cast, simprocAttr]); refine rwc_v (HasPrefix0_pc a b ha hb) (go_on ?_); (try simp only [push_cast, simprocAttr]))
  refine at_ret ?_; simp only [Tryz.results195, push_cast, simprocAttr]
  simp [vX]
theorem under_pc (a s : Str) (ha : a.length < 4294967285) (hs : s.length < 4294967285) : PC Tryz.prog 180 [sA a, sA s] (vB (und a s)) := by
  have hH := HasPrefix_pc s (a ++ [47]) (by omega) (by simp; omega)
  have w5 : a.length + 1 ≤ 9223372036854775807 := by omega
  refine pc_enter Tryz.func180 rfl rfl fun w0 fb => go_on ?_; (try simp only [Tryz.ntmps180, push_cast, simprocAttr])
  refine at_b (fun hb => ?_) (fun hb => ?_)
  · have h : a = [47] := by simpa using hb
    (try simp only [hb, push_cast, simprocAttr])
    refine at_ret ?_; simp only [Tryz.results180, push_cast, simprocAttr]
    by_cases hs : s = [47] <;> simp [vX, und, h, root, hs]
  · have h : ¬ a = [47] := by simpa using hb
    (try simp only [hb, w5, push_cast, simprocAttr])
    (refine at_call ?_; (try simp only [push_cast, simprocAttr]); refine rwc_v (hH) (go_on ?_); (try simp only [push_cast, simprocAttr]))
    refine at_ret ?_; simp only [Tryz.results180, push_cast, simprocAttr]
    simp [vX, und, h, root]
theorem stops_pc (c d : Cm) (hc : c.p.length < 4294967285) (hd : d.p.length < 4294967285) : PC Tryz.prog 158 [cmdA c, cmdA d] (vB (stops c d)) := by
  have hU := under_pc c.p d.p hc hd
  have e : stops c d = (und c.p d.p && !eqI c.b.k 1 && !eqI d.b.k 0) := by unfold stops; rw [eqI_d, eqI_d]; simp
  unfold cmdA cmC
  refine pc_enter Tryz.func158 rfl rfl fun w0 fb => go_on ?_; (try simp only [Tryz.ntmps158, push_cast, simprocAttr])
  repeat' first | (refine at_b (fun hb => ?_) (fun hb => ?_) <;> simp only [hb, push_cast, simprocAttr]) | (refine at_ret ?_; simp only [Tryz.results158, push_cast, simprocAttr]) | (refine at_call ?_; (try simp only [push_cast, simprocAttr]); refine rwc_v (by first | exact hU) (go_on ?_); simp only [push_cast, simprocAttr]) | (show RWp _ _ _ _ _; simp only [push_cast, simprocAttr])
  all_goals simp [vX, e, *]
theorem clashes_pc (c d : Cm) (hc : c.p.length < 4294967285) (hd : d.p.length < 4294967285) : PC Tryz.prog 139 [cmdA c, cmdA d] (vB (clash c d)) := by
  have h1 := stops_pc c d hc (by omega)
  have h2 := stops_pc d c hd (by omega)
  have e : clash c d = ((decide (c.p = d.p) && !decide (c.b = d.b)) || stops c d || stops d c) := by unfold clash; simp
  unfold cmdA cmC at *
  refine pc_enter Tryz.func139 rfl rfl fun w0 fb => go_on ?_; (try simp only [Tryz.ntmps139, push_cast, simprocAttr])
  repeat' first | (refine at_b (fun hb => ?_) (fun hb => ?_) <;> simp only [ctg, cth, ct_eq, hb, push_cast, simprocAttr]) | (refine at_ret ?_; simp only [ctg, cth, ct_eq, Tryz.results139, push_cast, simprocAttr]) | (refine at_call ?_; (try simp only [push_cast, simprocAttr]); refine rwc_v (by first | exact h1 | exact h2) (go_on ?_); simp only [ctg, cth, ct_eq, push_cast, simprocAttr]) | (show RWp _ _ _ _ _; simp only [ctg, cth, ct_eq, push_cast, simprocAttr])
  all_goals simp [vX, e, *]
theorem IndexFuncV_pc (l : List Cm) (hl : l.length < 4294967281) (g : FuncId) (fs cs : Array Value) (p : Cm → Bool) (hp : ∀ n ∈ l, PC Tryz.prog g (fs.toList.map .v ++ ([cmdA n] ++ cs.toList.map .v)) (vB (p n))) :
    PC Tryz.prog 131 [cmA l, .v (.func (.func g) fs cs)] (vI (idxF p 0 l)) := by
  refine pc_enter Tryz.func131 rfl rfl fun w0 fb => go_on ?_; (try simp only [Tryz.ntmps131, push_cast, simprocAttr])
  refine at_loop (X := Nat) (fun k => [(8, iA k)]) (fun _ => []) (fun k => k ≤ l.length ∧ idxF p 0 l = idxF p k (l.drop k)) (fun k => l.length - k) 0 ⟨Nat.zero_le _, rfl⟩ ?_ ?_
  · (refine wk_ok ?_ ?_ ?_ ?_ <;> simp [leL, leH, idsL, idsA, idsR, inH, hget, sameRow, upA, hvA, dsts, dstO, setA_0, setA_1, setA_8, List.append, List.cons_append, List.nil_append])
  · rintro k ⟨h1, h2⟩
    simp only [upA, hvA, dsts, dstO, setA_0, setA_1, setA_8, List.append, List.cons_append, List.nil_append]
    refine go_on ?_
    (try simp only [push_cast, simprocAttr])
    refine at_b (fun hg => ?_) (fun hg => ?_)
    · have hlt := lt_tt hg
      obtain ⟨x, hk⟩ := get_of_lt hlt
      have i1 := ix_n hk
      have i2 := map_get cmC hk
      simp only [cmC] at i2
      rw [drop_of_get hk] at h2
      have hx := hp x (mem_of_get hk)
      unfold cmdA cmC at hx
      have hv : ∀ l : List Value, (l.map AV.v).map (viewN 3 []) = l.map AV.v := fun l => by rw [List.map_map]; exact List.map_congr_left fun y _ => by simp [viewN, isC]
      (try simp only [hg, i1, i2, push_cast, simprocAttr])
      have hm : (fs.toList.map AV.v ++ AV.agg [sA x.p, iA x.a.k, iA x.a.v, iA x.b.k, iA x.b.v] :: cs.toList.map AV.v).map (viewN 3 []) = fs.toList.map AV.v ++ ([AV.agg [sA x.p, iA x.a.k, iA x.a.v, iA x.b.k, iA x.b.v]] ++ cs.toList.map AV.v) := by
        rw [List.map_append, List.map_cons, hv, hv]; rfl
      refine at_call ?_
      refine rwc_v (x := .bool (p x)) (Eq.mpr (congrArg (fun a => PC Tryz.prog g a (vB (p x))) hm) hx) (go_on ?_)
      cases hpx : p x with
      | true =>
        (try simp only [hpx, push_cast, simprocAttr])
        refine at_ret ?_; simp only [Tryz.results131, push_cast, simprocAttr]
        simp [vX, h2, idxF, hpx]
      | false =>
        have w1 := wr ((k : Int) + 1) (by omega)
        (try simp only [hpx, w1, push_cast, simprocAttr])
        refine at_fin ⟨k + 1, ⟨by omega, ?_⟩, by omega, ?_⟩
        · rw [h2]; simp [idxF, hpx]
        · (refine wk_ok ?_ ?_ ?_ ?_ <;> simp [leL, leH, idsL, idsA, idsR, inH, hget, sameRow, upA, hvA, dsts, dstO, setA_0, setA_1, setA_8, List.append, List.cons_append, List.nil_append])
    · have h3 := lt_ff hg
      (try simp only [hg, push_cast, simprocAttr])
      refine at_ret ?_; simp only [Tryz.results131, push_cast, simprocAttr]
      rw [List.drop_of_length_le h3] at h2
      simp [vX, h2, idxF]
end Go.Proofs.YthifgndjpjaddaaGreatDoor
/-
  Walks: slices of commands and nodes: Index, Contains, Equal, IsSortedFunc.
-/
namespace Go.Proofs.YthifgndjpjaddaaGreatDoor
open Go Go.RowKit Go.Proofs
attribute [local irreducible] RWp AW run kPe pe Kt effA gd gu br retR RDp runD kPeD brW gW effD
set_option maxRecDepth 100000
theorem IndexC_pc (l : List Cm) (hl : l.length < 4294967281) (c : Cm) : PC Tryz.prog 157 [cmA l, cmdA c] (vI (idxF (fun d => decide (c = d)) 0 l)) := by
  unfold cmdA cmC
  refine pc_enter Tryz.func157 rfl rfl fun w0 fb => go_on ?_; (try simp only [Tryz.ntmps157, push_cast, simprocAttr])
  refine at_loop (X := Nat) (fun k => [(8, iA k)]) (fun _ => [(3, ⟨68, 5, [cmC c], true⟩)]) (fun k => k ≤ l.length ∧ idxF (fun d => decide (c = d)) 0 l = idxF (fun d => decide (c = d)) k (l.drop k)) (fun k => l.length - k) 0 ⟨Nat.zero_le _, rfl⟩ ?_ ?_
  · (refine wk_ok ?_ ?_ ?_ ?_ <;> simp [cmC, leL, leH, idsL, idsA, idsR, inH, hget, sameRow, upA, hvA, dsts, dstO, setA_0, setA_1, setA_8, List.append, List.cons_append, List.nil_append])
  · rintro k ⟨h1, h2⟩
    simp only [upA, hvA, dsts, dstO, setA_0, setA_1, setA_8, List.append, List.cons_append, List.nil_append]
    refine go_on ?_
    (try simp only [push_cast, simprocAttr])
    refine at_b (fun hg => ?_) (fun hg => ?_)
    · have hlt := lt_tt hg
      obtain ⟨x, hk⟩ := get_of_lt hlt
      have i1 := ix_n hk
      have i2 := map_get cmC hk
      simp only [cmC] at i2
      rw [drop_of_get hk] at h2
      have e := cm_eq c x
      (try simp only [hg, push_cast, simprocAttr])
      refine at_draw rfl (by kernel_rfl) ?_
      (try simp only [i1, i2, ctg, cth, cmg, cmh, push_cast, simprocAttr])
      refine at_done (by kernel_rfl) (by kernel_rfl) (go_on ?_)
      (try simp only [e, push_cast, simprocAttr])
      refine at_b (fun hn => ?_) (fun hn => ?_)
      · (try simp only [hn, push_cast, simprocAttr])
        refine at_ret ?_; simp only [Tryz.results157, push_cast, simprocAttr]
        simp [vX, h2, idxF, hn]
      · have w1 := wr ((k : Int) + 1) (by omega)
        (try simp only [hn, w1, push_cast, simprocAttr])
        refine at_fin ⟨k + 1, ⟨by omega, ?_⟩, by omega, ?_⟩
        · rw [h2]; simp [idxF, hn]
        · (refine wk_ok ?_ ?_ ?_ ?_ <;> simp [cmC, leL, leH, idsL, idsA, idsR, inH, hget, sameRow, upA, hvA, dsts, dstO, setA_0, setA_1, setA_8, List.append, List.cons_append, List.nil_append])
    · have h3 := lt_ff hg
      (try simp only [hg, push_cast, simprocAttr])
      refine at_ret ?_; simp only [Tryz.results157, push_cast, simprocAttr]
      rw [List.drop_of_length_le h3] at h2
      simp [vX, h2, idxF]
theorem ContainsC_pc (l : List Cm) (hl : l.length < 4294967281) (c : Cm) : PC Tryz.prog 137 [cmA l, cmdA c] (vB (decide (c ∈ l))) := by
  have hI := IndexC_pc l hl c
  have e : leI 0 (idxF (fun d => decide (c = d)) 0 l) = decide (c ∈ l) := by
    rw [idxF_any, Bool.eq_iff_iff, List.any_eq_true, decide_eq_true_eq]
    exact ⟨fun ⟨x, h1, h2⟩ => by simp at h2; rw [h2]; exact h1, fun h => ⟨c, h, by simp⟩⟩
  unfold cmdA cmC at *
  refine pc_enter Tryz.func137 rfl rfl fun w0 fb => go_on ?_; (try simp only [Tryz.ntmps137, push_cast, simprocAttr])
  (refine at_call ?_; (try simp only [push_cast, simprocAttr]); refine rwc_v (hI) (go_on ?_); (try simp only [push_cast, simprocAttr]))
  refine at_ret ?_; simp only [Tryz.results137, push_cast, simprocAttr]
  simp [vX, e]
theorem EqualN_pc (a b : List Nd) (hl : a.length < 4294967281) : PC Tryz.prog 107 [ndA a, ndA b] (vB (decide (a = b))) := by
  refine pc_enter Tryz.func107 rfl rfl fun w0 fb => go_on ?_; (try simp only [Tryz.ntmps107, push_cast, simprocAttr])
  refine at_b (fun hb => ?_) (fun hb => ?_)
  · have h1 := of_eqI_f (not_t hb)
    have h2 : a ≠ b := by rintro rfl; exact h1 rfl
    (try simp only [hb, push_cast, simprocAttr])
    refine at_ret ?_; simp only [Tryz.results107, push_cast, simprocAttr]
    simp [vX, h2]
  · have h1 : a.length = b.length := by have := of_eqI_t (not_f hb); omega
    (try simp only [hb, push_cast, simprocAttr])
    refine at_loop (X := Nat) (fun k => [(13, iA k)]) (fun _ => []) (fun k => k ≤ a.length ∧ decide (a = b) = decide (a.drop k = b.drop k)) (fun k => a.length - k) 0 ⟨Nat.zero_le _, rfl⟩ ?_ ?_
    · (refine wk_ok ?_ ?_ ?_ ?_ <;> simp [leL, leH, idsL, idsA, idsR, inH, hget, sameRow, upA, hvA, dsts, dstO, setA_0, setA_1, setA_8, List.append, List.cons_append, List.nil_append])
    · rintro k ⟨q1, q2⟩
      simp only [upA, hvA, dsts, dstO, setA_0, setA_1, setA_8, List.append, List.cons_append, List.nil_append]
      refine go_on ?_
      (try simp only [push_cast, simprocAttr])
      refine at_b (fun hg => ?_) (fun hg => ?_)
      · have hlt := lt_tt hg
        obtain ⟨x, hx⟩ := get_of_lt hlt
        obtain ⟨y, hy⟩ := get_of_lt (l := b) (k := k) (by omega)
        have i1 := ix_n hx
        have i3 := ix_n hy
        have i2 := map_get ndC hx
        have i4 := map_get ndC hy
        simp only [ndC] at i2 i4
        rw [drop_of_get hx, drop_of_get hy] at q2
        have w2 := wr ((k : Int) + 1) (by omega)
        (try simp only [hg, push_cast, simprocAttr])
        refine at_draw rfl (by kernel_rfl) ?_
        (try simp only [i1, i2, i3, i4, ctg, cth, ndg, ndh, push_cast, simprocAttr])
        refine at_done (by kernel_rfl) (by kernel_rfl) (go_on ?_)
        have e : (decide (x.p = y.p) && (eqI x.c.k y.c.k && eqI x.c.v y.c.v)) = decide (x = y) := by
          rw [Bool.eq_iff_iff]; simp [eqI_d, nd_ext, ct_ext]
        (try simp only [e, push_cast, simprocAttr])
        refine at_b (fun hn => ?_) (fun hn => ?_)
        · have hxy : x ≠ y := by simpa using hn
          (try simp only [hn, push_cast, simprocAttr])
          refine at_ret ?_; simp only [Tryz.results107, push_cast, simprocAttr]
          simp [vX, q2, hxy]
        · have hxy : x = y := by simpa using hn
          (try simp only [hn, w2, push_cast, simprocAttr])
          refine at_fin ⟨k + 1, ⟨by omega, ?_⟩, by omega, ?_⟩
          · rw [q2]; simp [hxy]
          · (refine wk_ok ?_ ?_ ?_ ?_ <;> simp [leL, leH, idsL, idsA, idsR, inH, hget, sameRow, upA, hvA, dsts, dstO, setA_0, setA_1, setA_8, List.append, List.cons_append, List.nil_append])
      · have h3 := lt_ff hg
        (try simp only [hg, push_cast, simprocAttr])
        refine at_ret ?_; simp only [Tryz.results107, push_cast, simprocAttr]
        rw [List.drop_of_length_le h3, List.drop_of_length_le (by omega)] at q2
        simp [vX, q2]
theorem cOrd_step {l : List Cm} {k : Nat} {x y : Cm} (hx : l[k + 1]? = some x) (hy : l[k]? = some y) : cOrd (l.drop k) = (!cLt x y && cOrd (l.drop (k + 1))) := by
  rw [drop_of_get hy, drop_of_get hx]
  simp only [cOrd]
theorem cOrd_pre : ∀ (l : List Cm) (k : Nat), cOrd (l.drop k) = false → cOrd l = false
  | _, 0, h => h
  | [], k + 1, h => by simp [cOrd] at h
  | a :: l, k + 1, h => by
    have := cOrd_pre l k (by simpa using h)
    cases h2 : cOrd (a :: l) with
    | false => rfl
    | true => rw [cOrd_cons h2] at this; cases this
end Go.Proofs.YthifgndjpjaddaaGreatDoor
/-
  Walks: the canonical order as a comparing function; IsSortedFunc, ContainsFunc, disputed, slices.Equal at commands.
-/
namespace Go.Proofs.YthifgndjpjaddaaGreatDoor
open Go Go.RowKit Go.Proofs
attribute [local irreducible] RWp AW run kPe pe Kt effA gd gu br retR RDp runD kPeD brW gW effD
set_option maxRecDepth 100000
theorem isNaN_pc (a : Str) : PC Tryz.prog 169 [sA a] (vB false) := by
  refine pc_enter Tryz.func169 rfl rfl fun w0 fb => go_on ?_; (try simp only [Tryz.ntmps169, push_cast, simprocAttr])
  repeat' first | (refine at_b (fun hb => ?_) (fun hb => ?_) <;> simp only [hb, push_cast, simprocAttr]) | (refine at_ret ?_; simp only [Tryz.results169, push_cast, simprocAttr]) | (show RWp _ _ _ _ _; simp only [push_cast, simprocAttr])
  all_goals simp [vX]
theorem Compare_pc (a b : Str) : PC Tryz.prog 143 [sA a, sA b] (vI (cmpS a b)) := by
  refine pc_enter Tryz.func143 rfl rfl fun w0 fb => go_on ?_; (try simp only [Tryz.ntmps143, push_cast, simprocAttr])
  (refine at_call ?_; (try simp only [push_cast, simprocAttr]); refine rwc_v (isNaN_pc a) (go_on ?_); (try simp only [push_cast, simprocAttr]))
  (refine at_call ?_; (try simp only [push_cast, simprocAttr]); refine rwc_v (isNaN_pc b) (go_on ?_); (try simp only [push_cast, simprocAttr]))
  cases h1 : slt a b with
  | true =>
    (try simp only [h1, push_cast, simprocAttr])
    refine at_ret ?_; simp only [Tryz.results143, push_cast, simprocAttr]
    simp [vX, cmpS, h1]
  | false =>
    (try simp only [h1, push_cast, simprocAttr])
    have e := gtr_slt a b
    have e' : decide (a = b) = !slt b a := by
      rw [← e]; show decide (a = b) = !!(slt a b || a == b); rw [h1]; by_cases h : a = b <;> simp [h]
    cases h2 : slt b a with
    | true =>
      rw [h2] at e'
      (try simp only [e', Bool.not_true, Bool.not_false, push_cast, simprocAttr])
      refine at_ret ?_; simp only [Tryz.results143, push_cast, simprocAttr]
      simp [vX, cmpS, h1, h2]
    | false =>
      rw [h2] at e'
      (try simp only [e', Bool.not_true, Bool.not_false, push_cast, simprocAttr])
      refine at_ret ?_; simp only [Tryz.results143, push_cast, simprocAttr]
      simp [vX, cmpS, h1, h2]
theorem ends_pc (c : Cm) : PC Tryz.prog 142 [cmdA c] (vB (cEnds c)) := by
  have e : cEnds c = (eqI c.b.k 0 || eqI c.a.k 1) := by unfold cEnds; rw [eqI_d, eqI_d]
  unfold cmdA cmC
  refine pc_enter Tryz.func142 rfl rfl fun w0 fb => go_on ?_; (try simp only [Tryz.ntmps142, push_cast, simprocAttr])
  repeat' first | (refine at_b (fun hb => ?_) (fun hb => ?_) <;> simp only [hb, push_cast, simprocAttr]) | (refine at_ret ?_; simp only [Tryz.results142, push_cast, simprocAttr]) | (show RWp _ _ _ _ _; simp only [push_cast, simprocAttr])
  all_goals simp [vX, e, *]
theorem canonOrder_pc (c d : Cm) : PC Tryz.prog 113 [cmdA c, cmdA d] (vI (cfC c d)) := by
  have h1 := ends_pc c
  have h2 := ends_pc d
  unfold cmdA cmC at *
  refine pc_enter Tryz.func113 rfl rfl fun w0 fb => go_on ?_; (try simp only [Tryz.ntmps113, push_cast, simprocAttr])
  cases e1 : cEnds c <;> cases e2 : cEnds d <;> rw [e1] at h1 <;> rw [e2] at h2
  · (refine at_call ?_; (try simp only [push_cast, simprocAttr]); refine rwc_v (h1) (go_on ?_); (try simp only [push_cast, simprocAttr]))
    (refine at_call ?_; (try simp only [push_cast, simprocAttr]); refine rwc_v (h1) (go_on ?_); (try simp only [push_cast, simprocAttr]))
    (refine at_call ?_; (try simp only [push_cast, simprocAttr]); refine rwc_v (h2) (go_on ?_); (try simp only [push_cast, simprocAttr]))
    (refine at_call ?_; (try simp only [push_cast, simprocAttr]); refine rwc_v (Compare_pc c.p d.p) (go_on ?_); (try simp only [push_cast, simprocAttr]))
    refine at_ret ?_; simp only [Tryz.results113, push_cast, simprocAttr]
    simp [vX, cfC, e1, e2]
  · (refine at_call ?_; (try simp only [push_cast, simprocAttr]); refine rwc_v (h1) (go_on ?_); (try simp only [push_cast, simprocAttr]))
    (refine at_call ?_; (try simp only [push_cast, simprocAttr]); refine rwc_v (h1) (go_on ?_); (try simp only [push_cast, simprocAttr]))
    (refine at_call ?_; (try simp only [push_cast, simprocAttr]); refine rwc_v (h2) (go_on ?_); (try simp only [push_cast, simprocAttr]))
    refine at_ret ?_; simp only [Tryz.results113, push_cast, simprocAttr]
    simp [vX, cfC, e1, e2]
  · (refine at_call ?_; (try simp only [push_cast, simprocAttr]); refine rwc_v (h1) (go_on ?_); (try simp only [push_cast, simprocAttr]))
    (refine at_call ?_; (try simp only [push_cast, simprocAttr]); refine rwc_v (h2) (go_on ?_); (try simp only [push_cast, simprocAttr]))
    (refine at_call ?_; (try simp only [push_cast, simprocAttr]); refine rwc_v (h1) (go_on ?_); (try simp only [push_cast, simprocAttr]))
    refine at_ret ?_; simp only [Tryz.results113, push_cast, simprocAttr]
    simp [vX, cfC, e1, e2]
  · (refine at_call ?_; (try simp only [push_cast, simprocAttr]); refine rwc_v (h1) (go_on ?_); (try simp only [push_cast, simprocAttr]))
    (refine at_call ?_; (try simp only [push_cast, simprocAttr]); refine rwc_v (h2) (go_on ?_); (try simp only [push_cast, simprocAttr]))
    (refine at_call ?_; (try simp only [push_cast, simprocAttr]); refine rwc_v (Compare_pc d.p c.p) (go_on ?_); (try simp only [push_cast, simprocAttr]))
    refine at_ret ?_; simp only [Tryz.results113, push_cast, simprocAttr]
    simp [vX, cfC, e1, e2]
theorem ContainsFuncV_pc (l : List Cm) (hl : l.length < 4294967281) (g : FuncId) (fs cs : Array Value) (p : Cm → Bool) (hp : ∀ n ∈ l, PC Tryz.prog g (fs.toList.map .v ++ ([cmdA n] ++ cs.toList.map .v)) (vB (p n))) :
    PC Tryz.prog 138 [cmA l, .v (.func (.func g) fs cs)] (vB (l.any p)) := by
  have hI := IndexFuncV_pc l hl g fs cs p hp
  have e : leI 0 (idxF p 0 l) = l.any p := idxF_any _ _
  refine pc_enter Tryz.func138 rfl rfl fun w0 fb => go_on ?_; (try simp only [Tryz.ntmps138, push_cast, simprocAttr])
  (refine at_call ?_; (try simp only [push_cast, simprocAttr]); refine rwc_v (hI) (go_on ?_); (try simp only [push_cast, simprocAttr]))
  refine at_ret ?_; simp only [Tryz.results138, push_cast, simprocAttr]
  simp [vX, e]
theorem disputed_pc (c : Cm) (l : List Cm) (hc : c.p.length < 4294967285) (hl : SmL l) : PC Tryz.prog 111 [cmdA c, cmA l] (vB (disp l c)) := by
  have hD := ContainsFuncV_pc l (by have := hl.n; omega) 139 #[vC c] #[] (clash c) (fun n hn => by
    have := hl.p n hn
    refine PC.args (clashes_pc c n hc (by omega)) rfl fun j x y hx hy lv w u hu => ?_
    rcases j with _ | _ | j
    · cases hx; cases hy; exact C.vC hu
    · cases hx; cases hy; exact hu
    · simp at hx)
  unfold cmdA cmC
  refine pc_enter Tryz.func111 rfl rfl fun w0 fb => go_on ?_; (try simp only [Tryz.ntmps111, push_cast, simprocAttr])
  (refine at_call ?_; (try simp only [push_cast, simprocAttr]); refine rwc_v (hD) (go_on ?_); (try simp only [push_cast, simprocAttr]))
  refine at_ret ?_; simp only [Tryz.results111, push_cast, simprocAttr]
  simp [vX, disp]
theorem IsSortedC_pc (l : List Cm) (hl : l.length < 4294967281) : PC Tryz.prog 156 [cmA l, .fn 113 []] (vB (cOrd l)) := by
  have w0' : IntKind.i64.wrap ((l.length : Int) - 1) = (l.length : Int) - 1 := wr _ (by omega)
  refine pc_enter Tryz.func156 rfl rfl fun w0 fb => go_on ?_; (try simp only [Tryz.ntmps156, push_cast, simprocAttr])
  (try simp only [w0', push_cast, simprocAttr])
  refine at_loop (X := Nat) (fun k => [(5, iA ((k : Int) - 1))]) (fun _ => []) (fun k => k ≤ l.length ∧ (k = 0 → l = []) ∧ cOrd (l.drop (k - 1)) = true) (fun k => k) l.length ⟨Nat.le_refl _, fun h => List.eq_nil_of_length_eq_zero h, ?_⟩ ?_ ?_
  · rcases Nat.eq_zero_or_pos l.length with h | h
    · rw [List.eq_nil_of_length_eq_zero h]; rfl
    · obtain ⟨x, hx⟩ := get_of_lt (l := l) (k := l.length - 1) (by omega)
      rw [drop_of_get hx, List.drop_of_length_le (by omega)]
      rfl
  · (refine wk_ok ?_ ?_ ?_ ?_ <;> simp [leL, leH, idsL, idsA, idsR, inH, hget, sameRow, upA, hvA, dsts, dstO, setA_0, setA_1, setA_8, List.append, List.cons_append, List.nil_append])
  · rintro k ⟨q1, q2, q3⟩
    simp only [upA, hvA, dsts, dstO, setA_0, setA_1, setA_8, List.append, List.cons_append, List.nil_append]
    refine go_on ?_
    (try simp only [push_cast, simprocAttr])
    by_cases hk : 2 ≤ k
    · obtain ⟨j, rfl⟩ : ∃ j, k = j + 2 := ⟨k - 2, by omega⟩
      obtain ⟨x, hx⟩ := get_of_lt (l := l) (k := j + 1) (by omega)
      obtain ⟨y, hy⟩ := get_of_lt (l := l) (k := j) (by omega)
      have e1 : (((j + 2 : Nat) : Int) - 1) = ((j + 1 : Nat) : Int) := by omega
      have e2 : (((j + 1 : Nat) : Int) - 1) = (j : Int) := by omega
      have w1 : IntKind.i64.wrap (j : Int) = (j : Int) := wr _ (by omega)
      have i0 : ltI 0 ((j + 1 : Nat) : Int) = true := ltI_t (by omega)
      have i1 := ix_n hx
      have i3 := ix_n hy
      have i2 := map_get cmC hx
      have i4 := map_get cmC hy
      have hC := canonOrder_pc x y
      have hs := cOrd_step hx hy
      rw [show j + 2 - 1 = j + 1 from rfl] at q3
      rw [q3, Bool.and_true, ← ltOf_cf] at hs
      obtain ⟨v, hv⟩ : ∃ v, v = ((j + 1 : Nat) : Int) := ⟨_, rfl⟩
      unfold ltOf at hs
      unfold cmdA at hC
      simp only [cmC] at i2 i4 hC
      rw [e1]
      rw [← hv] at i0 i1 e2 ⊢
      (try simp only [i0, push_cast, simprocAttr])
      refine at_draw rfl (by kernel_rfl) ?_
      (try simp only [i1, i2, e2, w1, i3, i4, push_cast, simprocAttr])
      refine at_callD (by simp [clB, idsL, idsA, hget]) ?_
      (try simp only [push_cast, simprocAttr])
      refine rcd_v hC ?_
      (try simp only [push_cast, simprocAttr])
      refine at_done (by kernel_rfl) (by kernel_rfl) (go_on ?_)
      (try simp only [push_cast, simprocAttr])
      have hl2 : ltI (cfC x y) 0 = decide (cfC x y < 0) := by unfold ltI; rfl
      rw [← hl2] at hs
      refine at_b (fun hn => ?_) (fun hn => ?_)
      · rw [hn] at hs
        have := cOrd_pre l j hs
        (try simp only [hn, push_cast, simprocAttr])
        refine at_ret ?_; simp only [Tryz.results156, push_cast, simprocAttr]
        simp [vX, this]
      · have hn' : ltI (cfC x y) 0 = false := by simpa using hn
        rw [hn'] at hs
        (try simp only [hn', e2, w1, push_cast, simprocAttr])
        refine at_fin ⟨j + 1, ⟨by omega, fun h => by omega, by simpa using hs⟩, by omega, ?_⟩
        (refine wk_ok ?_ ?_ ?_ ?_ <;> simp [e2, show ((j + 1 : Nat) : Int) - 1 = (j : Int) by omega, leL, leH, idsL, idsA, idsR, inH, hget, sameRow, upA, hvA, dsts, dstO, setA_0, setA_1, setA_8, List.append, List.cons_append, List.nil_append])
    · have i0 : ltI 0 ((k : Int) - 1) = false := ltI_f (by omega)
      (try simp only [i0, push_cast, simprocAttr])
      refine at_ret ?_; simp only [Tryz.results156, push_cast, simprocAttr]
      have : k - 1 = 0 := by omega
      rw [this] at q3
      simpa [vX] using q3
end Go.Proofs.YthifgndjpjaddaaGreatDoor
/-
  Walks: impl.oneEach (a set of paths in a map of the call's own).
-/
namespace Go.Proofs.YthifgndjpjaddaaGreatDoor
open Go Go.RowKit Go.Proofs
open Go.Maps (Keyed)
theorem und9 : Tryz.prog.underlying 9 = some .string := by kernel_rfl
theorem und4 : Tryz.prog.underlying 4 = some .bool := by kernel_rfl
theorem und136 : Tryz.prog.underlying 161 = some (.map 9 4) := by kernel_rfl
theorem keyed9 : Keyed Tryz.prog 9 := Maps.string_keyed und9
theorem zero4 (w : World) : (zeroValue 4).run Tryz.prog w = .ok (.bool false) w := by kernel_rfl
theorem key9 (s : Str) (h : s.length ≤ maxLen) : keyOf Tryz.prog 9 (sV s) = some (.string s) := by
  have := WideMaps.keyOf_string_mk und9 (s := ⟨s.toArray⟩) (by simpa [ByteArray.size] using h)
  simpa using this
theorem plainElem_bool_inv {v : Value} {z : DataW Unit × List MemPlace} (h : plainElem Tryz.prog 4 v = some z) : ∃ x, v = .bool x ∧ z = (.lit (.bool x), []) := by
  unfold plainElem at h
  rw [und4] at h
  cases v <;> simp at h
  exact ⟨_, rfl, h.symm⟩
theorem C.v_inv' {lv : Nat → Prop} {lo : Nat} {w : World} {x u : Value} (h : C lv lo w (.v x) u) : u = x := by
  cases h; rfl
/-- The map's datum says which paths the list has. -/
def Seen (D : DataW Unit) (l : List Cm) : Prop := ∀ s : Str, D.atKey (.string s) (.lit (.bool false)) = .lit (.bool (l.any fun c => decide (c.p = s)))
theorem Seen.nil : Seen (.map []) [] := fun s => rfl
theorem Seen.put {D : DataW Unit} {l : List Cm} (h : Seen D l) (hm : Maps.IsMap D) (c : Cm) : Seen (D.put (.string c.p) (.lit (.bool true))) (l ++ [c]) := fun s => by
  by_cases e : c.p = s
  · subst e
    rw [Maps.atKey_put_same hm (by simp [WideAt.IsKeyLit])]
    simp
  · rw [Maps.atKey_put_other (by simpa using fun h => e h.symm), h s]
    simp [e]
theorem cmA_rd {fb : Nat → Prop} {w : World} {v : Value} {l : List Cm} (h : C fb 0 w (cmA l) v) : ∃ A cap, v = .slice A l.length cap ∧
    ∀ (k : Nat) c, l[k]? = some c → ∃ b off, A = some ⟨b, off, none⟩ ∧ b < w.heap.size ∧ w.cell? ⟨b, off + k * 5, none⟩ = some (sV c.p) ∧ w.cell? ⟨b, off + k * 5 + 1, none⟩ = some (.int .i64 c.a.k) ∧ w.cell? ⟨b, off + k * 5 + 2, none⟩ = some (.int .i64 c.a.v) ∧ w.cell? ⟨b, off + k * 5 + 3, none⟩ = some (.int .i64 c.b.k) ∧ w.cell? ⟨b, off + k * 5 + 4, none⟩ = some (.int .i64 c.b.v) := by
  generalize hs : (cmA l) = x at h
  cases h with
  | any => cases hs
  | v => cases hs
  | ip => cases hs
  | fn => cases hs
  | agg => cases hs
  | tup => cases hs
  | @sl sz es A cap xs u hr hlv hc hm hl hx hg =>
    cases hs
    refine ⟨A, cap, by simp, fun k c hk => ?_⟩
    obtain ⟨b, off, hA, _, hb, hcell⟩ := hr.2 (by have := lt_of_some hk; simp; omega)
    refine ⟨b, off, hA, hb, ?_⟩
    have he : (l.map cmC)[k]? = some (cmC c) := by rw [List.getElem?_map, hk]; rfl
    have hj : ∀ j, j < 5 → w.cell? ⟨b, off + (k * 5 + j), none⟩ = some ((encC c)[j]!) := fun j hj => by
      have g1 := (hx k _ j he (by simp [cmC]; omega)).1
      have g2 := hg k _ j _ he (encC_get c j hj)
      rw [g2.v_inv'] at g1
      exact hcell _ _ g1
    exact ⟨hj 0 (by omega), hj 1 (by omega), hj 2 (by omega), hj 3 (by omega), hj 4 (by omega)⟩
theorem one1_snoc {l : List Cm} {k : Nat} {c : Cm} (hk : l[k]? = some c) (h : one1 (l.take k) = true) (hn : ((l.take k).any fun d => decide (d.p = c.p)) = false) : one1 (l.take (k + 1)) = true := by
  rw [List.take_add_one, hk]
  rw [one1_iff] at *
  simp only [Option.toList, List.map_append, List.map_cons, List.map_nil]
  rw [List.nodup_append]
  refine ⟨h, by simp, fun a ha b hb => ?_⟩
  simp only [List.mem_singleton] at hb
  subst hb
  rw [List.any_eq_false] at hn
  obtain ⟨d, hd, rfl⟩ := List.mem_map.1 ha
  simpa using hn d hd
theorem one1_hit {l : List Cm} {k : Nat} {c : Cm} (hk : l[k]? = some c) (hn : ((l.take k).any fun d => decide (d.p = c.p)) = true) : one1 l = false := by
  cases h : one1 l with
  | false => rfl
  | true =>
    rw [List.any_eq_true] at hn
    obtain ⟨d, hd, he⟩ := hn
    obtain ⟨j, hj, hjd⟩ := List.mem_take_iff_getElem.1 hd
    rw [one1_iff] at h
    have hlt := lt_of_some hk
    have h1 : j < l.length := by omega
    have hke : l[k] = c := by rw [List.getElem?_eq_getElem hlt] at hk; exact Option.some.inj hk
    have := List.pairwise_iff_getElem.1 h j k (by simpa using h1) (by simpa using hlt) (by omega)
    refine absurd ?_ this
    simp only [List.getElem_map]
    rw [hjd, hke]
    simpa using he
set_option maxRecDepth 100000
set_option maxHeartbeats 1000000
theorem oneEach_c (l : List Cm) (hl : SmL l) (A : Option Addr) (cap : Nat) (w : World)
    (hcell : ∀ (k : Nat) c, l[k]? = some c → ∃ b off, A = some ⟨b, off, none⟩ ∧ b < w.heap.size ∧ w.cell? ⟨b, off + k * 5, none⟩ = some (sV c.p) ∧ w.cell? ⟨b, off + k * 5 + 1, none⟩ = some (.int .i64 c.a.k) ∧ w.cell? ⟨b, off + k * 5 + 2, none⟩ = some (.int .i64 c.a.v) ∧ w.cell? ⟨b, off + k * 5 + 3, none⟩ = some (.int .i64 c.b.k) ∧ w.cell? ⟨b, off + k * 5 + 4, none⟩ = some (.int .i64 c.b.v)) :
    Calls Tryz.prog 155 #[.slice A l.length cap] w fun e w' => e = .returned (.bool (one1 l)) ∧ Below w.heap.size w w' := by
  have hmm := @run_makeMap Tryz.prog
  have hln := hl.n
  go_enter Tryz.func155, Tryz.ntmps155
  go_wp2
  go_loopw [9] (fun i wr => ∃ (k : Nat) (D : DataW Unit), k ≤ l.length ∧ i = .int .i64 k ∧ wr.ownsMap Tryz.prog 9 (plainElem Tryz.prog 4) w.heap.size k D ∧ Seen D (l.take k) ∧ one1 (l.take k) = true ∧ Below w.heap.size w wr)
    (fun i _ => l.length - (intOf i).toNat)
  case atStart => exact ⟨0, _, Nat.zero_le _, rfl, World.ownsMap_made _ _ _ _, Seen.nil, rfl, (Below.refl _ _).alloc (Nat.le_refl _) _⟩
  case round =>
    obtain ⟨k, D, hk, rfl, hown, hseen, hone, hnx⟩ := hrel
    by_cases hlt : k < l.length
    · obtain ⟨c, hc⟩ := get_of_lt hlt
      obtain ⟨b, off, rfl, hb, c0, c1, c2, c3, c4⟩ := hcell k c hc
      have hcc : ∀ x, b < w.heap.size → wr.cell? ⟨b, x, none⟩ = w.cell? ⟨b, x, none⟩ := fun x h => hnx.cell h
      rw [← hcc _ hb] at c0 c1 c2 c3 c4
      have hp := hl.p c (mem_of_get hc)
      have hkey : keyOf Tryz.prog 9 (sV c.p) = some (.string c.p) := key9 _ (by unfold maxLen; omega)
      have hown2 := (hown.alloc (.cells #[.string ⟨c.p.toArray⟩, .int .i64 c.a.k, .int .i64 c.a.v, .int .i64 c.b.k, .int .i64 c.b.v] 68))
      have hnx2 := hnx.alloc (Nat.le_of_lt hown.lt) (.cells #[.string ⟨c.p.toArray⟩, .int .i64 c.a.k, .int .i64 c.a.v, .int .i64 c.b.k, .int .i64 c.b.v] 68)
      obtain ⟨v, ps, hrun, hRv⟩ := hown2.lookup keyed9 und136 (zero4 _) (plainElem_bool und4 false) hkey
      obtain ⟨x, rfl, hx⟩ := plainElem_bool_inv hRv
      have hx' : x = (l.take k).any fun d => decide (d.p = c.p) := by
        have := hseen c.p
        rw [(Prod.mk.inj hx).1] at this
        simpa using this
      clear hx hRv
      have HC := Lib.hid hc
      have HO := Lib.hid hone
      have HS := Lib.hid hseen
      have HX := Lib.hid hx'
      clear hc hone hseen hx'
      cases x with
      | true =>
        go_wp2_with fail
        go_ret
        exact ⟨ret_bool (one1_hit HC.out HX.out.symm).symm, hnx2⟩
      | false =>
        go_wp2_with (first
          | (at_mapUpdate; refine wpList_mapUpdate_own _ rfl _ _ _ 161 rfl 9 4 keyed9 und136 _ w.heap.size k _ rfl hown2 (by unfold maxLen; omega) _ _ _ rfl rfl hkey _ [] (plainElem_bool und4 true) ?_)
          | go_in)
        intro w1 hown3 hgrow
        have hnx3 := hnx2.grown hgrow hnx2.size (fun j hj => by cases hj; exact Nat.le_refl _)
        have hs3 : Seen (D.put (.string c.p) (.lit (.bool true))) (l.take (k + 1)) := by
          rw [List.take_add_one, HC.out]
          exact HS.out.put hown.isMap c
        have ho3 := one1_snoc HC.out HO.out HX.out.symm
        clear hgrow hrun hown hown2 hnx hnx2
        have HN := Lib.hid hnx3
        have HW := Lib.hid hown3
        clear hnx3 hown3
        go_wp2_with fail
        go_roundw
        case rel => exact ⟨k + 1, _, by omega, by go_num, HW.out, hs3, ho3, HN.out⟩
        case measure => simp [intOf]; omega
    · go_wp2_with fail
      go_ret
      have : l.take k = l := List.take_of_length_le (by omega)
      rw [this] at hone
      exact ⟨ret_bool hone.symm, hnx⟩
theorem res_v (fb : Nat → Prop) (base : Nat) (w : World) (x : Value) : Res fb base w [] (.v x) x :=
  ⟨⟨fun _ => none, fb⟩, rfl, .cl .v, fun r row h => by simp [hpOf, hget] at h, fun r r' row row' b c c' h => by simp [hpOf, hget] at h, fun r row b c h => by simp [hpOf, hget] at h⟩
theorem oneEach_pc (l : List Cm) (hl : SmL l) : PC Tryz.prog 155 [cmA l] (vB (one1 l)) := by
  refine ⟨fun vs W => enters_of Tryz.func155 (by kernel_rfl) rfl vs W, fun w fb vs hlw hs hg => ?_⟩
  obtain ⟨A, cap, hv, hcell⟩ := cmA_rd (hg 0 _ rfl)
  have hvs : vs = #[vs.getD 0 undef] := by
    apply Array.ext
    · simpa using hs
    · intro i h1 h2
      have : i = 0 := by simp at h2; omega
      subst this
      simp [Array.getD, h1]
  rw [hvs, hv]
  refine (oneEach_c l hl A cap w hcell).mono ?_
  rintro e w' ⟨rfl, hb⟩
  exact ⟨.v (.bool (one1 l)), [], _, ⟨rfl, rfl⟩, rfl, hb, res_v _ _ _ _⟩
end Go.Proofs.YthifgndjpjaddaaGreatDoor
/-
  Walks: CanonValid, pick, SafeOf, LeftOf.
-/
namespace Go.Proofs.YthifgndjpjaddaaGreatDoor
open Go Go.RowKit Go.Proofs
attribute [local irreducible] RWp AW run kPe pe Kt effA gd gu br retR RDp runD kPeD brW gW effD
set_option maxRecDepth 100000
theorem CanonValid_pc (l : List Cm) (hl : SmL l) : PC Tryz.prog 135 [cmA l] (vB (canonV l)) := by
  have h1 := LogValid_pc l hl
  have h2 := oneEach_pc l hl
  have h3 := IsSortedC_pc l (by have := hl.n; omega)
  have e : canonV l = (lV l && one1 l && cOrd l) := rfl
  refine pc_enter Tryz.func135 rfl rfl fun w0 fb => go_on ?_; (try simp only [Tryz.ntmps135, push_cast, simprocAttr])
  repeat' first | (refine at_b (fun hb => ?_) (fun hb => ?_) <;> simp only [hb, push_cast, simprocAttr]) | (refine at_ret ?_; simp only [Tryz.results135, push_cast, simprocAttr]) | (refine at_call ?_; (try simp only [push_cast, simprocAttr]); refine rwc_v (by first | exact h1 | exact h2 | exact h3) (go_on ?_); simp only [push_cast, simprocAttr]) | (show RWp _ _ _ _ _; simp only [push_cast, simprocAttr])
  all_goals simp [vX, e, *]
theorem SafeOf1_pc (a : List Cm) (ha : SmL a) (c : Cm) (hc : c.p.length < 4294967285) : PC Tryz.prog 136 [cmdA c, .ip [cmA a]] (vB (!decide (c ∈ a) && !disp a c)) := by
  have h1 := ContainsC_pc a (by have := ha.n; omega) c
  have h2 := disputed_pc c a hc ha
  unfold cmdA cmC at *
  refine pc_enter Tryz.func136 rfl rfl fun w0 fb => go_on ?_; (try simp only [Tryz.ntmps136, push_cast, simprocAttr])
  repeat' first | (refine at_b (fun hb => ?_) (fun hb => ?_) <;> simp only [hb, push_cast, simprocAttr]) | (refine at_ret ?_; simp only [Tryz.results136, push_cast, simprocAttr]) | (refine at_call ?_; (try simp only [push_cast, simprocAttr]); refine rwc_v (by first | exact h1 | exact h2) (go_on ?_); simp only [push_cast, simprocAttr]) | (show RWp _ _ _ _ _; simp only [push_cast, simprocAttr])
  all_goals simp [vX, *]
theorem LeftOf1_pc (b : List Cm) (hb : SmL b) (c : Cm) (hc : c.p.length < 4294967285) : PC Tryz.prog 116 [cmdA c, .ip [cmA b]] (vB (disp b c)) := by
  have h2 := disputed_pc c b hc hb
  unfold cmdA cmC at *
  refine pc_enter Tryz.func116 rfl rfl fun w0 fb => go_on ?_; (try simp only [Tryz.ntmps116, push_cast, simprocAttr])
  repeat' first | (refine at_b (fun hb => ?_) (fun hb => ?_) <;> simp only [hb, push_cast, simprocAttr]) | (refine at_ret ?_; simp only [Tryz.results116, push_cast, simprocAttr]) | (refine at_call ?_; (try simp only [push_cast, simprocAttr]); refine rwc_v (by first | exact h2) (go_on ?_); simp only [push_cast, simprocAttr]) | (show RWp _ _ _ _ _; simp only [push_cast, simprocAttr])
  all_goals simp [vX, *]
def pck (a b l : List Cm) (p : Cm → Bool) : List Cm := if canonV a && canonV b then l.filter p else []
theorem pick_pc (a b l x : List Cm) (ha : SmL a) (hb : SmL b) (hl : SmL l) (g : FuncId) (p : Cm → Bool) (hp : ∀ c ∈ l, PC Tryz.prog g [cmdA c, .ip [cmA x]] (vB (p c))) :
    PC Tryz.prog 115 [cmA a, cmA b, cmA l, .fn g [.ip [cmA x]]] (rX (.o 0 (pck a b l p).length) [rowC (pck a b l p)]) := by
  have hA := CanonValid_pc a ha
  have hB := CanonValid_pc b hb
  have hln := hl.n
  refine pc_enter Tryz.func115 rfl rfl fun w0 fb => go_on ?_; (try simp only [Tryz.ntmps115, push_cast, simprocAttr])
  refine at_call ?_
  (try simp only [push_cast, simprocAttr])
  refine rwc_v hA ?_
  (try simp only [push_cast, simprocAttr])
  (refine at_dropS [8] (by refine wk_ok ?_ ?_ ?_ ?_ <;> simp [dropS, dropT, hasN, delL, hdel, leL, leH, idsL, idsA, idsR, inH, hget, sameRow]) ?_; simp only [dropS, dropT, hasN, delL, hdel, idsA, idsL, hget, List.map_cons, List.map_nil, List.all_cons, List.all_nil, List.append_nil, Bool.not_false, Bool.not_true, Bool.and_true, if_true, if_false, simprocAttr])
  refine go_on ?_
  (try simp only [push_cast, simprocAttr])
  cases e1 : canonV a with
  | false =>
    have e : pck a b l p = [] := by simp [pck, e1]
    (try simp only [e1, Bool.not_false, push_cast, simprocAttr])
    refine at_ret ?_; simp only [Tryz.results115, push_cast, simprocAttr]
    simp [rX, e, ixOf]
  | true =>
  (try simp only [e1, Bool.not_true, push_cast, simprocAttr])
  cases e2 : canonV b with
  | false =>
    rw [e2] at hB
    have e : pck a b l p = [] := by simp [pck, e2]
    (refine at_call ?_; (try simp only [push_cast, simprocAttr]); refine rwc_v (hB) (go_on ?_); (try simp only [Bool.not_false, push_cast, simprocAttr]))
    refine at_ret ?_; simp only [Tryz.results115, push_cast, simprocAttr]
    simp [rX, e, ixOf]
  | true =>
  rw [e2] at hB
  (refine at_call ?_; (try simp only [push_cast, simprocAttr]); refine rwc_v (hB) (go_on ?_); (try simp only [Bool.not_true, push_cast, simprocAttr]))
  have e : pck a b l p = l.filter p := by simp [pck, e1, e2]
  rw [e]
  refine at_loop (X := Nat × List Cm) (fun x => [(8, .any), (9, .o 9 x.2.length), (22, iA x.1)]) (fun x => [(9, rowC x.2)])
    (fun x => x.1 ≤ l.length ∧ x.2 = (l.take x.1).filter p) (fun x => l.length - x.1) (0, []) ⟨Nat.zero_le _, rfl⟩ ?_ ?_
  · (refine wk_ok ?_ ?_ ?_ ?_ <;> simp [rowC, leL, leH, idsL, idsA, idsR, inH, hget, sameRow, upA, hvA, dsts, dstO, setA_0, setA_1, setA_8, List.append, List.cons_append, List.nil_append])
  · rintro ⟨i, o⟩ ⟨q1, q2⟩
    simp only at q1 q2
    simp only [upA, hvA, dsts, dstO, setA_0, setA_1, setA_8, List.append, List.cons_append, List.nil_append]
    refine go_on ?_
    (try simp only [push_cast, simprocAttr])
    have w1 : IntKind.i64.wrap ((i : Int) + 1) = (i : Int) + 1 := wr _ (by omega)
    have hol : o.length ≤ i := by rw [q2]; exact Nat.le_trans (List.length_filter_le _ _) (by simp; omega)
    by_cases hi : i < l.length
    · obtain ⟨c, hc⟩ := get_of_lt hi
      have i0 : ltI (i : Int) l.length = true := ltI_t (by omega)
      have i1 := ix_n hc
      have i2 := map_get cmC hc
      have hP := hp c (mem_of_get hc)
      unfold cmdA at hP
      simp only [cmC] at i2 hP
      (try simp only [i0, i1, i2, push_cast, simprocAttr])
      (refine at_call ?_; (try simp only [push_cast, simprocAttr]); refine rwc_v (hP) (go_on ?_); (try simp only [push_cast, simprocAttr]))
      have hq : (l.take (i + 1)).filter p = o ++ (if p c then [c] else []) := by
        rw [List.take_add_one, hc, List.filter_append, ← q2]
        cases hpc : p c <;> simp [hpc]
      cases hpc : p c with
      | true =>
        rw [hpc, if_pos rfl] at hq
        have happ : o.map cmC ++ [[sA c.p, iA c.a.k, iA c.a.v, iA c.b.k, iA c.b.v]] = (o ++ [c]).map cmC := by rw [List.map_append]; rfl
        (try simp only [hpc, rowC, push_cast, simprocAttr])
        refine at_chk (by omega) ?_
        (try simp only [happ, rowC, w1, push_cast, simprocAttr])
        refine at_fin ⟨(i + 1, o ++ [c]), ⟨by dsimp only; omega, hq.symm⟩, by dsimp only; omega, ?_⟩
        (refine wk_ok ?_ ?_ ?_ ?_ <;> simp [rowC, cmC, leL, leH, idsL, idsA, idsR, inH, hget, sameRow, upA, hvA, dsts, dstO, setA_0, setA_1, setA_8, List.append, List.cons_append, List.nil_append])
      | false =>
        rw [hpc, if_neg (by simp), List.append_nil] at hq
        (try simp only [hpc, w1, push_cast, simprocAttr])
        refine at_fin ⟨(i + 1, o), ⟨by dsimp only; omega, hq.symm⟩, by dsimp only; omega, ?_⟩
        (refine wk_ok ?_ ?_ ?_ ?_ <;> simp [rowC, cmC, leL, leH, idsL, idsA, idsR, inH, hget, sameRow, upA, hvA, dsts, dstO, setA_0, setA_1, setA_8, List.append, List.cons_append, List.nil_append])
    · have i0 : ltI (i : Int) l.length = false := ltI_f (by omega)
      rw [List.take_of_length_le (by omega)] at q2
      (try simp only [i0, push_cast, simprocAttr])
      refine at_ret ?_; simp only [Tryz.results115, push_cast, simprocAttr]
      simp [rX, ← q2, ixOf]
theorem SafeOf_pc (a b : List Cm) (ha : SmL a) (hb : SmL b) : PC Tryz.prog 110 [cmA a, cmA b] (rX (.o 0 (safeOf a b).length) [rowC (safeOf a b)]) := by
  have hP := pick_pc a b b a ha hb hb 136 _ (fun c hc => SafeOf1_pc a ha c (by have := hb.p c hc; omega))
  refine pc_enter Tryz.func110 rfl rfl fun w0 fb => go_on ?_; (try simp only [Tryz.ntmps110, push_cast, simprocAttr])
  (refine at_call ?_; (try simp only [push_cast, simprocAttr]); refine rwc_r (hP) rfl (flat_c _) (by simp [frB, baseOf]) (go_on ?_); (try simp only [push_cast, simprocAttr]))
  refine at_ret ?_; simp only [Tryz.results110, push_cast, simprocAttr]
  simp [rX, safeOf, pck, ixOf]
theorem LeftOf_pc (a b : List Cm) (ha : SmL a) (hb : SmL b) : PC Tryz.prog 86 [cmA a, cmA b] (rX (.o 0 (leftOf a b).length) [rowC (leftOf a b)]) := by
  have hP := pick_pc a b a b ha hb ha 116 _ (fun c hc => LeftOf1_pc b hb c (by have := ha.p c hc; omega))
  refine pc_enter Tryz.func86 rfl rfl fun w0 fb => go_on ?_; (try simp only [Tryz.ntmps86, push_cast, simprocAttr])
  (refine at_call ?_; (try simp only [push_cast, simprocAttr]); refine rwc_r (hP) rfl (flat_c _) (by simp [frB, baseOf]) (go_on ?_); (try simp only [push_cast, simprocAttr]))
  refine at_ret ?_; simp only [Tryz.results86, push_cast, simprocAttr]
  simp [rX, leftOf, pck, ixOf]
end Go.Proofs.YthifgndjpjaddaaGreatDoor
/-
  Walks: ClashesOf, PairFits, all, meet, same.
-/
namespace Go.Proofs.YthifgndjpjaddaaGreatDoor
open Go Go.RowKit Go.Proofs
theorem canonV_le {l : List Cm} (h : canonV l = true) : l.length ≤ 20 := by
  unfold canonV at h
  simp only [Bool.and_eq_true] at h
  exact lV_len h.1.1
attribute [local irreducible] RWp AW run kPe pe Kt effA gd gu br retR RDp runD kPeD brW gW effD
set_option maxRecDepth 100000
end Go.Proofs.YthifgndjpjaddaaGreatDoor
/-
  Walks: PairFits, all, PairTree, PairBase.
-/
namespace Go.Proofs.YthifgndjpjaddaaGreatDoor
open Go Go.RowKit Go.Proofs
theorem pf_cv {t : List Nd} {a b : List Cm} (h : pairFits t a b = true) : canonV a = true ∧ canonV b = true := by
  unfold pairFits at h
  simp only [Bool.and_eq_true] at h
  exact ⟨h.1.1.1, h.1.1.2⟩
theorem safeOf_mem {a b : List Cm} {c : Cm} (h : c ∈ safeOf a b) : c ∈ b := by
  unfold safeOf at h
  split at h
  · exact (List.mem_filter.1 h).1
  · simp at h
theorem safeOf_len (a b : List Cm) : (safeOf a b).length ≤ b.length := by
  unfold safeOf
  split
  · exact List.length_filter_le _ _
  · simp
theorem sm_app {a b : List Cm} (ha : SmL a) (hb : SmL b) (h : a.length + b.length < 4294967280) : SmL (a ++ b) :=
  ⟨by simpa using h, fun c hc => (List.mem_append.1 hc).elim (ha.p c) (hb.p c)⟩
theorem sm_safe {a b : List Cm} (hb : SmL b) : SmL (safeOf a b) := ⟨by have := safeOf_len a b; have := hb.n; omega, fun c hc => hb.p c (safeOf_mem hc)⟩
def tbD (x : Option (List Nd)) : AV → List Row → Prop := rX (.tup [.o 0 (x.getD []).length, bA x.isSome]) [rowN (x.getD [])]
attribute [local irreducible] RWp AW run kPe pe Kt effA gd gu br retR RDp runD kPeD brW gW effD
set_option maxRecDepth 100000
theorem PairFits_pc (t : List Nd) (ht : SmT2 t) (a b : List Cm) (ha : SmL a) (hb : SmL b) : PC Tryz.prog 109 [ndA t, cmA a, cmA b] (vB (pairFits t a b)) := by
  have h1 := CanonValid_pc a ha
  have h2 := CanonValid_pc b hb
  have h3 := LogFits_pc t ht a ha
  have h4 := LogFits_pc t ht b hb
  have e : pairFits t a b = (canonV a && canonV b && fits t a && fits t b) := rfl
  refine pc_enter Tryz.func109 rfl rfl fun w0 fb => go_on ?_; (try simp only [Tryz.ntmps109, push_cast, simprocAttr])
  repeat' first | (refine at_b (fun hb => ?_) (fun hb => ?_) <;> simp only [hb, push_cast, simprocAttr]) | (refine at_ret ?_; simp only [Tryz.results109, push_cast, simprocAttr]) | (refine at_call ?_; (try simp only [push_cast, simprocAttr]); refine rwc_v (by first | exact h1 | exact h2 | exact h3 | exact h4) (go_on ?_); simp only [push_cast, simprocAttr]) | (show RWp _ _ _ _ _; simp only [push_cast, simprocAttr])
  all_goals simp [vX, e, *]
theorem all_pc (t : List Nd) (ht : SmT2 t) (l : List Cm) (hl : SmL l) : PC Tryz.prog 114 [ndA t, cmA l] (tbD (allC t l)) := by
  have hA := applyAll_pc l hl t ht
  have hsm := apAll_sm l t ht
  refine pc_enter Tryz.func114 rfl rfl fun w0 fb => go_on ?_; (try simp only [Tryz.ntmps114, push_cast, simprocAttr])
  (try simp only [push_cast, simprocAttr])
  refine at_share2 (by simp [isC2, isC]) (by first | rfl | simp [ren]) hA ?_
  (try simp only [push_cast, simprocAttr])
  (refine at_dropS [4] (by refine wk_ok ?_ ?_ ?_ ?_ <;> simp [dropS, dropT, hasN, delL, hdel, leL, leH, idsL, idsA, idsR, inH, hget, sameRow]) ?_; simp only [dropS, dropT, hasN, delL, hdel, idsA, idsL, hget, List.map_cons, List.map_nil, List.all_cons, List.all_nil, List.append_nil, Bool.not_false, Bool.not_true, Bool.and_true, if_true, if_false, simprocAttr])
  refine go_on ?_
  (try simp only [push_cast, simprocAttr])
  by_cases h : (apAll t l).2 = l.length
  · have i0 : ltI ((apAll t l).2 : Int) l.length = false := ltI_f (by omega)
    have e : allC t l = some (apAll t l).1 := by simp [allC, h]
    (try simp only [i0, push_cast, simprocAttr])
    (refine at_call ?_; (try simp only [push_cast, simprocAttr]); refine rwc_r (cloneTree_pc _ hsm.s.n) rfl (flat_n _) (by simp [frB, baseOf]) (go_on ?_); (try simp only [push_cast, simprocAttr]))
    refine at_ret ?_; simp only [Tryz.results114, push_cast, simprocAttr]
    simp [tbD, rX, e, ixOf]
  · have hle : (apAll t l).2 ≤ l.length := apAll_le _ _
    have i0 : ltI ((apAll t l).2 : Int) l.length = true := ltI_t (by omega)
    have e : allC t l = none := by simp [allC, h]
    (try simp only [i0, push_cast, simprocAttr])
    refine at_ret ?_; simp only [Tryz.results114, push_cast, simprocAttr]
    simp [tbD, rX, e, ixOf]
theorem PairTree_pc (t : List Nd) (ht : SmT2 t) (a b : List Cm) (ha : SmL a) (hb : SmL b) : PC Tryz.prog 85 [ndA t, cmA a, cmA b] (tbD (pairTree t a b)) := by
  have hF := PairFits_pc t ht a b ha hb
  refine pc_enter Tryz.func85 rfl rfl fun w0 fb => go_on ?_; (try simp only [Tryz.ntmps85, push_cast, simprocAttr])
  refine at_call ?_
  (try simp only [push_cast, simprocAttr])
  refine rwc_v hF ?_
  (try simp only [push_cast, simprocAttr])
  (refine at_dropS [6] (by refine wk_ok ?_ ?_ ?_ ?_ <;> simp [dropS, dropT, hasN, delL, hdel, leL, leH, idsL, idsA, idsR, inH, hget, sameRow]) ?_; simp only [dropS, dropT, hasN, delL, hdel, idsA, idsL, hget, List.map_cons, List.map_nil, List.all_cons, List.all_nil, List.append_nil, Bool.not_false, Bool.not_true, Bool.and_true, if_true, if_false, simprocAttr])
  refine go_on ?_
  (try simp only [push_cast, simprocAttr])
  cases hf : pairFits t a b with
  | false =>
    have e : pairTree t a b = none := by simp [pairTree, hf]
    (try simp only [hf, Bool.not_false, push_cast, simprocAttr])
    refine at_ret ?_; simp only [Tryz.results85, push_cast, simprocAttr]
    simp [tbD, rX, e, ixOf]
  | true =>
    have e : pairTree t a b = allC t (a ++ safeOf a b) := by simp [pairTree, hf]
    obtain ⟨hc1, hc2⟩ := pf_cv hf
    have h1 := canonV_le hc1
    have h2 := canonV_le hc2
    have h3 := safeOf_len a b
    have hS := SafeOf_pc a b ha hb
    have hA := all_pc t ht (a ++ safeOf a b) (sm_app ha (sm_safe hb) (by omega))
    unfold tbD at hA
    rw [show cmA (a ++ safeOf a b) = AV.sl 5 (a.map cmC ++ (safeOf a b).map cmC) from by simp] at hA
    (try simp only [hf, Bool.not_true, push_cast, simprocAttr])
    (refine at_call ?_; (try simp only [push_cast, simprocAttr]); refine rwc_r (cloneLog_pc a (by omega)) rfl (flat_c _) (by simp [frB, baseOf]) (go_on ?_); (try simp only [push_cast, simprocAttr]))
    (refine at_call ?_; (try simp only [push_cast, simprocAttr]); refine rwc_r (hS) rfl (flat_c _) (by simp [frB, baseOf]) (go_on ?_); (try simp only [push_cast, simprocAttr]))
    refine at_chk (by omega) ?_
    (try simp only [push_cast, simprocAttr])
    have hll : (a.map cmC ++ (safeOf a b).map cmC).length = a.length + (safeOf a b).length := by simp
    refine at_call ?_
    simp only [hll, push_cast, simprocAttr]
    refine rwc_r hA (by simp [flatV, flatL]) (flat_n _) (by simp [frB, baseOf]) (go_on ?_)
    (try simp only [push_cast, simprocAttr])
    refine at_ret ?_; simp only [Tryz.results85, push_cast, simprocAttr]
    simp [tbD, rX, e, ixOf]
theorem kept_len_le (a b : List Cm) : (kept a b).length ≤ a.length + b.length := by
  have h1 := safeOf_len a b
  have h2 := List.length_filter_le (fun c => !disp b c) a
  unfold kept
  simp only [List.length_append]
  omega
theorem sm_kept {a b : List Cm} (ha : SmL a) (hb : SmL b) (h : a.length + b.length < 4294967280) : SmL (kept a b) := by
  refine ⟨by have := kept_len_le a b; omega, fun c hc => ?_⟩
  unfold kept at hc
  rcases List.mem_append.1 hc with hc | hc
  · exact hb.p c (safeOf_mem hc)
  · exact ha.p c (List.mem_filter.1 hc).1
theorem PairBase_pc (t : List Nd) (ht : SmT2 t) (a b : List Cm) (ha : SmL a) (hb : SmL b) : PC Tryz.prog 84 [ndA t, cmA a, cmA b] (tbD (pairBase t a b)) := by
  have hF := PairFits_pc t ht a b ha hb
  refine pc_enter Tryz.func84 rfl rfl fun w0 fb => go_on ?_; (try simp only [Tryz.ntmps84, push_cast, simprocAttr])
  refine at_call ?_
  (try simp only [push_cast, simprocAttr])
  refine rwc_v hF ?_
  (try simp only [push_cast, simprocAttr])
  (refine at_dropS [6] (by refine wk_ok ?_ ?_ ?_ ?_ <;> simp [dropS, dropT, hasN, delL, hdel, leL, leH, idsL, idsA, idsR, inH, hget, sameRow]) ?_; simp only [dropS, dropT, hasN, delL, hdel, idsA, idsL, hget, List.map_cons, List.map_nil, List.all_cons, List.all_nil, List.append_nil, Bool.not_false, Bool.not_true, Bool.and_true, if_true, if_false, simprocAttr])
  refine go_on ?_
  (try simp only [push_cast, simprocAttr])
  cases hf : pairFits t a b with
  | false =>
    have e : pairBase t a b = none := by simp [pairBase, hf]
    (try simp only [hf, Bool.not_false, push_cast, simprocAttr])
    refine at_ret ?_; simp only [Tryz.results84, push_cast, simprocAttr]
    simp [tbD, rX, e, ixOf]
  | true =>
    obtain ⟨hc1, hc2⟩ := pf_cv hf
    have h1 := canonV_le hc1
    have h2 := canonV_le hc2
    have h3 := safeOf_len a b
    have hS := SafeOf_pc a b ha hb
    (try simp only [hf, Bool.not_true, push_cast, simprocAttr])
    (refine at_call ?_; (try simp only [push_cast, simprocAttr]); refine rwc_r (hS) rfl (flat_c _) (by simp [frB, baseOf]) (go_on ?_); (try simp only [push_cast, simprocAttr]))
    refine at_loop (X := Nat × List Cm) (fun x => [(18, .any), (8, .o 19000 x.2.length), (21, iA x.1)]) (fun x => [(19000, rowC x.2)])
      (fun x => x.1 ≤ a.length ∧ x.2 = safeOf a b ++ (a.take x.1).filter fun c => !disp b c) (fun x => a.length - x.1) (0, safeOf a b) ⟨Nat.zero_le _, by simp⟩ ?_ ?_
    · (refine wk_ok ?_ ?_ ?_ ?_ <;> simp [rowC, leL, leH, idsL, idsA, idsR, inH, hget, sameRow, upA, hvA, dsts, dstO, setA_0, setA_1, setA_8, List.append, List.cons_append, List.nil_append])
    · rintro ⟨i, o⟩ ⟨q1, q2⟩
      simp only at q1 q2
      simp only [upA, hvA, dsts, dstO, setA_0, setA_1, setA_8, List.append, List.cons_append, List.nil_append]
      refine go_on ?_
      (try simp only [push_cast, simprocAttr])
      have w1 : IntKind.i64.wrap ((i : Int) + 1) = (i : Int) + 1 := wr _ (by omega)
      have hol : o.length ≤ b.length + i := by
        have := List.length_filter_le (fun c => !disp b c) (a.take i)
        rw [q2]; simp only [List.length_append]; simp only [List.length_take] at this; omega
      by_cases hi : i < a.length
      · obtain ⟨c, hc⟩ := get_of_lt hi
        have i0 : ltI (i : Int) a.length = true := ltI_t (by omega)
        have i1 := ix_n hc
        have i2 := map_get cmC hc
        have hP := disputed_pc c b (by have := ha.p c (mem_of_get hc); omega) hb
        unfold cmdA at hP
        simp only [cmC] at i2 hP
        (try simp only [i0, i1, i2, push_cast, simprocAttr])
        (refine at_call ?_; (try simp only [push_cast, simprocAttr]); refine rwc_v (hP) (go_on ?_); (try simp only [push_cast, simprocAttr]))
        have hq : safeOf a b ++ (a.take (i + 1)).filter (fun c => !disp b c) = o ++ (if disp b c then [] else [c]) := by
          rw [List.take_add_one, hc, List.filter_append, q2, List.append_assoc]
          cases hpc : disp b c <;> simp [hpc]
        cases hpc : disp b c with
        | false =>
          rw [hpc, if_neg (by simp)] at hq
          have happ : o.map cmC ++ [[sA c.p, iA c.a.k, iA c.a.v, iA c.b.k, iA c.b.v]] = (o ++ [c]).map cmC := by rw [List.map_append]; rfl
          (try simp only [hpc, Bool.not_false, rowC, push_cast, simprocAttr])
          refine at_chk (by omega) ?_
          (try simp only [happ, rowC, w1, push_cast, simprocAttr])
          refine at_fin ⟨(i + 1, o ++ [c]), ⟨by dsimp only; omega, hq.symm⟩, by dsimp only; omega, ?_⟩
          (refine wk_ok ?_ ?_ ?_ ?_ <;> simp [rowC, cmC, leL, leH, idsL, idsA, idsR, inH, hget, sameRow, upA, hvA, dsts, dstO, setA_0, setA_1, setA_8, List.append, List.cons_append, List.nil_append])
        | true =>
          rw [hpc, if_pos rfl, List.append_nil] at hq
          (try simp only [hpc, Bool.not_true, w1, push_cast, simprocAttr])
          refine at_fin ⟨(i + 1, o), ⟨by dsimp only; omega, hq.symm⟩, by dsimp only; omega, ?_⟩
          (refine wk_ok ?_ ?_ ?_ ?_ <;> simp [rowC, cmC, leL, leH, idsL, idsA, idsR, inH, hget, sameRow, upA, hvA, dsts, dstO, setA_0, setA_1, setA_8, List.append, List.cons_append, List.nil_append])
      · have i0 : ltI (i : Int) a.length = false := ltI_f (by omega)
        rw [List.take_of_length_le (by omega)] at q2
        have hk : o = kept a b := q2
        by_cases h20 : o.length ≤ 20
        · have g0 : ltI 20 (o.length : Int) = false := ltI_f (by omega)
          obtain ⟨ta, tb, hpf⟩ := (pairFits_iff t a b).1 hf
          have hone := kept_one hpf
          rw [← hk] at hone
          have e : pairBase t a b = allC t (cSort o) := by
            unfold pairBase
            rw [hf, ← hk]
            simp [h20]
          have hSo := SortC_pcl o (by omega)
          (try simp only [i0, g0, push_cast, simprocAttr])
          (try simp only [push_cast, simprocAttr]); refine call_lend [19000] none (lr := [rowC o]) (by simp [ndB]) (by first | rfl | simp [rowsOf, hget, rowS, rowN, rowC, sC, ndC, cmC]) (by simp [idsL, idsA]) (by simp [mvN]) (by simpa [rnA, ixOf] using hSo) ?_
          rintro rv lr' rows ⟨g, hgp, hgo, rfl, rfl, rfl⟩
          have hgl : g.length = o.length := hgp.length_eq
          obtain rfl : g = cSort o := cSort_eq hone hgp hgo
          have hcs : SmL (cSort o) := ⟨by omega, fun c hc => (sm_kept ha hb (by omega)).p c (by rw [← hk]; exact hgp.mem_iff.1 hc)⟩
          have hA := all_pc t ht (cSort o) hcs
          unfold tbD at hA
          refine ⟨by simp [shB, mvF, hgl], by simp [frB, baseOf], go_on ?_⟩
          (try simp only [killA, killH, killRow, push_cast, simprocAttr])
          refine at_call ?_
          simp only [hgl, push_cast, simprocAttr]
          refine rwc_r hA (by simp [flatV, flatL]) (flat_n _) (by simp [frB, baseOf]) (go_on ?_)
          (try simp only [push_cast, simprocAttr])
          refine at_ret ?_; simp only [Tryz.results84, push_cast, simprocAttr]
          simp [tbD, rX, e, ixOf]
        · have g0 : ltI 20 (o.length : Int) = true := ltI_t (by omega)
          have e : pairBase t a b = none := by
            unfold pairBase
            rw [hf, ← hk]
            simp [h20]
          (try simp only [i0, g0, push_cast, simprocAttr])
          refine at_ret ?_; simp only [Tryz.results84, push_cast, simprocAttr]
          simp [tbD, rX, e, ixOf]
end Go.Proofs.YthifgndjpjaddaaGreatDoor
/-
  Walks: meet, SessionClashes, SessionRun.
-/
namespace Go.Proofs.YthifgndjpjaddaaGreatDoor
open Go Go.RowKit Go.Proofs
theorem LeftOf_d (a b : List Cm) (ha : SmL a) (hb : SmL b) : PC Tryz.prog 86 [cmA a, cmA b] (vX (cmA (leftOf a b))) := by
  have := (LeftOf_pc a b ha hb).frzX
  simpa [viewN, hpOf, hget, isC, tk] using this
theorem PairBase_d (t : List Nd) (ht : SmT2 t) (a b : List Cm) (ha : SmL a) (hb : SmL b) : PC Tryz.prog 84 [ndA t, cmA a, cmA b] (vX (.tup [ndA ((pairBase t a b).getD []), bA (pairBase t a b).isSome])) := by
  have := (PairBase_pc t ht a b ha hb).frzX
  simpa [tbD, viewN, hpOf, hget, isC, tk] using this
theorem PairTree_d (t : List Nd) (ht : SmT2 t) (a b : List Cm) (ha : SmL a) (hb : SmL b) : PC Tryz.prog 85 [ndA t, cmA a, cmA b] (vX (.tup [ndA ((pairTree t a b).getD []), bA (pairTree t a b).isSome])) := by
  have := (PairTree_pc t ht a b ha hb).frzX
  simpa [tbD, viewN, hpOf, hget, isC, tk] using this
attribute [local irreducible] RWp AW run kPe pe Kt effA gd gu br retR RDp runD kPeD brW gW effD
set_option maxRecDepth 100000
theorem meet_pc (a b : St) (ha : SmS a) (hb : SmS b) : PC Tryz.prog 82 [stA' a, stA' b] (vB (meet a b)) := by
  have h1 := SiteValid_pc a ha
  have h2 := SiteValid_pc b hb
  have h3 := EqualN_pc a.base b.base (by have := ha.t.n; omega)
  have e : meet a b = (siteV a && siteV b && decide (a.base = b.base) && eqI a.ep b.ep && ltI a.ep 99) := by unfold meet ltI; rw [eqI_d]
  unfold stA' stC at *
  refine pc_enter Tryz.func82 rfl rfl fun w0 fb => go_on ?_; (try simp only [Tryz.ntmps82, push_cast, simprocAttr])
  repeat' first | (refine at_b (fun hb => ?_) (fun hb => ?_) <;> simp only [hb, push_cast, simprocAttr]) | (refine at_ret ?_; simp only [Tryz.results82, push_cast, simprocAttr]) | (refine at_call ?_; (try simp only [push_cast, simprocAttr]); refine rwc_v (by first | exact h1 | exact h2 | exact h3) (go_on ?_); simp only [push_cast, simprocAttr]) | (show RWp _ _ _ _ _; simp only [push_cast, simprocAttr])
  all_goals simp [vX, e, *]
end Go.Proofs.YthifgndjpjaddaaGreatDoor
/-
  Walks: spec: the order of canonical logs, conflicts.
-/
namespace Go.Proofs.YthifgndjpjaddaaGreatDoor
open Go Go.RowKit Go.Proofs
theorem und_take {a b : Str} (ha : pV a = true) (hb : pV b = true) (hr : a ≠ root) : (decide (a.length < b.length) && decide (b.take a.length = a)) = und a b := by
  unfold und
  rw [if_neg hr]
  simp only [pV, hr, decide_false, Bool.false_or, Bool.and_eq_true, decide_eq_true_eq] at ha
  obtain ⟨⟨ha0, ha1⟩, _⟩ := ha
  rw [Bool.eq_iff_iff, Bool.and_eq_true, decide_eq_true_eq, decide_eq_true_eq, List.isPrefixOf_iff_prefix]
  have hev := prs_even a ha1
  constructor
  · rintro ⟨h1, h2⟩
    have hb' : b ≠ root := by
      rintro rfl
      simp [root] at h1
      exact ha0 h1
    simp only [pV, hb', decide_false, Bool.false_or, Bool.and_eq_true, decide_eq_true_eq] at hb
    obtain ⟨x, hx⟩ := get_of_lt h1
    have := (prs_get b a.length x hb.1.2 hx).1 hev
    subst this
    rw [List.prefix_iff_eq_take]
    simp only [List.length_append, List.length_cons, List.length_nil]
    rw [List.take_add_one, h2, hx]
    rfl
  · intro h
    have hl := h.length_le
    simp only [List.length_append, List.length_cons, List.length_nil] at hl
    refine ⟨by omega, ?_⟩
    have h2 : a <+: b := (List.prefix_append a [47]).trans h
    exact (List.prefix_iff_eq_take.1 h2).symm
theorem canon_fail {l : List Cm} {j : Nat} {x y : Cm} (hx : l[j]? = some x) (hy : l[j + 1]? = some y) (h : cLt x y = false ∨ firstB l (j + 1) y.p = false) : canonV l = false := by
  cases hc : canonV l with
  | false => rfl
  | true =>
    exfalso
    unfold canonV at hc
    simp only [Bool.and_eq_true] at hc
    obtain ⟨⟨_, h1⟩, h2⟩ := hc
    have hnd := (one1_iff l).1 h1
    have hne : ∀ i z, i < j + 1 → l[i]? = some z → z.p ≠ y.p := fun i z hi hz => by
      have hli := lt_of_some hz
      have hlj := lt_of_some hy
      have := List.pairwise_iff_getElem.1 hnd i (j + 1) (by simpa using hli) (by simpa using hlj) hi
      simp only [List.getElem_map] at this
      rw [List.getElem?_eq_getElem hli] at hz
      rw [List.getElem?_eq_getElem hlj] at hy
      rwa [Option.some.inj hz, Option.some.inj hy] at this
    rcases h with h | h
    · have h3 : cOrd (l.drop j) = true := by
        cases h4 : cOrd (l.drop j) with
        | true => rfl
        | false => rw [cOrd_pre l j h4] at h2; cases h2
      rw [cOrd_step hy hx] at h3
      simp only [Bool.and_eq_true, Bool.not_eq_true'] at h3
      rw [cLt_total (hne j x (by omega) hx) h] at h3
      cases h3.1
    · simp only [firstB, Bool.not_eq_false', decide_eq_true_eq, List.mem_map] at h
      obtain ⟨z, hz, he⟩ := h
      obtain ⟨i, hi, hiz⟩ := List.mem_take_iff_getElem.1 hz
      exact hne i z (by omega) (by rw [List.getElem?_eq_getElem (by omega), hiz]) he
theorem cOrd_all : ∀ {l : List Cm}, (∀ (j : Nat) x y, l[j]? = some x → l[j + 1]? = some y → cLt y x = false) → cOrd l = true
  | [], _ => rfl
  | [_], _ => rfl
  | a :: b :: r, h => by
    have h1 := h 0 a b rfl rfl
    have h2 := cOrd_all (l := b :: r) fun j x y hx hy => h (j + 1) x y (by simpa using hx) (by simpa using hy)
    simp only [cOrd, h1, h2]
    rfl
theorem canon_all {l : List Cm} (h : ∀ (j : Nat) x y, l[j]? = some x → l[j + 1]? = some y → cLt x y = true ∧ firstB l (j + 1) y.p = true) : canonV l = lV l := by
  have h2 : cOrd l = true := cOrd_all fun j x y hx hy => cLt_asymm (h j x y hx hy).1
  have h1 : one1 l = true := by
    rw [one1_iff]
    refine List.pairwise_iff_getElem.2 fun i j hi hj hij => ?_
    simp only [List.length_map] at hi hj
    simp only [List.getElem_map]
    obtain ⟨k, rfl⟩ : ∃ k, j = k + 1 := ⟨j - 1, by omega⟩
    have := (h k l[k] l[k + 1] (List.getElem?_eq_getElem (by omega)) (List.getElem?_eq_getElem hj)).2
    simp only [firstB, Bool.not_eq_true', decide_eq_false_iff_not, List.mem_map, not_exists, not_and] at this
    exact this l[i] (List.mem_take_iff_getElem.2 ⟨i, by omega, rfl⟩)
  simp [canonV, h1, h2]
attribute [local irreducible] RWp AW run kPe pe Kt effA gd gu br retR RDp runD kPeD brW gW effD
set_option maxRecDepth 100000
theorem l1Under_pc (a b : Str) (ha : pV a = true) (hb : pV b = true) : PC Tryz.prog 187 [sA a, sA b] (vB (und a b)) := by
  have hla : a.length < 100 := by unfold pV at ha; simp only [Bool.or_eq_true, Bool.and_eq_true, decide_eq_true_eq] at ha; rcases ha with rfl | h; simp [root]; omega
  have hlb : b.length < 100 := by unfold pV at hb; simp only [Bool.or_eq_true, Bool.and_eq_true, decide_eq_true_eq] at hb; rcases hb with rfl | h; simp [root]; omega
  refine pc_enter Tryz.func187 rfl rfl fun w0 fb => go_on ?_; (try simp only [Tryz.ntmps187, push_cast, simprocAttr])
  by_cases hr : a = root
  · have d1 : decide (a = [47]) = true := by simpa [root] using hr
    by_cases hb2 : b = root
    · have d2 : decide (b = [47]) = true := by simpa [root] using hb2
      have i0 : ltI (a.length : Int) b.length = false := ltI_f (by rw [hr, hb2]; omega)
      (try simp only [d1, d2, i0, Bool.not_true, push_cast, simprocAttr])
      refine at_ret ?_; simp only [Tryz.results187, push_cast, simprocAttr]
      simp [vX, und, hr, hb2]
    · have d2 : decide (b = [47]) = false := by simpa [root] using hb2
      (try simp only [d1, d2, Bool.not_false, push_cast, simprocAttr])
      refine at_ret ?_; simp only [Tryz.results187, push_cast, simprocAttr]
      simp [vX, und, hr, hb2]
  · have d1 : decide (a = [47]) = false := by simpa [root] using hr
    rw [← und_take ha hb hr]
    by_cases hl : a.length < b.length
    · have i0 : ltI (a.length : Int) b.length = true := ltI_t (by omega)
      have i1 : (a.length : Int) ≤ b.length := by omega
      (try simp only [d1, i0, i1, push_cast, simprocAttr])
      refine at_ret ?_; simp only [Tryz.results187, push_cast, simprocAttr]
      simp [vX, hl]
    · have i0 : ltI (a.length : Int) b.length = false := ltI_f (by omega)
      (try simp only [d1, i0, push_cast, simprocAttr])
      refine at_ret ?_; simp only [Tryz.results187, push_cast, simprocAttr]
      simp [vX, hl]
theorem l16Over_pc (c d : Cm) (hc : pV c.p = true) (hd : pV d.p = true) : PC Tryz.prog 172 [cmdA c, cmdA d] (vB (stops c d)) := by
  have hU := l1Under_pc c.p d.p hc hd
  have e : stops c d = (und c.p d.p && !eqI c.b.k 1 && !eqI d.b.k 0) := by unfold stops; rw [eqI_d, eqI_d]; simp
  unfold cmdA cmC
  refine pc_enter Tryz.func172 rfl rfl fun w0 fb => go_on ?_; (try simp only [Tryz.ntmps172, push_cast, simprocAttr])
  repeat' first | (refine at_b (fun hb => ?_) (fun hb => ?_) <;> simp only [hb, push_cast, simprocAttr]) | (refine at_ret ?_; simp only [Tryz.results172, push_cast, simprocAttr]) | (refine at_call ?_; (try simp only [push_cast, simprocAttr]); refine rwc_v (by first | exact hU) (go_on ?_); simp only [push_cast, simprocAttr]) | (show RWp _ _ _ _ _; simp only [push_cast, simprocAttr])
  all_goals simp [vX, e, *]
theorem l16Clash_pc (c d : Cm) (hc : pV c.p = true) (hd : pV d.p = true) : PC Tryz.prog 150 [cmdA c, cmdA d] (vB (clash c d)) := by
  have h1 := l16Over_pc c d hc hd
  have h2 := l16Over_pc d c hd hc
  have e : clash c d = ((decide (c.p = d.p) && !decide (c.b = d.b)) || stops c d || stops d c) := by unfold clash; simp
  unfold cmdA cmC at *
  refine pc_enter Tryz.func150 rfl rfl fun w0 fb => go_on ?_; (try simp only [Tryz.ntmps150, push_cast, simprocAttr])
  repeat' first | (refine at_b (fun hb => ?_) (fun hb => ?_) <;> simp only [ctg, cth, ct_eq, hb, push_cast, simprocAttr]) | (refine at_ret ?_; simp only [ctg, cth, ct_eq, Tryz.results150, push_cast, simprocAttr]) | (refine at_call ?_; (try simp only [push_cast, simprocAttr]); refine rwc_v (by first | exact h1 | exact h2) (go_on ?_); simp only [ctg, cth, ct_eq, push_cast, simprocAttr]) | (show RWp _ _ _ _ _; simp only [ctg, cth, ct_eq, push_cast, simprocAttr])
  all_goals simp [vX, e, *]
theorem specCanonValid_pc (l : List Cm) (hl : SmL l) : PC Tryz.prog 149 [cmA l] (vB (canonV l)) := by
  have hln := hl.n
  have hV := specLogValid_pc l hl
  refine pc_enter Tryz.func149 rfl rfl fun w0 fb => go_on ?_; (try simp only [Tryz.ntmps149, push_cast, simprocAttr])
  refine at_loop (X := Nat) (fun k => [(3, iA ((k : Int) + 1))]) (fun _ => []) (fun k => (k = 0 ∨ k < l.length) ∧ ∀ (j : Nat) x y, j < k → l[j]? = some x → l[j + 1]? = some y → cLt x y = true ∧ firstB l (j + 1) y.p = true) (fun k => l.length - k) 0 ⟨.inl rfl, fun j x y h => by omega⟩ ?_ ?_
  · (refine wk_ok ?_ ?_ ?_ ?_ <;> simp [leL, leH, idsL, idsA, idsR, inH, hget, sameRow, upA, hvA, dsts, dstO, setA_0, setA_1, setA_8, List.append, List.cons_append, List.nil_append])
  · rintro k ⟨q1, q2⟩
    simp only [upA, hvA, dsts, dstO, setA_0, setA_1, setA_8, List.append, List.cons_append, List.nil_append]
    refine go_on ?_
    (try simp only [push_cast, simprocAttr])
    by_cases hk : k + 1 < l.length
    · obtain ⟨x, hx⟩ := get_of_lt (l := l) (k := k) (by omega)
      obtain ⟨y, hy⟩ := get_of_lt hk
      have i0 : ltI ((k : Int) + 1) l.length = true := ltI_t (by omega)
      have w0' : IntKind.i64.wrap ((k : Int) + 1 - 1) = (k : Int) := by rw [show (k : Int) + 1 - 1 = k by omega]; exact wr _ (by omega)
      have w1 : IntKind.i64.wrap ((k : Int) + 1 + 1) = (k : Int) + 1 + 1 := wr _ (by omega)
      have i1 := ix_n hx
      have i3 : toIx ((k : Int) + 1) l.length = some (k + 1) := by have := ix_n hy; simpa using this
      have i2 := map_get cmC hx
      have i4 := map_get cmC hy
      have hB := l14Before_pc x y
      have hF := l14First_pc l (by omega) (k + 1) y hy
      unfold cmdA at hB
      simp only [cmC] at i2 i4 hB
      rw [show ((k + 1 : Nat) : Int) = (k : Int) + 1 by omega] at hF
      (try simp only [i0, push_cast, simprocAttr])
      refine at_draw rfl (by kernel_rfl) ?_
      (try simp only [i1, i2, w0', i3, i4, push_cast, simprocAttr])
      refine at_callD (by simp [clB, idsL, idsA, hget]) ?_
      (try simp only [push_cast, simprocAttr])
      refine rcd_v hB ?_
      cases hb : cLt x y with
      | false =>
        (try simp only [hb, Bool.not_false, push_cast, simprocAttr])
        refine at_done (by kernel_rfl) (by kernel_rfl) (go_on ?_)
        (try simp only [push_cast, simprocAttr])
        refine at_ret ?_; simp only [Tryz.results149, push_cast, simprocAttr]
        simp [vX, canon_fail hx hy (.inl hb)]
      | true =>
        (try simp only [hb, Bool.not_true, push_cast, simprocAttr])
        refine at_callD (by simp [clB, idsL, idsA, hget]) ?_
        (try simp only [push_cast, simprocAttr])
        refine rcd_v hF ?_
        cases hf : firstB l (k + 1) y.p with
        | false =>
          (try simp only [hf, Bool.not_false, push_cast, simprocAttr])
          refine at_done (by kernel_rfl) (by kernel_rfl) (go_on ?_)
          (try simp only [push_cast, simprocAttr])
          refine at_ret ?_; simp only [Tryz.results149, push_cast, simprocAttr]
          simp [vX, canon_fail hx hy (.inr hf)]
        | true =>
          (try simp only [hf, Bool.not_true, push_cast, simprocAttr])
          refine at_done (by kernel_rfl) (by kernel_rfl) (go_on ?_)
          (try simp only [w1, push_cast, simprocAttr])
          refine at_fin ⟨k + 1, ⟨.inr (by omega), fun j u v hj hu hv => ?_⟩, by omega, ?_⟩
          · rcases Nat.lt_or_ge j k with h | h
            · exact q2 j u v h hu hv
            · obtain rfl : j = k := by omega
              rw [hx] at hu
              rw [hy] at hv
              cases hu
              cases hv
              exact ⟨hb, hf⟩
          · (refine wk_ok ?_ ?_ ?_ ?_ <;> simp [show ((k + 1 : Nat) : Int) = (k : Int) + 1 by omega, leL, leH, idsL, idsA, idsR, inH, hget, sameRow, upA, hvA, dsts, dstO, setA_0, setA_1, setA_8, List.append, List.cons_append, List.nil_append])
    · have i0 : ltI ((k : Int) + 1) l.length = false := ltI_f (by omega)
      have e := canon_all fun j x y hx hy => q2 j x y (by have := lt_of_some hy; omega) hx hy
      (try simp only [i0, push_cast, simprocAttr])
      (refine at_call ?_; (try simp only [push_cast, simprocAttr]); refine rwc_v (hV) (go_on ?_); (try simp only [push_cast, simprocAttr]))
      refine at_ret ?_; simp only [Tryz.results149, push_cast, simprocAttr]
      simp [vX, e]
end Go.Proofs.YthifgndjpjaddaaGreatDoor
/-
  Walks: spec: l16Ok, l16Some, l16Has, ClashesOf, l42Ok, SessionClashes.
-/
namespace Go.Proofs.YthifgndjpjaddaaGreatDoor
open Go Go.RowKit Go.Proofs
/-- All paths are well formed. -/
def PvL (l : List Cm) : Prop := ∀ c ∈ l, pV c.p = true
theorem canonV_pv {l : List Cm} (h : canonV l = true) : PvL l := fun c hc => by
  unfold canonV at h
  simp only [Bool.and_eq_true] at h
  exact (lV_cv h.1.1 c hc).p
attribute [local irreducible] RWp AW run kPe pe Kt effA gd gu br retR RDp runD kPeD brW gW effD
set_option maxRecDepth 100000
theorem l16Ok_pc (a b : List Cm) (ha : SmL a) (hb : SmL b) : PC Tryz.prog 127 [cmA a, cmA b] (vB (canonV a && canonV b)) := by
  have h1 := specCanonValid_pc a ha
  have h2 := specCanonValid_pc b hb
  refine pc_enter Tryz.func127 rfl rfl fun w0 fb => go_on ?_; (try simp only [Tryz.ntmps127, push_cast, simprocAttr])
  repeat' first | (refine at_b (fun hb => ?_) (fun hb => ?_) <;> simp only [hb, push_cast, simprocAttr]) | (refine at_ret ?_; simp only [Tryz.results127, push_cast, simprocAttr]) | (refine at_call ?_; (try simp only [push_cast, simprocAttr]); refine rwc_v (by first | exact h1 | exact h2) (go_on ?_); simp only [push_cast, simprocAttr]) | (show RWp _ _ _ _ _; simp only [push_cast, simprocAttr])
  all_goals simp [vX, *]
theorem any_drop {α : Type} {p : α → Bool} {l : List α} {k : Nat} {x : α} (hx : l[k]? = some x) : (l.drop k).any p = (p x || (l.drop (k + 1)).any p) := by
  rw [drop_of_get hx, List.any_cons]
theorem l16Some_pc (l : List Cm) (hl : SmL l) (hp : PvL l) (c : Cm) (hc : pV c.p = true) : PC Tryz.prog 128 [cmA l, cmdA c] (vB (disp l c)) := by
  have hln := hl.n
  have e : disp l c = l.any fun d => clash d c := by unfold disp; congr 1; funext d; exact clash_symm c d
  rw [e]
  unfold cmdA cmC
  refine pc_enter Tryz.func128 rfl rfl fun w0 fb => go_on ?_; (try simp only [Tryz.ntmps128, push_cast, simprocAttr])
  refine at_loop (X := Nat) (fun k => [(5, iA k)]) (fun _ => [(3, ⟨68, 5, [cmC c], true⟩)]) (fun k => k ≤ l.length ∧ (l.any fun d => clash d c) = ((l.drop k).any fun d => clash d c)) (fun k => l.length - k) 0 ⟨Nat.zero_le _, rfl⟩ ?_ ?_
  · (refine wk_ok ?_ ?_ ?_ ?_ <;> simp [cmC, leL, leH, idsL, idsA, idsR, inH, hget, sameRow, upA, hvA, dsts, dstO, setA_0, setA_1, setA_8, List.append, List.cons_append, List.nil_append])
  · rintro k ⟨q1, q2⟩
    simp only [upA, hvA, dsts, dstO, setA_0, setA_1, setA_8, List.append, List.cons_append, List.nil_append]
    refine go_on ?_
    (try simp only [push_cast, simprocAttr])
    by_cases hk : k < l.length
    · obtain ⟨x, hx⟩ := get_of_lt hk
      have i0 : ltI (k : Int) l.length = true := ltI_t (by omega)
      have i1 := ix_n hx
      have i2 := map_get cmC hx
      have w1 := wr ((k : Int) + 1) (by omega)
      have hX := l16Clash_pc x c (hp x (mem_of_get hx)) hc
      unfold cmdA at hX
      simp only [cmC] at i2 hX
      rw [any_drop hx] at q2
      (try simp only [i0, push_cast, simprocAttr])
      refine at_draw rfl (by kernel_rfl) ?_
      (try simp only [i1, i2, cmC, push_cast, simprocAttr])
      refine at_callD (by simp [clB, idsL, idsA, hget]) ?_
      (try simp only [push_cast, simprocAttr])
      refine rcd_v hX ?_
      (try simp only [push_cast, simprocAttr])
      refine at_done (by kernel_rfl) (by kernel_rfl) (go_on ?_)
      cases hcl : clash x c with
      | true =>
        rw [hcl] at q2
        (try simp only [hcl, push_cast, simprocAttr])
        refine at_ret ?_; simp only [Tryz.results128, push_cast, simprocAttr]
        simp [vX, q2]
      | false =>
        rw [hcl] at q2
        (try simp only [hcl, w1, push_cast, simprocAttr])
        refine at_fin ⟨k + 1, ⟨by omega, by simpa using q2⟩, by omega, ?_⟩
        (refine wk_ok ?_ ?_ ?_ ?_ <;> simp [cmC, leL, leH, idsL, idsA, idsR, inH, hget, sameRow, upA, hvA, dsts, dstO, setA_0, setA_1, setA_8, List.append, List.cons_append, List.nil_append])
    · have i0 : ltI (k : Int) l.length = false := ltI_f (by omega)
      rw [List.drop_of_length_le (by omega)] at q2
      (try simp only [i0, push_cast, simprocAttr])
      refine at_ret ?_; simp only [Tryz.results128, push_cast, simprocAttr]
      simp [vX, q2]
theorem l16Has_pc (l : List Cm) (hl : SmL l) (c : Cm) : PC Tryz.prog 148 [cmA l, cmdA c] (vB (decide (c ∈ l))) := by
  have hln := hl.n
  have e : decide (c ∈ l) = l.any fun d => decide (d = c) := by
    rw [Bool.eq_iff_iff, List.any_eq_true, decide_eq_true_eq]
    exact ⟨fun h => ⟨c, h, by simp⟩, fun ⟨x, h1, h2⟩ => by simp at h2; rwa [← h2]⟩
  rw [e]
  unfold cmdA cmC
  refine pc_enter Tryz.func148 rfl rfl fun w0 fb => go_on ?_; (try simp only [Tryz.ntmps148, push_cast, simprocAttr])
  refine at_loop (X := Nat) (fun k => [(5, iA k)]) (fun _ => [(3, ⟨68, 5, [cmC c], true⟩)]) (fun k => k ≤ l.length ∧ (l.any fun d => decide (d = c)) = ((l.drop k).any fun d => decide (d = c))) (fun k => l.length - k) 0 ⟨Nat.zero_le _, rfl⟩ ?_ ?_
  · (refine wk_ok ?_ ?_ ?_ ?_ <;> simp [cmC, leL, leH, idsL, idsA, idsR, inH, hget, sameRow, upA, hvA, dsts, dstO, setA_0, setA_1, setA_8, List.append, List.cons_append, List.nil_append])
  · rintro k ⟨q1, q2⟩
    simp only [upA, hvA, dsts, dstO, setA_0, setA_1, setA_8, List.append, List.cons_append, List.nil_append]
    refine go_on ?_
    (try simp only [push_cast, simprocAttr])
    by_cases hk : k < l.length
    · obtain ⟨x, hx⟩ := get_of_lt hk
      have i0 : ltI (k : Int) l.length = true := ltI_t (by omega)
      have i1 := ix_n hx
      have i2 := map_get cmC hx
      have w1 := wr ((k : Int) + 1) (by omega)
      have e := cm_eq x c
      simp only [cmC] at i2
      rw [any_drop hx] at q2
      (try simp only [i0, push_cast, simprocAttr])
      refine at_draw rfl (by kernel_rfl) ?_
      (try simp only [i1, i2, cmC, ctg, cth, cmg, cmh, push_cast, simprocAttr])
      refine at_done (by kernel_rfl) (by kernel_rfl) (go_on ?_)
      (try simp only [e, push_cast, simprocAttr])
      refine at_b (fun hn => ?_) (fun hn => ?_)
      · rw [hn] at q2
        (try simp only [hn, push_cast, simprocAttr])
        refine at_ret ?_; simp only [Tryz.results148, push_cast, simprocAttr]
        simp [vX, q2]
      · have hn' : decide (x = c) = false := hn
        rw [hn'] at q2
        (try simp only [hn', w1, push_cast, simprocAttr])
        refine at_fin ⟨k + 1, ⟨by omega, by simpa using q2⟩, by omega, ?_⟩
        (refine wk_ok ?_ ?_ ?_ ?_ <;> simp [cmC, leL, leH, idsL, idsA, idsR, inH, hget, sameRow, upA, hvA, dsts, dstO, setA_0, setA_1, setA_8, List.append, List.cons_append, List.nil_append])
    · have i0 : ltI (k : Int) l.length = false := ltI_f (by omega)
      rw [List.drop_of_length_le (by omega)] at q2
      (try simp only [i0, push_cast, simprocAttr])
      refine at_ret ?_; simp only [Tryz.results148, push_cast, simprocAttr]
      simp [vX, q2]
end Go.Proofs.YthifgndjpjaddaaGreatDoor
/-
  Walks: spec: l42Trees, l42Ok, SessionClashes.
-/
namespace Go.Proofs.YthifgndjpjaddaaGreatDoor
open Go Go.RowKit Go.Proofs
attribute [local irreducible] RWp AW run kPe pe Kt effA gd gu br retR RDp runD kPeD brW gW effD
set_option maxRecDepth 100000
theorem l42Trees_pc (a b : List Nd) (hl : a.length < 4294967281) : PC Tryz.prog 122 [ndA a, ndA b] (vB (decide (a = b))) := by
  refine pc_enter Tryz.func122 rfl rfl fun w0 fb => go_on ?_; (try simp only [Tryz.ntmps122, push_cast, simprocAttr])
  refine at_b (fun hb => ?_) (fun hb => ?_)
  · have h1 := of_eqI_f (not_t hb)
    have h2 : a ≠ b := by rintro rfl; exact h1 rfl
    (try simp only [hb, push_cast, simprocAttr])
    refine at_ret ?_; simp only [Tryz.results122, push_cast, simprocAttr]
    simp [vX, h2]
  · have h1 : a.length = b.length := by have := of_eqI_t (not_f hb); omega
    (try simp only [hb, push_cast, simprocAttr])
    refine at_loop (X := Nat) (fun k => [(5, iA k)]) (fun _ => []) (fun k => k ≤ a.length ∧ decide (a = b) = decide (a.drop k = b.drop k)) (fun k => a.length - k) 0 ⟨Nat.zero_le _, rfl⟩ ?_ ?_
    · (refine wk_ok ?_ ?_ ?_ ?_ <;> simp [leL, leH, idsL, idsA, idsR, inH, hget, sameRow, upA, hvA, dsts, dstO, setA_0, setA_1, setA_8, List.append, List.cons_append, List.nil_append])
    · rintro k ⟨q1, q2⟩
      simp only [upA, hvA, dsts, dstO, setA_0, setA_1, setA_8, List.append, List.cons_append, List.nil_append]
      refine go_on ?_
      (try simp only [push_cast, simprocAttr])
      refine at_b (fun hg => ?_) (fun hg => ?_)
      · have hlt := lt_tt hg
        obtain ⟨x, hx⟩ := get_of_lt hlt
        obtain ⟨y, hy⟩ := get_of_lt (l := b) (k := k) (by omega)
        have i1 := ix_n hx
        have i3 := ix_n hy
        have i2 := map_get ndC hx
        have i4 := map_get ndC hy
        simp only [ndC] at i2 i4
        rw [drop_of_get hx, drop_of_get hy] at q2
        have w2 := wr ((k : Int) + 1) (by omega)
        (try simp only [hg, push_cast, simprocAttr])
        refine at_draw rfl (by kernel_rfl) ?_
        (try simp only [i1, i2, i3, i4, ctg, cth, ndg, ndh, push_cast, simprocAttr])
        refine at_done (by kernel_rfl) (by kernel_rfl) (go_on ?_)
        have e : (decide (x.p = y.p) && (eqI x.c.k y.c.k && eqI x.c.v y.c.v)) = decide (x = y) := by
          rw [Bool.eq_iff_iff]; simp [eqI_d, nd_ext, ct_ext]
        (try simp only [e, push_cast, simprocAttr])
        refine at_b (fun hn => ?_) (fun hn => ?_)
        · have hxy : x ≠ y := by simpa using hn
          (try simp only [hn, push_cast, simprocAttr])
          refine at_ret ?_; simp only [Tryz.results122, push_cast, simprocAttr]
          simp [vX, q2, hxy]
        · have hxy : x = y := by simpa using hn
          (try simp only [hn, w2, push_cast, simprocAttr])
          refine at_fin ⟨k + 1, ⟨by omega, ?_⟩, by omega, ?_⟩
          · rw [q2]; simp [hxy]
          · (refine wk_ok ?_ ?_ ?_ ?_ <;> simp [leL, leH, idsL, idsA, idsR, inH, hget, sameRow, upA, hvA, dsts, dstO, setA_0, setA_1, setA_8, List.append, List.cons_append, List.nil_append])
      · have h3 := lt_ff hg
        (try simp only [hg, push_cast, simprocAttr])
        refine at_ret ?_; simp only [Tryz.results122, push_cast, simprocAttr]
        rw [List.drop_of_length_le h3, List.drop_of_length_le (by omega)] at q2
        simp [vX, q2]
theorem l42Ok_pc (a b : St) (ha : SmS a) (hb : SmS b) : PC Tryz.prog 96 [stA' a, stA' b] (vB (meet a b)) := by
  have h1 := specSiteValid_pc a ha
  have h2 := specSiteValid_pc b hb
  have h3 := l42Trees_pc a.base b.base (by have := ha.t.n; omega)
  have e : meet a b = (siteV a && siteV b && eqI a.ep b.ep && ltI a.ep 99 && decide (a.base = b.base)) := by
    unfold meet ltI; rw [eqI_d]
    cases siteV a <;> cases siteV b <;> cases decide (a.base = b.base) <;> cases decide (a.ep = b.ep) <;> cases decide (a.ep < 99) <;> rfl
  unfold stA' stC at *
  refine pc_enter Tryz.func96 rfl rfl fun w0 fb => go_on ?_; (try simp only [Tryz.ntmps96, push_cast, simprocAttr])
  repeat' first | (refine at_b (fun hb => ?_) (fun hb => ?_) <;> simp only [hb, push_cast, simprocAttr]) | (refine at_ret ?_; simp only [Tryz.results96, push_cast, simprocAttr]) | (refine at_call ?_; (try simp only [push_cast, simprocAttr]); refine rwc_v (by first | exact h1 | exact h2 | exact h3) (go_on ?_); simp only [push_cast, simprocAttr]) | (show RWp _ _ _ _ _; simp only [push_cast, simprocAttr])
  all_goals simp [vX, e, *]
end Go.Proofs.YthifgndjpjaddaaGreatDoor
/-
  Walks: spec: SafeOf, LeftOf, PairFits.
-/
namespace Go.Proofs.YthifgndjpjaddaaGreatDoor
open Go Go.RowKit Go.Proofs
attribute [local irreducible] RWp AW run kPe pe Kt effA gd gu br retR RDp runD kPeD brW gW effD
set_option maxRecDepth 100000
theorem specSafeOf_pc (a b : List Cm) (ha : SmL a) (hb : SmL b) : PC Tryz.prog 126 [cmA a, cmA b] (rX (.o 0 (safeOf a b).length) [rowC (safeOf a b)]) := by
  have hO := l16Ok_pc a b ha hb
  have hln := hb.n
  refine pc_enter Tryz.func126 rfl rfl fun w0 fb => go_on ?_; (try simp only [Tryz.ntmps126, push_cast, simprocAttr])
  cases hc : (canonV a && canonV b) with
  | false =>
    have e : safeOf a b = [] := by simp [safeOf, hc]
    rw [hc] at hO
    refine at_loop (X := Unit) (fun _ => [(4, .any), (5, .o 7 0), (6, iA 0)]) (fun _ => [(7, rowC [])]) (fun _ => True) (fun _ => 0) () trivial ?_ ?_
    · (refine wk_ok ?_ ?_ ?_ ?_ <;> simp [rowC, leL, leH, idsL, idsA, idsR, inH, hget, sameRow, upA, hvA, dsts, dstO, setA_0, setA_1, setA_8, List.append, List.cons_append, List.nil_append])
    · rintro ⟨⟩ -
      simp only [upA, hvA, dsts, dstO, setA_0, setA_1, setA_8, List.append, List.cons_append, List.nil_append]
      refine go_on ?_
      (try simp only [push_cast, simprocAttr])
      by_cases hi : 0 < b.length
      · have i0 : ltI 0 (b.length : Int) = true := ltI_t (by omega)
        (try simp only [i0, push_cast, simprocAttr])
        (refine at_call ?_; (try simp only [push_cast, simprocAttr]); refine rwc_v (hO) (go_on ?_); (try simp only [push_cast, simprocAttr]))
        refine at_ret ?_; simp only [Tryz.results126, push_cast, simprocAttr]
        simp [rX, e, ixOf]
      · have i0 : ltI 0 (b.length : Int) = false := ltI_f (by omega)
        (try simp only [i0, push_cast, simprocAttr])
        refine at_ret ?_; simp only [Tryz.results126, push_cast, simprocAttr]
        simp [rX, e, ixOf]
  | true =>
    rw [hc] at hO
    have e : safeOf a b = b.filter (fun c => !decide (c ∈ a) && !disp a c) := by simp [safeOf, hc]
    simp only [Bool.and_eq_true] at hc
    have hla := canonV_le hc.1
    have hlb := canonV_le hc.2
    have hpa := canonV_pv hc.1
    have hpb := canonV_pv hc.2
    rw [e]
    refine at_loop (X := Nat × List Cm) (fun x => [(4, .any), (7, .any), (5, .o 7 x.2.length), (6, iA x.1)]) (fun x => [(7, rowC x.2)])
      (fun x => x.1 ≤ b.length ∧ x.2 = (b.take x.1).filter (fun c => !decide (c ∈ a) && !disp a c)) (fun x => b.length - x.1) (0, []) ⟨Nat.zero_le _, rfl⟩ ?_ ?_
    · (refine wk_ok ?_ ?_ ?_ ?_ <;> simp [rowC, leL, leH, idsL, idsA, idsR, inH, hget, sameRow, upA, hvA, dsts, dstO, setA_0, setA_1, setA_8, List.append, List.cons_append, List.nil_append])
    · rintro ⟨i, o⟩ ⟨q1, q2⟩
      simp only at q1 q2
      simp only [upA, hvA, dsts, dstO, setA_0, setA_1, setA_8, List.append, List.cons_append, List.nil_append]
      refine go_on ?_
      (try simp only [push_cast, simprocAttr])
      have w1 : IntKind.i64.wrap ((i : Int) + 1) = (i : Int) + 1 := wr _ (by omega)
      have hol : o.length ≤ i := by rw [q2]; exact Nat.le_trans (List.length_filter_le _ _) (by simp; omega)
      by_cases hi : i < b.length
      · obtain ⟨c, hc⟩ := get_of_lt hi
        have i0 : ltI (i : Int) b.length = true := ltI_t (by omega)
        have i1 := ix_n hc
        have i2 := map_get cmC hc
        have hS := l16Some_pc a ha hpa c (hpb c (mem_of_get hc))
        have hH := l16Has_pc a ha c
        unfold cmdA at hS hH
        simp only [cmC] at i2 hS hH
        have hq : (b.take (i + 1)).filter (fun c => !decide (c ∈ a) && !disp a c) = o ++ (if !decide (c ∈ a) && !disp a c then [c] else []) := by
          rw [List.take_add_one, hc, List.filter_append, ← q2]
          cases hpc : (!decide (c ∈ a) && !disp a c) <;> simp [hpc]
        (try simp only [i0, push_cast, simprocAttr])
        (refine at_call ?_; (try simp only [push_cast, simprocAttr]); refine rwc_v (hO) (go_on ?_); (try simp only [push_cast, simprocAttr]))
        (try simp only [i1, i2, push_cast, simprocAttr])
        (refine at_call ?_; (try simp only [push_cast, simprocAttr]); refine rwc_v (hS) (go_on ?_); (try simp only [push_cast, simprocAttr]))
        cases hd : disp a c with
        | true =>
          rw [hd, Bool.not_true, Bool.and_false, if_neg (by simp), List.append_nil] at hq
          (try simp only [hd, Bool.not_true, w1, push_cast, simprocAttr])
          refine at_fin ⟨(i + 1, o), ⟨by dsimp only; omega, hq.symm⟩, by dsimp only; omega, ?_⟩
          (refine wk_ok ?_ ?_ ?_ ?_ <;> simp [rowC, cmC, leL, leH, idsL, idsA, idsR, inH, hget, sameRow, upA, hvA, dsts, dstO, setA_0, setA_1, setA_8, List.append, List.cons_append, List.nil_append])
        | false =>
          rw [hd, Bool.not_false, Bool.and_true] at hq
          (try simp only [hd, Bool.not_false, i1, i2, push_cast, simprocAttr])
          (refine at_call ?_; (try simp only [push_cast, simprocAttr]); refine rwc_v (hH) (go_on ?_); (try simp only [push_cast, simprocAttr]))
          refine at_b (fun hm => ?_) (fun hm => ?_)
          · have hm' : decide (c ∈ a) = false := by simpa using hm
            rw [hm', Bool.not_false, if_pos rfl] at hq
            have happ : o.map cmC ++ [[sA c.p, iA c.a.k, iA c.a.v, iA c.b.k, iA c.b.v]] = (o ++ [c]).map cmC := by rw [List.map_append]; rfl
            (try simp only [hm', Bool.not_false, i1, i2, rowC, push_cast, simprocAttr])
            refine at_chk (by omega) ?_
            (try simp only [happ, rowC, w1, push_cast, simprocAttr])
            refine at_fin ⟨(i + 1, o ++ [c]), ⟨by dsimp only; omega, hq.symm⟩, by dsimp only; omega, ?_⟩
            (refine wk_ok ?_ ?_ ?_ ?_ <;> simp [rowC, cmC, leL, leH, idsL, idsA, idsR, inH, hget, sameRow, upA, hvA, dsts, dstO, setA_0, setA_1, setA_8, List.append, List.cons_append, List.nil_append])
          · have hm' : decide (c ∈ a) = true := by simpa using hm
            rw [hm', Bool.not_true, if_neg (by simp), List.append_nil] at hq
            (try simp only [hm', Bool.not_true, w1, push_cast, simprocAttr])
            refine at_fin ⟨(i + 1, o), ⟨by dsimp only; omega, hq.symm⟩, by dsimp only; omega, ?_⟩
            (refine wk_ok ?_ ?_ ?_ ?_ <;> simp [rowC, cmC, leL, leH, idsL, idsA, idsR, inH, hget, sameRow, upA, hvA, dsts, dstO, setA_0, setA_1, setA_8, List.append, List.cons_append, List.nil_append])
      · have i0 : ltI (i : Int) b.length = false := ltI_f (by omega)
        rw [List.take_of_length_le (by omega)] at q2
        (try simp only [i0, push_cast, simprocAttr])
        refine at_ret ?_; simp only [Tryz.results126, push_cast, simprocAttr]
        simp [rX, ← q2, ixOf]
theorem specLeftOf_pc (a b : List Cm) (ha : SmL a) (hb : SmL b) : PC Tryz.prog 100 [cmA a, cmA b] (rX (.o 0 (leftOf a b).length) [rowC (leftOf a b)]) := by
  have hO := l16Ok_pc a b ha hb
  have hln := ha.n
  refine pc_enter Tryz.func100 rfl rfl fun w0 fb => go_on ?_; (try simp only [Tryz.ntmps100, push_cast, simprocAttr])
  cases hc : (canonV a && canonV b) with
  | false =>
    have e : leftOf a b = [] := by simp [leftOf, hc]
    rw [hc] at hO
    refine at_loop (X := Unit) (fun _ => [(4, .any), (5, .o 7 0), (6, iA 0)]) (fun _ => [(7, rowC [])]) (fun _ => True) (fun _ => 0) () trivial ?_ ?_
    · (refine wk_ok ?_ ?_ ?_ ?_ <;> simp [rowC, leL, leH, idsL, idsA, idsR, inH, hget, sameRow, upA, hvA, dsts, dstO, setA_0, setA_1, setA_8, List.append, List.cons_append, List.nil_append])
    · rintro ⟨⟩ -
      simp only [upA, hvA, dsts, dstO, setA_0, setA_1, setA_8, List.append, List.cons_append, List.nil_append]
      refine go_on ?_
      (try simp only [push_cast, simprocAttr])
      by_cases hi : 0 < a.length
      · have i0 : ltI 0 (a.length : Int) = true := ltI_t (by omega)
        (try simp only [i0, push_cast, simprocAttr])
        (refine at_call ?_; (try simp only [push_cast, simprocAttr]); refine rwc_v (hO) (go_on ?_); (try simp only [push_cast, simprocAttr]))
        refine at_ret ?_; simp only [Tryz.results100, push_cast, simprocAttr]
        simp [rX, e, ixOf]
      · have i0 : ltI 0 (a.length : Int) = false := ltI_f (by omega)
        (try simp only [i0, push_cast, simprocAttr])
        refine at_ret ?_; simp only [Tryz.results100, push_cast, simprocAttr]
        simp [rX, e, ixOf]
  | true =>
    rw [hc] at hO
    have e : leftOf a b = a.filter (disp b) := by simp [leftOf, hc]
    simp only [Bool.and_eq_true] at hc
    have hla := canonV_le hc.1
    have hlb := canonV_le hc.2
    have hpa := canonV_pv hc.1
    have hpb := canonV_pv hc.2
    rw [e]
    refine at_loop (X := Nat × List Cm) (fun x => [(4, .any), (7, .any), (5, .o 7 x.2.length), (6, iA x.1)]) (fun x => [(7, rowC x.2)])
      (fun x => x.1 ≤ a.length ∧ x.2 = (a.take x.1).filter (disp b)) (fun x => a.length - x.1) (0, []) ⟨Nat.zero_le _, rfl⟩ ?_ ?_
    · (refine wk_ok ?_ ?_ ?_ ?_ <;> simp [rowC, leL, leH, idsL, idsA, idsR, inH, hget, sameRow, upA, hvA, dsts, dstO, setA_0, setA_1, setA_8, List.append, List.cons_append, List.nil_append])
    · rintro ⟨i, o⟩ ⟨q1, q2⟩
      simp only at q1 q2
      simp only [upA, hvA, dsts, dstO, setA_0, setA_1, setA_8, List.append, List.cons_append, List.nil_append]
      refine go_on ?_
      (try simp only [push_cast, simprocAttr])
      have w1 : IntKind.i64.wrap ((i : Int) + 1) = (i : Int) + 1 := wr _ (by omega)
      have hol : o.length ≤ i := by rw [q2]; exact Nat.le_trans (List.length_filter_le _ _) (by simp; omega)
      by_cases hi : i < a.length
      · obtain ⟨c, hc⟩ := get_of_lt hi
        have i0 : ltI (i : Int) a.length = true := ltI_t (by omega)
        have i1 := ix_n hc
        have i2 := map_get cmC hc
        have hS := l16Some_pc b hb hpb c (hpa c (mem_of_get hc))
        unfold cmdA at hS
        simp only [cmC] at i2 hS
        have hq : (a.take (i + 1)).filter (disp b) = o ++ (if disp b c then [c] else []) := by
          rw [List.take_add_one, hc, List.filter_append, ← q2]
          cases hpc : disp b c <;> simp [hpc]
        (try simp only [i0, push_cast, simprocAttr])
        (refine at_call ?_; (try simp only [push_cast, simprocAttr]); refine rwc_v (hO) (go_on ?_); (try simp only [push_cast, simprocAttr]))
        (try simp only [i1, i2, push_cast, simprocAttr])
        (refine at_call ?_; (try simp only [push_cast, simprocAttr]); refine rwc_v (hS) (go_on ?_); (try simp only [push_cast, simprocAttr]))
        cases hd : disp b c with
        | false =>
          rw [hd, if_neg (by simp), List.append_nil] at hq
          (try simp only [hd, w1, push_cast, simprocAttr])
          refine at_fin ⟨(i + 1, o), ⟨by dsimp only; omega, hq.symm⟩, by dsimp only; omega, ?_⟩
          (refine wk_ok ?_ ?_ ?_ ?_ <;> simp [rowC, cmC, leL, leH, idsL, idsA, idsR, inH, hget, sameRow, upA, hvA, dsts, dstO, setA_0, setA_1, setA_8, List.append, List.cons_append, List.nil_append])
        | true =>
          rw [hd, if_pos rfl] at hq
          have happ : o.map cmC ++ [[sA c.p, iA c.a.k, iA c.a.v, iA c.b.k, iA c.b.v]] = (o ++ [c]).map cmC := by rw [List.map_append]; rfl
          (try simp only [hd, i1, i2, rowC, push_cast, simprocAttr])
          refine at_chk (by omega) ?_
          (try simp only [happ, rowC, w1, push_cast, simprocAttr])
          refine at_fin ⟨(i + 1, o ++ [c]), ⟨by dsimp only; omega, hq.symm⟩, by dsimp only; omega, ?_⟩
          (refine wk_ok ?_ ?_ ?_ ?_ <;> simp [rowC, cmC, leL, leH, idsL, idsA, idsR, inH, hget, sameRow, upA, hvA, dsts, dstO, setA_0, setA_1, setA_8, List.append, List.cons_append, List.nil_append])
      · have i0 : ltI (i : Int) a.length = false := ltI_f (by omega)
        rw [List.take_of_length_le (by omega)] at q2
        (try simp only [i0, push_cast, simprocAttr])
        refine at_ret ?_; simp only [Tryz.results100, push_cast, simprocAttr]
        simp [rX, ← q2, ixOf]
theorem specPairFits_pc (t : List Nd) (ht : SmT2 t) (a b : List Cm) (ha : SmL a) (hb : SmL b) : PC Tryz.prog 124 [ndA t, cmA a, cmA b] (vB (pairFits t a b)) := by
  have h1 := l16Ok_pc a b ha hb
  have h3 := specLogFits_pc t ht a ha
  have h4 := specLogFits_pc t ht b hb
  obtain ⟨u, hu⟩ : ∃ u, u = (canonV a && canonV b) := ⟨_, rfl⟩
  have e : pairFits t a b = (u && fits t a && fits t b) := by rw [hu]; rfl
  rw [← hu] at h1
  clear hu
  refine pc_enter Tryz.func124 rfl rfl fun w0 fb => go_on ?_; (try simp only [Tryz.ntmps124, push_cast, simprocAttr])
  repeat' first | (refine at_b (fun hb => ?_) (fun hb => ?_) <;> simp only [hb, push_cast, simprocAttr]) | (refine at_ret ?_; simp only [Tryz.results124, push_cast, simprocAttr]) | (refine at_call ?_; (try simp only [push_cast, simprocAttr]); refine rwc_v (by first | exact h1 | exact h3 | exact h4) (go_on ?_); simp only [push_cast, simprocAttr]) | (show RWp _ _ _ _ _; simp only [push_cast, simprocAttr])
  all_goals simp [vX, e, *]
end Go.Proofs.YthifgndjpjaddaaGreatDoor
/-
  Walks: spec: l21Kept, PairTree, PairBase.
-/
namespace Go.Proofs.YthifgndjpjaddaaGreatDoor
open Go Go.RowKit Go.Proofs
attribute [local irreducible] RWp AW run kPe pe Kt effA gd gu br retR RDp runD kPeD brW gW effD
set_option maxRecDepth 100000
theorem l21Kept_pc (a b : List Cm) (ha : SmL a) (hb : SmL b) (h1 : canonV a = true) (h2 : canonV b = true) : PC Tryz.prog 125 [cmA a, cmA b] (vX (cmA (cSort (kept a b)))) := by
  have hS := specSafeOf_pc a b ha hb
  have hla := canonV_le h1
  have hlb := canonV_le h2
  have hpa := canonV_pv h1
  have hpb := canonV_pv h2
  have h3 := safeOf_len a b
  refine pc_enter Tryz.func125 rfl rfl fun w0 fb => go_on ?_; (try simp only [Tryz.ntmps125, push_cast, simprocAttr])
  (refine at_call ?_; (try simp only [push_cast, simprocAttr]); refine rwc_r (hS) rfl (flat_c _) (by simp [frB, baseOf]) (go_on ?_); (try simp only [push_cast, simprocAttr]))
  refine at_loop (X := Nat × List Cm) (fun x => [(4, .any), (9, .any), (5, .o 10000 x.2.length), (6, iA x.1)]) (fun x => [(10000, rowC x.2)])
    (fun x => x.1 ≤ a.length ∧ x.2 = safeOf a b ++ (a.take x.1).filter fun c => !disp b c) (fun x => a.length - x.1) (0, safeOf a b) ⟨Nat.zero_le _, by simp⟩ ?_ ?_
  · (refine wk_ok ?_ ?_ ?_ ?_ <;> simp [rowC, leL, leH, idsL, idsA, idsR, inH, hget, sameRow, upA, hvA, dsts, dstO, setA_0, setA_1, setA_8, List.append, List.cons_append, List.nil_append])
  · rintro ⟨i, o⟩ ⟨q1, q2⟩
    simp only at q1 q2
    simp only [upA, hvA, dsts, dstO, setA_0, setA_1, setA_8, List.append, List.cons_append, List.nil_append]
    have w1 : IntKind.i64.wrap ((i : Int) + 1) = (i : Int) + 1 := wr _ (by omega)
    have hol : o.length ≤ b.length + i := by
      have := List.length_filter_le (fun c => !disp b c) (a.take i)
      rw [q2]; simp only [List.length_append]; simp only [List.length_take] at this; omega
    by_cases hi : i < a.length
    · refine go_on ?_
      (try simp only [push_cast, simprocAttr])
      obtain ⟨c, hc⟩ := get_of_lt hi
      have i0 : ltI (i : Int) a.length = true := ltI_t (by omega)
      have i1 := ix_n hc
      have i2 := map_get cmC hc
      have hP := l16Some_pc b hb hpb c (hpa c (mem_of_get hc))
      unfold cmdA at hP
      simp only [cmC] at i2 hP
      (try simp only [i0, i1, i2, push_cast, simprocAttr])
      (refine at_call ?_; (try simp only [push_cast, simprocAttr]); refine rwc_v (hP) (go_on ?_); (try simp only [push_cast, simprocAttr]))
      have hq : safeOf a b ++ (a.take (i + 1)).filter (fun c => !disp b c) = o ++ (if disp b c then [] else [c]) := by
        rw [List.take_add_one, hc, List.filter_append, q2, List.append_assoc]
        cases hpc : disp b c <;> simp [hpc]
      cases hpc : disp b c with
      | false =>
        rw [hpc, if_neg (by simp)] at hq
        have happ : o.map cmC ++ [[sA c.p, iA c.a.k, iA c.a.v, iA c.b.k, iA c.b.v]] = (o ++ [c]).map cmC := by rw [List.map_append]; rfl
        (try simp only [hpc, Bool.not_false, i1, i2, rowC, push_cast, simprocAttr])
        refine at_chk (by omega) ?_
        (try simp only [happ, rowC, w1, push_cast, simprocAttr])
        refine at_fin ⟨(i + 1, o ++ [c]), ⟨by dsimp only; omega, hq.symm⟩, by dsimp only; omega, ?_⟩
        (refine wk_ok ?_ ?_ ?_ ?_ <;> simp [rowC, cmC, leL, leH, idsL, idsA, idsR, inH, hget, sameRow, upA, hvA, dsts, dstO, setA_0, setA_1, setA_8, List.append, List.cons_append, List.nil_append])
      | true =>
        rw [hpc, if_pos rfl, List.append_nil] at hq
        (try simp only [hpc, Bool.not_true, w1, push_cast, simprocAttr])
        refine at_fin ⟨(i + 1, o), ⟨by dsimp only; omega, hq.symm⟩, by dsimp only; omega, ?_⟩
        (refine wk_ok ?_ ?_ ?_ ?_ <;> simp [rowC, cmC, leL, leH, idsL, idsA, idsR, inH, hget, sameRow, upA, hvA, dsts, dstO, setA_0, setA_1, setA_8, List.append, List.cons_append, List.nil_append])
    · have i0 : ltI (i : Int) a.length = false := ltI_f (by omega)
      rw [List.take_of_length_le (by omega)] at q2
      have hk : o = kept a b := q2
      rw [← hk]
      have hSo := l14Sort_pc o (by omega)
      refine go_on_n 12 ?_
      (try simp only [i0, run_0, push_cast, simprocAttr])
      refine at_more ?_
      (refine at_frzS [10000] (by refine wk_frz ?_ ?_ ?_ ?_ <;> simp [frzS, frzT, hasN, delL, hdel, leF, leHF, frzB, idsL, idsA, idsR, inH, hget, sameRow, viewN, tk]) ?_; simp only [frzS, frzT, hasN, delL, hdel, idsA, idsL, viewN, hget, List.map_cons, List.map_nil, List.all_cons, List.all_nil, List.append_nil, List.drop, List.getElem?_cons_zero, List.getElem?_cons_succ, Bool.not_false, Bool.not_true, Bool.and_true, if_true, if_false, simprocAttr])
      refine go_on ?_
      (try simp only [push_cast, simprocAttr])
      ((try simp only [push_cast, simprocAttr]); refine at_share (by first | rfl | simp [isC]) (by first | rfl | simp only [ren]) (hSo) (go_on ?_); (try simp only [push_cast, simprocAttr]))
      refine at_ret ?_; simp only [Tryz.results125, push_cast, simprocAttr]
      simp [vX]
end Go.Proofs.YthifgndjpjaddaaGreatDoor
/-
  Walks: spec: PairTree, PairBase.
-/
namespace Go.Proofs.YthifgndjpjaddaaGreatDoor
open Go Go.RowKit Go.Proofs
theorem specSafeOf_d (a b : List Cm) (ha : SmL a) (hb : SmL b) : PC Tryz.prog 126 [cmA a, cmA b] (vX (cmA (safeOf a b))) := by
  have := (specSafeOf_pc a b ha hb).frzX
  simpa [viewN, hpOf, hget, isC, tk] using this
theorem specLeftOf_d (a b : List Cm) (ha : SmL a) (hb : SmL b) : PC Tryz.prog 100 [cmA a, cmA b] (vX (cmA (leftOf a b))) := by
  have := (specLeftOf_pc a b ha hb).frzX
  simpa [viewN, hpOf, hget, isC, tk] using this
def tbV (x : Option (List Nd)) : AV → List Row → Prop := vX (.tup [ndA (x.getD []), bA x.isSome])
attribute [local irreducible] RWp AW run kPe pe Kt effA gd gu br retR RDp runD kPeD brW gW effD
set_option maxRecDepth 100000
theorem specPairTree_pc (t : List Nd) (ht : SmT2 t) (a b : List Cm) (ha : SmL a) (hb : SmL b) : PC Tryz.prog 99 [ndA t, cmA a, cmA b] (tbV (pairTree t a b)) := by
  have hF := specPairFits_pc t ht a b ha hb
  have hS := specSafeOf_d a b ha hb
  have hA := specLogApply_pc t ht a ha
  refine pc_enter Tryz.func99 rfl rfl fun w0 fb => go_on ?_; (try simp only [Tryz.ntmps99, push_cast, simprocAttr])
  refine at_call ?_
  (try simp only [push_cast, simprocAttr])
  refine rwc_v hF ?_
  (try simp only [push_cast, simprocAttr])
  (refine at_dropS [6] (by refine wk_ok ?_ ?_ ?_ ?_ <;> simp [dropS, dropT, hasN, delL, hdel, leL, leH, idsL, idsA, idsR, inH, hget, sameRow]) ?_; simp only [dropS, dropT, hasN, delL, hdel, idsA, idsL, hget, List.map_cons, List.map_nil, List.all_cons, List.all_nil, List.append_nil, Bool.not_false, Bool.not_true, Bool.and_true, if_true, if_false, simprocAttr])
  refine go_on ?_
  (try simp only [push_cast, simprocAttr])
  cases hf : pairFits t a b with
  | false =>
    have e : pairTree t a b = none := by simp [pairTree, hf]
    (try simp only [hf, Bool.not_false, push_cast, simprocAttr])
    refine at_retf ?_; simp only [Tryz.results99, push_cast, simprocAttr]
    simp [tbV, vX, e, ixOf]
  | true =>
    obtain ⟨ta, tb, h⟩ := (pairFits_iff t a b).1 hf
    obtain ⟨hc1, hc2⟩ := pf_cv hf
    have e1 : lap t a = (ta, (a.length : Int)) := by
      unfold lap
      have : lV a = true := by unfold canonV at hc1; simp only [Bool.and_eq_true] at hc1; exact hc1.1.1
      rw [if_pos (by rw [(tV_iff t).2 h.tv, this]; rfl), h.fa]
    rw [e1] at hA
    have hta : SmT2 ta := sm_tv h.tva
    have hsv : lV (safeOf a b) = true := lV_mk h.safe_co.cv (by have := safeOf_len a b; have := canonV_le hc2; omega)
    have hB := specLogApply_pc ta hta (safeOf a b) (sm_safe hb)
    have e2 : lap ta (safeOf a b) = ((apAll ta (safeOf a b)).1, ((apAll ta (safeOf a b)).2 : Int)) := by
      unfold lap
      rw [if_pos (by rw [(tV_iff ta).2 h.tva, hsv]; rfl)]
    rw [e2] at hB
    (try simp only [hf, Bool.not_true, push_cast, simprocAttr])
    ((try simp only [push_cast, simprocAttr]); refine at_share2 (by simp [isC2, isC]) (by first | rfl | simp [ren]) (hA) (go_on ?_); (try simp only [push_cast, simprocAttr]))
    ((try simp only [push_cast, simprocAttr]); refine at_share2 (by simp [isC2, isC]) (by first | rfl | simp [ren]) (hS) (go_on ?_); (try simp only [push_cast, simprocAttr]))
    ((try simp only [push_cast, simprocAttr]); refine at_share2 (by simp [isC2, isC]) (by first | rfl | simp [ren]) (hB) (go_on ?_); (try simp only [push_cast, simprocAttr]))
    by_cases hn : (apAll ta (safeOf a b)).2 = (safeOf a b).length
    · have i0 : eqI ((apAll ta (safeOf a b)).2 : Int) (safeOf a b).length = true := eqI_t (by omega)
      have e : pairTree t a b = some (apAll ta (safeOf a b)).1 := h.tree.2 (by rw [← hn])
      (try simp only [i0, Bool.not_true, push_cast, simprocAttr])
      refine at_ret ?_; simp only [Tryz.results99, push_cast, simprocAttr]
      simp [tbV, vX, e]
    · have i0 : eqI ((apAll ta (safeOf a b)).2 : Int) (safeOf a b).length = false := eqI_f (by omega)
      have e : pairTree t a b = none := by
        cases hx : pairTree t a b with
        | none => rfl
        | some T => exact absurd (by rw [h.tree.1 hx]) hn
      (try simp only [i0, Bool.not_false, push_cast, simprocAttr])
      refine at_retf ?_; simp only [Tryz.results99, push_cast, simprocAttr]
      simp [tbV, vX, e, ixOf]
theorem specPairBase_pc (t : List Nd) (ht : SmT2 t) (a b : List Cm) (ha : SmL a) (hb : SmL b) : PC Tryz.prog 98 [ndA t, cmA a, cmA b] (tbV (pairBase t a b)) := by
  have hF := specPairFits_pc t ht a b ha hb
  refine pc_enter Tryz.func98 rfl rfl fun w0 fb => go_on ?_; (try simp only [Tryz.ntmps98, push_cast, simprocAttr])
  refine at_call ?_
  (try simp only [push_cast, simprocAttr])
  refine rwc_v hF ?_
  (try simp only [push_cast, simprocAttr])
  (refine at_dropS [6] (by refine wk_ok ?_ ?_ ?_ ?_ <;> simp [dropS, dropT, hasN, delL, hdel, leL, leH, idsL, idsA, idsR, inH, hget, sameRow]) ?_; simp only [dropS, dropT, hasN, delL, hdel, idsA, idsL, hget, List.map_cons, List.map_nil, List.all_cons, List.all_nil, List.append_nil, Bool.not_false, Bool.not_true, Bool.and_true, if_true, if_false, simprocAttr])
  refine go_on ?_
  (try simp only [push_cast, simprocAttr])
  cases hf : pairFits t a b with
  | false =>
    have e : pairBase t a b = none := by simp [pairBase, hf]
    (try simp only [hf, Bool.not_false, push_cast, simprocAttr])
    refine at_retf ?_; simp only [Tryz.results98, push_cast, simprocAttr]
    simp [tbV, vX, e, ixOf]
  | true =>
    obtain ⟨ta, tb, h⟩ := (pairFits_iff t a b).1 hf
    obtain ⟨hc1, hc2⟩ := pf_cv hf
    have hl1 := canonV_le hc1
    have hl2 := canonV_le hc2
    have hK := l21Kept_pc a b ha hb hc1 hc2
    have hkl := kept_len_le a b
    obtain ⟨q, hq⟩ : ∃ q, q = cSort (kept a b) := ⟨_, rfl⟩
    have hql : q.length = (kept a b).length := by rw [hq, cSort_len]
    have hqc : ∀ c ∈ q, CV c := fun c hc => kept_cv h c ((cSort_perm _).mem_iff.1 (by rw [← hq]; exact hc))
    rw [← hq] at hK
    have hqs : SmL q := ⟨by omega, fun c hc => by have h2 := hqc c hc; have := (pV_len h2.p h2.r).2; omega⟩
    have hL := specLogFits_pc t ht q hqs
    have hA := specLogApply_pc t ht q hqs
    (try simp only [hf, Bool.not_true, push_cast, simprocAttr])
    ((try simp only [push_cast, simprocAttr]); refine at_share2 (by simp [isC2, isC]) (by first | rfl | simp [ren]) (hK) (go_on ?_); (try simp only [push_cast, simprocAttr]))
    (refine at_call ?_; (try simp only [push_cast, simprocAttr]); refine rwc_v (hL) (go_on ?_); (try simp only [push_cast, simprocAttr]))
    cases hfq : fits t q with
    | false =>
      have e : pairBase t a b = none := by
        cases hx : pairBase t a b with
        | none => rfl
        | some B =>
          obtain ⟨g1, g2⟩ := h.base_iff.1 hx
          rw [← hq] at g2
          have : fits t q = true := by
            unfold fits
            rw [(tV_iff t).2 h.tv, lV_mk hqc (by omega), g2]
            simp [hql]
          rw [hfq] at this; cases this
      (try simp only [hfq, Bool.not_false, push_cast, simprocAttr])
      refine at_retf ?_; simp only [Tryz.results98, push_cast, simprocAttr]
      simp [tbV, vX, e, ixOf]
    | true =>
      have hfq2 := hfq
      unfold fits at hfq2
      simp only [Bool.and_eq_true, decide_eq_true_eq] at hfq2
      obtain ⟨⟨f1, f2⟩, f3⟩ := hfq2
      have e1 : lap t q = ((apAll t q).1, ((apAll t q).2 : Int)) := by
        unfold lap
        rw [if_pos (by rw [f1, f2]; rfl)]
      rw [e1] at hA
      have e : pairBase t a b = some (apAll t q).1 := h.base_iff.2 ⟨by have := lV_len f2; omega, by rw [← hq, ← hql, ← f3]⟩
      (try simp only [hfq, Bool.not_true, push_cast, simprocAttr])
      ((try simp only [push_cast, simprocAttr]); refine at_share2 (by simp [isC2, isC]) (by first | rfl | simp [ren]) (hA) (go_on ?_); (try simp only [push_cast, simprocAttr]))
      refine at_ret ?_; simp only [Tryz.results98, push_cast, simprocAttr]
      simp [tbV, vX, e]
end Go.Proofs.YthifgndjpjaddaaGreatDoor
/-
  Walks: impl.SessionRun, read as data.
-/
namespace Go.Proofs.YthifgndjpjaddaaGreatDoor
open Go Go.RowKit Go.Proofs
theorem cloneTree_d (l : List Nd) (hl : l.length < 4294967281) : PC Tryz.prog 58 [ndA l] (vX (ndA l)) := by
  have := (cloneTree_pc l hl).frzX
  simpa [viewN, hpOf, hget, isC, tk] using this
def srV (x : Option (St × St)) : AV → List Row → Prop := vX (.tup (match x with
  | some (x, y) => [stA' x, stA' y, bA true]
  | none => [st00, st00, bA false]))
attribute [local irreducible] RWp AW run kPe pe Kt effA gd gu br retR RDp runD kPeD brW gW effD
set_option maxRecDepth 100000
theorem SessionRun_d (a b : St) (ha : SmS a) (hb : SmS b) : PC Tryz.prog 60 [stA' a, stA' b] (srV (sRun a b)) := by
  have hM := meet_pc a b ha hb
  have hA := SiteCanon_d a ha
  have hB := SiteCanon_d b hb
  have s1 := siteC_sm a
  have s2 := siteC_sm b
  have hP := PairBase_d a.base ha.t (siteC a) (siteC b) s1 s2
  have hT := PairTree_d a.base ha.t (siteC a) (siteC b) s1 s2
  have hU := PairTree_d a.base ha.t (siteC b) (siteC a) s2 s1
  have hL := LeftOf_d (siteC a) (siteC b) s1 s2
  have hR := LeftOf_d (siteC b) (siteC a) s2 s1
  unfold stA' stC at *
  refine pc_enter Tryz.func60 rfl rfl fun w0 fb => go_on ?_; (try simp only [Tryz.ntmps60, push_cast, simprocAttr])
  (refine at_call ?_; (try simp only [push_cast, simprocAttr]); refine rwc_v (hM) (go_on ?_); (try simp only [push_cast, simprocAttr]))
  cases h : meet a b with
  | false =>
    have e : sRun a b = none := by simp [sRun, h]
    (try simp only [h, Bool.not_false, push_cast, simprocAttr])
    refine at_ret ?_; simp only [Tryz.results60, push_cast, simprocAttr]
    simp [srV, vX, e, st00]
  | true =>
    (try simp only [h, Bool.not_true, push_cast, simprocAttr])
    refine at_draw rfl (by kernel_rfl) ?_; simp only [push_cast, simprocAttr]
    (refine at_shareD (by simp [isC2, isC]) (by first | rfl | simp [ren]) hA ?_; (try simp only [push_cast, simprocAttr]))
    (refine at_shareD (by simp [isC2, isC]) (by first | rfl | simp [ren]) hB ?_; (try simp only [push_cast, simprocAttr]))
    refine at_done (by kernel_rfl) (by kernel_rfl) (go_on ?_)
    (try simp only [push_cast, simprocAttr])
    ((try simp only [push_cast, simprocAttr]); refine at_share2 (by simp [isC2, isC]) (by first | rfl | simp [ren]) (hP) (go_on ?_); (try simp only [push_cast, simprocAttr]))
    ((try simp only [push_cast, simprocAttr]); refine at_share2 (by simp [isC2, isC]) (by first | rfl | simp [ren]) (hT) (go_on ?_); (try simp only [push_cast, simprocAttr]))
    ((try simp only [push_cast, simprocAttr]); refine at_share2 (by simp [isC2, isC]) (by first | rfl | simp [ren]) (hU) (go_on ?_); (try simp only [push_cast, simprocAttr]))
    cases e1 : pairBase a.base (siteC a) (siteC b) with
    | none =>
      have e : sRun a b = none := by simp [sRun, h, e1]
      (try simp only [e1, Option.isSome_none, Bool.not_false, push_cast, simprocAttr])
      refine at_ret ?_; simp only [Tryz.results60, push_cast, simprocAttr]
      simp [srV, vX, e, st00]
    | some t =>
    cases e2 : pairTree a.base (siteC a) (siteC b) with
    | none =>
      have e : sRun a b = none := by simp [sRun, h, e1, e2]
      (try simp only [e1, e2, Option.isSome_none, Option.isSome_some, Bool.not_false, Bool.not_true, push_cast, simprocAttr])
      refine at_ret ?_; simp only [Tryz.results60, push_cast, simprocAttr]
      simp [srV, vX, e, st00]
    | some u =>
    cases e3 : pairTree a.base (siteC b) (siteC a) with
    | none =>
      have e : sRun a b = none := by simp [sRun, h, e1, e2, e3]
      (try simp only [e1, e2, e3, Option.isSome_none, Option.isSome_some, Bool.not_false, Bool.not_true, push_cast, simprocAttr])
      refine at_ret ?_; simp only [Tryz.results60, push_cast, simprocAttr]
      simp [srV, vX, e, st00]
    | some v =>
    have e : sRun a b = some (⟨a.ep + 1, t, leftOf (siteC a) (siteC b)⟩, ⟨a.ep + 1, t, leftOf (siteC b) (siteC a)⟩) := by simp [sRun, h, e1, e2, e3]
    have hm := (meet_iff a b).1 h
    obtain ⟨ta, tb, La, Lb, hsa, hsb, hbb, hee, hlt⟩ := hm
    have hep := hsa.ep
    have w1 : IntKind.i64.wrap (a.ep + 1) = a.ep + 1 := wr _ (by first | omega | (simp [inR] at hep; omega))
    have htl : t.length ≤ 10 := by
      obtain ⟨x, y, hpf⟩ := (pairFits_iff a.base (siteC a) (siteC b)).1 (by
        unfold pairBase at e1
        split at e1
        · rename_i hh; simp only [Bool.and_eq_true] at hh; exact hh.1
        · cases e1)
      exact (hpf.base_ov e1).2.le
    have hC := cloneTree_d t (by omega)
    (try simp only [e1, e2, e3, Option.isSome_some, Bool.not_true, Option.getD_some, push_cast, simprocAttr])
    refine at_draw rfl (by kernel_rfl) ?_; simp only [push_cast, simprocAttr]
    (try simp only [w1, push_cast, simprocAttr])
    (refine at_shareD (by simp [isC2, isC]) (by first | rfl | simp [ren]) hL ?_; (try simp only [push_cast, simprocAttr]))
    (try simp only [w1, push_cast, simprocAttr])
    (refine at_shareD (by simp [isC2, isC]) (by first | rfl | simp [ren]) hC ?_; (try simp only [push_cast, simprocAttr]))
    (refine at_shareD (by simp [isC2, isC]) (by first | rfl | simp [ren]) hR ?_; (try simp only [push_cast, simprocAttr]))
    (try simp only [w1, push_cast, simprocAttr])
    refine at_done (by kernel_rfl) (by kernel_rfl) (go_on ?_)
    (try simp only [push_cast, simprocAttr])
    refine at_ret ?_; simp only [Tryz.results60, push_cast, simprocAttr]
    simp [srV, vX, e, stC]
end Go.Proofs.YthifgndjpjaddaaGreatDoor
/-
  Walks: spec.SessionRun.
-/
namespace Go.Proofs.YthifgndjpjaddaaGreatDoor
open Go Go.RowKit Go.Proofs
attribute [local irreducible] RWp AW run kPe pe Kt effA gd gu br retR RDp runD kPeD brW gW effD
set_option maxRecDepth 100000
theorem specSessionRun_d (a b : St) (ha : SmS a) (hb : SmS b) : PC Tryz.prog 74 [stA' a, stA' b] (srV (sRun a b)) := by
  have hM := l42Ok_pc a b ha hb
  have hA := specSiteCanon_pc a ha
  have hB := specSiteCanon_pc b hb
  have s1 := siteC_sm a
  have s2 := siteC_sm b
  have hP := specPairBase_pc a.base ha.t (siteC a) (siteC b) s1 s2
  have hT := specPairTree_pc a.base ha.t (siteC a) (siteC b) s1 s2
  have hU := specPairTree_pc a.base ha.t (siteC b) (siteC a) s2 s1
  have hL := specLeftOf_d (siteC a) (siteC b) s1 s2
  have hR := specLeftOf_d (siteC b) (siteC a) s2 s1
  unfold tbV at hP hT hU
  unfold stA' stC at *
  unfold srV
  refine PC.toF ?_
  refine pc_enter Tryz.func74 rfl rfl fun w0 fb => go_on ?_; (try simp only [Tryz.ntmps74, push_cast, simprocAttr])
  (refine at_call ?_; (try simp only [push_cast, simprocAttr]); refine rwc_v (hM) (go_on ?_); (try simp only [push_cast, simprocAttr]))
  cases h : meet a b with
  | false =>
    have e : sRun a b = none := by simp [sRun, h]
    (try simp only [h, Bool.not_false, push_cast, simprocAttr])
    refine at_ret ?_; simp only [Tryz.results74, push_cast, simprocAttr]
    simp [vF, viewN, isC, hpOf, hget, tk, ixOf, e, st00]
  | true =>
    (try simp only [h, Bool.not_true, push_cast, simprocAttr])
    ((try simp only [push_cast, simprocAttr]); refine at_share2 (by simp [isC2, isC]) (by first | rfl | simp [ren]) (hA) (go_on ?_); (try simp only [push_cast, simprocAttr]))
    ((try simp only [push_cast, simprocAttr]); refine at_share2 (by simp [isC2, isC]) (by first | rfl | simp [ren]) (hB) (go_on ?_); (try simp only [push_cast, simprocAttr]))
    ((try simp only [push_cast, simprocAttr]); refine at_share2 (by simp [isC2, isC]) (by first | rfl | simp [ren]) (hP) (go_on ?_); (try simp only [push_cast, simprocAttr]))
    ((try simp only [push_cast, simprocAttr]); refine at_share2 (by simp [isC2, isC]) (by first | rfl | simp [ren]) (hT) (go_on ?_); (try simp only [push_cast, simprocAttr]))
    ((try simp only [push_cast, simprocAttr]); refine at_share2 (by simp [isC2, isC]) (by first | rfl | simp [ren]) (hU) (go_on ?_); (try simp only [push_cast, simprocAttr]))
    cases e1 : pairBase a.base (siteC a) (siteC b) with
    | none =>
      have e : sRun a b = none := by simp [sRun, h, e1]
      (try simp only [e1, Option.isSome_none, Bool.not_false, push_cast, simprocAttr])
      refine at_ret ?_; simp only [Tryz.results74, push_cast, simprocAttr]
      simp [vF, viewN, isC, hpOf, hget, tk, ixOf, e, st00]
    | some t =>
    cases e2 : pairTree a.base (siteC a) (siteC b) with
    | none =>
      have e : sRun a b = none := by simp [sRun, h, e1, e2]
      (try simp only [e1, e2, Option.isSome_none, Option.isSome_some, Bool.not_false, Bool.not_true, push_cast, simprocAttr])
      refine at_ret ?_; simp only [Tryz.results74, push_cast, simprocAttr]
      simp [vF, viewN, isC, hpOf, hget, tk, ixOf, e, st00]
    | some u =>
    cases e3 : pairTree a.base (siteC b) (siteC a) with
    | none =>
      have e : sRun a b = none := by simp [sRun, h, e1, e2, e3]
      (try simp only [e1, e2, e3, Option.isSome_none, Option.isSome_some, Bool.not_false, Bool.not_true, push_cast, simprocAttr])
      refine at_ret ?_; simp only [Tryz.results74, push_cast, simprocAttr]
      simp [vF, viewN, isC, hpOf, hget, tk, ixOf, e, st00]
    | some v =>
    have e : sRun a b = some (⟨a.ep + 1, t, leftOf (siteC a) (siteC b)⟩, ⟨a.ep + 1, t, leftOf (siteC b) (siteC a)⟩) := by simp [sRun, h, e1, e2, e3]
    have hm := (meet_iff a b).1 h
    obtain ⟨ta, tb, La, Lb, hsa, hsb, hbb, hee, hlt⟩ := hm
    have hep := hsa.ep
    have htl : t.length ≤ 10 := by
      obtain ⟨x, y, hpf⟩ := (pairFits_iff a.base (siteC a) (siteC b)).1 (by
        unfold pairBase at e1
        split at e1
        · rename_i hh; simp only [Bool.and_eq_true] at hh; exact hh.1
        · cases e1)
      exact (hpf.base_ov e1).2.le
    have w1 : IntKind.i64.wrap (a.ep + 1) = a.ep + 1 := wr _ (by omega)
    (try simp only [e1, e2, e3, Option.isSome_some, Bool.not_true, Option.getD_some, push_cast, simprocAttr])
    refine at_draw rfl (by kernel_rfl) ?_; simp only [push_cast, simprocAttr]
    (try simp only [w1, push_cast, simprocAttr])
    (refine at_shareD (by simp [isC2, isC]) (by first | rfl | simp [ren]) hL ?_; (try simp only [push_cast, simprocAttr]))
    (try simp only [w1, push_cast, simprocAttr])
    refine at_done (by kernel_rfl) (by kernel_rfl) (go_on ?_)
    (try simp only [push_cast, simprocAttr])
    refine at_draw rfl (by kernel_rfl) ?_; simp only [push_cast, simprocAttr]
    (try simp only [w1, push_cast, simprocAttr])
    (try simp only [effD_app2, w1, push_cast, simprocAttr])
    refine at_chkD (by omega) ?_
    (try simp only [push_cast, simprocAttr])
    (refine at_shareD (by simp [isC2, isC]) (by first | rfl | simp [ren]) hR ?_; (try simp only [push_cast, simprocAttr]))
    refine at_done (by kernel_rfl) (by kernel_rfl) (go_on ?_)
    (try simp only [push_cast, simprocAttr])
    refine at_draw rfl (by kernel_rfl) ?_; simp only [push_cast, simprocAttr]
    refine at_done (by kernel_rfl) (by kernel_rfl) (go_on ?_)
    (try simp only [push_cast, simprocAttr])
    refine at_ret ?_; simp only [Tryz.results74, push_cast, simprocAttr]
    simp [vF, viewN, isC, hpOf, hget, tk, ixOf, e, stC]
end Go.Proofs.YthifgndjpjaddaaGreatDoor
/-
  Walks: sessions in steps: SessionNew, SessionRecover (read as data).
-/
namespace Go.Proofs.YthifgndjpjaddaaGreatDoor
open Go Go.RowKit Go.Proofs
attribute [local irreducible] RWp AW run kPe pe Kt effA gd gu br retR RDp runD kPeD brW gW effD
set_option maxRecDepth 100000
end Go.Proofs.YthifgndjpjaddaaGreatDoor
/-
  Walks: sessions in steps: SessionNew (read as data).
-/
namespace Go.Proofs.YthifgndjpjaddaaGreatDoor
open Go Go.RowKit Go.Proofs
attribute [local irreducible] RWp AW run kPe pe Kt effA gd gu br retR RDp runD kPeD brW gW effD
set_option maxRecDepth 100000
end Go.Proofs.YthifgndjpjaddaaGreatDoor
/-
  Walks: sessions in steps: SessionStep (read as data).
-/
namespace Go.Proofs.YthifgndjpjaddaaGreatDoor
open Go Go.RowKit Go.Proofs
attribute [local irreducible] RWp AW run kPe pe Kt effA gd gu br retR RDp runD kPeD brW gW effD
set_option maxRecDepth 100000
end Go.Proofs.YthifgndjpjaddaaGreatDoor
/-
  Walks: sessions in steps: SessionStep behind its plan (read as data).
-/
namespace Go.Proofs.YthifgndjpjaddaaGreatDoor
open Go Go.RowKit Go.Proofs
attribute [local irreducible] RWp AW run kPe pe Kt effA gd gu br retR RDp runD kPeD brW gW effD
set_option maxRecDepth 100000
end Go.Proofs.YthifgndjpjaddaaGreatDoor
/-
  Walks: spec.SessionNew (read as data).
-/
namespace Go.Proofs.YthifgndjpjaddaaGreatDoor
open Go Go.RowKit Go.Proofs
attribute [local irreducible] RWp AW run kPe pe Kt effA gd gu br retR RDp runD kPeD brW gW effD
set_option maxRecDepth 100000
end Go.Proofs.YthifgndjpjaddaaGreatDoor
/-
  Walks: laws.sameSession.
-/
namespace Go.Proofs.YthifgndjpjaddaaGreatDoor
open Go Go.RowKit Go.Proofs
attribute [local irreducible] RWp AW run kPe pe Kt effA gd gu br retR RDp runD kPeD brW gW effD
set_option maxRecDepth 100000
end Go.Proofs.YthifgndjpjaddaaGreatDoor
/-
  Walks: impl.TreeGet.
-/
namespace Go.Proofs.YthifgndjpjaddaaGreatDoor
open Go Go.RowKit Go.Proofs
attribute [local irreducible] RWp AW run kPe pe Kt effA gd gu br retR RDp runD kPeD brW gW effD
set_option maxRecDepth 100000
end Go.Proofs.YthifgndjpjaddaaGreatDoor
/-
  Walks: sessions, read as data, with the empty side and the empty session where there is none.
-/
namespace Go.Proofs.YthifgndjpjaddaaGreatDoor
open Go Go.RowKit Go.Proofs
def rA (a b : St) : St := ((sRun a b).map (·.1)).getD st0
def rB (a b : St) : St := ((sRun a b).map (·.2)).getD st0
theorem rA_some {a b x y : St} (h : sRun a b = some (x, y)) : rA a b = x := by simp [rA, h]
theorem rB_some {a b x y : St} (h : sRun a b = some (x, y)) : rB a b = y := by simp [rB, h]
theorem rA_none {a b : St} (h : sRun a b = none) : rA a b = st0 := by simp [rA, h]
theorem rB_none {a b : St} (h : sRun a b = none) : rB a b = st0 := by simp [rB, h]
theorem siteV_sm {s : St} (h : siteV s = true) : SmS s := by
  obtain ⟨t, L, h3⟩ := (siteV_iff s).1 h
  have := lV_len h3.lv
  refine ⟨sm_tv h3.tv, ⟨by omega, fun c hc => ?_⟩⟩
  have hc := lV_cv h3.lv c hc
  have := (pV_len hc.p hc.r).2
  omega
theorem st0_sm : SmS st0 := ⟨⟨⟨by simp [st0], fun n hn => by simp [st0] at hn⟩, by simp [st0]⟩, ⟨by simp [st0], fun c hc => by simp [st0] at hc⟩⟩
theorem srV_e {P : Program} {f : FuncId} {args : List AV} {a b : St} (h : PC P f args (srV (sRun a b))) : PC P f args (vX (.tup [stA' (rA a b), stA' (rB a b), bA (sRun a b).isSome])) := by
  cases hr : sRun a b with
  | none =>
    rw [hr] at h
    rw [rA_none hr, rB_none hr]
    refine PC.less h fun h loc w v hg => hg.tup2 rfl fun j x y u h1 h2 h3 => ?_
    rcases j with _ | _ | _ | j
    · cases h1; cases h2; exact nil_st0 h3
    · cases h1; cases h2; exact nil_st0 h3
    · cases h1; cases h2; exact h3
    · cases h1
  | some p =>
    obtain ⟨x, y⟩ := p
    rw [hr] at h
    rw [rA_some hr, rB_some hr]
    exact h
theorem SessionRun_e (a b : St) (ha : SmS a) (hb : SmS b) : PC Tryz.prog 60 [stA' a, stA' b] (vX (.tup [stA' (rA a b), stA' (rB a b), bA (sRun a b).isSome])) := srV_e (SessionRun_d a b ha hb)
theorem specSessionRun_e (a b : St) (ha : SmS a) (hb : SmS b) : PC Tryz.prog 74 [stA' a, stA' b] (vX (.tup [stA' (rA a b), stA' (rB a b), bA (sRun a b).isSome])) := srV_e (specSessionRun_d a b ha hb)
end Go.Proofs.YthifgndjpjaddaaGreatDoor
/-
  Plain: the sessions that four steps pass through.
-/
namespace Go.Proofs.YthifgndjpjaddaaGreatDoor
open Go Go.RowKit Go.Proofs
end Go.Proofs.YthifgndjpjaddaaGreatDoor
/-
  Walks: spec.SessionStep.
-/
namespace Go.Proofs.YthifgndjpjaddaaGreatDoor
open Go Go.RowKit Go.Proofs
attribute [local irreducible] RWp AW run kPe pe Kt effA gd gu br retR RDp runD kPeD brW gW effD
set_option maxRecDepth 100000
end Go.Proofs.YthifgndjpjaddaaGreatDoor
/-
  Walks: spec.SessionStep (read as data).
-/
namespace Go.Proofs.YthifgndjpjaddaaGreatDoor
open Go Go.RowKit Go.Proofs
attribute [local irreducible] RWp AW run kPe pe Kt effA gd gu br retR RDp runD kPeD brW gW effD
set_option maxRecDepth 100000
end Go.Proofs.YthifgndjpjaddaaGreatDoor
/-
  The abstract machine: a slice that is nil, read as an empty one, within rows.
-/
namespace Go.Proofs.YthifgndjpjaddaaGreatDoor
open Go Go.RowKit

def nlv (x y : AV) : Prop := x = y ∨ (x = .v (.slice none 0 0) ∧ ∃ n, y = .sl n [])
def nlC : List AV → List AV → Prop
  | [], [] => True
  | x :: l, y :: l' => nlv x y ∧ nlC l l'
  | _, _ => False
def nlE : List (List AV) → List (List AV) → Prop
  | [], [] => True
  | x :: l, y :: l' => nlC x y ∧ nlE l l'
  | _, _ => False
theorem nlC_get : ∀ {l l' : List AV}, nlC l l' → l.length = l'.length ∧ ∀ (j : Nat) y, l'[j]? = some y → ∃ x, l[j]? = some x ∧ nlv x y
  | [], [], _ => ⟨rfl, fun j y h => by simp at h⟩
  | x :: l, y :: l', ⟨h1, h2⟩ => by
    obtain ⟨g1, g2⟩ := nlC_get h2
    refine ⟨by simp [g1], fun j z hz => ?_⟩
    cases j with
    | zero => simp at hz; subst hz; exact ⟨x, rfl, h1⟩
    | succ j => exact g2 j z (by simpa using hz)
  | [], _ :: _, h => h.elim
  | _ :: _, [], h => h.elim
theorem nlE_get : ∀ {l l' : List (List AV)}, nlE l l' → l.length = l'.length ∧ ∀ (j : Nat) y, l'[j]? = some y → ∃ x, l[j]? = some x ∧ nlC x y
  | [], [], _ => ⟨rfl, fun j y h => by simp at h⟩
  | x :: l, y :: l', ⟨h1, h2⟩ => by
    obtain ⟨g1, g2⟩ := nlE_get h2
    refine ⟨by simp [g1], fun j z hz => ?_⟩
    cases j with
    | zero => simp at hz; subst hz; exact ⟨x, rfl, h1⟩
    | succ j => exact g2 j z (by simpa using hz)
  | [], _ :: _, h => h.elim
  | _ :: _, [], h => h.elim
def rowN2 (row row' : Row) : Prop := row'.E = row.E ∧ row'.sz = row.sz ∧ nlE row.es row'.es ∧ (row'.cl = true → (row.cl || row.es.all (·.all isC)) = true)
def leN (h : Hp) : Hp → Prop
  | [] => True
  | (r, row') :: l => (match hget h r with | some row => rowN2 row row' | none => False) ∧ leN h l
theorem leN_get {h : Hp} : ∀ {h' : Hp}, leN h h' → ∀ r row', hget h' r = some row' → ∃ row, hget h r = some row ∧ rowN2 row row'
  | [], _, r, row', hr => by simp [hget] at hr
  | (q, row0) :: h', hl, r, row', hr => by
    obtain ⟨h1, h2⟩ := hl
    simp only [hget] at hr
    split at hr
    · rename_i hq
      cases hr
      subst hq
      cases hg : hget h q with
      | none => rw [hg] at h1; exact h1.elim
      | some row => rw [hg] at h1; exact ⟨row, rfl, h1⟩
    · exact leN_get h2 r row' hr
theorem G.sub2 {h h' : Hp} {loc : Loc} {w : World} {x : AV} {u : Value} (hg : G h loc w x u) (hs : ∀ r ∈ idsA x, inH h' r = true) (hh : leN h h') (hC : ∀ x u, C (Live h loc) 0 w x u → C (Live h' loc) 0 w x u) : G h' loc w x u := by
  have hrow : ∀ r row, inH h' r = true → hget h r = some row → ∃ row', hget h' r = some row' ∧ rowN2 row row' := fun r row hi hr => by
    unfold inH at hi
    split at hi
    · rename_i row' hr'
      obtain ⟨row2, h1, h2⟩ := leN_get hh r row' hr'
      rw [hr] at h1
      cases h1
      exact ⟨row', hr', h2⟩
    · cases hi
  induction hg with
  | cl hc => exact .cl (hC _ _ hc)
  | @o r n row b c hr hl hn =>
    obtain ⟨row', h1, h2, h3, h4, _⟩ := hrow r row (hs r (by simp [idsA])) hr
    exact .o h1 hl (by rw [← (nlE_get h4).1]; exact hn)
  | @onil r row hr hl =>
    obtain ⟨row', h1, _⟩ := hrow r row (hs r (by simp [idsA])) hr
    exact .onil h1 hl
  | @p r k off row b c hr hl =>
    obtain ⟨row', h1, h2, h3, h4, _⟩ := hrow r row (hs r (by simp [idsA])) hr
    rw [← h3]
    exact .p h1 hl
  | @q r lo z n row b c A c' hr hl hn =>
    obtain ⟨row', h1, h2, h3, h4, _⟩ := hrow r row (hs r (by simp [idsA])) hr
    exact .q h1 hl hn
  | fn vs hvs hg ih => exact .fn vs hvs fun j a ha => ih j a ha fun r hr => hs r (by simp only [idsA]; exact idsL_mem ha r hr)
  | agg vs hvs hg ih => exact .agg vs hvs fun j a ha => ih j a ha fun r hr => hs r (by simp only [idsA]; exact idsL_mem ha r hr)
  | tup vs hvs hg ih => exact .tup vs hvs fun j a ha => ih j a ha fun r hr => hs r (by simp only [idsA]; exact idsL_mem ha r hr)
theorem wk_nil {s s' : AS} (ht : leL s.t s'.t) (hh : leN s.h s'.h) (hi : (idsL s'.t).all (inH s'.h) = true) (hr : idsR s'.h s'.h = true) : Wk s s' := by
  intro w0 lent loc a w hR
  obtain ⟨g1, g2⟩ := leL_get ht
  have hlive : ∀ b, Live s'.h loc b → Live s.h loc b := by
    rintro b (⟨r, row', c, h1, h2⟩ | hf)
    · obtain ⟨row, h3, _⟩ := leN_get hh r row' h1
      exact .inl ⟨r, row, c, h3, h2⟩
    · exact .inr hf
  have hC : ∀ x u, C (Live s.h loc) 0 w x u → C (Live s'.h loc) 0 w x u := fun x u hx => hx.mono (Nat.le_refl _) (Nat.le_refl _) fun b _ _ hnl => ⟨fun h => hnl (hlive b h), rfl⟩
  refine ⟨loc, hR.tsz.trans g1, fun i y hy => ?_, hR.df, fun r row' h1 => ?_, fun r r' row row' b c c' h1 h2 h3 h4 => ?_, fun r row' b c h1 h2 => ?_, hR.os, hR.tape, hR.output, hR.size, hR.keep, hR.fbe, hR.fbl, hR.pn, hR.pl⟩
  · rcases g2 i y hy with rfl | h
    · exact .cl .any
    · exact (hR.tm i y h).sub2 (fun r hr => List.all_eq_true.1 hi r (idsL_mem hy r hr)) hh hC
  · obtain ⟨row, h2, e1, e2, e3, e4⟩ := leN_get hh r row' h1
    obtain ⟨q1, xs, q2, q3⟩ := hR.rw r row h2
    obtain ⟨f1, f2⟩ := nlE_get e3
    refine ⟨fun k e he => ?_, xs, ?_, fun k e j y he hy => ?_⟩
    · obtain ⟨e0, f3, f4⟩ := f2 k e he
      rw [e2, ← (nlC_get f4).1]; exact q1 k e0 f3
    · rw [e1, e2, ← f1]; exact q2
    · obtain ⟨e0, f3, f4⟩ := f2 k e he
      obtain ⟨x, f5, f6⟩ := (nlC_get f4).2 j y hy
      obtain ⟨u, p1, p2, p3, p4⟩ := q3 k e0 j x f3 f5
      refine ⟨u, by rw [e2]; exact p1, p2, ?_, fun hc => ?_⟩
      · rcases f6 with rfl | ⟨rfl, n, rfl⟩
        · rcases idsR_get hr r row' h1 with hc | hc
          · have := e4 hc
            rw [Bool.or_eq_true] at this
            rcases this with h | h
            · exact .cl (hC _ _ (p4 h))
            · exact .cl (hC _ _ (isC_ok p3 (List.all_eq_true.1 (List.all_eq_true.1 h e0 (List.mem_of_getElem? f3)) x (List.mem_of_getElem? f5))))
          · refine p3.sub2 (fun r' hr' => ?_) hh hC
            have := hc e (List.mem_of_getElem? he)
            exact List.all_eq_true.1 this r' (idsL_mem hy r' hr')
        · have := G.nil2 (n := n) p3
          rw [p3.v_inv]
          exact .cl (.nilsl _)
      · rcases f6 with rfl | ⟨rfl, n, rfl⟩
        · have := e4 hc
          rw [Bool.or_eq_true] at this
          rcases this with h | h
          · exact hC _ _ (p4 h)
          · exact hC _ _ (isC_ok p3 (List.all_eq_true.1 (List.all_eq_true.1 h e0 (List.mem_of_getElem? f3)) x (List.mem_of_getElem? f5)))
        · rw [p3.v_inv]
          exact .nilsl _
  · obtain ⟨row1, g3, _⟩ := leN_get hh r row h1
    obtain ⟨row2, g4, _⟩ := leN_get hh r' row' h2
    exact hR.inj r r' row1 row2 b c c' g3 g4 h3 h4
  · obtain ⟨row1, g3, _⟩ := leN_get hh r row' h1
    exact hR.own r row1 b c g3 h2

end Go.Proofs.YthifgndjpjaddaaGreatDoor
/-
  Walks: events: impl.roundValid.
-/
namespace Go.Proofs.YthifgndjpjaddaaGreatDoor
open Go Go.RowKit Go.Proofs
def evC (e : Ev) : List AV := [iA e.k, sA e.c.p, iA e.c.a.k, iA e.c.a.v, iA e.c.b.k, iA e.c.b.v]
abbrev evsA (l : List Ev) : AV := .sl 6 (l.map evC)
structure SmE (l : List Ev) : Prop where
  n : l.length < 4294967280
  p : ∀ e ∈ l, e.c.p.length < 4294967281
theorem evV_1 {e : Ev} (h : e.k = 1) : evV e = cmV e.c := by simp [evV, h]
theorem evV_2 {e : Ev} (h : e.k = 2) : evV e = cmV e.c := by simp [evV, h]
theorem evV_3 {e : Ev} (h : e.k = 3) : evV e = decide (e.c = cm0) := by simp [evV, h]
theorem evV_n {e : Ev} (h1 : e.k ≠ 1) (h2 : e.k ≠ 2) (h3 : e.k ≠ 3) : evV e = false := by simp [evV, h1, h2, h3]
attribute [local irreducible] RWp AW run kPe pe Kt effA gd gu br retR RDp runD kPeD brW gW effD
set_option maxRecDepth 100000
theorem roundValid_pc (t : List Nd) (ht : SmT t) (l : List Ev) (hl : SmE l) : PC Tryz.prog 35 [ndA t, evsA l] (vB (rdV t l)) := by
  have hT := TreeValid_pc t ht
  have hn := hl.n
  refine pc_enter Tryz.func35 rfl rfl fun w0 fb => go_on ?_; (try simp only [Tryz.ntmps35, push_cast, simprocAttr])
  refine at_loop (X := Nat) (fun k => [(9, iA k)]) (fun _ => []) (fun k => k ≤ l.length ∧ l.all evV = (l.drop k).all evV) (fun k => l.length - k) 0 ⟨Nat.zero_le _, rfl⟩ ?_ ?_
  · (refine wk_ok ?_ ?_ ?_ ?_ <;> simp [leL, leH, idsL, idsA, idsR, inH, hget, sameRow, upA, hvA, dsts, dstO, setA_0, setA_1, setA_8, List.append, List.cons_append, List.nil_append])
  · rintro k ⟨q1, q2⟩
    simp only [upA, hvA, dsts, dstO, setA_0, setA_1, setA_8, List.append, List.cons_append, List.nil_append]
    refine go_on ?_
    (try simp only [push_cast, simprocAttr])
    refine at_b (fun hg => ?_) (fun hg => ?_)
    · have hlt := lt_tt hg
      obtain ⟨e, he⟩ := get_of_lt hlt
      have i1 := ix_n he
      have i2 := map_get evC he
      simp only [evC] at i2
      have hp := hl.p e (List.mem_of_getElem? he)
      have hC := CommandValid_pc e.c hp
      unfold cmdA cmC at hC
      rw [drop_of_get he] at q2
      simp only [List.all_cons] at q2
      have w1 := wr ((k : Int) + 1) (by omega)
      (try simp only [hg, i1, i2, push_cast, simprocAttr])
      by_cases h1 : e.k = 1
      · have j1 : eqI e.k 1 = true := eqI_t h1
        rw [evV_1 h1] at q2
        (try simp only [j1, push_cast, simprocAttr])
        (refine at_call ?_; (try simp only [push_cast, simprocAttr]); refine rwc_v (hC) (go_on ?_); (try simp only [push_cast, simprocAttr]))
        cases hv : cmV e.c with
        | false =>
          (try simp only [hv, Bool.not_false, push_cast, simprocAttr])
          refine at_ret ?_; simp only [Tryz.results35, push_cast, simprocAttr]
          simp [vX, rdV, q2, hv]
        | true =>
          (try simp only [hv, Bool.not_true, w1, push_cast, simprocAttr])
          refine at_fin ⟨k + 1, ⟨by omega, by rw [q2, hv]; rfl⟩, by omega, ?_⟩
          (refine wk_ok ?_ ?_ ?_ ?_ <;> simp [leL, leH, idsL, idsA, idsR, inH, hget, sameRow, upA, hvA, dsts, dstO, setA_0, setA_1, setA_8, List.append, List.cons_append, List.nil_append])
      · have j1 : eqI e.k 1 = false := eqI_f h1
        by_cases h2 : e.k = 2
        · have j2 : eqI e.k 2 = true := eqI_t h2
          rw [evV_2 h2] at q2
          (try simp only [j1, j2, push_cast, simprocAttr])
          (refine at_call ?_; (try simp only [push_cast, simprocAttr]); refine rwc_v (hC) (go_on ?_); (try simp only [push_cast, simprocAttr]))
          cases hv : cmV e.c with
          | false =>
            (try simp only [hv, Bool.not_false, push_cast, simprocAttr])
            refine at_ret ?_; simp only [Tryz.results35, push_cast, simprocAttr]
            simp [vX, rdV, q2, hv]
          | true =>
            (try simp only [hv, Bool.not_true, w1, push_cast, simprocAttr])
            refine at_fin ⟨k + 1, ⟨by omega, by rw [q2, hv]; rfl⟩, by omega, ?_⟩
            (refine wk_ok ?_ ?_ ?_ ?_ <;> simp [leL, leH, idsL, idsA, idsR, inH, hget, sameRow, upA, hvA, dsts, dstO, setA_0, setA_1, setA_8, List.append, List.cons_append, List.nil_append])
        · have j2 : eqI e.k 2 = false := eqI_f h2
          by_cases h3 : e.k = 3
          · have j3 : eqI e.k 3 = true := eqI_t h3
            rw [evV_3 h3] at q2
            (try simp only [j1, j2, j3, ctg, cth, cmg, cmh, push_cast, simprocAttr])
            have e0 : (decide (e.c.p = []) && ((eqI e.c.a.k 0 && eqI e.c.a.v 0) && (eqI e.c.b.k 0 && eqI e.c.b.v 0))) = decide (e.c = cm0) := cm_eq e.c cm0
            cases hv : decide (e.c = cm0) with
            | false =>
              (try simp only [e0, hv, Bool.not_false, push_cast, simprocAttr])
              refine at_ret ?_; simp only [Tryz.results35, push_cast, simprocAttr]
              simp only [hv, Bool.false_and] at q2
              simp [vX, rdV, q2]
            | true =>
              (try simp only [e0, hv, Bool.not_true, w1, push_cast, simprocAttr])
              refine at_fin ⟨k + 1, ⟨by omega, by rw [q2, hv]; rfl⟩, by omega, ?_⟩
              (refine wk_ok ?_ ?_ ?_ ?_ <;> simp [leL, leH, idsL, idsA, idsR, inH, hget, sameRow, upA, hvA, dsts, dstO, setA_0, setA_1, setA_8, List.append, List.cons_append, List.nil_append])
          · have j3 : eqI e.k 3 = false := eqI_f h3
            rw [evV_n h1 h2 h3] at q2
            (try simp only [j1, j2, j3, push_cast, simprocAttr])
            refine at_ret ?_; simp only [Tryz.results35, push_cast, simprocAttr]
            simp [vX, rdV, q2]
    · have h3 := lt_ff hg
      rw [List.drop_of_length_le h3] at q2
      have e1 : rdV t l = (tV t && leI (l.length : Int) 24) := by
        unfold rdV leI
        rw [q2]
        cases tV t <;> simp <;> omega
      (try simp only [hg, push_cast, simprocAttr])
      (refine at_call ?_; (try simp only [push_cast, simprocAttr]); refine rwc_v (hT) (go_on ?_); (try simp only [push_cast, simprocAttr]))
      cases hv : tV t with
      | false =>
        (try simp only [hv, push_cast, simprocAttr])
        refine at_ret ?_; simp only [Tryz.results35, push_cast, simprocAttr]
        simp [vX, e1, hv]
      | true =>
        (try simp only [hv, push_cast, simprocAttr])
        refine at_ret ?_; simp only [Tryz.results35, push_cast, simprocAttr]
        simp [vX, e1, hv]
end Go.Proofs.YthifgndjpjaddaaGreatDoor
/-
  Opening rows of nodes and of events that a law is handed.
-/
namespace Go.Proofs.YthifgndjpjaddaaGreatDoor
open Go Go.RowKit Go.Proofs
set_option maxRecDepth 100000
section
variable {H : Type} {enc : TypeId × Value → H} {W : World} {base : Nat} {sp : Nat → Bool} {held : Bool} {fuel : Nat} {cs : List Value} {x : DataW H × List MemPlace}
theorem six_of {α : Type} {l : List α} (h : l.length = 6) : ∃ a b c d e f, l = [a, b, c, d, e, f] := by
  match l, h with
  | [a, b, c, d, e, f], _ => exact ⟨a, b, c, d, e, f, rfl⟩
theorem open_event (h : DataW.trod enc Tryz.prog W base sp held fuel 59 cs = some x) : ∃ e : Ev, cs = [.int .i64 e.k, .string ⟨e.c.p.toArray⟩, .int .i64 e.c.a.k, .int .i64 e.c.a.v, .int .i64 e.c.b.k, .int .i64 e.c.b.v] ∧ e.c.p.length ≤ maxLen := by
  obtain ⟨xs, n, rfl, rfl, hl, hlen, hf⟩ := DataW.trod_struct Tryz.underlying59 h
  rw [show Tryz.prog.cellsOf 59 = 6 by kernel_rfl] at hl
  obtain ⟨a, b, c, d, e, f, rfl⟩ := six_of hl
  obtain ⟨y0, y1, rfl⟩ := two_of hlen
  have h0 := hf 0 _ rfl
  have h1 := hf 1 _ rfl
  simp only [show Tryz.prog.cellsOf 3 = 1 by kernel_rfl, show Tryz.prog.cellsOf 57 = 5 by kernel_rfl, List.drop, List.take, List.getElem?_cons_zero, List.getElem?_cons_succ] at h0 h1
  obtain ⟨k, e1, _⟩ := DataW.trod_int Tryz.underlying3 h0
  obtain ⟨m, e2, hm⟩ := open_command h1
  cases e1
  cases e2
  exact ⟨⟨k, m⟩, rfl, hm⟩
theorem open_events {lv : Nat → Prop} (hlv : ∀ b, b < W.heap.size → ¬ lv b) (h : DataW.trod enc Tryz.prog W 0 sp held fuel 23 cs = some x) :
    ∃ (l : List Ev) (v : Value), cs = [v] ∧ C lv 0 W (evsA l) v ∧ l.length ≤ maxLen ∧ ∀ n ∈ l, n.c.p.length ≤ maxLen :=
  open_sl (V := fun e : Ev => [.int .i64 e.k, .string ⟨e.c.p.toArray⟩, .int .i64 e.c.a.k, .int .i64 e.c.a.v, .int .i64 e.c.b.k, .int .i64 e.c.b.v]) Tryz.underlying23 (by kernel_rfl) (by omega) (fun _ _ _ h => open_event h) (fun a => ⟨rfl, rfl, rfl⟩) hlv h
end
end Go.Proofs.YthifgndjpjaddaaGreatDoor
/-
  Walks: the marks that the laws write, and read again.
-/
namespace Go.Proofs.YthifgndjpjaddaaGreatDoor
open Go Go.RowKit Go.Proofs
def digS (k : Nat) (o : Str) : Str := if h : k = 0 then o else digS (k / 10) (UInt8.ofNat (48 + k % 10) :: o)
termination_by k
decreasing_by omega
theorem digS_0 (o : Str) : digS 0 o = o := by rw [digS]; simp
theorem digS_s {k : Nat} (h : 0 < k) (o : Str) : digS k o = digS (k / 10) (UInt8.ofNat (48 + k % 10) :: o) := by
  rw [digS, dif_neg (by omega)]
def mkT (k : Nat) : Str := 109 :: digS k []
def mkN : Nat → List Nd → List Nd
  | _, [] => []
  | k, _ :: l => ⟨mkT k, ⟨(k : Int) + 1, (k : Int) + 1 + 1⟩⟩ :: mkN (k + 3) l
def mkC : Nat → List Cm → List Cm
  | _, [] => []
  | k, _ :: l => ⟨mkT k, ⟨(k : Int) + 1, (k : Int) + 1 + 1⟩, ⟨(k : Int) + 1 + 1 + 1, (k : Int) + 1 + 1 + 1 + 1⟩⟩ :: mkC (k + 5) l
theorem mkN_len : ∀ (l : List Nd) (k : Nat), (mkN k l).length = l.length
  | [], _ => rfl
  | _ :: l, k => by simp [mkN, mkN_len l]
theorem mkC_len : ∀ (l : List Cm) (k : Nat), (mkC k l).length = l.length
  | [], _ => rfl
  | _ :: l, k => by simp [mkC, mkC_len l]
theorem mkN_get : ∀ (l : List Nd) (k i : Nat), i < l.length → (mkN k l)[i]? = some ⟨mkT (k + 3 * i), ⟨((k + 3 * i : Nat) : Int) + 1, ((k + 3 * i : Nat) : Int) + 1 + 1⟩⟩
  | [], _, _, h => by simp at h
  | x :: l, k, 0, _ => by simp [mkN]
  | x :: l, k, i + 1, h => by
    rw [mkN, List.getElem?_cons_succ, mkN_get l (k + 3) i (by simpa using h), show k + 3 + 3 * i = k + 3 * (i + 1) from by omega]
theorem mkC_get : ∀ (l : List Cm) (k i : Nat), i < l.length → (mkC k l)[i]? = some ⟨mkT (k + 5 * i), ⟨((k + 5 * i : Nat) : Int) + 1, ((k + 5 * i : Nat) : Int) + 1 + 1⟩, ⟨((k + 5 * i : Nat) : Int) + 1 + 1 + 1, ((k + 5 * i : Nat) : Int) + 1 + 1 + 1 + 1⟩⟩
  | [], _, _, h => by simp at h
  | x :: l, k, 0, _ => by simp [mkC]
  | x :: l, k, i + 1, h => by
    rw [mkC, List.getElem?_cons_succ, mkC_get l (k + 5) i (by simpa using h), show k + 5 + 5 * i = k + 5 * (i + 1) from by omega]
/-- Marked up to a place. -/
def upN (k : Nat) (l : List Nd) (i : Nat) : List Nd := (mkN k l).take i ++ l.drop i
def upC (k : Nat) (l : List Cm) (i : Nat) : List Cm := (mkC k l).take i ++ l.drop i
theorem upN_len (k : Nat) (l : List Nd) (i : Nat) (h : i ≤ l.length) : (upN k l i).length = l.length := by simp [upN, mkN_len]; omega
theorem upC_len (k : Nat) (l : List Cm) (i : Nat) (h : i ≤ l.length) : (upC k l i).length = l.length := by simp [upC, mkC_len]; omega
theorem up_get {α : Type} {m l : List α} {i : Nat} (h : i ≤ m.length) : (m.take i ++ l.drop i)[i]? = l[i]? := by
  rw [List.getElem?_append_right (by simp; omega), List.getElem?_drop, List.length_take, Nat.min_eq_left h]
  congr 1; omega
theorem up_set {α : Type} {m l : List α} {i : Nat} {y : α} (hm : m[i]? = some y) (hl : i < l.length) : (m.take i ++ l.drop i).set i y = m.take (i + 1) ++ l.drop (i + 1) := by
  have h := lt_of_some hm
  rw [List.set_append_right _ _ (by simp; omega), List.length_take, Nat.min_eq_left (by omega), Nat.sub_self, List.take_add_one, hm]
  obtain ⟨x, hx⟩ := get_of_lt hl
  rw [drop_of_get hx]
  simp
attribute [local irreducible] RWp AW run kPe pe Kt effA gd gu br retR RDp runD kPeD brW gW effD
set_option maxRecDepth 100000
theorem markText_pc (k : Nat) (h0 : 0 < k) (hk : k ≤ 4611686018427387904) : PC Tryz.prog 39 [iA k] (vS (mkT k)) := by
  have i0 : leI (k : Int) 0 = false := leI_f (by omega)
  refine pc_enter Tryz.func39 rfl rfl fun w0 fb => go_on ?_; (try simp only [Tryz.ntmps39, push_cast, simprocAttr])
  (try simp only [i0, push_cast, simprocAttr])
  refine at_loop (X := Nat × Str) (fun x => [(0, iA x.1), (3, sA x.2)]) (fun _ => []) (fun x => x.2.length + x.1 ≤ k ∧ digS k [] = digS x.1 x.2) (fun x => x.1) (k, []) ⟨by simp, rfl⟩ ?_ ?_
  · (refine wk_ok ?_ ?_ ?_ ?_ <;> simp [leL, leH, idsL, idsA, idsR, inH, hget, sameRow, upA, hvA, dsts, dstO, setA_0, setA_1, setA_8, List.append, List.cons_append, List.nil_append])
  · rintro ⟨q, o⟩ ⟨q1, q2⟩
    simp only at q1 q2
    simp only [upA, hvA, dsts, dstO, setA_0, setA_1, setA_8, List.append, List.cons_append, List.nil_append]
    refine go_on ?_
    (try simp only [push_cast, simprocAttr])
    by_cases hq : 0 < q
    · have i1 : ltI 0 (q : Int) = true := ltI_t (by omega)
      have t1 : Int.tmod (q : Int) 10 = (q : Int) % 10 := Int.tmod_eq_emod_of_nonneg (by omega)
      have t2 : Int.tdiv (q : Int) 10 = (q : Int) / 10 := Int.tdiv_eq_ediv_of_nonneg (by omega)
      have w1 : IntKind.i64.wrap (48 + (q : Int) % 10) = 48 + (q : Int) % 10 := wr _ (by omega)
      have w2 : IntKind.i64.wrap ((q : Int) / 10) = (q : Int) / 10 := wr _ (by omega)
      have w3 : IntKind.u8.wrap (48 + (q : Int) % 10) = 48 + (q : Int) % 10 := by simp [IntKind.wrap, IntKind.bits, IntKind.signed]; omega
      have w4 : (48 + (q : Int) % 10).toNat = 48 + q % 10 := by omega
      have w5 : 1 + o.length ≤ 9223372036854775807 := by omega
      have z0 : ((10 : Int) = 0) = False := by simp
      (try simp only [i1, t1, t2, w1, w2, w3, w4, w5, z0, push_cast, simprocAttr])
      refine at_fin ⟨(q / 10, UInt8.ofNat (48 + q % 10) :: o), ⟨?_, ?_⟩, ?_, ?_⟩
      · simp only [List.length_cons]; omega
      · simp only; rw [q2, digS_s hq]
      · simp only; omega
      · (refine wk_ok ?_ ?_ ?_ ?_ <;> simp [leL, leH, idsL, idsA, idsR, inH, hget, sameRow, upA, hvA, dsts, dstO, setA_0, setA_1, setA_8, List.append, List.cons_append, List.nil_append])
    · have i1 : ltI 0 (q : Int) = false := ltI_f (by omega)
      obtain rfl : q = 0 := by omega
      have w5 : 1 + o.length ≤ 9223372036854775807 := by omega
      (try simp only [i1, w5, push_cast, simprocAttr])
      refine at_ret ?_; simp only [Tryz.results39, push_cast, simprocAttr]
      rw [digS_0] at q2
      simp [vX, mkT, q2]
end Go.Proofs.YthifgndjpjaddaaGreatDoor
