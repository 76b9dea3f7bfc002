/- A part of the proof of FnSiteCanon: texts W24 W25 W26 W27 W28 W29 VFnSiteCanon. -/
import Derived.Test.YtcjialgknmplbaaGreatDoorG5
set_option linter.unusedSimpArgs false
set_option linter.unusedVariables false
/-
  Walks: the reference's canonical order and sort.
-/
namespace Go.Proofs.YtcjialgknmplbaaGreatDoor
open Go Go.RowKit Go.Proofs
attribute [local irreducible] RWp AW run kPe pe Kt effA gd gu br retR RDp runD kPeD brW gW effD
set_option maxRecDepth 100000
theorem l14Ends_pc (c : Cm) : PC Tryz.prog 147 [cmdA c] (vB (cEnds c)) := by
  have hc : cEnds c = (decide (c.b.k = 0) || decide (c.a.k = 1)) := rfl
  unfold cmdA cmC
  refine pc_enter Tryz.func147 rfl rfl fun w0 fb => go_on ?_; (try simp only [Tryz.ntmps147, push_cast, simprocAttr])
  repeat' first | (refine at_b (fun hb => ?_) (fun hb => ?_) <;> simp only [hb, push_cast, simprocAttr]) | (refine at_ret ?_; simp only [Tryz.results147, push_cast, simprocAttr]) | (show RWp _ _ _ _ _; simp only [push_cast, simprocAttr])
  all_goals simp [vX, hc, eqI_d, *]
  all_goals simp [eqI_d] at *
  all_goals simp [*]
theorem gtrS_l (a b : Str) : (!(slt a b || decide (a = b))) = slt b a := by
  rw [← gtr_slt a b]
  show _ = (!(slt a b || a == b))
  by_cases h : a = b <;> simp [h]
theorem l14Before_pc (c d : Cm) : PC Tryz.prog 135 [cmdA c, cmdA d] (vB (cLt c d)) := by
  have h1 := l14Ends_pc c
  have h2 := l14Ends_pc d
  have hL : cLt c d = if cEnds c then (if cEnds d then slt d.p c.p else true) else (if cEnds d then false else slt c.p d.p) := rfl
  unfold cmdA cmC at *
  refine pc_enter Tryz.func135 rfl rfl fun w0 fb => go_on ?_; (try simp only [Tryz.ntmps135, push_cast, simprocAttr])
  repeat' first | (refine at_b (fun hb => ?_) (fun hb => ?_) <;> simp only [hb, push_cast, simprocAttr]) | (refine at_ret ?_; simp only [Tryz.results135, push_cast, simprocAttr]) | (refine at_call ?_; (try simp only [push_cast, simprocAttr]); refine rwc_v (by first | exact h1 | exact h2) (go_on ?_); simp only [push_cast, simprocAttr]) | (show RWp _ _ _ _ _; simp only [push_cast, simprocAttr])
  all_goals (try simp only [Bool.not_eq_true', Bool.not_eq_false'] at *)
  all_goals simp_all [vX]
  rw [← gtrS_l c.p d.p, Bool.not_or]
/-- What stands before the place of a command. -/
theorem cPut_split (c : Cm) : ∀ (l : List Cm) (k : Nat), (∀ i d, i < k → l[i]? = some d → cLt c d = false) → k ≤ l.length → cPut c l = l.take k ++ cPut c (l.drop k)
  | l, 0, _, _ => rfl
  | [], k + 1, _, h => by simp at h
  | d :: l, k + 1, h, hk => by
    have h0 : cLt c d = false := h 0 d (by omega) rfl
    simp only [cPut, h0, Bool.false_eq_true, if_false, List.take_succ_cons, List.drop_succ_cons, List.cons_append]
    rw [cPut_split c l k (fun i e hi he => h (i + 1) e (by omega) (by simpa using he)) (by simpa using hk)]
def putI (c : Cm) (l : List Cm) (k : Nat) (o : List Cm) (b : Bool) : Prop := o.length ≤ k + 1 ∧ cPut c l = o ++ (if b = true then l.drop k else cPut c (l.drop k))
theorem putI_next {c d : Cm} {l : List Cm} {k : Nat} {o : List Cm} (hd : l[k]? = some d) :
    (putI c l k o true → putI c l (k + 1) (o ++ [d]) true) ∧ (o.length ≤ k → putI c l k o false → cLt c d = false → putI c l (k + 1) (o ++ [d]) false ∧ (o ++ [d]).length ≤ k + 1) ∧
      (o.length ≤ k → putI c l k o false → cLt c d = true → putI c l (k + 1) (o ++ [c] ++ [d]) true) := by
  have hdr : l.drop k = d :: l.drop (k + 1) := by
    have hi : k < l.length := lt_of_some hd
    rw [List.drop_eq_getElem_cons hi]
    rw [List.getElem?_eq_getElem hi] at hd
    cases hd
    rfl
  refine ⟨fun ⟨h1, h2⟩ => ⟨by simp; omega, ?_⟩, fun h0 ⟨h1, h2⟩ hc => ⟨⟨by simp; omega, ?_⟩, by simp; omega⟩, fun h0 ⟨h1, h2⟩ hc => ⟨by simp; omega, ?_⟩⟩
  · rw [h2, if_pos rfl, if_pos rfl, hdr]; simp
  · rw [h2]
    simp only [Bool.false_eq_true, if_false]
    rw [hdr]
    simp [cPut, hc]
  · rw [h2]
    simp only [Bool.false_eq_true, if_false, if_true]
    rw [hdr]
    simp [cPut, hc]
theorem l14Put_pc (l : List Cm) (hl : l.length < 4294967280) (c : Cm) : PC Tryz.prog 113 [cmA l, cmdA c] (rX (.o 0 (cPut c l).length) [rowC (cPut c l)]) := by
  unfold cmdA cmC
  refine pc_enter Tryz.func113 rfl rfl fun w0 fb => go_on ?_; (try simp only [Tryz.ntmps113, push_cast, simprocAttr])
  refine at_loop (X := Nat × List Cm × Bool) (fun x => [(5, .o 8 x.2.1.length), (6, bA x.2.2), (7, iA x.1), (8, .any)]) (fun x => [(3, ⟨30, 5, [cmC c], true⟩), (4, rowC []), (8, rowC x.2.1)])
    (fun x => x.1 ≤ l.length ∧ putI c l x.1 x.2.1 x.2.2 ∧ (x.2.2 = false → x.2.1.length ≤ x.1)) (fun x => l.length - x.1) (0, [], false) ⟨Nat.zero_le _, ⟨by simp, rfl⟩, fun _ => by simp⟩ ?_ ?_
  · (refine wk_ok ?_ ?_ ?_ ?_ <;> simp [cmC, leL, leH, idsL, idsA, idsR, inH, hget, sameRow, upA, hvA, dsts, dstO, setA_0, setA_1, setA_8, List.append, List.cons_append, List.nil_append])
  · rintro ⟨k, o, b⟩ ⟨q1, q2, q3⟩
    simp only at q1 q2 q3
    have q5 := q2.1
    simp only [upA, hvA, dsts, dstO, setA_0, setA_1, setA_8, List.append, List.cons_append, List.nil_append]
    refine go_on ?_
    (try simp only [push_cast, simprocAttr])
    by_cases hlt : k < l.length
    · obtain ⟨d, hd⟩ := get_of_lt hlt
      have i0 : ltI (k : Int) l.length = true := ltI_t (by omega)
      have i1 := ix_n hd
      have i2 := map_get cmC hd
      simp only [cmC] at i2
      have w1 := wr ((k : Int) + 1) (by omega)
      have hB := l14Before_pc c d
      unfold cmdA cmC at hB
      obtain ⟨n1, n2, n3⟩ := putI_next (c := c) (o := o) hd
      have happ : ∀ m : List Cm, m.map cmC ++ [[sA d.p, iA d.a.k, iA d.a.v, iA d.b.k, iA d.b.v]] = (m ++ [d]).map cmC := fun m => by rw [List.map_append]; rfl
      have happc : o.map cmC ++ [[sA c.p, iA c.a.k, iA c.a.v, iA c.b.k, iA c.b.v]] = (o ++ [c]).map cmC := by rw [List.map_append]; rfl
      (try simp only [i0, push_cast, simprocAttr])
      cases b with
      | true =>
        refine at_draw rfl (by kernel_rfl) ?_
        (try simp only [Bool.not_true, push_cast, simprocAttr])
        refine at_done (by kernel_rfl) (by kernel_rfl) (go_on ?_)
        (try simp only [i1, i2, push_cast, simprocAttr])
        refine at_chk (by omega) ?_
        (try simp only [happ, w1, push_cast, simprocAttr])
        refine at_fin ⟨(k + 1, o ++ [d], true), ⟨by dsimp only; omega, n1 q2, fun h => by cases h⟩, by dsimp only; omega, ?_⟩
        (refine wk_ok ?_ ?_ ?_ ?_ <;> simp [cmC, leL, leH, idsL, idsA, idsR, inH, hget, sameRow, upA, hvA, dsts, dstO, setA_0, setA_1, setA_8, List.append, List.cons_append, List.nil_append])
      | false =>
        have q4 := q3 rfl
        refine at_draw rfl (by kernel_rfl) ?_
        (try simp only [Bool.not_false, i1, i2, push_cast, simprocAttr])
        repeat' first | (refine at_bWn (fun hb => ?_) (fun hb => ?_) <;> simp only [Bool.not_false, hb, push_cast, simprocAttr]) | (refine at_bW (fun hb => ?_) (fun hb => ?_) <;> simp only [Bool.not_false, hb, push_cast, simprocAttr]) | (refine at_callD (by simp [clB, idsL, idsA, hget]) ?_; (try simp only [push_cast, simprocAttr]); first | (refine rcd_v (hB) ?_; simp only [Bool.not_false, push_cast, simprocAttr]) | (refine rcd_d (hB) (by simp [flatV, flatL, ctC, ndC, cmC]) (by simp [ren, ctC, ndC, cmC]) ?_; simp only [Bool.not_false, push_cast, simprocAttr])) | (refine at_done (by kernel_rfl) (by kernel_rfl) (go_on ?_); (try simp only [Bool.not_false, push_cast, simprocAttr]))
        refine at_b (fun hs => ?_) (fun hs => ?_)
        · have ht : List.take (o.length + 1) (List.map cmC (o ++ [c])) = List.map cmC (o ++ [c]) := List.take_of_length_le (by simp)
          (try simp only [hs, push_cast, simprocAttr])
          refine at_chk (by omega) ?_
          (try simp only [happc, i1, i2, push_cast, simprocAttr])
          refine at_chk (by omega) ?_
          (try simp only [ht, happ, w1, push_cast, simprocAttr])
          refine at_fin ⟨(k + 1, o ++ [c] ++ [d], true), ⟨by dsimp only; omega, n3 q4 q2 hs, fun h => by cases h⟩, by dsimp only; omega, ?_⟩
          (refine wk_ok ?_ ?_ ?_ ?_ <;> simp [cmC, leL, leH, idsL, idsA, idsR, inH, hget, sameRow, upA, hvA, dsts, dstO, setA_0, setA_1, setA_8, List.append, List.cons_append, List.nil_append])
        · (try simp only [hs, i1, i2, push_cast, simprocAttr])
          refine at_chk (by omega) ?_
          (try simp only [happ, w1, push_cast, simprocAttr])
          refine at_fin ⟨(k + 1, o ++ [d], false), ⟨by dsimp only; omega, (n2 q4 q2 hs).1, fun _ => (n2 q4 q2 hs).2⟩, by dsimp only; omega, ?_⟩
          (refine wk_ok ?_ ?_ ?_ ?_ <;> simp [cmC, leL, leH, idsL, idsA, idsR, inH, hget, sameRow, upA, hvA, dsts, dstO, setA_0, setA_1, setA_8, List.append, List.cons_append, List.nil_append])
    · have i0 : ltI (k : Int) l.length = false := ltI_f (by omega)
      have hk : k = l.length := by omega
      have happc : o.map cmC ++ [[sA c.p, iA c.a.k, iA c.a.v, iA c.b.k, iA c.b.v]] = (o ++ [c]).map cmC := by rw [List.map_append]; rfl
      have hd0 : l.drop k = [] := List.drop_of_length_le (by omega)
      (try simp only [i0, push_cast, simprocAttr])
      cases b with
      | true =>
        have e := q2.2
        rw [if_pos rfl, hd0, List.append_nil] at e
        (try simp only [Bool.not_true, push_cast, simprocAttr])
        refine at_ret ?_; simp only [Tryz.results113, push_cast, simprocAttr]
        simp [rX, e, ixOf]
      | false =>
        have e := q2.2
        rw [if_neg (by simp), hd0] at e
        simp only [cPut] at e
        (try simp only [Bool.not_false, push_cast, simprocAttr])
        refine at_chk (by omega) ?_
        (try simp only [happc, push_cast, simprocAttr])
        refine at_ret ?_; simp only [Tryz.results113, push_cast, simprocAttr]
        simp [rX, e, ixOf]
theorem cSort_snoc (l : List Cm) (c : Cm) : cSort (l ++ [c]) = cPut c (cSort l) := by
  unfold cSort
  rw [List.foldl_append]
  rfl
theorem l14Sort_pc (l : List Cm) (hl : l.length < 4294967270) : PC Tryz.prog 90 [cmA l] (vX (cmA (cSort l))) := by
  refine pc_enter Tryz.func90 rfl rfl fun w0 fb => go_on ?_; (try simp only [Tryz.ntmps90, push_cast, simprocAttr])
  refine at_loop (X := Nat) (fun k => [(3, cmA (cSort (l.take k))), (4, iA k), (5, .any)]) (fun _ => [(2, rowC [])]) (fun k => k ≤ l.length) (fun k => l.length - k) 0 (Nat.zero_le _) ?_ ?_
  · (refine wk_frz ?_ ?_ ?_ ?_ <;> simp [cSort, leF, leHF, frzB, idsL, idsA, idsR, inH, hget, sameRow, viewN, tk, upA, hvA, dsts, dstO, setA_0, setA_1, setA_8, List.append, List.cons_append, List.nil_append])
  · rintro k q1
    simp only [upA, hvA, dsts, dstO, setA_0, setA_1, setA_8, List.append, List.cons_append, List.nil_append]
    refine go_on ?_
    (try simp only [push_cast, simprocAttr])
    by_cases hlt : k < l.length
    · obtain ⟨d, hd⟩ := get_of_lt hlt
      have i0 : ltI (k : Int) l.length = true := ltI_t (by omega)
      have i1 := ix_n hd
      have i2 := map_get cmC hd
      simp only [cmC] at i2
      have w1 := wr ((k : Int) + 1) (by omega)
      have hsl : (cSort (l.take k)).length ≤ l.length := by rw [cSort_len, List.length_take]; omega
      have hP := l14Put_pc (cSort (l.take k)) (by omega) d
      have hnx : cPut d (cSort (l.take k)) = cSort (l.take (k + 1)) := by rw [List.take_add_one, hd, ← cSort_snoc]; rfl
      rw [hnx] at hP
      unfold cmdA cmC at hP
      (try simp only [i0, i1, i2, push_cast, simprocAttr])
      (refine at_call ?_; (try simp only [push_cast, simprocAttr]); refine rwc_r (hP) rfl (flat_c _) (by simp [frB, baseOf]) (go_on ?_); (try simp only [push_cast, simprocAttr]))
      (try simp only [w1, push_cast, simprocAttr])
      refine at_fin ⟨k + 1, by omega, by omega, ?_⟩
      (refine wk_frz ?_ ?_ ?_ ?_ <;> simp [leF, leHF, frzB, idsL, idsA, idsR, inH, hget, sameRow, viewN, tk, upA, hvA, dsts, dstO, setA_0, setA_1, setA_8, List.append, List.cons_append, List.nil_append])
    · have i0 : ltI (k : Int) l.length = false := ltI_f (by omega)
      have hk : k = l.length := by omega
      subst hk
      (try simp only [i0, push_cast, simprocAttr])
      refine at_ret ?_; simp only [Tryz.results90, push_cast, simprocAttr]
      simp [vX]
end Go.Proofs.YtcjialgknmplbaaGreatDoor
/-
  Walks: spec.LogCanon.
-/
namespace Go.Proofs.YtcjialgknmplbaaGreatDoor
open Go Go.RowKit Go.Proofs
/-- No command ahead of a place has its path. -/
def firstB (l : List Cm) (i : Nat) (p : Str) : Bool := !decide (p ∈ (l.take i).map (·.p))
attribute [local irreducible] RWp AW run kPe pe Kt effA gd gu br retR RDp runD kPeD brW gW effD
set_option maxRecDepth 100000
theorem l14First_pc (l : List Cm) (hl : l.length < 4294967280) (i : Nat) (c : Cm) (hc : l[i]? = some c) : PC Tryz.prog 89 [cmA l, iA i] (vB (firstB l i c.p)) := by
  have hi := lt_of_some hc
  have c1 := ix_n hc
  have c2 := map_get cmC hc
  simp only [cmC] at c2
  refine pc_enter Tryz.func89 rfl rfl fun w0 fb => go_on ?_; (try simp only [Tryz.ntmps89, push_cast, simprocAttr])
  refine at_loop (X := Nat) (fun k => [(5, iA k)]) (fun _ => []) (fun k => k ≤ i ∧ ∀ j d, j < k → l[j]? = some d → d.p ≠ c.p) (fun k => i - k) 0 ⟨Nat.zero_le _, fun j d hj => by omega⟩ ?_ ?_
  · (refine wk_ok ?_ ?_ ?_ ?_ <;> simp [leL, leH, idsL, idsA, idsR, inH, hget, sameRow, upA, hvA, dsts, dstO, setA_0, setA_1, setA_8, List.append, List.cons_append, List.nil_append])
  · rintro k ⟨q1, q2⟩
    simp only [upA, hvA, dsts, dstO, setA_0, setA_1, setA_8, List.append, List.cons_append, List.nil_append]
    refine go_on ?_
    (try simp only [push_cast, simprocAttr])
    by_cases hlt : k < i
    · obtain ⟨d, hd⟩ := get_of_lt (l := l) (k := k) (by omega)
      have i0 : ltI (k : Int) (i : Int) = true := ltI_t (by omega)
      have i1 := ix_n hd
      have i2 := map_get cmC hd
      simp only [cmC] at i2
      have w1 := wr ((k : Int) + 1) (by omega)
      (try simp only [i0, push_cast, simprocAttr])
      refine at_draw rfl (by kernel_rfl) ?_
      (try simp only [i1, i2, c1, c2, push_cast, simprocAttr])
      refine at_done (by kernel_rfl) (by kernel_rfl) (go_on ?_)
      (try simp only [push_cast, simprocAttr])
      refine at_b (fun hn => ?_) (fun hn => ?_)
      · have he : d.p = c.p := by simpa using hn
        have hf : firstB l i c.p = false := by
          unfold firstB
          simp only [Bool.not_eq_false', decide_eq_true_eq, List.mem_map]
          exact ⟨d, List.mem_of_getElem? (i := k) (by rw [List.getElem?_take, if_pos hlt]; exact hd), he⟩
        (try simp only [hn, push_cast, simprocAttr])
        refine at_ret ?_; simp only [Tryz.results89, push_cast, simprocAttr]
        simp [vX, hf]
      · have he : d.p ≠ c.p := by simpa using hn
        (try simp only [hn, w1, push_cast, simprocAttr])
        refine at_fin ⟨k + 1, ⟨by omega, fun j e hj hje => ?_⟩, by omega, ?_⟩
        · rcases Nat.lt_or_ge j k with h | h
          · exact q2 j e h hje
          · obtain rfl : j = k := by omega
            rw [hd] at hje
            cases hje
            exact he
        · (refine wk_ok ?_ ?_ ?_ ?_ <;> simp [leL, leH, idsL, idsA, idsR, inH, hget, sameRow, upA, hvA, dsts, dstO, setA_0, setA_1, setA_8, List.append, List.cons_append, List.nil_append])
    · have i0 : ltI (k : Int) (i : Int) = false := ltI_f (by omega)
      have hf : firstB l i c.p = true := by
        unfold firstB
        simp only [Bool.not_eq_true', decide_eq_false_iff_not, List.mem_map, not_exists, not_and]
        intro d hd e
        obtain ⟨j, hj, hje⟩ := List.getElem_of_mem hd
        have hj2 := hj
        rw [List.length_take] at hj2
        have : l[j]? = some d := by
          have h3 : (l.take i)[j]? = some d := by rw [List.getElem?_eq_getElem hj, hje]
          rw [List.getElem?_take, if_pos (by omega)] at h3
          exact h3
        exact q2 j d (by omega) this e
      (try simp only [i0, push_cast, simprocAttr])
      refine at_ret ?_; simp only [Tryz.results89, push_cast, simprocAttr]
      simp [vX, hf]
def canS (l : List Cm) : AV → List Row → Prop := vX (.tup [cmA ((lCanon l).getD []), bA (lCanon l).isSome])
theorem specLogCanon_pc (l : List Cm) (hs : SmL l) : PC Tryz.prog 47 [cmA l] (canS l) := by
  refine pc_enter Tryz.func47 rfl rfl fun w0 fb => go_on ?_; (try simp only [Tryz.ntmps47, push_cast, simprocAttr])
  (refine at_call ?_; (try simp only [push_cast, simprocAttr]); refine rwc_v (specLogValid_pc l hs) (go_on ?_); (try simp only [push_cast, simprocAttr]))
  refine at_b (fun hb => ?_) (fun hb => ?_)
  · have h : lV l = false := not_t hb
    (try simp only [hb, push_cast, simprocAttr])
    refine at_retf ?_; simp only [Tryz.results47, push_cast, simprocAttr]
    simp [canS, vX, lCanon, h]
  have h : lV l = true := not_f hb
  have hl20 := lV_len h
  have hO := lCanon_out h
  (try simp only [hb, push_cast, simprocAttr])
  refine at_loop (X := Nat × List Cm) (fun x => [(4, .o 12 x.2.length), (5, iA x.1), (12, .any)]) (fun x => [(2, rowC []), (12, rowC x.2)])
    (fun x => x.1 ≤ l.length ∧ x.2.length ≤ x.1 ∧ (outA [] l).map fltC = ((outA ((l.take x.1).map (·.p)) (l.drop x.1)).map fltC).map (x.2 ++ ·)) (fun x => l.length - x.1) (0, []) ⟨Nat.zero_le _, by simp, by simp [Function.comp_def]⟩ ?_ ?_
  · (refine wk_ok ?_ ?_ ?_ ?_ <;> simp [leL, leH, idsL, idsA, idsR, inH, hget, sameRow, upA, hvA, dsts, dstO, setA_0, setA_1, setA_8, List.append, List.cons_append, List.nil_append])
  · rintro ⟨i, o⟩ ⟨q1, q2, q3⟩
    simp only at q1 q2 q3
    simp only [upA, hvA, dsts, dstO, setA_0, setA_1, setA_8, List.append, List.cons_append, List.nil_append]
    by_cases hlt : i < l.length
    · refine go_on ?_
      (try simp only [push_cast, simprocAttr])
      obtain ⟨c, hc⟩ := get_of_lt hlt
      obtain ⟨s1, s2⟩ := out_step hc q3
      have i0 : ltI (i : Int) l.length = true := ltI_t (by omega)
      have i1 := ix_n hc
      have i2 := map_get cmC hc
      simp only [cmC] at i2
      have w1 := wr ((i : Int) + 1) (by omega)
      have hF := l14First_pc l (by omega) i c hc
      (try simp only [i0, push_cast, simprocAttr])
      (refine at_call ?_; (try simp only [push_cast, simprocAttr]); refine rwc_v (hF) (go_on ?_); (try simp only [push_cast, simprocAttr]))
      refine at_b (fun hf => ?_) (fun hf => ?_)
      · have hm : c.p ∉ (l.take i).map (·.p) := by simpa [firstB] using hf
        obtain ⟨s3, s4⟩ := s2 hm
        (try simp only [hf, i1, i2, w1, push_cast, simprocAttr])
        refine at_loop (X := Nat × Ct) (fun y => [(7, iA y.1)]) (fun y => [(2, rowC []), (12, rowC o), (6, ⟨30, 5, [cmC ⟨c.p, c.a, y.2⟩], true⟩)])
          (fun y => i + 1 ≤ y.1 ∧ y.1 ≤ l.length ∧ chn c.p c.b (l.drop (i + 1)) = chn c.p y.2 (l.drop y.1)) (fun y => l.length - y.1) (i + 1, c.b) ⟨Nat.le_refl _, by dsimp only; omega, rfl⟩ ?_ ?_
        · (refine wk_ok ?_ ?_ ?_ ?_ <;> simp [cmC, leL, leH, idsL, idsA, idsR, inH, hget, sameRow, upA, hvA, dsts, dstO, setA_0, setA_1, setA_8, List.append, List.cons_append, List.nil_append])
        · rintro ⟨k, t⟩ ⟨r1, r2, r3⟩
          simp only at r1 r2 r3
          simp only [upA, hvA, dsts, dstO, setA_0, setA_1, setA_8, List.append, List.cons_append, List.nil_append]
          refine go_on ?_
          (try simp only [push_cast, simprocAttr])
          by_cases hlk : k < l.length
          · obtain ⟨d, hd⟩ := get_of_lt hlk
            have j0 : ltI (k : Int) l.length = true := ltI_t (by omega)
            have j1 := ix_n hd
            have j2 := map_get cmC hd
            simp only [cmC] at j2
            have w2 := wr ((k : Int) + 1) (by omega)
            rw [drop_of_get hd] at r3
            simp only [chn] at r3
            (try simp only [j0, push_cast, simprocAttr])
            refine at_draw rfl (by kernel_rfl) ?_
            (try simp only [j1, j2, push_cast, simprocAttr])
            refine at_done (by kernel_rfl) (by kernel_rfl) (go_on ?_)
            (try simp only [push_cast, simprocAttr])
            refine at_b (fun hp => ?_) (fun hp => ?_)
            · have hp' : d.p = c.p := by simpa using hp
              rw [if_pos hp'] at r3
              (try simp only [hp, push_cast, simprocAttr])
              refine at_draw rfl (by kernel_rfl) ?_
              (try simp only [j1, j2, ctg, cth, push_cast, simprocAttr])
              have e : (eqI d.a.k t.k && eqI d.a.v t.v) = decide (d.a = t) := ct_eq _ _
              refine at_done (by kernel_rfl) (by kernel_rfl) (go_on ?_)
              (try simp only [e, push_cast, simprocAttr])
              refine at_b (fun hn => ?_) (fun hn => ?_)
              · have hne : d.a ≠ t := by simpa using hn
                rw [if_neg hne] at r3
                have hnone : lCanon l = none := by rw [hO, s3 r3]; rfl
                (try simp only [hn, push_cast, simprocAttr])
                refine at_retf ?_; simp only [Tryz.results47, push_cast, simprocAttr]
                simp [canS, vX, hnone]
              · have heq : d.a = t := by simpa using hn
                rw [if_pos heq] at r3
                (try simp only [hn, j1, j2, w2, push_cast, simprocAttr])
                refine at_fin ⟨(k + 1, d.b), ⟨by dsimp only; omega, by dsimp only; omega, r3⟩, by dsimp only; omega, ?_⟩
                (refine wk_ok ?_ ?_ ?_ ?_ <;> simp [cmC, leL, leH, idsL, idsA, idsR, inH, hget, sameRow, upA, hvA, dsts, dstO, setA_0, setA_1, setA_8, List.append, List.cons_append, List.nil_append])
            · have hp' : ¬ d.p = c.p := by simpa using hp
              rw [if_neg hp'] at r3
              (try simp only [hp, w2, push_cast, simprocAttr])
              refine at_fin ⟨(k + 1, t), ⟨by dsimp only; omega, by dsimp only; omega, r3⟩, by dsimp only; omega, ?_⟩
              (refine wk_ok ?_ ?_ ?_ ?_ <;> simp [cmC, leL, leH, idsL, idsA, idsR, inH, hget, sameRow, upA, hvA, dsts, dstO, setA_0, setA_1, setA_8, List.append, List.cons_append, List.nil_append])
          · have j0 : ltI (k : Int) l.length = false := ltI_f (by omega)
            rw [List.drop_of_length_le (show l.length ≤ k by omega)] at r3
            have s5 := s4 t r3
            have e : (eqI c.a.k t.k && eqI c.a.v t.v) = decide (c.a = t) := ct_eq _ _
            (try simp only [j0, ctg, cth, e, push_cast, simprocAttr])
            refine at_b (fun hn => ?_) (fun hn => ?_)
            · have hne : c.a ≠ t := by simpa using hn
              rw [if_pos hne] at s5
              have happ : o.map cmC ++ [[sA c.p, iA c.a.k, iA c.a.v, iA t.k, iA t.v]] = (o ++ [(⟨c.p, c.a, t⟩ : Cm)]).map cmC := by rw [List.map_append]; rfl
              (try simp only [hn, push_cast, simprocAttr])
              refine at_chk (by omega) ?_
              (try simp only [happ, w1, push_cast, simprocAttr])
              refine at_fin ⟨(i + 1, o ++ [(⟨c.p, c.a, t⟩ : Cm)]), ⟨by dsimp only; omega, by simp; omega, s5⟩, by dsimp only; omega, ?_⟩
              (refine wk_ok ?_ ?_ ?_ ?_ <;> simp [cmC, leL, leH, idsL, idsA, idsR, inH, hget, sameRow, upA, hvA, dsts, dstO, setA_0, setA_1, setA_8, List.append, List.cons_append, List.nil_append])
            · have heq : c.a = t := by simpa using hn
              rw [if_neg (by simpa using heq)] at s5
              (try simp only [hn, w1, push_cast, simprocAttr])
              refine at_fin ⟨(i + 1, o), ⟨by dsimp only; omega, by dsimp only; omega, s5⟩, by dsimp only; omega, ?_⟩
              (refine wk_ok ?_ ?_ ?_ ?_ <;> simp [cmC, leL, leH, idsL, idsA, idsR, inH, hget, sameRow, upA, hvA, dsts, dstO, setA_0, setA_1, setA_8, List.append, List.cons_append, List.nil_append])
      · have hm : c.p ∈ (l.take i).map (·.p) := by simpa [firstB] using hf
        (try simp only [hf, w1, push_cast, simprocAttr])
        refine at_fin ⟨(i + 1, o), ⟨by dsimp only; omega, by dsimp only; omega, s1 hm⟩, by dsimp only; omega, ?_⟩
        (refine wk_ok ?_ ?_ ?_ ?_ <;> simp [leL, leH, idsL, idsA, idsR, inH, hget, sameRow, upA, hvA, dsts, dstO, setA_0, setA_1, setA_8, List.append, List.cons_append, List.nil_append])
    · have i0 : ltI (i : Int) l.length = false := ltI_f (by omega)
      rw [List.drop_of_length_le (by omega)] at q3
      simp only [outA, Option.map_some, show fltC [] = [] from rfl, List.append_nil] at q3
      have hcan : lCanon l = some (cSort o) := by rw [hO, q3]; rfl
      have hS := l14Sort_pc o (by omega)
      refine go_on_n 12 ?_
      (try simp only [i0, run_0, push_cast, simprocAttr])
      refine at_more ?_
      (refine at_frzS [12] (by refine wk_frz ?_ ?_ ?_ ?_ <;> simp [frzS, frzT, hasN, delL, hdel, leF, leHF, frzB, idsL, idsA, idsR, inH, hget, sameRow, viewN, tk]) ?_; simp only [frzS, frzT, hasN, delL, hdel, idsA, idsL, viewN, hget, List.map_cons, List.map_nil, List.all_cons, List.all_nil, List.append_nil, List.drop, List.getElem?_cons_zero, List.getElem?_cons_succ, Bool.not_false, Bool.not_true, Bool.and_true, if_true, if_false, simprocAttr])
      refine go_on ?_
      (try simp only [push_cast, simprocAttr])
      ((try simp only [push_cast, simprocAttr]); refine at_share (by first | rfl | simp [isC]) (by first | rfl | simp only [ren]) (hS) (go_on ?_); (try simp only [push_cast, simprocAttr]))
      refine at_ret ?_; simp only [Tryz.results47, push_cast, simprocAttr]
      simp [canS, vX, hcan]
end Go.Proofs.YtcjialgknmplbaaGreatDoor
/-
  Walks: SiteCanon, SiteShort, twice.
-/
namespace Go.Proofs.YtcjialgknmplbaaGreatDoor
open Go Go.RowKit Go.Proofs
theorem siteSh_bad {s : St} (h : siteV s = false) : siteSh s = (st0, false) := by simp [siteSh, h]
theorem siteSh_ok {s : St} (h : siteV s = true) : siteSh s = (⟨s.ep, s.base, siteC s⟩, true) := by simp [siteSh, h]
attribute [local irreducible] RWp AW run kPe pe Kt effA gd gu br retR RDp runD kPeD brW gW effD
set_option maxRecDepth 100000
theorem SiteCanon_pc (s : St) (hs : SmS s) : PC Tryz.prog 16 [stA' s] (rX (.o 0 (siteC s).length) [rowC (siteC s)]) := by
  have hL := LogCanon_pc s.log hs.l
  have hV := SiteValid_pc s hs
  unfold stA' stC at hV ⊢
  unfold canD at hL
  refine pc_enter Tryz.func16 rfl rfl fun w0 fb => go_on ?_; (try simp only [Tryz.ntmps16, push_cast, simprocAttr])
  refine at_call ?_
  (try simp only [push_cast, simprocAttr])
  refine rwc_v hV ?_
  (try simp only [push_cast, simprocAttr])
  (refine at_dropS [2] (by refine wk_ok ?_ ?_ ?_ ?_ <;> simp [dropS, dropT, hasN, delL, hdel, leL, leH, idsL, idsA, idsR, inH, hget, sameRow]) ?_; simp only [dropS, dropT, hasN, delL, hdel, idsA, idsL, hget, List.map_cons, List.map_nil, List.all_cons, List.all_nil, List.append_nil, Bool.not_false, Bool.not_true, Bool.and_true, if_true, if_false, simprocAttr])
  refine go_on ?_
  (try simp only [push_cast, simprocAttr])
  refine at_b (fun hb => ?_) (fun hb => ?_)
  · have h : siteV s = false := not_t hb
    (try simp only [hb, push_cast, simprocAttr])
    refine at_ret ?_; simp only [Tryz.results16, push_cast, simprocAttr]
    simp [rX, siteC, h, ixOf]
  · have h : siteV s = true := not_f hb
    have e : siteC s = (lCanon s.log).getD [] := by simp [siteC, h]
    rw [← e] at hL
    (try simp only [hb, push_cast, simprocAttr])
    (refine at_call ?_; (try simp only [push_cast, simprocAttr]); refine rwc_r (hL) (by simp [flatV, flatL]) (flat_c _) (by simp [frB, baseOf]) (go_on ?_); (try simp only [push_cast, simprocAttr]))
    refine at_ret ?_; simp only [Tryz.results16, push_cast, simprocAttr]
    simp [rX, ixOf]
theorem SiteCanon_d (s : St) (hs : SmS s) : PC Tryz.prog 16 [stA' s] (vX (cmA (siteC s))) := by
  have := (SiteCanon_pc s hs).frzX
  simpa [viewN, hpOf, hget, isC, tk] using this
theorem specSiteCanon_pc (s : St) (hs : SmS s) : PC Tryz.prog 22 [stA' s] (vX (cmA (siteC s))) := by
  have hL := specLogCanon_pc s.log hs.l
  have hV := specSiteValid_pc s hs
  unfold stA' stC at hV ⊢
  unfold canS at hL
  refine pc_enter Tryz.func22 rfl rfl fun w0 fb => go_on ?_; (try simp only [Tryz.ntmps22, push_cast, simprocAttr])
  (refine at_call ?_; (try simp only [push_cast, simprocAttr]); refine rwc_v (hV) (go_on ?_); (try simp only [push_cast, simprocAttr]))
  refine at_b (fun hb => ?_) (fun hb => ?_)
  · have h : siteV s = false := not_t hb
    (try simp only [hb, push_cast, simprocAttr])
    refine at_retf ?_; simp only [Tryz.results22, push_cast, simprocAttr]
    simp [vX, siteC, h, ixOf]
  · have h : siteV s = true := not_f hb
    have e : siteC s = (lCanon s.log).getD [] := by simp [siteC, h]
    rw [← e] at hL
    (try simp only [hb, push_cast, simprocAttr])
    ((try simp only [push_cast, simprocAttr]); refine at_share2 (by simp [isC2, isC]) (by first | rfl | simp [ren]) (hL) (go_on ?_); (try simp only [push_cast, simprocAttr]))
    refine at_ret ?_; simp only [Tryz.results22, push_cast, simprocAttr]
    simp [vX, ixOf]
def shR (s : St) : AV → List Row → Prop := rX (.tup [stO (siteSh s).1, bA (siteSh s).2]) [rowN (siteSh s).1.base, rowC (siteSh s).1.log]
theorem SiteShort_pc0 (s : St) (hs : SmS s) (h : siteV s = false) : PC Tryz.prog 18 [stA' s] (vX (.tup [st00, bA false])) := by
  have hV := SiteValid_pc s hs
  unfold stA' stC at hV ⊢
  refine pc_enter Tryz.func18 rfl rfl fun w0 fb => go_on ?_; (try simp only [Tryz.ntmps18, push_cast, simprocAttr])
  (refine at_call ?_; (try simp only [push_cast, simprocAttr]); refine rwc_v (hV) (go_on ?_); (try simp only [push_cast, simprocAttr]))
  (try simp only [h, Bool.not_false, push_cast, simprocAttr])
  refine at_ret ?_; simp only [Tryz.results18, push_cast, simprocAttr]
  simp [vX, st00]
theorem SiteShort_pc1 (s : St) (hs : SmS s) (h : siteV s = true) : PC Tryz.prog 18 [stA' s] (shR s) := by
  have hV := SiteValid_pc s hs
  have hb : s.base.length < 4294967281 := hs.t.n'
  have hl : s.log.length < 4294967280 := hs.l.n
  have hK := clone_pc s hb (by omega)
  have hC := SiteCanon_pc s hs
  have e := siteSh_ok h
  unfold stA' stC at hV hK hC ⊢
  unfold stO at hK
  refine pc_enter Tryz.func18 rfl rfl fun w0 fb => go_on ?_; (try simp only [Tryz.ntmps18, push_cast, simprocAttr])
  (refine at_call ?_; (try simp only [push_cast, simprocAttr]); refine rwc_v (hV) (go_on ?_); (try simp only [push_cast, simprocAttr]))
  (try simp only [h, Bool.not_true, push_cast, simprocAttr])
  (refine at_call ?_; (try simp only [push_cast, simprocAttr]); refine rwc_r (hK) (by simp [flatV, flatL]) (flat_nc _ _) (by simp [frB, baseOf]) (go_on ?_); (try simp only [push_cast, simprocAttr]))
  (refine at_call ?_; (try simp only [push_cast, simprocAttr]); refine rwc_r (hC) rfl (flat_c _) (by simp [frB, baseOf]) (go_on ?_); (try simp only [push_cast, simprocAttr]))
  refine at_ret ?_; simp only [Tryz.results18, push_cast, simprocAttr]
  simp [shR, rX, e, stO, ixOf]
theorem specSiteShort_pc0 (s : St) (hs : SmS s) (h : siteV s = false) : PC Tryz.prog 19 [stA' s] (vX (.tup [st00, bA false])) := by
  have hV := specSiteValid_pc s hs
  unfold stA' stC at hV ⊢
  refine pc_enter Tryz.func19 rfl rfl fun w0 fb => go_on ?_; (try simp only [Tryz.ntmps19, push_cast, simprocAttr])
  (refine at_call ?_; (try simp only [push_cast, simprocAttr]); refine rwc_v (hV) (go_on ?_); (try simp only [push_cast, simprocAttr]))
  (try simp only [h, Bool.not_false, push_cast, simprocAttr])
  refine at_ret ?_; simp only [Tryz.results19, push_cast, simprocAttr]
  simp [vX, st00]
theorem specSiteShort_pc1 (s : St) (hs : SmS s) (h : siteV s = true) : PC Tryz.prog 19 [stA' s] (vX (.tup [stA' (siteSh s).1, bA (siteSh s).2])) := by
  have hV := specSiteValid_pc s hs
  have hb : s.base.length < 4294967281 := hs.t.n'
  have hl : s.log.length < 4294967280 := hs.l.n
  have hK := (l41Copy_pc s hb (by omega)).frzX
  have hC := specSiteCanon_pc s hs
  have e := siteSh_ok h
  simp [viewN, hpOf, hget, stO, stC, isC, tk] at hK
  rw [e]
  unfold stA' stC at hV hC ⊢
  refine pc_enter Tryz.func19 rfl rfl fun w0 fb => go_on ?_; (try simp only [Tryz.ntmps19, push_cast, simprocAttr])
  (refine at_call ?_; (try simp only [push_cast, simprocAttr]); refine rwc_v (hV) (go_on ?_); (try simp only [push_cast, simprocAttr]))
  (try simp only [h, Bool.not_true, push_cast, simprocAttr])
  ((try simp only [push_cast, simprocAttr]); refine at_share2 (by simp [isC2, isC]) (by first | rfl | simp [ren]) (hK) (go_on ?_); (try simp only [push_cast, simprocAttr]))
  ((try simp only [push_cast, simprocAttr]); refine at_share2 (by simp [isC2, isC]) (by first | rfl | simp [ren]) (hC) (go_on ?_); (try simp only [push_cast, simprocAttr]))
  refine at_ret ?_; simp only [Tryz.results19, push_cast, simprocAttr]
  simp [vX]
theorem SiteShort_d (s : St) (hs : SmS s) : PC Tryz.prog 18 [stA' s] (vX (.tup [stA' (siteSh s).1, bA (siteSh s).2])) := by
  cases h : siteV s with
  | false =>
    rw [siteSh_bad h]
    refine (SiteShort_pc0 s hs h).less fun h loc w v hg => hg.tup2 rfl fun j x y u h1 h2 h3 => ?_
    rcases j with _ | _ | j
    · cases h1; cases h2; exact nil_st0 h3
    · cases h1; cases h2; exact h3
    · cases h1
  | true =>
    have := (SiteShort_pc1 s hs h).frzX
    simpa [viewN, hpOf, hget, stO, stA', stC, isC, tk] using this
theorem specSiteShort_d (s : St) (hs : SmS s) : PC Tryz.prog 19 [stA' s] (vX (.tup [stA' (siteSh s).1, bA (siteSh s).2])) := by
  cases h : siteV s with
  | false =>
    rw [siteSh_bad h]
    refine (specSiteShort_pc0 s hs h).less fun h loc w v hg => hg.tup2 rfl fun j x y u h1 h2 h3 => ?_
    rcases j with _ | _ | j
    · cases h1; cases h2; exact nil_st0 h3
    · cases h1; cases h2; exact h3
    · cases h1
  | true => exact specSiteShort_pc1 s hs h
end Go.Proofs.YtcjialgknmplbaaGreatDoor
/-
  Walks: canonical logs are short.
-/
namespace Go.Proofs.YtcjialgknmplbaaGreatDoor
open Go Go.RowKit Go.Proofs
theorem siteC_cv (s : St) : (siteC s).length ≤ 20 ∧ ∀ c ∈ siteC s, CV c := by
  cases h : siteV s with
  | true =>
    obtain ⟨t, L, hs⟩ := (siteV_iff s).1 h
    rw [hs.C]
    exact ⟨hs.l20, hs.co.cv⟩
  | false =>
    have : siteC s = [] := by simp [siteC, h]
    rw [this]
    exact ⟨by simp, by simp⟩
theorem siteC_sm (s : St) : SmL (siteC s) := by
  obtain ⟨h1, h2⟩ := siteC_cv s
  refine ⟨by omega, fun c hc => ?_⟩
  have h := h2 c hc
  have := (pV_len h.p h.r).2
  omega
theorem siteSh_sm {s : St} (hs : SmS s) : SmS (siteSh s).1 := by
  cases h : siteV s with
  | true => rw [siteSh_ok h]; exact ⟨hs.t, siteC_sm s⟩
  | false =>
    rw [siteSh_bad h]
    exact ⟨⟨⟨by simp [st0], by simp [st0]⟩, by simp [st0]⟩, ⟨by simp [st0], by simp [st0]⟩⟩
end Go.Proofs.YtcjialgknmplbaaGreatDoor
/-
  Walks: impl.TreeChanged, impl.CanonDiff.
-/
namespace Go.Proofs.YtcjialgknmplbaaGreatDoor
open Go Go.RowKit Go.Proofs
def fltP (a b : List Nd) (l : List Str) : List Str := l.filter fun p => decide (getC a p ≠ getC b p)
theorem chg_eq {a b : List Nd} (ha : tV a = true) (hb : tV b = true) : chg a b = fltP a b (mrg a b) := by unfold chg fltP; rw [if_pos (by simp [ha, hb])]
theorem chg_no {a b : List Nd} (h : (tV a && tV b) = false) : chg a b = [] := by unfold chg; rw [if_neg (by simp [h])]
theorem fltP_y {a b : List Nd} {p : Str} (l : List Str) (h : getC a p ≠ getC b p) : fltP a b (p :: l) = p :: fltP a b l := by unfold fltP; rw [List.filter_cons, if_pos (by simpa using h)]
theorem fltP_n {a b : List Nd} {p : Str} (l : List Str) (h : getC a p = getC b p) : fltP a b (p :: l) = fltP a b l := by unfold fltP; rw [List.filter_cons, if_neg (by simpa using h)]
theorem mrg_lt {x y : Nd} {a b : List Nd} (h : slt x.p y.p = true) : mrg (x :: a) (y :: b) = x.p :: mrg a (y :: b) := by rw [mrg, if_pos h]
theorem mrg_gt {x y : Nd} {a b : List Nd} (h1 : slt x.p y.p = false) (h : slt y.p x.p = true) : mrg (x :: a) (y :: b) = y.p :: mrg (x :: a) b := by rw [mrg, if_neg (by simp [h1]), if_pos h]
theorem mrg_same {x y : Nd} {a b : List Nd} (h1 : slt x.p y.p = false) (h : slt y.p x.p = false) : mrg (x :: a) (y :: b) = x.p :: mrg a b := by rw [mrg, if_neg (by simp [h1]), if_neg (by simp [h])]
theorem mrg_l (x : Nd) (a : List Nd) : mrg (x :: a) [] = x.p :: mrg a [] := by cases a <;> simp [mrg]
theorem mrg_r (y : Nd) (b : List Nd) : mrg [] (y :: b) = y.p :: mrg [] b := by simp [mrg]
def mksC (ms : List Nat) : List Oper → Nat → Bool
  | [], i => decide (ms.length = i)
  | o :: l, i => (match ms[i]? with
    | some m => m == mk1 (ms.take i) o.after.toList
    | none => false) && mksC ms l (i + 1)
theorem mksC_ok (ms : List Nat) : ∀ (l : List Oper) (i : Nat), mksC ms l i = true → mks l (ms.take i) = ms
  | [], i, h => by
    simp only [mksC, decide_eq_true_eq] at h
    simp [mks, ← h]
  | o :: l, i, h => by
    simp only [mksC, Bool.and_eq_true] at h
    obtain ⟨h1, h2⟩ := h
    split at h1
    · rename_i m hm
      have e : m = mk1 (ms.take i) o.after.toList := by simpa using h1
      have := mksC_ok ms l (i + 1) h2
      rw [List.take_add_one, hm] at this
      simp only [mks, ← e]
      exact this
    · cases h1
/-- The end of a long drawn region whose operations write nothing: its masks told. -/
theorem at_done_q {P : Program} {w0 : World} {lent : Lent} {Q : Exit → Act → World → Prop} {ops : List Oper} {k : List It} {s s' : AS} {evs : List E} (ms : List Nat) (h0 : mksC ms ops 0 = true) (h1 : evs.all plB = true)
    (h2 : prP (evs.map fun e => (e.d, e.rd)) ms (evs.map fun e => (e.d, e.rd)) 0 = true) (h : AW P w0 lent Q k s') : RDp P (KD P w0 lent Q ops k s) (.done evs s') :=
  at_done_p h1 (by have := mksC_ok ms ops 0 h0; rw [List.take_zero] at this; rw [this]; exact h2) h
attribute [local irreducible] RWp AW run kPe pe Kt effA gd gu br retR RDp runD kPeD brW gW effD
set_option maxRecDepth 100000
set_option maxHeartbeats 4000000
theorem TreeChanged_pc (a b : List Nd) (ha : SmT a) (hb : SmT b) : PC Tryz.prog 50 [ndA a, ndA b] (rX (.o 0 (chg a b).length) [rowS (chg a b)]) := by
  refine pc_enter Tryz.func50 rfl rfl fun w0 fb => go_on ?_; (try simp only [Tryz.ntmps50, push_cast, simprocAttr])
  refine at_call ?_
  (try simp only [push_cast, simprocAttr])
  refine rwc_v (TreeValid_pc a ha) ?_
  (try simp only [push_cast, simprocAttr])
  (refine at_dropS [4] (by refine wk_ok ?_ ?_ ?_ ?_ <;> simp [dropS, dropT, hasN, delL, hdel, leL, leH, idsL, idsA, idsR, inH, hget, sameRow]) ?_; simp only [dropS, dropT, hasN, delL, hdel, idsA, idsL, hget, List.map_cons, List.map_nil, List.all_cons, List.all_nil, List.append_nil, Bool.not_false, Bool.not_true, Bool.and_true, if_true, if_false, simprocAttr])
  refine go_on ?_
  (try simp only [push_cast, simprocAttr])
  cases hva : tV a with
  | false =>
    have e := chg_no (a := a) (b := b) (by simp [hva])
    (try simp only [hva, Bool.not_false, push_cast, simprocAttr])
    refine at_ret ?_; simp only [Tryz.results50, push_cast, simprocAttr]
    simp [rX, e, ixOf, rowS]
  | true =>
  (try simp only [hva, Bool.not_true, push_cast, simprocAttr])
  (refine at_call ?_; (try simp only [push_cast, simprocAttr]); refine rwc_v (TreeValid_pc b hb) (go_on ?_); (try simp only [push_cast, simprocAttr]))
  cases hvb : tV b with
  | false =>
    have e := chg_no (a := a) (b := b) (by simp [hvb])
    (try simp only [hvb, Bool.not_false, push_cast, simprocAttr])
    refine at_ret ?_; simp only [Tryz.results50, push_cast, simprocAttr]
    simp [rX, e, ixOf, rowS]
  | true =>
  have hla := ((tV_iff a).1 hva).le
  have hlb := ((tV_iff b).1 hvb).le
  have hE := chg_eq hva hvb
  (try simp only [hvb, Bool.not_true, push_cast, simprocAttr])
  refine at_loop (X := Nat × Nat × List Str) (fun x => [(5, .o 5 x.2.2.length), (6, iA x.1), (7, iA x.2.1)]) (fun x => [(5, rowS x.2.2)])
    (fun x => x.1 ≤ a.length ∧ x.2.1 ≤ b.length ∧ x.2.2.length ≤ x.1 + x.2.1 ∧ chg a b = x.2.2 ++ fltP a b (mrg (a.drop x.1) (b.drop x.2.1))) (fun x => a.length + b.length - (x.1 + x.2.1)) (0, 0, []) ⟨Nat.zero_le _, Nat.zero_le _, by simp, hE⟩ ?_ ?_
  · (refine wk_ok ?_ ?_ ?_ ?_ <;> simp [rowS, leL, leH, idsL, idsA, idsR, inH, hget, sameRow, upA, hvA, dsts, dstO, setA_0, setA_1, setA_8, List.append, List.cons_append, List.nil_append])
  · rintro ⟨i, k, o⟩ ⟨q1, q2, q3, q4⟩
    simp only at q1 q2 q3 q4
    simp only [upA, hvA, dsts, dstO, setA_0, setA_1, setA_8, List.append, List.cons_append, List.nil_append]
    refine go_on ?_
    (try simp only [push_cast, simprocAttr])
    have w1 : IntKind.i64.wrap ((i : Int) + 1) = (i : Int) + 1 := wr _ (by omega)
    have w2 : IntKind.i64.wrap ((k : Int) + 1) = (k : Int) + 1 := wr _ (by omega)
    by_cases hi : i < a.length
    · obtain ⟨x, hx⟩ := get_of_lt hi
      have i0 : ltI (i : Int) a.length = true := ltI_t (by omega)
      have i3 : eqI (i : Int) a.length = false := eqI_f (by omega)
      have i1 := ix_n hx
      have i2 := map_get ndC hx
      simp only [ndC] at i2
      have hda := drop_of_get hx
      by_cases hk : k < b.length
      · obtain ⟨y, hy⟩ := get_of_lt hk
        have k0 : ltI (k : Int) b.length = true := ltI_t (by omega)
        have k3 : eqI (k : Int) b.length = false := eqI_f (by omega)
        have k1 := ix_n hy
        have k2 := map_get ndC hy
        simp only [ndC] at k2
        have hdb := drop_of_get hy
        (try simp only [i0, push_cast, simprocAttr])
        cases h1 : slt x.p y.p with
        | true =>
          refine at_draw rfl (by kernel_rfl) ?_
          (try simp only [push_cast, simprocAttr])
          (try simp only [k3, push_cast, simprocAttr])
          (try simp only [i0, push_cast, simprocAttr])
          (try simp only [i1, i2, push_cast, simprocAttr])
          (try simp only [k1, k2, push_cast, simprocAttr])
          (try simp only [i1, i2, push_cast, simprocAttr])
          (try simp only [h1, push_cast, simprocAttr])
          refine at_done_q [0, 0, 2, 7, 15, 31, 31, 95, 255, 511, 1023, 1023, 4095, 8191, 16383, 1023, 1023, 99327, 230399, 492543, 1048575, 2097151, 4194303, 8388607] (by kernel_rfl) (by kernel_rfl) (by simp only [List.map_cons, List.map_nil]; kernel_rfl) (go_on ?_)
          as_aux_lemma =>
            (try simp only [i0, k0, i1, i2, w1, h1, push_cast, simprocAttr])
            (refine at_call ?_; (try simp only [push_cast, simprocAttr]); refine rwc_d (get_pc a (by omega) x.p) (by simp [flatV, flatL, ctC, ndC, cmC]) (by simp [ren, ctC, ndC, cmC]) (go_on ?_); (try simp only [push_cast, simprocAttr]))
            (refine at_call ?_; (try simp only [push_cast, simprocAttr]); refine rwc_d (get_pc b (by omega) x.p) (by simp [flatV, flatL, ctC, ndC, cmC]) (by simp [ren, ctC, ndC, cmC]) (go_on ?_); (try simp only [push_cast, simprocAttr]))
            have e : (eqI (getC a x.p).k (getC b x.p).k && eqI (getC a x.p).v (getC b x.p).v) = decide (getC a x.p = getC b x.p) := ct_eq _ _
            (try simp only [ctg, cth, e, push_cast, simprocAttr])
            refine at_b (fun hn => ?_) (fun hn => ?_)
            · have hne : getC a x.p ≠ getC b x.p := by simpa using hn
              have happ : o.map sC ++ [[sA x.p]] = (o ++ [x.p]).map sC := by rw [List.map_append]; rfl
              (try simp only [hn, rowS, push_cast, simprocAttr])
              refine at_chk (by omega) ?_
              (try simp only [happ, rowS, push_cast, simprocAttr])
              refine at_fin ⟨(i + 1, k, o ++ [x.p]), ⟨by dsimp only; omega, by dsimp only; omega, by simp; omega, ?_⟩, by dsimp only; omega, ?_⟩
              · dsimp only
                rw [q4, hda, hdb, mrg_lt h1, ← hdb, fltP_y _ hne]
                simp
              · (refine wk_ok ?_ ?_ ?_ ?_ <;> simp [rowS, sC, leL, leH, idsL, idsA, idsR, inH, hget, sameRow, upA, hvA, dsts, dstO, setA_0, setA_1, setA_8, List.append, List.cons_append, List.nil_append])
            · have hne : getC a x.p = getC b x.p := by simpa using hn
              (try simp only [hn, push_cast, simprocAttr])
              refine at_fin ⟨(i + 1, k, o), ⟨by dsimp only; omega, by dsimp only; omega, by dsimp only; omega, ?_⟩, by dsimp only; omega, ?_⟩
              · dsimp only
                rw [q4, hda, hdb, mrg_lt h1, ← hdb, fltP_n _ hne]
              · (refine wk_ok ?_ ?_ ?_ ?_ <;> simp [rowS, leL, leH, idsL, idsA, idsR, inH, hget, sameRow, upA, hvA, dsts, dstO, setA_0, setA_1, setA_8, List.append, List.cons_append, List.nil_append])
        | false =>
          refine at_draw rfl (by kernel_rfl) ?_
          (try simp only [push_cast, simprocAttr])
          (try simp only [k3, push_cast, simprocAttr])
          (try simp only [i0, push_cast, simprocAttr])
          (try simp only [i1, i2, push_cast, simprocAttr])
          (try simp only [k1, k2, push_cast, simprocAttr])
          (try simp only [i1, i2, push_cast, simprocAttr])
          (try simp only [h1, push_cast, simprocAttr])
          refine at_done_q [0, 0, 2, 7, 15, 31, 31, 95, 255, 511, 1023, 1023, 4095, 8191, 16383, 1023, 1023, 99327, 230399, 492543, 1048575, 2097151, 4194303, 8388607] (by kernel_rfl) (by kernel_rfl) (by simp only [List.map_cons, List.map_nil]; kernel_rfl) (go_on ?_)
          as_aux_lemma =>
            (try simp only [h1, push_cast, simprocAttr])
            cases h2 : slt y.p x.p with
            | true =>
              refine at_draw rfl (by kernel_rfl) ?_
              (try simp only [push_cast, simprocAttr])
              (try simp only [i3, push_cast, simprocAttr])
              (try simp only [i1, i2, push_cast, simprocAttr])
              (try simp only [k1, k2, push_cast, simprocAttr])
              (try simp only [i1, i2, push_cast, simprocAttr])
              (try simp only [h2, push_cast, simprocAttr])
              refine at_done_q [0, 0, 2, 7, 15, 31, 31, 127, 255, 511, 31, 31, 3103, 7199, 15391, 32767, 65535, 131071] (by kernel_rfl) (by kernel_rfl) (by simp only [List.map_cons, List.map_nil]; kernel_rfl) (go_on ?_)
              as_aux_lemma =>
                (try simp only [k1, k2, w2, h2, push_cast, simprocAttr])
                (refine at_call ?_; (try simp only [push_cast, simprocAttr]); refine rwc_d (get_pc a (by omega) y.p) (by simp [flatV, flatL, ctC, ndC, cmC]) (by simp [ren, ctC, ndC, cmC]) (go_on ?_); (try simp only [push_cast, simprocAttr]))
                (refine at_call ?_; (try simp only [push_cast, simprocAttr]); refine rwc_d (get_pc b (by omega) y.p) (by simp [flatV, flatL, ctC, ndC, cmC]) (by simp [ren, ctC, ndC, cmC]) (go_on ?_); (try simp only [push_cast, simprocAttr]))
                have e : (eqI (getC a y.p).k (getC b y.p).k && eqI (getC a y.p).v (getC b y.p).v) = decide (getC a y.p = getC b y.p) := ct_eq _ _
                (try simp only [ctg, cth, e, push_cast, simprocAttr])
                refine at_b (fun hn => ?_) (fun hn => ?_)
                · have hne : getC a y.p ≠ getC b y.p := by simpa using hn
                  have happ : o.map sC ++ [[sA y.p]] = (o ++ [y.p]).map sC := by rw [List.map_append]; rfl
                  (try simp only [hn, rowS, push_cast, simprocAttr])
                  refine at_chk (by omega) ?_
                  (try simp only [happ, rowS, push_cast, simprocAttr])
                  refine at_fin ⟨(i, k + 1, o ++ [y.p]), ⟨by dsimp only; omega, by dsimp only; omega, by simp; omega, ?_⟩, by dsimp only; omega, ?_⟩
                  · dsimp only
                    rw [q4, hda, hdb, mrg_gt h1 h2, ← hda, fltP_y _ hne]
                    simp
                  · (refine wk_ok ?_ ?_ ?_ ?_ <;> simp [rowS, sC, leL, leH, idsL, idsA, idsR, inH, hget, sameRow, upA, hvA, dsts, dstO, setA_0, setA_1, setA_8, List.append, List.cons_append, List.nil_append])
                · have hne : getC a y.p = getC b y.p := by simpa using hn
                  (try simp only [hn, push_cast, simprocAttr])
                  refine at_fin ⟨(i, k + 1, o), ⟨by dsimp only; omega, by dsimp only; omega, by dsimp only; omega, ?_⟩, by dsimp only; omega, ?_⟩
                  · dsimp only
                    rw [q4, hda, hdb, mrg_gt h1 h2, ← hda, fltP_n _ hne]
                  · (refine wk_ok ?_ ?_ ?_ ?_ <;> simp [rowS, leL, leH, idsL, idsA, idsR, inH, hget, sameRow, upA, hvA, dsts, dstO, setA_0, setA_1, setA_8, List.append, List.cons_append, List.nil_append])
            | false =>
              refine at_draw rfl (by kernel_rfl) ?_
              (try simp only [push_cast, simprocAttr])
              (try simp only [i3, push_cast, simprocAttr])
              (try simp only [i1, i2, push_cast, simprocAttr])
              (try simp only [k1, k2, push_cast, simprocAttr])
              (try simp only [i1, i2, push_cast, simprocAttr])
              (try simp only [h2, push_cast, simprocAttr])
              refine at_done_q [0, 0, 2, 7, 15, 31, 31, 127, 255, 511, 31, 31, 3103, 7199, 15391, 32767, 65535, 131071] (by kernel_rfl) (by kernel_rfl) (by simp only [List.map_cons, List.map_nil]; kernel_rfl) (go_on ?_)
              as_aux_lemma =>
                (try simp only [h2, push_cast, simprocAttr])
                (try simp only [i1, push_cast, simprocAttr])
                simp -implicitDefEqProofs only [i2, push_cast, simprocAttr]
                (try simp only [w1, w2, push_cast, simprocAttr])
                (refine at_call ?_; (try simp only [push_cast, simprocAttr]); refine rwc_d (get_pc a (by omega) x.p) (by simp [flatV, flatL, ctC, ndC, cmC]) (by simp [ren, ctC, ndC, cmC]) (go_on ?_); (try simp only [push_cast, simprocAttr]))
                (refine at_call ?_; (try simp only [push_cast, simprocAttr]); refine rwc_d (get_pc b (by omega) x.p) (by simp [flatV, flatL, ctC, ndC, cmC]) (by simp [ren, ctC, ndC, cmC]) (go_on ?_); (try simp only [push_cast, simprocAttr]))
                have e : (eqI (getC a x.p).k (getC b x.p).k && eqI (getC a x.p).v (getC b x.p).v) = decide (getC a x.p = getC b x.p) := ct_eq _ _
                (try simp only [ctg, cth, e, push_cast, simprocAttr])
                refine at_b (fun hn => ?_) (fun hn => ?_)
                · have hne : getC a x.p ≠ getC b x.p := by simpa using hn
                  have happ : o.map sC ++ [[sA x.p]] = (o ++ [x.p]).map sC := by rw [List.map_append]; rfl
                  (try simp only [hn, rowS, push_cast, simprocAttr])
                  refine at_chk (by omega) ?_
                  (try simp only [happ, rowS, push_cast, simprocAttr])
                  refine at_fin ⟨(i + 1, k + 1, o ++ [x.p]), ⟨by dsimp only; omega, by dsimp only; omega, by simp; omega, ?_⟩, by dsimp only; omega, ?_⟩
                  · dsimp only
                    rw [q4, hda, hdb, mrg_same h1 h2, fltP_y _ hne]
                    simp
                  · (refine wk_ok ?_ ?_ ?_ ?_ <;> simp [rowS, sC, leL, leH, idsL, idsA, idsR, inH, hget, sameRow, upA, hvA, dsts, dstO, setA_0, setA_1, setA_8, List.append, List.cons_append, List.nil_append])
                · have hne : getC a x.p = getC b x.p := by simpa using hn
                  (try simp only [hn, push_cast, simprocAttr])
                  refine at_fin ⟨(i + 1, k + 1, o), ⟨by dsimp only; omega, by dsimp only; omega, by dsimp only; omega, ?_⟩, by dsimp only; omega, ?_⟩
                  · dsimp only
                    rw [q4, hda, hdb, mrg_same h1 h2, fltP_n _ hne]
                  · (refine wk_ok ?_ ?_ ?_ ?_ <;> simp [rowS, leL, leH, idsL, idsA, idsR, inH, hget, sameRow, upA, hvA, dsts, dstO, setA_0, setA_1, setA_8, List.append, List.cons_append, List.nil_append])
      · have k3 : eqI (k : Int) b.length = true := eqI_t (by omega)
        have hdb : b.drop k = [] := List.drop_of_length_le (by omega)
        (try simp only [i0, push_cast, simprocAttr])
        refine at_draw rfl (by kernel_rfl) ?_
        (try simp only [push_cast, simprocAttr])
        (try simp only [k3, push_cast, simprocAttr])
        refine at_done_q [0, 0, 2, 7, 15, 31, 31, 95, 255, 511, 1023, 1023, 4095, 8191, 16383, 1023, 1023, 99327, 230399, 492543, 1048575, 2097151, 4194303, 8388607] (by kernel_rfl) (by kernel_rfl) (by simp only [List.map_cons, List.map_nil]; kernel_rfl) (go_on ?_)
        as_aux_lemma =>
          (try simp only [i1, i2, w1, push_cast, simprocAttr])
          (refine at_call ?_; (try simp only [push_cast, simprocAttr]); refine rwc_d (get_pc a (by omega) x.p) (by simp [flatV, flatL, ctC, ndC, cmC]) (by simp [ren, ctC, ndC, cmC]) (go_on ?_); (try simp only [push_cast, simprocAttr]))
          (refine at_call ?_; (try simp only [push_cast, simprocAttr]); refine rwc_d (get_pc b (by omega) x.p) (by simp [flatV, flatL, ctC, ndC, cmC]) (by simp [ren, ctC, ndC, cmC]) (go_on ?_); (try simp only [push_cast, simprocAttr]))
          have e : (eqI (getC a x.p).k (getC b x.p).k && eqI (getC a x.p).v (getC b x.p).v) = decide (getC a x.p = getC b x.p) := ct_eq _ _
          (try simp only [ctg, cth, e, push_cast, simprocAttr])
          refine at_b (fun hn => ?_) (fun hn => ?_)
          · have hne : getC a x.p ≠ getC b x.p := by simpa using hn
            have happ : o.map sC ++ [[sA x.p]] = (o ++ [x.p]).map sC := by rw [List.map_append]; rfl
            (try simp only [hn, rowS, push_cast, simprocAttr])
            refine at_chk (by omega) ?_
            (try simp only [happ, rowS, push_cast, simprocAttr])
            refine at_fin ⟨(i + 1, k, o ++ [x.p]), ⟨by dsimp only; omega, by dsimp only; omega, by simp; omega, ?_⟩, by dsimp only; omega, ?_⟩
            · dsimp only
              rw [q4, hda, hdb, mrg_l, fltP_y _ hne]
              simp
            · (refine wk_ok ?_ ?_ ?_ ?_ <;> simp [rowS, sC, leL, leH, idsL, idsA, idsR, inH, hget, sameRow, upA, hvA, dsts, dstO, setA_0, setA_1, setA_8, List.append, List.cons_append, List.nil_append])
          · have hne : getC a x.p = getC b x.p := by simpa using hn
            (try simp only [hn, push_cast, simprocAttr])
            refine at_fin ⟨(i + 1, k, o), ⟨by dsimp only; omega, by dsimp only; omega, by dsimp only; omega, ?_⟩, by dsimp only; omega, ?_⟩
            · dsimp only
              rw [q4, hda, hdb, mrg_l, fltP_n _ hne]
            · (refine wk_ok ?_ ?_ ?_ ?_ <;> simp [rowS, leL, leH, idsL, idsA, idsR, inH, hget, sameRow, upA, hvA, dsts, dstO, setA_0, setA_1, setA_8, List.append, List.cons_append, List.nil_append])
    · have i0 : ltI (i : Int) a.length = false := ltI_f (by omega)
      have i3 : eqI (i : Int) a.length = true := eqI_t (by omega)
      have hda : a.drop i = [] := List.drop_of_length_le (by omega)
      by_cases hk : k < b.length
      · obtain ⟨y, hy⟩ := get_of_lt hk
        have k0 : ltI (k : Int) b.length = true := ltI_t (by omega)
        have k3 : eqI (k : Int) b.length = false := eqI_f (by omega)
        have k1 := ix_n hy
        have k2 := map_get ndC hy
        simp only [ndC] at k2
        have hdb := drop_of_get hy
        (try simp only [i0, k0, push_cast, simprocAttr])
        refine at_draw rfl (by kernel_rfl) ?_
        (try simp only [push_cast, simprocAttr])
        (try simp only [k3, push_cast, simprocAttr])
        (try simp only [i0, push_cast, simprocAttr])
        refine at_done_q [0, 0, 2, 7, 15, 31, 31, 95, 255, 511, 1023, 1023, 4095, 8191, 16383, 1023, 1023, 99327, 230399, 492543, 1048575, 2097151, 4194303, 8388607] (by kernel_rfl) (by kernel_rfl) (by simp only [List.map_cons, List.map_nil]; kernel_rfl) (go_on ?_)
        as_aux_lemma =>
          (try simp only [push_cast, simprocAttr])
          refine at_draw rfl (by kernel_rfl) ?_
          (try simp only [push_cast, simprocAttr])
          (try simp only [i3, push_cast, simprocAttr])
          refine at_done_q [0, 0, 2, 7, 15, 31, 31, 127, 255, 511, 31, 31, 3103, 7199, 15391, 32767, 65535, 131071] (by kernel_rfl) (by kernel_rfl) (by simp only [List.map_cons, List.map_nil]; kernel_rfl) (go_on ?_)
          as_aux_lemma =>
            (try simp only [k1, k2, w2, push_cast, simprocAttr])
            (refine at_call ?_; (try simp only [push_cast, simprocAttr]); refine rwc_d (get_pc a (by omega) y.p) (by simp [flatV, flatL, ctC, ndC, cmC]) (by simp [ren, ctC, ndC, cmC]) (go_on ?_); (try simp only [push_cast, simprocAttr]))
            (refine at_call ?_; (try simp only [push_cast, simprocAttr]); refine rwc_d (get_pc b (by omega) y.p) (by simp [flatV, flatL, ctC, ndC, cmC]) (by simp [ren, ctC, ndC, cmC]) (go_on ?_); (try simp only [push_cast, simprocAttr]))
            have e : (eqI (getC a y.p).k (getC b y.p).k && eqI (getC a y.p).v (getC b y.p).v) = decide (getC a y.p = getC b y.p) := ct_eq _ _
            (try simp only [ctg, cth, e, push_cast, simprocAttr])
            refine at_b (fun hn => ?_) (fun hn => ?_)
            · have hne : getC a y.p ≠ getC b y.p := by simpa using hn
              have happ : o.map sC ++ [[sA y.p]] = (o ++ [y.p]).map sC := by rw [List.map_append]; rfl
              (try simp only [hn, rowS, push_cast, simprocAttr])
              refine at_chk (by omega) ?_
              (try simp only [happ, rowS, push_cast, simprocAttr])
              refine at_fin ⟨(i, k + 1, o ++ [y.p]), ⟨by dsimp only; omega, by dsimp only; omega, by simp; omega, ?_⟩, by dsimp only; omega, ?_⟩
              · dsimp only
                rw [q4, hda, hdb, mrg_r, fltP_y _ hne]
                simp
              · (refine wk_ok ?_ ?_ ?_ ?_ <;> simp [rowS, sC, leL, leH, idsL, idsA, idsR, inH, hget, sameRow, upA, hvA, dsts, dstO, setA_0, setA_1, setA_8, List.append, List.cons_append, List.nil_append])
            · have hne : getC a y.p = getC b y.p := by simpa using hn
              (try simp only [hn, push_cast, simprocAttr])
              refine at_fin ⟨(i, k + 1, o), ⟨by dsimp only; omega, by dsimp only; omega, by dsimp only; omega, ?_⟩, by dsimp only; omega, ?_⟩
              · dsimp only
                rw [q4, hda, hdb, mrg_r, fltP_n _ hne]
              · (refine wk_ok ?_ ?_ ?_ ?_ <;> simp [rowS, leL, leH, idsL, idsA, idsR, inH, hget, sameRow, upA, hvA, dsts, dstO, setA_0, setA_1, setA_8, List.append, List.cons_append, List.nil_append])
      · have k0 : ltI (k : Int) b.length = false := ltI_f (by omega)
        have hdb : b.drop k = [] := List.drop_of_length_le (by omega)
        have e : chg a b = o := by rw [q4, hda, hdb]; simp [mrg, fltP]
        (try simp only [i0, k0, push_cast, simprocAttr])
        refine at_ret ?_; simp only [Tryz.results50, push_cast, simprocAttr]
        simp [rX, e, ixOf, rowS]
end Go.Proofs.YtcjialgknmplbaaGreatDoor
/-
  Walks: impl.CanonDiff.
-/
namespace Go.Proofs.YtcjialgknmplbaaGreatDoor
open Go Go.RowKit Go.Proofs
theorem mrg_len : ∀ (a b : List Nd), (mrg a b).length ≤ a.length + b.length := by
  intro a b
  fun_induction mrg a b <;> simp_all <;> omega
theorem chg_len (a b : List Nd) : (chg a b).length ≤ a.length + b.length := by
  unfold chg
  split
  · exact Nat.le_trans (List.length_filter_le _ _) (mrg_len a b)
  · simp
def dfC (a b : List Nd) (l : List Str) : List Cm := l.map fun p => ⟨p, getC a p, getC b p⟩
theorem cDiff_ok {a b : List Nd} (ha : tV a = true) (hb : tV b = true) {L : List Cm} (h : cDiff a b = some L) : L = cSort (dfC a b (chg a b)) := by
  unfold cDiff at h
  rw [if_pos (by simp [ha, hb])] at h
  exact (Option.some.inj h).symm
attribute [local irreducible] RWp AW run kPe pe Kt effA gd gu br retR RDp runD kPeD brW gW effD
set_option maxRecDepth 100000
theorem CanonDiff_pc (a b : List Nd) (ha : SmT a) (hb : SmT b) (hva : tV a = true) (hvb : tV b = true) (L : List Cm) (hL : cDiff a b = some L) : PC Tryz.prog 24 [ndA a, ndA b] (rX (.tup [.o 0 L.length, bA true]) [rowC L]) := by
  have hLe := cDiff_ok hva hvb hL
  have hla := ((tV_iff a).1 hva).le
  have hlb := ((tV_iff b).1 hvb).le
  have hcl := chg_len a b
  have hVa := TreeValid_pc a ha
  have hVb := TreeValid_pc b hb
  rw [hva] at hVa
  rw [hvb] at hVb
  have hC := TreeChanged_pc a b ha hb
  obtain ⟨q, hq⟩ : ∃ q, q = chg a b := ⟨_, rfl⟩
  rw [← hq] at hC hLe hcl
  have h1 : one1 (dfC a b q) = true := by rw [hq]; exact diff_one ((tV_iff a).1 hva) ((tV_iff b).1 hvb)
  refine pc_enter Tryz.func24 rfl rfl fun w0 fb => go_on ?_; (try simp only [Tryz.ntmps24, push_cast, simprocAttr])
  (refine at_call ?_; (try simp only [push_cast, simprocAttr]); refine rwc_v (hVa) (go_on ?_); (try simp only [Bool.not_true, push_cast, simprocAttr]))
  (refine at_call ?_; (try simp only [push_cast, simprocAttr]); refine rwc_v (hVb) (go_on ?_); (try simp only [Bool.not_true, push_cast, simprocAttr]))
  (refine at_call ?_; (try simp only [push_cast, simprocAttr]); refine rwc_r (hC) rfl (flat_s _) (by simp [frB, baseOf]) (go_on ?_); (try simp only [push_cast, simprocAttr]))
  refine at_loop (X := Nat × List Cm) (fun x => [(4, .any), (6, .o 6 x.2.length), (21, iA x.1)]) (fun x => [(20000, rowS q), (6, rowC x.2)])
    (fun x => x.1 ≤ q.length ∧ x.2 = dfC a b (q.take x.1)) (fun x => q.length - x.1) (0, []) ⟨Nat.zero_le _, rfl⟩ ?_ ?_
  · (refine wk_ok ?_ ?_ ?_ ?_ <;> simp [rowC, rowS, leL, leH, idsL, idsA, idsR, inH, hget, sameRow, upA, hvA, dsts, dstO, setA_0, setA_1, setA_8, List.append, List.cons_append, List.nil_append])
  · rintro ⟨i, o⟩ ⟨q1, q2⟩
    simp only at q1 q2
    simp only [upA, hvA, dsts, dstO, setA_0, setA_1, setA_8, List.append, List.cons_append, List.nil_append]
    refine go_on ?_
    (try simp only [push_cast, simprocAttr])
    have w1 : IntKind.i64.wrap ((i : Int) + 1) = (i : Int) + 1 := wr _ (by omega)
    have hol : o.length = i := by rw [q2]; simp [dfC]; omega
    by_cases hi : i < q.length
    · obtain ⟨p, hp⟩ := get_of_lt hi
      have i0 : ltI (i : Int) q.length = true := ltI_t (by omega)
      have i1 := ix_n hp
      have i2 := map_get sC hp
      simp only [sC] at i2
      (try simp only [i0, i1, i2, rowS, push_cast, simprocAttr])
      (refine at_call ?_; (try simp only [push_cast, simprocAttr]); refine rwc_d (get_pc a (by omega) p) (by simp [flatV, flatL, ctC, ndC, cmC]) (by simp [ren, ctC, ndC, cmC]) (go_on ?_); (try simp only [push_cast, simprocAttr]))
      (refine at_call ?_; (try simp only [push_cast, simprocAttr]); refine rwc_d (get_pc b (by omega) p) (by simp [flatV, flatL, ctC, ndC, cmC]) (by simp [ren, ctC, ndC, cmC]) (go_on ?_); (try simp only [push_cast, simprocAttr]))
      have happ : o.map cmC ++ [cmC (⟨p, getC a p, getC b p⟩ : Cm)] = (o ++ [(⟨p, getC a p, getC b p⟩ : Cm)]).map cmC := by rw [List.map_append]; rfl
      simp only [cmC] at happ
      (try simp only [rowC, push_cast, simprocAttr])
      refine at_chk (by omega) ?_
      (try simp only [happ, rowC, w1, push_cast, simprocAttr])
      refine at_fin ⟨(i + 1, o ++ [⟨p, getC a p, getC b p⟩]), ⟨by dsimp only; omega, ?_⟩, by dsimp only; omega, ?_⟩
      · dsimp only
        rw [q2, List.take_add_one, hp]
        simp [dfC]
      · (refine wk_ok ?_ ?_ ?_ ?_ <;> simp [rowC, rowS, sC, cmC, leL, leH, idsL, idsA, idsR, inH, hget, sameRow, upA, hvA, dsts, dstO, setA_0, setA_1, setA_8, List.append, List.cons_append, List.nil_append])
    · have i0 : ltI (i : Int) q.length = false := ltI_f (by omega)
      have hqe : q.take i = q := List.take_of_length_le (by omega)
      rw [hqe] at q2
      rw [← q2] at h1 hLe
      have hS := SortC_pcl o (by omega)
      (try simp only [i0, push_cast, simprocAttr])
      (try simp only [push_cast, simprocAttr]); refine call_lend [6] none (lr := [rowC o]) (by simp [ndB]) (by first | rfl | simp [rowsOf, hget, rdR, rowS, rowN, rowC, sC, ndC, cmC]) (by simp [idsL, idsA]) (by simp [mvN]) (by simpa [rnA, ixOf] using hS) ?_
      rintro rv lr' rows ⟨g, hgp, hgo, rfl, rfl, rfl⟩
      have hgl : g.length = o.length := hgp.length_eq
      obtain rfl : g = cSort o := cSort_eq h1 hgp hgo
      refine ⟨by simp [shB, mvF, hgl], by simp [frB, baseOf], go_on ?_⟩
      (try simp only [killA, killH, killRow, push_cast, simprocAttr])
      refine at_ret ?_; simp only [Tryz.results24, push_cast, simprocAttr]
      simp [rX, hLe, hgl, ixOf]
theorem CanonDiff_d (a b : List Nd) (ha : SmT a) (hb : SmT b) (hva : tV a = true) (hvb : tV b = true) (L : List Cm) (hL : cDiff a b = some L) : PC Tryz.prog 24 [ndA a, ndA b] (vX (.tup [cmA L, bA true])) := by
  have := (CanonDiff_pc a b ha hb hva hvb L hL).frzX
  simpa [viewN, hpOf, hget, isC, tk] using this
end Go.Proofs.YtcjialgknmplbaaGreatDoor
/-
  Walks: FnSiteCanon.
-/
namespace Go.Proofs.YtcjialgknmplbaaGreatDoor
open Go Go.RowKit Go.Proofs
attribute [local irreducible] RWp AW run kPe pe Kt effA gd gu br retR RDp runD kPeD brW gW effD
set_option maxRecDepth 100000
theorem FnSiteCanon_pc (z : List Int) (hz : BytesOk z) : PC Tryz.prog 5 [byA z] (vB true) := by
  refine pc_enter Tryz.func5 rfl rfl fun w0 fb => go_on ?_; (try simp only [Tryz.ntmps5, push_cast, simprocAttr])
  refine at_b (fun hb => ?_) (fun hb => ?_)
  · (try simp only [hb, push_cast, simprocAttr])
    refine at_ret ?_; simp only [Tryz.results5, push_cast, simprocAttr]
    simp [vX]
  · (try simp only [hb, push_cast, simprocAttr])
    refine call_share (by simp [isC]) (DrawSiteCanon_pc z hz) ?_
    rintro rv rows ⟨s, hs, rfl, rfl⟩
    have hm := hs.sm
    have hD := SiteCanon_d s hm
    have hE := specSiteCanon_pc s hm
    have hV := specSiteValid_pc s hm
    have hsc := siteC_sm s
    have hS := sameLog_pc (siteC s) (siteC s) (by have := hsc.n; omega)
    rw [decide_eq_true rfl] at hS
    have hTd := SiteTree_d s hm
    unfold stA' stC at hD hE hV hTd ⊢
    refine ⟨by simp [frB, baseOf], go_on ?_⟩
    (try simp only [push_cast, simprocAttr])
    ((try simp only [push_cast, simprocAttr]); refine at_share2 (by simp [isC2, isC]) (by first | rfl | simp [ren]) (hD) (go_on ?_); (try simp only [push_cast, simprocAttr]))
    ((try simp only [push_cast, simprocAttr]); refine at_share2 (by simp [isC2, isC]) (by first | rfl | simp [ren]) (hE) (go_on ?_); (try simp only [push_cast, simprocAttr]))
    (refine at_call ?_; (try simp only [push_cast, simprocAttr]); refine rwc_v (hS) (go_on ?_); (try simp only [push_cast, simprocAttr]))
    (try simp only [Bool.not_true, push_cast, simprocAttr])
    cases hv : siteV s with
    | false =>
      rw [hv] at hV
      (refine at_call ?_; (try simp only [push_cast, simprocAttr]); refine rwc_v (hV) (go_on ?_); (try simp only [push_cast, simprocAttr]))
      (try simp only [Bool.not_false, push_cast, simprocAttr])
      (refine at_call ?_; (try simp only [push_cast, simprocAttr]); refine rwc_v (hS) (go_on ?_); (try simp only [push_cast, simprocAttr]))
      refine at_ret ?_; simp only [Tryz.results5, push_cast, simprocAttr]
      simp [vX]
    | true =>
      rw [hv] at hV
      have e1 := law_siteCanon hv
      obtain ⟨_, _, e3⟩ := law_siteTree hv
      obtain ⟨t, L, hsv⟩ := (siteV_iff s).1 hv
      have hC := CanonDiff_d s.base (siteT s) hm.t.s (siteT_sm hm).s ((tV_iff _).2 hsv.tv) e3 _ e1
      (refine at_call ?_; (try simp only [push_cast, simprocAttr]); refine rwc_v (hV) (go_on ?_); (try simp only [push_cast, simprocAttr]))
      (try simp only [Bool.not_true, push_cast, simprocAttr])
      refine at_draw rfl (by kernel_rfl) ?_; simp only [push_cast, simprocAttr]
      (refine at_shareD (by simp [isC2, isC]) (by first | rfl | simp [ren]) hTd ?_; (try simp only [push_cast, simprocAttr]))
      (refine at_shareD (by simp [isC2, isC]) (by first | rfl | simp [ren]) hC ?_; (try simp only [push_cast, simprocAttr]))
      repeat' first | (refine at_bWn (fun hb => ?_) (fun hb => ?_) <;> simp only [hb, push_cast, simprocAttr]) | (refine at_bW (fun hb => ?_) (fun hb => ?_) <;> simp only [hb, push_cast, simprocAttr]) | (refine at_callD (by simp [clB, idsL, idsA, hget]) ?_; (try simp only [push_cast, simprocAttr]); first | (refine rcd_v (hS) ?_; simp only [push_cast, simprocAttr]) | (refine rcd_d (hS) (by simp [flatV, flatL, ctC, ndC, cmC]) (by simp [ren, ctC, ndC, cmC]) ?_; simp only [push_cast, simprocAttr])) | (refine at_done (by kernel_rfl) (by kernel_rfl) (go_on ?_); (try simp only [push_cast, simprocAttr]))
      (refine at_call ?_; (try simp only [push_cast, simprocAttr]); refine rwc_v (hS) (go_on ?_); (try simp only [push_cast, simprocAttr]))
      refine at_ret ?_; simp only [Tryz.results5, push_cast, simprocAttr]
      simp [vX]
end Go.Proofs.YtcjialgknmplbaaGreatDoor
