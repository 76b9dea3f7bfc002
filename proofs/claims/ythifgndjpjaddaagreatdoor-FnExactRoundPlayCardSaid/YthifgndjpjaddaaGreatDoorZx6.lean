/- A part of the proof of FnExactRoundPlay: texts Y2 W58 M34 M35 D9 D10 W59 W60 D12 Y10 D13 W61 W62 W28 W63 W64 W65 Y11 Y11b Y11c Y12 Y3 Y5 Y6 Y7 M42 M43 M44 M46 M50 Y13 Y4 Y14 VFnExactRoundPlay. -/
import Derived.Test.YthifgndjpjaddaaGreatDoorZx5
import Derived.Test.YthifgndjpjaddaaGreatDoorZx4
import Derived.Test.YthifgndjpjaddaaGreatDoorZx3
set_option linter.unusedSimpArgs false
set_option linter.unusedVariables false
/-
  Walks: marks written into a side's rows, and read again.
-/
namespace Go.Proofs.YthifgndjpjaddaaGreatDoor
open Go Go.RowKit Go.Proofs
attribute [local irreducible] RWp AW run kPe pe Kt effA gd gu br retR RDp runD kPeD brW gW effD
set_option maxRecDepth 100000
def markD (n : Nat) (l' : Row) (rv : AV) (lr' rows : List Row) : Prop := rv = iA n ∧ lr' = [l'] ∧ rows = []
theorem markNodeS_pcl (l : List Nd) (k : Nat) (h0 : 0 < k) (hk : k + 3 * l.length ≤ 4611686018427387904) : PCL Tryz.prog 15 [rowN l] (mvF none) [.o 0 l.length, iA k] (markD (k + 3 * l.length) (rowN (mkN k l))) := by
  refine pcl_enter Tryz.func15 rfl rfl (by simp) fun w0 fb loc => go_on ?_; simp only [Tryz.ntmps15, hpL, nmL, mvF, renL, decide_true, decide_false, push_cast, simprocAttr]
  refine at_loop (X := Nat) (fun i => [(1, iA ((k + 3 * i : Nat) : Int)), (5, iA i)]) (fun i => [(500000, rowN (upN k l i))]) (fun i => i ≤ l.length) (fun i => l.length - i) 0 (Nat.zero_le _) ?_ ?_
  · (refine wk_frz ?_ ?_ ?_ ?_ <;> simp [rowN, upN, leF, leHF, frzB, idsL, idsA, idsR, inH, hget, sameRow, viewN, tk, upA, hvA, dsts, dstO, setA_0, setA_1, setA_8, List.append, List.cons_append, List.nil_append])
  · rintro i hi
    simp only [upA, hvA, dsts, dstO, setA_0, setA_1, setA_8, List.append, List.cons_append, List.nil_append]
    refine go_on ?_
    (try simp only [push_cast, simprocAttr])
    by_cases hlt : i < l.length
    · have i0 : ltI (i : Int) l.length = true := ltI_t (by omega)
      have hlen := upN_len k l i hi
      have hm := markText_pc (k + 3 * i) (by omega) (by omega)
      obtain ⟨x, hx⟩ := get_of_lt hlt
      have hux : (upN k l i)[i]? = some x := by unfold upN; rw [up_get (by rw [mkN_len]; exact hi)]; exact hx
      have i1 := ix_n hx
      have i2 := map_get ndC hux
      have i3 : ∀ e, ((List.map ndC (upN k l i)).set i e)[i]? = some e := fun e => by rw [List.getElem?_set_self (by rw [List.length_map]; omega)]
      have hs : (List.map ndC (upN k l i)).set i [sA (mkT (k + 3 * i)), iA ((k + 3 * i : Nat) + 1), iA ((k + 3 * i : Nat) + 1 + 1)] = List.map ndC (upN k l (i + 1)) := by
        unfold upN
        rw [← up_set (mkN_get l k i hlt) hlt, List.map_set]
        rfl
      have w1 : IntKind.i64.wrap ((k : Int) + 3 * (i : Int) + 1) = (k : Int) + 3 * (i : Int) + 1 := wr _ (by omega)
      have w2 : IntKind.i64.wrap ((k : Int) + 3 * (i : Int) + 1 + 1) = (k : Int) + 3 * (i : Int) + 1 + 1 := wr _ (by omega)
      have w3 : IntKind.i64.wrap ((k : Int) + 3 * (i : Int) + 1 + 1 + 1) = (k : Int) + 3 * (i : Int) + 1 + 1 + 1 := wr _ (by omega)
      have w4 : IntKind.i64.wrap ((i : Int) + 1) = (i : Int) + 1 := wr _ (by omega)
      push_cast at hs
      simp only [ndC] at i2
      (try simp only [i0, push_cast, simprocAttr])
      (refine at_call ?_; (try simp only [push_cast, simprocAttr]); refine rwc_v (hm) (go_on ?_); (try simp only [push_cast, simprocAttr]))
      (try simp only [i1, i2, i3, w1, w2, w3, w4, List.set_set, hs, push_cast, simprocAttr])
      have e5 : (k : Int) + 3 * ((i + 1 : Nat) : Int) = (k : Int) + 3 * (i : Int) + 1 + 1 + 1 := by omega
      refine at_fin ⟨i + 1, by omega, by omega, ?_⟩
      simp only [e5]
      (refine wk_frz ?_ ?_ ?_ ?_ <;> simp [rowN, leF, leHF, frzB, idsL, idsA, idsR, inH, hget, sameRow, viewN, tk, upA, hvA, dsts, dstO, setA_0, setA_1, setA_8, List.append, List.cons_append, List.nil_append])
    · have i0 : ltI (i : Int) l.length = false := ltI_f (by omega)
      obtain rfl : i = l.length := by omega
      have e : upN k l l.length = mkN k l := by unfold upN; rw [List.drop_length, List.append_nil, List.take_of_length_le (by rw [mkN_len]; exact Nat.le_refl _)]
      have hfin : markD (k + 3 * l.length) (rowN (mkN k l)) (iA ((k + 3 * l.length : Nat) : Int)) [rowN (mkN k l)] [] := ⟨rfl, rfl, rfl⟩
      (try simp only [i0, e, push_cast, simprocAttr])
      (refine at_retL ?_; simp only [Tryz.results15, retL, push_cast, simprocAttr]; simpa [show List.range 1 = [0] from rfl, show List.range 2 = [0, 1] from rfl, show List.range 3 = [0, 1, 2] from rfl, nmL, mvF, ndB, ixOf, rowsOf, hget, rowS, rowN, rowC] using  hfin)
theorem markCommandS_pcl (l : List Cm) (k : Nat) (h0 : 0 < k) (hk : k + 5 * l.length ≤ 4611686018427387904) : PCL Tryz.prog 45 [rowC l] (mvF none) [.o 0 l.length, iA k] (markD (k + 5 * l.length) (rowC (mkC k l))) := by
  refine pcl_enter Tryz.func45 rfl rfl (by simp) fun w0 fb loc => go_on ?_; simp only [Tryz.ntmps45, hpL, nmL, mvF, renL, decide_true, decide_false, push_cast, simprocAttr]
  refine at_loop (X := Nat) (fun i => [(1, iA ((k + 5 * i : Nat) : Int)), (5, iA i)]) (fun i => [(500000, rowC (upC k l i))]) (fun i => i ≤ l.length) (fun i => l.length - i) 0 (Nat.zero_le _) ?_ ?_
  · (refine wk_frz ?_ ?_ ?_ ?_ <;> simp [rowC, upC, leF, leHF, frzB, idsL, idsA, idsR, inH, hget, sameRow, viewN, tk, upA, hvA, dsts, dstO, setA_0, setA_1, setA_8, List.append, List.cons_append, List.nil_append])
  · rintro i hi
    simp only [upA, hvA, dsts, dstO, setA_0, setA_1, setA_8, List.append, List.cons_append, List.nil_append]
    refine go_on ?_
    (try simp only [push_cast, simprocAttr])
    by_cases hlt : i < l.length
    · have i0 : ltI (i : Int) l.length = true := ltI_t (by omega)
      have hlen := upC_len k l i hi
      have hm := markText_pc (k + 5 * i) (by omega) (by omega)
      obtain ⟨x, hx⟩ := get_of_lt hlt
      have hux : (upC k l i)[i]? = some x := by unfold upC; rw [up_get (by rw [mkC_len]; exact hi)]; exact hx
      have i1 := ix_n hx
      have i2 := map_get cmC hux
      have i3 : ∀ e, ((List.map cmC (upC k l i)).set i e)[i]? = some e := fun e => by rw [List.getElem?_set_self (by rw [List.length_map]; omega)]
      have hs : (List.map cmC (upC k l i)).set i [sA (mkT (k + 5 * i)), iA ((k + 5 * i : Nat) + 1), iA ((k + 5 * i : Nat) + 1 + 1), iA ((k + 5 * i : Nat) + 1 + 1 + 1), iA ((k + 5 * i : Nat) + 1 + 1 + 1 + 1)] = List.map cmC (upC k l (i + 1)) := by
        unfold upC
        rw [← up_set (mkC_get l k i hlt) hlt, List.map_set]
        rfl
      have w1 : IntKind.i64.wrap ((k : Int) + 5 * (i : Int) + 1) = (k : Int) + 5 * (i : Int) + 1 := wr _ (by omega)
      have w2 : IntKind.i64.wrap ((k : Int) + 5 * (i : Int) + 1 + 1) = (k : Int) + 5 * (i : Int) + 1 + 1 := wr _ (by omega)
      have w3 : IntKind.i64.wrap ((k : Int) + 5 * (i : Int) + 1 + 1 + 1) = (k : Int) + 5 * (i : Int) + 1 + 1 + 1 := wr _ (by omega)
      have w6 : IntKind.i64.wrap ((k : Int) + 5 * (i : Int) + 1 + 1 + 1 + 1) = (k : Int) + 5 * (i : Int) + 1 + 1 + 1 + 1 := wr _ (by omega)
      have w7 : IntKind.i64.wrap ((k : Int) + 5 * (i : Int) + 1 + 1 + 1 + 1 + 1) = (k : Int) + 5 * (i : Int) + 1 + 1 + 1 + 1 + 1 := wr _ (by omega)
      have w4 : IntKind.i64.wrap ((i : Int) + 1) = (i : Int) + 1 := wr _ (by omega)
      push_cast at hs
      simp only [cmC] at i2
      (try simp only [i0, push_cast, simprocAttr])
      (refine at_call ?_; (try simp only [push_cast, simprocAttr]); refine rwc_v (hm) (go_on ?_); (try simp only [push_cast, simprocAttr]))
      (try simp only [i1, i2, i3, w1, w2, w3, w4, w6, w7, List.set_set, hs, push_cast, simprocAttr])
      have e5 : (k : Int) + 5 * ((i + 1 : Nat) : Int) = (k : Int) + 5 * (i : Int) + 1 + 1 + 1 + 1 + 1 := by omega
      refine at_fin ⟨i + 1, by omega, by omega, ?_⟩
      simp only [e5]
      (refine wk_frz ?_ ?_ ?_ ?_ <;> simp [rowC, leF, leHF, frzB, idsL, idsA, idsR, inH, hget, sameRow, viewN, tk, upA, hvA, dsts, dstO, setA_0, setA_1, setA_8, List.append, List.cons_append, List.nil_append])
    · have i0 : ltI (i : Int) l.length = false := ltI_f (by omega)
      obtain rfl : i = l.length := by omega
      have e : upC k l l.length = mkC k l := by unfold upC; rw [List.drop_length, List.append_nil, List.take_of_length_le (by rw [mkC_len]; exact Nat.le_refl _)]
      have hfin : markD (k + 5 * l.length) (rowC (mkC k l)) (iA ((k + 5 * l.length : Nat) : Int)) [rowC (mkC k l)] [] := ⟨rfl, rfl, rfl⟩
      (try simp only [i0, e, push_cast, simprocAttr])
      (refine at_retL ?_; simp only [Tryz.results45, retL, push_cast, simprocAttr]; simpa [show List.range 1 = [0] from rfl, show List.range 2 = [0, 1] from rfl, show List.range 3 = [0, 1, 2] from rfl, nmL, mvF, ndB, ixOf, rowsOf, hget, rowS, rowN, rowC] using  hfin)
theorem heldNodeS_pc (l : List Nd) (k : Nat) (h0 : 0 < k) (hk : k + 3 * l.length ≤ 4611686018427387904) : PC Tryz.prog 46 [ndA (mkN k l), iA k] (vI ((k + 3 * l.length : Nat) : Int)) := by
  have hN := mkN_len l k
  refine pc_enter Tryz.func46 rfl rfl fun w0 fb => go_on ?_; (try simp only [Tryz.ntmps46, push_cast, simprocAttr])
  refine at_loop (X := Nat) (fun i => [(1, iA ((k + 3 * i : Nat) : Int)), (5, iA i)]) (fun _ => []) (fun i => i ≤ l.length) (fun i => l.length - i) 0 (Nat.zero_le _) ?_ ?_
  · (refine wk_ok ?_ ?_ ?_ ?_ <;> simp [leL, leH, idsL, idsA, idsR, inH, hget, sameRow, upA, hvA, dsts, dstO, setA_0, setA_1, setA_8, List.append, List.cons_append, List.nil_append])
  · rintro i hi
    simp only [upA, hvA, dsts, dstO, setA_0, setA_1, setA_8, List.append, List.cons_append, List.nil_append]
    refine go_on ?_
    (try simp only [hN, push_cast, simprocAttr])
    by_cases hlt : i < l.length
    · have i0 : ltI (i : Int) l.length = true := ltI_t (by omega)
      have hm := markText_pc (k + 3 * i) (by omega) (by omega)
      have hx := mkN_get l k i hlt
      have i1 := ix_n hx
      rw [hN] at i1
      have i2 := map_get ndC hx
      simp only [ndC] at i2
      have e4 : eqI ((k : Int) + 3 * (i : Int) + 1) ((k : Int) + 3 * (i : Int) + 1) = true := eqI_self _
      have w1 : IntKind.i64.wrap ((k : Int) + 3 * (i : Int) + 1) = (k : Int) + 3 * (i : Int) + 1 := wr _ (by omega)
      have w2 : IntKind.i64.wrap ((k : Int) + 3 * (i : Int) + 1 + 1) = (k : Int) + 3 * (i : Int) + 1 + 1 := wr _ (by omega)
      have w3 : IntKind.i64.wrap ((k : Int) + 3 * (i : Int) + 1 + 1 + 1) = (k : Int) + 3 * (i : Int) + 1 + 1 + 1 := wr _ (by omega)
      have w4 : IntKind.i64.wrap ((i : Int) + 1) = (i : Int) + 1 := wr _ (by omega)
      push_cast at i2
      (try simp only [i0, push_cast, simprocAttr])
      refine at_draw rfl (by kernel_rfl) ?_
      (try simp only [i1, i2, hN, push_cast, simprocAttr])
      push_cast at hm
      have e5 : (k : Int) + 3 * ((i + 1 : Nat) : Int) = (k : Int) + 3 * (i : Int) + 1 + 1 + 1 := by omega
      repeat' first | (refine at_bWn (fun hb => ?_) (fun hb => ?_) <;> simp only [eq_self, decide_true, Bool.not_true, hb, push_cast, simprocAttr]) | (refine at_bW (fun hb => ?_) (fun hb => ?_) <;> simp only [eq_self, decide_true, Bool.not_true, hb, push_cast, simprocAttr]) | (refine at_callD (by simp [clB, idsL, idsA, hget]) ?_; (try simp only [push_cast, simprocAttr]); first | (refine rcd_v (hm) ?_; simp only [eq_self, decide_true, Bool.not_true, push_cast, simprocAttr]) | (refine rcd_d (hm) (by simp [flatV, flatL, ctC, ndC, cmC]) (by simp [ren, ctC, ndC, cmC]) ?_; simp only [eq_self, decide_true, Bool.not_true, push_cast, simprocAttr])) | (refine at_done (by kernel_rfl) (by kernel_rfl) (go_on ?_); (try simp only [eq_self, decide_true, Bool.not_true, push_cast, simprocAttr]))
      (try simp only [i1, i2, w1, w2, w3, w4, hN, eq_self, decide_true, push_cast, simprocAttr])
      refine at_fin ⟨i + 1, by omega, by omega, ?_⟩
      simp only [e5]
      (refine wk_ok ?_ ?_ ?_ ?_ <;> simp [leL, leH, idsL, idsA, idsR, inH, hget, sameRow, upA, hvA, dsts, dstO, setA_0, setA_1, setA_8, List.append, List.cons_append, List.nil_append])
    · have i0 : ltI (i : Int) l.length = false := ltI_f (by omega)
      obtain rfl : i = l.length := by omega
      (try simp only [i0, push_cast, simprocAttr])
      refine at_ret ?_; simp only [Tryz.results46, push_cast, simprocAttr]
      simp [vX]
theorem heldCommandS_pc (l : List Cm) (k : Nat) (h0 : 0 < k) (hk : k + 5 * l.length ≤ 4611686018427387904) : PC Tryz.prog 47 [cmA (mkC k l), iA k] (vI ((k + 5 * l.length : Nat) : Int)) := by
  have hN := mkC_len l k
  refine pc_enter Tryz.func47 rfl rfl fun w0 fb => go_on ?_; (try simp only [Tryz.ntmps47, push_cast, simprocAttr])
  refine at_loop (X := Nat) (fun i => [(1, iA ((k + 5 * i : Nat) : Int)), (5, iA i)]) (fun _ => []) (fun i => i ≤ l.length) (fun i => l.length - i) 0 (Nat.zero_le _) ?_ ?_
  · (refine wk_ok ?_ ?_ ?_ ?_ <;> simp [leL, leH, idsL, idsA, idsR, inH, hget, sameRow, upA, hvA, dsts, dstO, setA_0, setA_1, setA_8, List.append, List.cons_append, List.nil_append])
  · rintro i hi
    simp only [upA, hvA, dsts, dstO, setA_0, setA_1, setA_8, List.append, List.cons_append, List.nil_append]
    refine go_on ?_
    (try simp only [hN, push_cast, simprocAttr])
    by_cases hlt : i < l.length
    · have i0 : ltI (i : Int) l.length = true := ltI_t (by omega)
      have hm := markText_pc (k + 5 * i) (by omega) (by omega)
      have hx := mkC_get l k i hlt
      have i1 := ix_n hx
      rw [hN] at i1
      have i2 := map_get cmC hx
      simp only [cmC] at i2
      have e4 : eqI ((k : Int) + 5 * (i : Int) + 1) ((k : Int) + 5 * (i : Int) + 1) = true := eqI_self _
      have w1 : IntKind.i64.wrap ((k : Int) + 5 * (i : Int) + 1) = (k : Int) + 5 * (i : Int) + 1 := wr _ (by omega)
      have w2 : IntKind.i64.wrap ((k : Int) + 5 * (i : Int) + 1 + 1) = (k : Int) + 5 * (i : Int) + 1 + 1 := wr _ (by omega)
      have w3 : IntKind.i64.wrap ((k : Int) + 5 * (i : Int) + 1 + 1 + 1) = (k : Int) + 5 * (i : Int) + 1 + 1 + 1 := wr _ (by omega)
      have w6 : IntKind.i64.wrap ((k : Int) + 5 * (i : Int) + 1 + 1 + 1 + 1) = (k : Int) + 5 * (i : Int) + 1 + 1 + 1 + 1 := wr _ (by omega)
      have w7 : IntKind.i64.wrap ((k : Int) + 5 * (i : Int) + 1 + 1 + 1 + 1 + 1) = (k : Int) + 5 * (i : Int) + 1 + 1 + 1 + 1 + 1 := wr _ (by omega)
      have w4 : IntKind.i64.wrap ((i : Int) + 1) = (i : Int) + 1 := wr _ (by omega)
      push_cast at i2
      (try simp only [i0, push_cast, simprocAttr])
      refine at_draw rfl (by kernel_rfl) ?_
      (try simp only [i1, i2, hN, push_cast, simprocAttr])
      push_cast at hm
      have e5 : (k : Int) + 5 * ((i + 1 : Nat) : Int) = (k : Int) + 5 * (i : Int) + 1 + 1 + 1 + 1 + 1 := by omega
      repeat' first | (refine at_bWn (fun hb => ?_) (fun hb => ?_) <;> simp only [eq_self, decide_true, Bool.not_true, hb, push_cast, simprocAttr]) | (refine at_bW (fun hb => ?_) (fun hb => ?_) <;> simp only [eq_self, decide_true, Bool.not_true, hb, push_cast, simprocAttr]) | (refine at_callD (by simp [clB, idsL, idsA, hget]) ?_; (try simp only [push_cast, simprocAttr]); first | (refine rcd_v (hm) ?_; simp only [eq_self, decide_true, Bool.not_true, push_cast, simprocAttr]) | (refine rcd_d (hm) (by simp [flatV, flatL, ctC, ndC, cmC]) (by simp [ren, ctC, ndC, cmC]) ?_; simp only [eq_self, decide_true, Bool.not_true, push_cast, simprocAttr])) | (refine at_done (by kernel_rfl) (by kernel_rfl) (go_on ?_); (try simp only [eq_self, decide_true, Bool.not_true, push_cast, simprocAttr]))
      (try simp only [i1, i2, w1, w2, w3, w4, w6, w7, hN, eq_self, decide_true, push_cast, simprocAttr])
      refine at_fin ⟨i + 1, by omega, by omega, ?_⟩
      simp only [e5]
      (refine wk_ok ?_ ?_ ?_ ?_ <;> simp [leL, leH, idsL, idsA, idsR, inH, hget, sameRow, upA, hvA, dsts, dstO, setA_0, setA_1, setA_8, List.append, List.cons_append, List.nil_append])
    · have i0 : ltI (i : Int) l.length = false := ltI_f (by omega)
      obtain rfl : i = l.length := by omega
      (try simp only [i0, push_cast, simprocAttr])
      refine at_ret ?_; simp only [Tryz.results47, push_cast, simprocAttr]
      simp [vX]
end Go.Proofs.YthifgndjpjaddaaGreatDoor
/-
  Walks: impl.play.
-/
namespace Go.Proofs.YthifgndjpjaddaaGreatDoor
open Go Go.RowKit Go.Proofs
def pl (t : List Nd) (l : List Ev) : St × St × List Int := play 0 ⟨0, t, []⟩ ⟨0, t, []⟩ l
structure PJ (t : List Nd) (l : List Ev) (k : Nat) (a b : St) (ds : List Int) : Prop where
  hk : k ≤ l.length
  sa : SmS a
  sb : SmS b
  n : ds.length ≤ k
  e : pl t l = ((play k a b (l.drop k)).1, (play k a b (l.drop k)).2.1, ds ++ (play k a b (l.drop k)).2.2)
theorem PJ.init {t : List Nd} (ht : SmT2 t) (l : List Ev) : PJ t l 0 ⟨0, t, []⟩ ⟨0, t, []⟩ [] :=
  ⟨Nat.zero_le _, ⟨ht, st0_sm.l⟩, ⟨ht, st0_sm.l⟩, Nat.le_refl _, by simp [pl]⟩
theorem PJ.step {t : List Nd} {l : List Ev} {k : Nat} {a b : St} {ds : List Int} (h : PJ t l k a b ds) {e : Ev} (he : l[k]? = some e) {a' b' : St} {ok : Bool} (hr : evDo a b e = (a', b', ok)) (ha : SmS a') (hb : SmS b') :
    PJ t l (k + 1) a' b' (if ok then ds ++ [(k : Int)] else ds) := by
  have hk := lt_of_some he
  refine ⟨hk, ha, hb, ?_, ?_⟩
  · have := h.n
    split
    · simp; omega
    · omega
  · rw [h.e, drop_of_get he]
    simp only [play, hr]
    have hc : ((k + 1 : Nat) : Int) = (k : Int) + 1 := by simp
    rw [hc]
    cases ok <;> simp
theorem PJ.done {t : List Nd} {l : List Ev} {k : Nat} {a b : St} {ds : List Int} (h : PJ t l k a b ds) (hk : l.length ≤ k) : pl t l = (a, b, ds) := by
  rw [h.e, List.drop_of_length_le hk]
  simp [play]
theorem evDo_1 {a b : St} {e : Ev} (h : e.k = 1) : evDo a b e = ((siteDo a e.c).1, b, (siteDo a e.c).2) := by simp [evDo, h]
theorem evDo_2 {a b : St} {e : Ev} (h : e.k = 2) : evDo a b e = (a, (siteDo b e.c).1, (siteDo b e.c).2) := by simp [evDo, h]
theorem evDo_n {a b : St} {e : Ev} (h1 : e.k ≠ 1) (h2 : e.k ≠ 2) (hr : sRun a b = none) : evDo a b e = (a, b, false) := by simp [evDo, h1, h2, hr]
theorem evDo_s {a b x y : St} {e : Ev} (h1 : e.k ≠ 1) (h2 : e.k ≠ 2) (hr : sRun a b = some (x, y)) : evDo a b e = (x, y, true) := by simp [evDo, h1, h2, hr]
attribute [local irreducible] RWp AW run kPe pe Kt effA gd gu br retR RDp runD kPeD brW gW effD
set_option maxRecDepth 100000
theorem play_d (t : List Nd) (ht : SmT2 t) (l : List Ev) (hl : SmE l) : PC Tryz.prog 36 [ndA t, evsA l] (vX (.tup [stA' (pl t l).1, stA' (pl t l).2.1, .sl 1 ((pl t l).2.2.map inC)])) := by
  have hT := cloneTree_d t (by have := ht.n; omega)
  have hn := hl.n
  unfold stA' stC
  refine PC.toF ?_
  refine pc_enter Tryz.func36 rfl rfl fun w0 fb => go_on ?_; (try simp only [Tryz.ntmps36, push_cast, simprocAttr])
  ((try simp only [push_cast, simprocAttr]); refine at_share2 (by simp [isC2, isC]) (by first | rfl | simp [ren]) (hT) (go_on ?_); (try simp only [push_cast, simprocAttr]))
  ((try simp only [push_cast, simprocAttr]); refine at_share2 (by simp [isC2, isC]) (by first | rfl | simp [ren]) (hT) (go_on ?_); (try simp only [push_cast, simprocAttr]))
  refine at_loop (X := Nat × St × St × List Int) (fun x => [(9, .o 9 x.2.2.2.length), (23, iA x.1)]) (fun x => [(4, ⟨45, 3, [[iA 0, .v (.slice none 0 0), .v (.slice none 0 0)]], true⟩), (5, ⟨45, 3, [[iA 0, .v (.slice none 0 0), .v (.slice none 0 0)]], true⟩), (6, ⟨3, 1, [], true⟩), (7, ⟨45, 3, [[iA x.2.1.ep, ndA x.2.1.base, cmA x.2.1.log]], true⟩), (8, ⟨45, 3, [[iA x.2.2.1.ep, ndA x.2.2.1.base, cmA x.2.2.1.log]], true⟩), (9, ⟨3, 1, x.2.2.2.map inC, true⟩)]) (fun x => PJ t l x.1 x.2.1 x.2.2.1 x.2.2.2) (fun x => l.length - x.1) (0, ⟨0, t, []⟩, ⟨0, t, []⟩, []) (PJ.init ht l) ?_ ?_
  · refine wk_nil ?_ ?_ ?_ ?_ <;> simp [leL, leN, rowN2, nlE, nlC, nlv, idsL, idsA, idsR, inH, hget, upA, hvA, dsts, dstO, setA_0, setA_1, setA_8, List.append, List.cons_append, List.nil_append]
  · rintro ⟨k, a, b, ds⟩ hJ
    simp only [upA, hvA, dsts, dstO, setA_0, setA_1, setA_8, List.append, List.cons_append, List.nil_append]
    refine go_on ?_
    (try simp only [push_cast, simprocAttr])
    refine at_b (fun hg => ?_) (fun hg => ?_)
    · have hlt := lt_tt hg
      obtain ⟨e, he⟩ := get_of_lt hlt
      have i1 := ix_n he
      have i2 := map_get evC he
      simp only [evC] at i2
      have hp := hl.p e (List.mem_of_getElem? he)
      have w1 := wr ((k : Int) + 1) (by omega)
      have hdn : ds.length ≤ k := hJ.n
      have hmap : ds.map inC ++ [[iA (k : Int)]] = (ds ++ [(k : Int)]).map inC := by rw [List.map_append]; rfl
      (try simp only [hg, i1, i2, push_cast, simprocAttr])
      by_cases h1 : e.k = 1
      · have j1 : eqI e.k 1 = true := eqI_t h1
        have hS := SiteDo_d a hJ.sa e.c hp
        have hsm := siteDo_sm hJ.sa hp (s := a)
        obtain ⟨o, ok, hoo⟩ : ∃ o ok, siteDo a e.c = (o, ok) := ⟨_, _, rfl⟩
        have hJ2 := hJ.step he (evDo_1 h1) (by rw [hoo]; rw [hoo] at hsm; exact hsm) hJ.sb
        rw [hoo] at hS hJ2
        simp only at hS hJ2
        unfold stA' stC cmdA cmC at hS
        (try simp only [j1, push_cast, simprocAttr])
        ((try simp only [push_cast, simprocAttr]); refine at_share2 (by simp [isC2, isC]) (by first | rfl | simp [ren]) (hS) (go_on ?_); (try simp only [push_cast, simprocAttr]))
        cases ok with
        | false =>
          (try simp only [w1, push_cast, simprocAttr])
          refine at_fin ⟨(k + 1, o, b, ds), hJ2, by dsimp only; omega, ?_⟩
          (refine wk_ok ?_ ?_ ?_ ?_ <;> simp [leL, leH, idsL, idsA, idsR, inH, hget, sameRow, upA, hvA, dsts, dstO, setA_0, setA_1, setA_8, List.append, List.cons_append, List.nil_append])
        | true =>
          (try simp only [w1, push_cast, simprocAttr])
          refine at_chk (by omega) ?_
          (try simp only [w1, hmap, push_cast, simprocAttr])
          refine at_fin ⟨(k + 1, o, b, ds ++ [(k : Int)]), hJ2, by dsimp only; omega, ?_⟩
          simp only [List.length_append, List.length_cons, List.length_nil]
          (refine wk_ok ?_ ?_ ?_ ?_ <;> simp [leL, leH, idsL, idsA, idsR, inH, hget, sameRow, upA, hvA, dsts, dstO, setA_0, setA_1, setA_8, List.append, List.cons_append, List.nil_append])
      · have j1 : eqI e.k 1 = false := eqI_f h1
        by_cases h2 : e.k = 2
        · have j2 : eqI e.k 2 = true := eqI_t h2
          have hS := SiteDo_d b hJ.sb e.c hp
          have hsm := siteDo_sm hJ.sb hp (s := b)
          obtain ⟨o, ok, hoo⟩ : ∃ o ok, siteDo b e.c = (o, ok) := ⟨_, _, rfl⟩
          have hJ2 := hJ.step he (evDo_2 h2) hJ.sa (by rw [hoo]; rw [hoo] at hsm; exact hsm)
          rw [hoo] at hS hJ2
          simp only at hS hJ2
          unfold stA' stC cmdA cmC at hS
          (try simp only [j1, j2, push_cast, simprocAttr])
          ((try simp only [push_cast, simprocAttr]); refine at_share2 (by simp [isC2, isC]) (by first | rfl | simp [ren]) (hS) (go_on ?_); (try simp only [push_cast, simprocAttr]))
          cases ok with
          | false =>
            (try simp only [w1, push_cast, simprocAttr])
            refine at_fin ⟨(k + 1, a, o, ds), hJ2, by dsimp only; omega, ?_⟩
            (refine wk_ok ?_ ?_ ?_ ?_ <;> simp [leL, leH, idsL, idsA, idsR, inH, hget, sameRow, upA, hvA, dsts, dstO, setA_0, setA_1, setA_8, List.append, List.cons_append, List.nil_append])
          | true =>
            (try simp only [w1, push_cast, simprocAttr])
            refine at_chk (by omega) ?_
            (try simp only [w1, hmap, push_cast, simprocAttr])
            refine at_fin ⟨(k + 1, a, o, ds ++ [(k : Int)]), hJ2, by dsimp only; omega, ?_⟩
            simp only [List.length_append, List.length_cons, List.length_nil]
            (refine wk_ok ?_ ?_ ?_ ?_ <;> simp [leL, leH, idsL, idsA, idsR, inH, hget, sameRow, upA, hvA, dsts, dstO, setA_0, setA_1, setA_8, List.append, List.cons_append, List.nil_append])
        · have j2 : eqI e.k 2 = false := eqI_f h2
          have hR := SessionRun_e a b hJ.sa hJ.sb
          unfold stA' stC at hR
          (try simp only [j1, j2, push_cast, simprocAttr])
          ((try simp only [push_cast, simprocAttr]); refine at_share2 (by simp [isC2, isC]) (by first | rfl | simp [ren]) (hR) (go_on ?_); (try simp only [push_cast, simprocAttr]))
          cases hr : sRun a b with
          | none =>
            have hJ2 := hJ.step he (evDo_n h1 h2 hr) hJ.sa hJ.sb
            (try simp only [hr, Option.isSome_none, w1, push_cast, simprocAttr])
            refine at_fin ⟨(k + 1, a, b, ds), hJ2, by dsimp only; omega, ?_⟩
            (refine wk_ok ?_ ?_ ?_ ?_ <;> simp [leL, leH, idsL, idsA, idsR, inH, hget, sameRow, upA, hvA, dsts, dstO, setA_0, setA_1, setA_8, List.append, List.cons_append, List.nil_append])
          | some xy =>
            obtain ⟨x, y⟩ := xy
            have hJ2 := hJ.step he (evDo_s h1 h2 hr) (siteV_sm (law_session hr).1) (siteV_sm (law_session hr).2.1)
            (try simp only [hr, Option.isSome_some, rA_some hr, rB_some hr, w1, push_cast, simprocAttr])
            refine at_draw rfl (by kernel_rfl) ?_; simp only [push_cast, simprocAttr]
            refine at_done (by kernel_rfl) (by kernel_rfl) (go_on ?_)
            (try simp only [w1, push_cast, simprocAttr])
            refine at_chk (by omega) ?_
            (try simp only [w1, hmap, push_cast, simprocAttr])
            refine at_fin ⟨(k + 1, x, y, ds ++ [(k : Int)]), hJ2, by dsimp only; omega, ?_⟩
            simp only [List.length_append, List.length_cons, List.length_nil]
            (refine wk_ok ?_ ?_ ?_ ?_ <;> simp [leL, leH, idsL, idsA, idsR, inH, hget, sameRow, upA, hvA, dsts, dstO, setA_0, setA_1, setA_8, List.append, List.cons_append, List.nil_append])
    · have h3 := lt_ff hg
      have hd := hJ.done h3
      (try simp only [hg, push_cast, simprocAttr])
      refine at_draw rfl (by kernel_rfl) ?_; simp only [push_cast, simprocAttr]
      refine at_done (by kernel_rfl) (by kernel_rfl) (go_on ?_)
      (try simp only [push_cast, simprocAttr])
      refine at_ret ?_; simp only [Tryz.results36, push_cast, simprocAttr]
      rw [hd]
      simp [vF, viewN, isC, hpOf, hget, tk, ixOf]
end Go.Proofs.YthifgndjpjaddaaGreatDoor
/-
  The abstract machine: a region that draws its order, several calls within that borrow a row, and operations that wait for none of them.
-/
namespace Go.Proofs.YthifgndjpjaddaaGreatDoor
open Go Go.RowKit

/-! ### Moves of slots that nothing writes: they see no row -/
section
variable {P : Program} {w0 : World} {lent : Lent} {Q : Exit → Act → World → Prop}
end

end Go.Proofs.YthifgndjpjaddaaGreatDoor
/-
  The abstract machine: what a call that was lent rows leaves anew, read as data.
-/
namespace Go.Proofs.YthifgndjpjaddaaGreatDoor
open Go Go.RowKit

end Go.Proofs.YthifgndjpjaddaaGreatDoor
/-
  Walks: the draws: two sides.
-/
namespace Go.Proofs.YthifgndjpjaddaaGreatDoor
open Go Go.RowKit Go.Proofs
def frzRow (ids : List Nat) (h : Hp) (row : Row) : Row := if (row.es.all fun e => e.all fun x => (idsA x).all fun r => !hasN ids r) = true then row else ⟨row.E, row.sz, row.es.map (·.map (viewN 3 h)), true⟩
def frzH (ids : List Nat) (h : Hp) : Hp → Hp
  | [] => []
  | (r, row) :: l => (r, frzRow ids h row) :: frzH ids h l
def frzS2 (ids : List Nat) (s : AS) : AS := ⟨s.t.map (frzT ids s.h), frzH ids s.h (delL s.h ids)⟩
theorem at_frzS2 {P : Program} {w0 : World} {lent : Lent} {Q : Exit → Act → World → Prop} {k : List It} {s : AS} (ids : List Nat) (h : Wk s (frzS2 ids s)) (h' : AW P w0 lent Q k (frzS2 ids s)) : AW P w0 lent Q k s := at_frz h h'
attribute [local irreducible] RWp AW run kPe pe Kt effA gd gu br retR RDp runD kPeD brW gW effD
set_option maxRecDepth 100000
end Go.Proofs.YthifgndjpjaddaaGreatDoor
/-
  Walks: the draws of two sides (DrawSessionRun, DrawSessionClashes, DrawSessionNew).
-/
namespace Go.Proofs.YthifgndjpjaddaaGreatDoor
open Go Go.RowKit Go.Proofs
attribute [local irreducible] RWp AW run kPe pe Kt effA gd gu br retR RDp runD kPeD brW gW effD
set_option maxRecDepth 100000
end Go.Proofs.YthifgndjpjaddaaGreatDoor
/-
  Walks: spec.l43Ok, l43Do, l43Play.
-/
namespace Go.Proofs.YthifgndjpjaddaaGreatDoor
open Go Go.RowKit Go.Proofs
abbrev evtA (e : Ev) : AV := .agg (evC e)
theorem evDo_sm {a b : St} {e : Ev} (ha : SmS a) (hb : SmS b) (hp : e.c.p.length < 4294967281) : SmS (evDo a b e).1 ∧ SmS (evDo a b e).2.1 := by
  by_cases h1 : e.k = 1
  · rw [evDo_1 h1]; exact ⟨siteDo_sm ha hp, hb⟩
  · by_cases h2 : e.k = 2
    · rw [evDo_2 h2]; exact ⟨ha, siteDo_sm hb hp⟩
    · cases hr : sRun a b with
      | none => rw [evDo_n h1 h2 hr]; exact ⟨ha, hb⟩
      | some xy =>
        obtain ⟨x, y⟩ := xy
        rw [evDo_s h1 h2 hr]
        exact ⟨siteV_sm (law_session hr).1, siteV_sm (law_session hr).2.1⟩
attribute [local irreducible] RWp AW run kPe pe Kt effA gd gu br retR RDp runD kPeD brW gW effD
set_option maxRecDepth 100000
theorem l43Do_d (a b : St) (e : Ev) (ha : SmS a) (hb : SmS b) (hp : e.c.p.length < 4294967281) : PC Tryz.prog 53 [stA' a, stA' b, evtA e] (vX (.tup [stA' (evDo a b e).1, stA' (evDo a b e).2.1, bA (evDo a b e).2.2])) := by
  have hS1 := specSiteDo_d a ha e.c hp
  have hS2 := specSiteDo_d b hb e.c hp
  have hR := specSessionRun_e a b ha hb
  unfold evtA evC
  unfold stA' stC at *
  unfold cmdA cmC at hS1 hS2
  refine pc_enter Tryz.func53 rfl rfl fun w0 fb => go_on ?_; (try simp only [Tryz.ntmps53, push_cast, simprocAttr])
  by_cases h1 : e.k = 1
  · have j1 : eqI e.k 1 = true := eqI_t h1
    rw [evDo_1 h1]
    (try simp only [j1, push_cast, simprocAttr])
    ((try simp only [push_cast, simprocAttr]); refine at_share2 (by simp [isC2, isC]) (by first | rfl | simp [ren]) (hS1) (go_on ?_); (try simp only [push_cast, simprocAttr]))
    refine at_draw rfl (by kernel_rfl) ?_; simp only [push_cast, simprocAttr]
    refine at_done (by kernel_rfl) (by kernel_rfl) (go_on ?_)
    (try simp only [push_cast, simprocAttr])
    refine at_ret ?_; simp only [Tryz.results53, push_cast, simprocAttr]
    simp [vX]
  · have j1 : eqI e.k 1 = false := eqI_f h1
    by_cases h2 : e.k = 2
    · have j2 : eqI e.k 2 = true := eqI_t h2
      rw [evDo_2 h2]
      (try simp only [j1, j2, push_cast, simprocAttr])
      ((try simp only [push_cast, simprocAttr]); refine at_share2 (by simp [isC2, isC]) (by first | rfl | simp [ren]) (hS2) (go_on ?_); (try simp only [push_cast, simprocAttr]))
      refine at_draw rfl (by kernel_rfl) ?_; simp only [push_cast, simprocAttr]
      refine at_done (by kernel_rfl) (by kernel_rfl) (go_on ?_)
      (try simp only [push_cast, simprocAttr])
      refine at_ret ?_; simp only [Tryz.results53, push_cast, simprocAttr]
      simp [vX]
    · have j2 : eqI e.k 2 = false := eqI_f h2
      (try simp only [j1, j2, push_cast, simprocAttr])
      ((try simp only [push_cast, simprocAttr]); refine at_share2 (by simp [isC2, isC]) (by first | rfl | simp [ren]) (hR) (go_on ?_); (try simp only [push_cast, simprocAttr]))
      cases hr : sRun a b with
      | none =>
        rw [evDo_n h1 h2 hr]
        (try simp only [hr, Option.isSome_none, Bool.not_false, push_cast, simprocAttr])
        refine at_draw rfl (by kernel_rfl) ?_; simp only [push_cast, simprocAttr]
        refine at_done (by kernel_rfl) (by kernel_rfl) (go_on ?_)
        (try simp only [push_cast, simprocAttr])
        refine at_ret ?_; simp only [Tryz.results53, push_cast, simprocAttr]
        simp [vX]
      | some xy =>
        obtain ⟨x, y⟩ := xy
        rw [evDo_s h1 h2 hr]
        (try simp only [hr, Option.isSome_some, rA_some hr, rB_some hr, Bool.not_true, push_cast, simprocAttr])
        refine at_draw rfl (by kernel_rfl) ?_; simp only [push_cast, simprocAttr]
        refine at_done (by kernel_rfl) (by kernel_rfl) (go_on ?_)
        (try simp only [push_cast, simprocAttr])
        refine at_ret ?_; simp only [Tryz.results53, push_cast, simprocAttr]
        simp [vX]
theorem l43Ok_pc (t : List Nd) (ht : SmT t) (l : List Ev) (hl : SmE l) : PC Tryz.prog 31 [ndA t, evsA l] (vB (rdV t l)) := by
  have hT := specTreeValid_pc t ht
  have hn := hl.n
  refine pc_enter Tryz.func31 rfl rfl fun w0 fb => go_on ?_; (try simp only [Tryz.ntmps31, push_cast, simprocAttr])
  refine at_loop (X := Nat) (fun k => [(5, iA k)]) (fun _ => []) (fun k => k ≤ l.length ∧ l.all evV = (l.drop k).all evV) (fun k => l.length - k) 0 ⟨Nat.zero_le _, rfl⟩ ?_ ?_
  · (refine wk_ok ?_ ?_ ?_ ?_ <;> simp [leL, leH, idsL, idsA, idsR, inH, hget, sameRow, upA, hvA, dsts, dstO, setA_0, setA_1, setA_8, List.append, List.cons_append, List.nil_append])
  · rintro k ⟨q1, q2⟩
    simp only [upA, hvA, dsts, dstO, setA_0, setA_1, setA_8, List.append, List.cons_append, List.nil_append]
    refine go_on ?_
    (try simp only [push_cast, simprocAttr])
    refine at_b (fun hg => ?_) (fun hg => ?_)
    · have hlt := lt_tt hg
      obtain ⟨e, he⟩ := get_of_lt hlt
      have i1 := ix_n he
      have i2 := map_get evC he
      simp only [evC] at i2
      have hp := hl.p e (List.mem_of_getElem? he)
      have hC := specCommandValid_pc e.c hp
      unfold cmdA cmC at hC
      have hI := l6In_pc e.k 1 3
      rw [drop_of_get he] at q2
      simp only [List.all_cons] at q2
      have w1 := wr ((k : Int) + 1) (by omega)
      (try simp only [hg, i1, i2, push_cast, simprocAttr])
      (refine at_call ?_; (try simp only [push_cast, simprocAttr]); refine rwc_v (hI) (go_on ?_); (try simp only [push_cast, simprocAttr]))
      by_cases h3 : e.k = 3
      · have d1 : inR e.k 1 3 = true := by simp [inR, h3]
        have j3 : eqI e.k 3 = true := eqI_t h3
        rw [evV_3 h3] at q2
        (try simp only [d1, j3, Bool.not_true, ctg, cth, cmg, cmh, push_cast, simprocAttr])
        have e0 : (decide (e.c.p = []) && ((eqI e.c.a.k 0 && eqI e.c.a.v 0) && (eqI e.c.b.k 0 && eqI e.c.b.v 0))) = decide (e.c = cm0) := cm_eq e.c cm0
        cases hv : decide (e.c = cm0) with
        | false =>
          (try simp only [e0, hv, Bool.not_false, push_cast, simprocAttr])
          refine at_ret ?_; simp only [Tryz.results31, push_cast, simprocAttr]
          simp only [hv, Bool.false_and] at q2
          simp [vX, rdV, q2]
        | true =>
          (try simp only [e0, hv, j3, Bool.not_true, w1, push_cast, simprocAttr])
          refine at_fin ⟨k + 1, ⟨by omega, by rw [q2, hv]; rfl⟩, by omega, ?_⟩
          (refine wk_ok ?_ ?_ ?_ ?_ <;> simp [leL, leH, idsL, idsA, idsR, inH, hget, sameRow, upA, hvA, dsts, dstO, setA_0, setA_1, setA_8, List.append, List.cons_append, List.nil_append])
      · have j3 : eqI e.k 3 = false := eqI_f h3
        by_cases h12 : e.k = 1 ∨ e.k = 2
        · have d1 : inR e.k 1 3 = true := by rcases h12 with h | h <;> simp [inR, h]
          have ev : evV e = cmV e.c := h12.elim evV_1 evV_2
          rw [ev] at q2
          (try simp only [d1, j3, Bool.not_true, Bool.not_false, push_cast, simprocAttr])
          (refine at_call ?_; (try simp only [push_cast, simprocAttr]); refine rwc_v (hC) (go_on ?_); (try simp only [push_cast, simprocAttr]))
          cases hv : cmV e.c with
          | false =>
            (try simp only [hv, Bool.not_false, push_cast, simprocAttr])
            refine at_ret ?_; simp only [Tryz.results31, push_cast, simprocAttr]
            simp [vX, rdV, q2, hv]
          | true =>
            (try simp only [hv, j3, Bool.not_true, w1, push_cast, simprocAttr])
            refine at_fin ⟨k + 1, ⟨by omega, by rw [q2, hv]; rfl⟩, by omega, ?_⟩
            (refine wk_ok ?_ ?_ ?_ ?_ <;> simp [leL, leH, idsL, idsA, idsR, inH, hget, sameRow, upA, hvA, dsts, dstO, setA_0, setA_1, setA_8, List.append, List.cons_append, List.nil_append])
        · have d1 : inR e.k 1 3 = false := by simp only [inR, Bool.and_eq_false_iff, decide_eq_false_iff_not]; omega
          rw [evV_n (fun h => h12 (.inl h)) (fun h => h12 (.inr h)) h3] at q2
          (try simp only [d1, Bool.not_false, push_cast, simprocAttr])
          refine at_ret ?_; simp only [Tryz.results31, push_cast, simprocAttr]
          simp [vX, rdV, q2]
    · have h3 := lt_ff hg
      rw [List.drop_of_length_le h3] at q2
      have e1 : rdV t l = (tV t && leI (l.length : Int) 24) := by
        unfold rdV leI
        rw [q2]
        cases tV t <;> simp <;> omega
      (try simp only [hg, push_cast, simprocAttr])
      (refine at_call ?_; (try simp only [push_cast, simprocAttr]); refine rwc_v (hT) (go_on ?_); (try simp only [push_cast, simprocAttr]))
      cases hv : tV t with
      | false =>
        (try simp only [hv, push_cast, simprocAttr])
        refine at_ret ?_; simp only [Tryz.results31, push_cast, simprocAttr]
        simp [vX, e1, hv]
      | true =>
        (try simp only [hv, push_cast, simprocAttr])
        refine at_ret ?_; simp only [Tryz.results31, push_cast, simprocAttr]
        simp [vX, e1, hv]
theorem l43Play_d (t : List Nd) (ht : SmT2 t) (l : List Ev) (hl : SmE l) : PC Tryz.prog 32 [ndA t, evsA l] (vX (.tup [stA' (pl t l).1, stA' (pl t l).2.1, .sl 1 ((pl t l).2.2.map inC)])) := by
  have htn := ht.n
  have hn := hl.n
  have hL := l41Copy_pc ⟨0, t, []⟩ (by simp only; omega) (by simp)
  unfold stA' stC stO at hL
  simp only [List.length_nil] at hL
  unfold stA' stC
  refine PC.toF ?_
  refine pc_enter Tryz.func32 rfl rfl fun w0 fb => go_on ?_; (try simp only [Tryz.ntmps32, push_cast, simprocAttr])
  refine at_chk (by omega) ?_
  (try simp only [push_cast, simprocAttr])
  refine at_call ?_
  (try simp only [Nat.zero_add, push_cast, simprocAttr])
  refine rwc_r hL (by simp [flatV, flatL]) (flat_nc _ _) (by simp [frB, baseOf]) ?_
  (try simp only [push_cast, simprocAttr])
  (refine at_frzS2 [15, 18, 22000, 22001] (by refine wk_frz ?_ ?_ ?_ ?_ <;> simp [rowN, rowC, frzS2, frzH, frzRow, frzT, hasN, delL, hdel, leF, leHF, rowF, frzB, idsL, idsA, idsR, inH, hget, sameRow, viewN, tk]) ?_; simp only [rowN, rowC, frzS2, frzH, frzRow, frzT, hasN, delL, hdel, idsA, idsL, viewN, hget, tk, isC, List.map_cons, List.map_nil, List.all_cons, List.all_nil, List.append_nil, List.drop, List.getElem?_cons_zero, List.getElem?_cons_succ, Bool.not_false, Bool.not_true, Bool.and_true, if_true, if_false, Nat.zero_add, List.length_map, simprocAttr])
  refine go_on ?_
  (try simp only [push_cast, simprocAttr])
  refine at_loop (X := Nat × St × St × List Int) (fun x => [(7, .o 14 x.2.2.2.length), (10, iA x.1), (14, .any)]) (fun x => [(4, ⟨45, 3, [[iA 0, .v (.slice none 0 0), .v (.slice none 0 0)]], true⟩), (5, ⟨45, 3, [[iA 0, .v (.slice none 0 0), .v (.slice none 0 0)]], true⟩), (6, ⟨3, 1, [], true⟩), (14, ⟨3, 1, x.2.2.2.map inC, true⟩), (8, ⟨45, 3, [[iA x.2.1.ep, ndA x.2.1.base, cmA x.2.1.log]], true⟩), (9, ⟨45, 3, [[iA x.2.2.1.ep, ndA x.2.2.1.base, cmA x.2.2.1.log]], true⟩)]) (fun x => PJ t l x.1 x.2.1 x.2.2.1 x.2.2.2) (fun x => l.length - x.1) (0, ⟨0, t, []⟩, ⟨0, t, []⟩, []) (PJ.init ht l) ?_ ?_
  · (refine wk_ok ?_ ?_ ?_ ?_ <;> simp [leL, leH, idsL, idsA, idsR, inH, hget, sameRow, upA, hvA, dsts, dstO, setA_0, setA_1, setA_8, List.append, List.cons_append, List.nil_append])
  · rintro ⟨k, a, b, ds⟩ hJ
    simp only [upA, hvA, dsts, dstO, setA_0, setA_1, setA_8, List.append, List.cons_append, List.nil_append]
    refine go_on ?_
    (try simp only [push_cast, simprocAttr])
    refine at_b (fun hg => ?_) (fun hg => ?_)
    · have hlt := lt_tt hg
      obtain ⟨e, he⟩ := get_of_lt hlt
      have i1 := ix_n he
      have i2 := map_get evC he
      simp only [evC] at i2
      have hp := hl.p e (List.mem_of_getElem? he)
      have w1 := wr ((k : Int) + 1) (by omega)
      have hdn : ds.length ≤ k := hJ.n
      have hmap : ds.map inC ++ [[iA (k : Int)]] = (ds ++ [(k : Int)]).map inC := by rw [List.map_append]; rfl
      have hD := l43Do_d a b e hJ.sa hJ.sb hp
      obtain ⟨a', b', ok, hr⟩ : ∃ a' b' ok, evDo a b e = (a', b', ok) := ⟨_, _, _, rfl⟩
      have hsm := evDo_sm hJ.sa hJ.sb hp (e := e)
      rw [hr] at hD hsm
      have hJ2 := hJ.step he hr hsm.1 hsm.2
      simp only at hD
      unfold stA' stC at hD
      unfold evtA evC at hD
      (try simp only [hg, push_cast, simprocAttr])
      refine at_draw rfl (by kernel_rfl) ?_; simp only [push_cast, simprocAttr]
      (try simp only [i1, i2, push_cast, simprocAttr])
      (refine at_shareD (by simp [isC2, isC]) (by first | rfl | simp [ren]) hD ?_; (try simp only [push_cast, simprocAttr]))
      refine at_done (by kernel_rfl) (by kernel_rfl) (go_on ?_)
      cases ok with
      | false =>
        (try simp only [w1, push_cast, simprocAttr])
        refine at_fin ⟨(k + 1, a', b', ds), hJ2, by dsimp only; omega, ?_⟩
        (refine wk_ok ?_ ?_ ?_ ?_ <;> simp [leL, leH, idsL, idsA, idsR, inH, hget, sameRow, upA, hvA, dsts, dstO, setA_0, setA_1, setA_8, List.append, List.cons_append, List.nil_append])
      | true =>
        (try simp only [w1, push_cast, simprocAttr])
        refine at_chk (by omega) ?_
        (try simp only [w1, hmap, push_cast, simprocAttr])
        refine at_fin ⟨(k + 1, a', b', ds ++ [(k : Int)]), hJ2, by dsimp only; omega, ?_⟩
        simp only [List.length_append, List.length_cons, List.length_nil]
        (refine wk_ok ?_ ?_ ?_ ?_ <;> simp [leL, leH, idsL, idsA, idsR, inH, hget, sameRow, upA, hvA, dsts, dstO, setA_0, setA_1, setA_8, List.append, List.cons_append, List.nil_append])
    · have h3 := lt_ff hg
      have hd := hJ.done h3
      (try simp only [hg, push_cast, simprocAttr])
      refine at_draw rfl (by kernel_rfl) ?_; simp only [push_cast, simprocAttr]
      refine at_done (by kernel_rfl) (by kernel_rfl) (go_on ?_)
      (try simp only [push_cast, simprocAttr])
      refine at_ret ?_; simp only [Tryz.results32, push_cast, simprocAttr]
      rw [hd]
      simp [vF, viewN, isC, hpOf, hget, tk, ixOf]
end Go.Proofs.YthifgndjpjaddaaGreatDoor
/-
  Walks: RoundPlay (impl, spec), impl.RoundDone, read as data.
-/
namespace Go.Proofs.YthifgndjpjaddaaGreatDoor
open Go Go.RowKit Go.Proofs
theorem rPlay_t {t : List Nd} {l : List Ev} (h : rdV t l = true) : rPlay t l = ((pl t l).1, (pl t l).2.1, (l.length : Int) - ((pl t l).2.2.length : Int)) := by simp [rPlay, h, pl]
theorem rPlay_f {t : List Nd} {l : List Ev} (h : rdV t l = false) : rPlay t l = (st0, st0, -1) := by simp [rPlay, h]
theorem pl_len (t : List Nd) (l : List Ev) : (pl t l).2.2.length ≤ l.length := play_len l 0 _ _
theorem st2_e {P : Program} {f : FuncId} {args : List AV} {x : AV} (h : PC P f args (vX (.tup [st00, st00, x]))) : PC P f args (vX (.tup [stA' st0, stA' st0, x])) := by
  refine PC.less h fun h loc w v hg => hg.tup2 rfl fun j x y u h1 h2 h3 => ?_
  rcases j with _ | _ | _ | j
  · cases h1; cases h2; exact nil_st0 h3
  · cases h1; cases h2; exact nil_st0 h3
  · cases h1; cases h2; exact h3
  · cases h1
attribute [local irreducible] RWp AW run kPe pe Kt effA gd gu br retR RDp runD kPeD brW gW effD
set_option maxRecDepth 100000
theorem RoundPlay_0 (t : List Nd) (ht : SmT2 t) (l : List Ev) (hl : SmE l) (h : rdV t l = false) : PC Tryz.prog 25 [ndA t, evsA l] (vX (.tup [st00, st00, iA (-1)])) := by
  have hV := roundValid_pc t ht.s l hl
  rw [h] at hV
  refine pc_enter Tryz.func25 rfl rfl fun w0 fb => go_on ?_; (try simp only [Tryz.ntmps25, push_cast, simprocAttr])
  (refine at_call ?_; (try simp only [push_cast, simprocAttr]); refine rwc_v (hV) (go_on ?_); (try simp only [push_cast, simprocAttr]))
  (try simp only [Bool.not_false, push_cast, simprocAttr])
  refine at_ret ?_; simp only [Tryz.results25, push_cast, simprocAttr]
  simp [vX, st00]
theorem RoundPlay_1 (t : List Nd) (ht : SmT2 t) (l : List Ev) (hl : SmE l) (h : rdV t l = true) : PC Tryz.prog 25 [ndA t, evsA l] (vX (.tup [stA' (pl t l).1, stA' (pl t l).2.1, iA ((l.length : Int) - ((pl t l).2.2.length : Int))])) := by
  have hV := roundValid_pc t ht.s l hl
  have hP := play_d t ht l hl
  have hn := hl.n
  have hln := pl_len t l
  have w1 := wr ((l.length : Int) - ((pl t l).2.2.length : Int)) (by omega)
  rw [h] at hV
  unfold stA' stC at *
  refine pc_enter Tryz.func25 rfl rfl fun w0 fb => go_on ?_; (try simp only [Tryz.ntmps25, push_cast, simprocAttr])
  (refine at_call ?_; (try simp only [push_cast, simprocAttr]); refine rwc_v (hV) (go_on ?_); (try simp only [push_cast, simprocAttr]))
  (try simp only [Bool.not_true, push_cast, simprocAttr])
  ((try simp only [push_cast, simprocAttr]); refine at_share2 (by simp [isC2, isC]) (by first | rfl | simp [ren]) (hP) (go_on ?_); (try simp only [push_cast, simprocAttr]))
  refine at_draw rfl (by kernel_rfl) ?_; simp only [push_cast, simprocAttr]
  (try simp only [w1, List.length_map, push_cast, simprocAttr])
  refine at_done (by kernel_rfl) (by kernel_rfl) (go_on ?_)
  (try simp only [push_cast, simprocAttr])
  refine at_ret ?_; simp only [Tryz.results25, push_cast, simprocAttr]
  simp [vX]
theorem RoundPlay_d (t : List Nd) (ht : SmT2 t) (l : List Ev) (hl : SmE l) : PC Tryz.prog 25 [ndA t, evsA l] (vX (.tup [stA' (rPlay t l).1, stA' (rPlay t l).2.1, iA (rPlay t l).2.2])) := by
  cases h : rdV t l with
  | false => rw [rPlay_f h]; exact st2_e (RoundPlay_0 t ht l hl h)
  | true => rw [rPlay_t h]; exact RoundPlay_1 t ht l hl h
theorem specRoundPlay_0 (t : List Nd) (ht : SmT2 t) (l : List Ev) (hl : SmE l) (h : rdV t l = false) : PC Tryz.prog 24 [ndA t, evsA l] (vX (.tup [st00, st00, iA (-1)])) := by
  have hV := l43Ok_pc t ht.s l hl
  rw [h] at hV
  refine pc_enter Tryz.func24 rfl rfl fun w0 fb => go_on ?_; (try simp only [Tryz.ntmps24, push_cast, simprocAttr])
  (refine at_call ?_; (try simp only [push_cast, simprocAttr]); refine rwc_v (hV) (go_on ?_); (try simp only [push_cast, simprocAttr]))
  (try simp only [Bool.not_false, push_cast, simprocAttr])
  refine at_ret ?_; simp only [Tryz.results24, push_cast, simprocAttr]
  simp [vX, st00]
theorem specRoundPlay_1 (t : List Nd) (ht : SmT2 t) (l : List Ev) (hl : SmE l) (h : rdV t l = true) : PC Tryz.prog 24 [ndA t, evsA l] (vX (.tup [stA' (pl t l).1, stA' (pl t l).2.1, iA ((l.length : Int) - ((pl t l).2.2.length : Int))])) := by
  have hV := l43Ok_pc t ht.s l hl
  have hP := l43Play_d t ht l hl
  have hn := hl.n
  have hln := pl_len t l
  have w1 := wr ((l.length : Int) - ((pl t l).2.2.length : Int)) (by omega)
  rw [h] at hV
  unfold stA' stC at *
  refine pc_enter Tryz.func24 rfl rfl fun w0 fb => go_on ?_; (try simp only [Tryz.ntmps24, push_cast, simprocAttr])
  (refine at_call ?_; (try simp only [push_cast, simprocAttr]); refine rwc_v (hV) (go_on ?_); (try simp only [push_cast, simprocAttr]))
  (try simp only [Bool.not_true, push_cast, simprocAttr])
  ((try simp only [push_cast, simprocAttr]); refine at_share2 (by simp [isC2, isC]) (by first | rfl | simp [ren]) (hP) (go_on ?_); (try simp only [push_cast, simprocAttr]))
  refine at_draw rfl (by kernel_rfl) ?_; simp only [push_cast, simprocAttr]
  (try simp only [w1, List.length_map, push_cast, simprocAttr])
  refine at_done (by kernel_rfl) (by kernel_rfl) (go_on ?_)
  (try simp only [push_cast, simprocAttr])
  refine at_ret ?_; simp only [Tryz.results24, push_cast, simprocAttr]
  simp [vX]
theorem specRoundPlay_d (t : List Nd) (ht : SmT2 t) (l : List Ev) (hl : SmE l) : PC Tryz.prog 24 [ndA t, evsA l] (vX (.tup [stA' (rPlay t l).1, stA' (rPlay t l).2.1, iA (rPlay t l).2.2])) := by
  cases h : rdV t l with
  | false => rw [rPlay_f h]; exact st2_e (specRoundPlay_0 t ht l hl h)
  | true => rw [rPlay_t h]; exact specRoundPlay_1 t ht l hl h
end Go.Proofs.YthifgndjpjaddaaGreatDoor
/-
  Walks: the draws of rounds (DrawRoundPlay).
-/
namespace Go.Proofs.YthifgndjpjaddaaGreatDoor
open Go Go.RowKit Go.Proofs
attribute [local irreducible] RWp AW run kPe pe Kt effA gd gu br retR RDp runD kPeD brW gW effD
set_option maxRecDepth 100000
set_option maxHeartbeats 1000000
end Go.Proofs.YthifgndjpjaddaaGreatDoor
/-
  Walks: the laws' own helpers at events: sizes, copies, equalities, marks (printed by gen_Y10.py).
-/
namespace Go.Proofs.YthifgndjpjaddaaGreatDoor
open Go Go.RowKit Go.Proofs
theorem ev_ext (a b : Ev) : a = b ↔ a.k = b.k ∧ a.c = b.c := by
  obtain ⟨a1, a2⟩ := a
  obtain ⟨b1, b2⟩ := b
  simp
theorem flat_ev {E : TypeId} {sz : Nat} {cl : Bool} (l : List Ev) : FlatR [⟨E, sz, l.map evC, cl⟩] := flat1 l evC fun _ => rfl
abbrev rowEv (l : List Ev) : Row := ⟨70, 6, l.map evC, true⟩
def mkEv : Nat → List Ev → List Ev
  | _, [] => []
  | k, _ :: l => ⟨(k : Int), ⟨mkT (k + 1), ⟨(k : Int) + 1 + 1, (k : Int) + 1 + 1 + 1⟩, ⟨(k : Int) + 1 + 1 + 1 + 1, (k : Int) + 1 + 1 + 1 + 1 + 1⟩⟩⟩ :: mkEv (k + 6) l
theorem mkEv_len : ∀ (l : List Ev) (k : Nat), (mkEv k l).length = l.length
  | [], _ => rfl
  | _ :: l, k => by simp [mkEv, mkEv_len l]
theorem mkEv_get : ∀ (l : List Ev) (k i : Nat), i < l.length → (mkEv k l)[i]? = some ⟨((k + 6 * i : Nat) : Int), ⟨mkT (k + 6 * i + 1), ⟨((k + 6 * i : Nat) : Int) + 1 + 1, ((k + 6 * i : Nat) : Int) + 1 + 1 + 1⟩, ⟨((k + 6 * i : Nat) : Int) + 1 + 1 + 1 + 1, ((k + 6 * i : Nat) : Int) + 1 + 1 + 1 + 1 + 1⟩⟩⟩
  | [], _, _, h => by simp at h
  | x :: l, k, 0, _ => by simp [mkEv]
  | x :: l, k, i + 1, h => by
    rw [mkEv, List.getElem?_cons_succ, mkEv_get l (k + 6) i (by simpa using h), show k + 6 + 6 * i = k + 6 * (i + 1) from by omega]
def upEv (k : Nat) (l : List Ev) (i : Nat) : List Ev := (mkEv k l).take i ++ l.drop i
theorem upEv_len (k : Nat) (l : List Ev) (i : Nat) (h : i ≤ l.length) : (upEv k l i).length = l.length := by simp [upEv, mkEv_len]; omega
attribute [local irreducible] RWp AW run kPe pe Kt effA gd gu br retR RDp runD kPeD brW gW effD
set_option maxRecDepth 100000
theorem toEvent_pc (e : Ev) : PC Tryz.prog 34 [.agg (evC e)] (vX (.agg (evC e))) := by
  have h1 := toCommand_pc e.c
  unfold cmC at h1
  unfold evC
  refine pc_enter Tryz.func34 rfl rfl fun w0 fb => go_on ?_; (try simp only [Tryz.ntmps34, push_cast, simprocAttr])
  (refine at_call ?_; (try simp only [push_cast, simprocAttr]); refine rwc_d (h1) (by simp [flatV, flatL, ctC, ndC, cmC]) (by simp [ren, ctC, ndC, cmC]) (go_on ?_); (try simp only [push_cast, simprocAttr]))
  refine at_ret ?_; simp only [Tryz.results34, push_cast, simprocAttr]
  simp [vX]
theorem eqEvent_pc (a b : Ev) : PC Tryz.prog 38 [.agg (evC a), .agg (evC b)] (vB (decide (a = b))) := by
  have h1 := eqCommand_pc a.c b.c
  unfold cmC at h1
  unfold evC
  refine pc_enter Tryz.func38 rfl rfl fun w0 fb => go_on ?_; (try simp only [Tryz.ntmps38, push_cast, simprocAttr])
  repeat' first | (refine at_b (fun hb => ?_) (fun hb => ?_) <;> simp only [hb, push_cast, simprocAttr]) | (refine at_ret ?_; simp only [Tryz.results38, push_cast, simprocAttr]) | (refine at_call ?_; (try simp only [push_cast, simprocAttr]); refine rwc_v (by first | exact h1) (go_on ?_); simp only [push_cast, simprocAttr]) | (show RWp _ _ _ _ _; simp only [push_cast, simprocAttr])
  all_goals simp only [Bool.not_eq_true', Bool.not_eq_false', eqI_d, decide_eq_true_eq, decide_eq_false_iff_not] at *
  all_goals simp [vX, ev_ext a b, *]
theorem szEvent_pc (e : Ev) (left : Int) (h0 : 0 ≤ left) (h1 : left ≤ 1048576) (hp : e.c.p.length ≤ 9223372036854775807) : PC Tryz.prog 30 [.agg (evC e), iA left] (vI (sz1 left e.c.p.length)) := by
  have hS := szCommand_pc e.c left h0 h1 hp
  unfold cmC at hS
  unfold evC
  refine pc_enter Tryz.func30 rfl rfl fun w0 fb => go_on ?_; (try simp only [Tryz.ntmps30, push_cast, simprocAttr])
  (refine at_call ?_; (try simp only [push_cast, simprocAttr]); refine rwc_v (hS) (go_on ?_); (try simp only [push_cast, simprocAttr]))
  by_cases hz : left - (e.c.p.length : Int) < 0
  · have e2 : sz1 left e.c.p.length = -1 := by unfold sz1; rw [if_pos hz]
    rw [e2]
    (try simp only [show ltI (-1) 0 = true from rfl, push_cast, simprocAttr])
    refine at_ret ?_; simp only [Tryz.results30, push_cast, simprocAttr]
    simp [vX]
  · have e2 : sz1 left e.c.p.length = left - e.c.p.length := by unfold sz1; rw [if_neg hz]
    have e3 : ltI (left - (e.c.p.length : Int)) 0 = false := ltI_f (by omega)
    rw [e2]
    (try simp only [e3, push_cast, simprocAttr])
    refine at_ret ?_; simp only [Tryz.results30, push_cast, simprocAttr]
    simp [vX]
theorem szEventS_pc (l : List Ev) (left : Int) (h0 : 0 ≤ left) (h1 : left ≤ 1048576) (hl : l.length ≤ 9223372036854775807) (hp : ∀ n ∈ l, n.c.p.length ≤ 9223372036854775807) :
    PC Tryz.prog 7 [.sl 6 (l.map evC), iA left] (vI (szS left (l.map fun n => n.c.p.length))) := by
  have w1 := wr (left - (l.length : Int)) (by omega)
  refine pc_enter Tryz.func7 rfl rfl fun w0 fb => go_on ?_; (try simp only [Tryz.ntmps7, push_cast, simprocAttr])
  (try simp only [w1, push_cast, simprocAttr])
  refine at_b (fun hb => ?_) (fun hb => ?_)
  · have := of_ltI_t hb
    (try simp only [hb, push_cast, simprocAttr])
    refine at_ret ?_; simp only [Tryz.results7, push_cast, simprocAttr]
    simp [vX, szS, this]
  · have h2 := of_ltI_f hb
    have e : szS left (l.map fun n => n.c.p.length) = szF (left - l.length) (l.map fun n => n.c.p.length) := by unfold szS; rw [if_neg (by simp; omega), List.length_map]
    rw [e]
    (try simp only [hb, push_cast, simprocAttr])
    refine at_loop (X := Nat × Int) (fun x => [(1, iA x.2), (5, iA x.1)]) (fun _ => []) (fun x => x.1 ≤ l.length ∧ 0 ≤ x.2 ∧ x.2 ≤ 1048576 ∧ szF (left - l.length) (l.map fun n => n.c.p.length) = szF x.2 ((l.drop x.1).map fun n => n.c.p.length)) (fun x => l.length - x.1) (0, left - l.length) ⟨Nat.zero_le _, h2, by dsimp only; omega, rfl⟩ ?_ ?_
    · (refine wk_ok ?_ ?_ ?_ ?_ <;> simp [leL, leH, idsL, idsA, idsR, inH, hget, sameRow, upA, hvA, dsts, dstO, setA_0, setA_1, setA_8, List.append, List.cons_append, List.nil_append])
    · rintro ⟨k, r⟩ ⟨q1, q2, q3, q4⟩
      simp only at q1 q2 q3 q4
      simp only [upA, hvA, dsts, dstO, setA_0, setA_1, setA_8, List.append, List.cons_append, List.nil_append]
      refine go_on ?_
      (try simp only [push_cast, simprocAttr])
      refine at_b (fun hg => ?_) (fun hg => ?_)
      · have hlt := lt_tt hg
        obtain ⟨x, hk⟩ := get_of_lt hlt
        have i1 := ix_n hk
        have i2 := map_get evC hk
        have hS := szEvent_pc x r q2 q3 (hp x (mem_of_get hk))
        simp only [evC] at i2 hS
        rw [drop_of_get hk, List.map_cons, szF] at q4
        have w2 := wr ((k : Int) + 1) (by omega)
        (try simp only [hg, i1, i2, push_cast, simprocAttr])
        (refine at_call ?_; (try simp only [push_cast, simprocAttr]); refine rwc_v (hS) (go_on ?_); (try simp only [push_cast, simprocAttr]))
        by_cases hz : r - (x.c.p.length : Int) < 0
        · have e2 : sz1 r x.c.p.length = -1 := by unfold sz1; rw [if_pos hz]
          rw [e2]
          (try simp only [show ltI (-1) 0 = true from rfl, push_cast, simprocAttr])
          refine at_ret ?_; simp only [Tryz.results7, push_cast, simprocAttr]
          rw [if_pos hz] at q4
          simp [vX, q4]
        · have e2 : sz1 r x.c.p.length = r - x.c.p.length := by unfold sz1; rw [if_neg hz]
          have e3 : ltI (r - (x.c.p.length : Int)) 0 = false := ltI_f (by omega)
          rw [e2]
          (try simp only [e3, w2, push_cast, simprocAttr])
          rw [if_neg hz] at q4
          refine at_fin ⟨(k + 1, r - x.c.p.length), ⟨by dsimp only; omega, by dsimp only; omega, by dsimp only; omega, q4⟩, by dsimp only; omega, ?_⟩
          (refine wk_ok ?_ ?_ ?_ ?_ <;> simp [leL, leH, idsL, idsA, idsR, inH, hget, sameRow, upA, hvA, dsts, dstO, setA_0, setA_1, setA_8, List.append, List.cons_append, List.nil_append])
      · have h3 := lt_ff hg
        rw [List.drop_of_length_le h3] at q4
        (try simp only [hg, push_cast, simprocAttr])
        refine at_ret ?_; simp only [Tryz.results7, push_cast, simprocAttr]
        simp [vX, q4, szF]
theorem toEventS_pc (l : List Ev) (hl : l.length ≤ 1048576) : PC Tryz.prog 10 [.sl 6 (l.map evC)] (rX (.o 0 l.length) [rowEv l]) := by
  refine pc_enter Tryz.func10 rfl rfl fun w0 fb => go_on ?_; (try simp only [Tryz.ntmps10, push_cast, simprocAttr])
  refine at_chk ⟨by omega, by omega⟩ ?_
  refine at_loop (X := Nat) (fun k => [(4, iA k)]) (fun k => [(2, rowEv []), (7, ⟨70, 6, (l.take k).map evC ++ List.replicate (l.length - k) [iA 0, AV.v (Value.string ⟨#[]⟩), iA 0, iA 0, iA 0, iA 0], true⟩)]) (fun k => k ≤ l.length) (fun k => l.length - k) 0 (Nat.zero_le _) ?_ ?_
  · (refine wk_ok ?_ ?_ ?_ ?_ <;> simp [leL, leH, idsL, idsA, idsR, inH, hget, sameRow, upA, hvA, dsts, dstO, setA_0, setA_1, setA_8, List.append, List.cons_append, List.nil_append])
  · intro k h1
    simp only [upA, hvA, dsts, dstO, setA_0, setA_1, setA_8, List.append, List.cons_append, List.nil_append]
    refine go_on ?_
    (try simp only [push_cast, simprocAttr])
    refine at_b (fun hg => ?_) (fun hg => ?_)
    · have hlt := lt_tt hg
      obtain ⟨x, hk⟩ := get_of_lt hlt
      have i1 := ix_n hk
      have i2 := map_get evC hk
      have hT := toEvent_pc x
      simp only [evC] at i2 hT
      have w2 := wr ((k : Int) + 1) (by omega)
      obtain ⟨es, hes⟩ : ∃ es, es = (l.take k).map evC ++ List.replicate (l.length - k) [iA 0, AV.v (Value.string ⟨#[]⟩), iA 0, iA 0, iA 0, iA 0] := ⟨_, rfl⟩
      have hlen : ((l.take k).map evC).length = k := by rw [List.length_map, List.length_take]; omega
      have i3 : es[k]? = some [iA 0, AV.v (Value.string ⟨#[]⟩), iA 0, iA 0, iA 0, iA 0] := by rw [hes, List.getElem?_append_right (by omega), hlen, Nat.sub_self, List.getElem?_replicate, if_pos (by omega)]
      have hset : es.set k [iA x.k, sA x.c.p, iA x.c.a.k, iA x.c.a.v, iA x.c.b.k, iA x.c.b.v] = (l.take (k + 1)).map evC ++ List.replicate (l.length - (k + 1)) [iA 0, AV.v (Value.string ⟨#[]⟩), iA 0, iA 0, iA 0, iA 0] := by
        rw [hes, List.set_append_right _ _ (by omega), hlen, Nat.sub_self, List.take_add_one, hk, show l.length - k = (l.length - (k + 1)) + 1 by omega, List.replicate_succ, List.set_cons_zero]
        simp [evC]
      rw [← hes]
      (try simp only [hg, i1, i2, push_cast, simprocAttr])
      (refine at_call ?_; (try simp only [push_cast, simprocAttr]); refine rwc_d (hT) (by simp [flatV, flatL, ctC, ndC, cmC]) (by simp [ren, ctC, ndC, cmC]) (go_on ?_); (try simp only [push_cast, simprocAttr]))
      (try simp only [i1, i3, List.length_replicate, w2, push_cast, simprocAttr])
      refine at_fin ⟨k + 1, by omega, by omega, ?_⟩
      rw [hset]
      (refine wk_ok ?_ ?_ ?_ ?_ <;> simp [leL, leH, idsL, idsA, idsR, inH, hget, sameRow, upA, hvA, dsts, dstO, setA_0, setA_1, setA_8, List.append, List.cons_append, List.nil_append])
    · have h3 := lt_ff hg
      have hk : k = l.length := by omega
      subst hk
      (try simp only [hg, push_cast, simprocAttr])
      refine at_ret ?_; simp only [Tryz.results10, push_cast, simprocAttr]
      simp [rX, ixOf]
theorem eqEventS_pc (a b : List Ev) (hl : a.length < 4294967281) : PC Tryz.prog 14 [.sl 6 (a.map evC), .sl 6 (b.map evC)] (vB (decide (a = b))) := by
  refine pc_enter Tryz.func14 rfl rfl fun w0 fb => go_on ?_; (try simp only [Tryz.ntmps14, push_cast, simprocAttr])
  refine at_b (fun hb => ?_) (fun hb => ?_)
  · have h1 := of_eqI_f (not_t hb)
    have h2 : a ≠ b := by rintro rfl; exact h1 rfl
    (try simp only [hb, push_cast, simprocAttr])
    refine at_ret ?_; simp only [Tryz.results14, push_cast, simprocAttr]
    simp [vX, h2]
  · have h1 : a.length = b.length := by have := of_eqI_t (not_f hb); omega
    (try simp only [hb, push_cast, simprocAttr])
    refine at_loop (X := Nat) (fun k => [(5, iA k)]) (fun _ => []) (fun k => k ≤ a.length ∧ decide (a = b) = decide (a.drop k = b.drop k)) (fun k => a.length - k) 0 ⟨Nat.zero_le _, rfl⟩ ?_ ?_
    · (refine wk_ok ?_ ?_ ?_ ?_ <;> simp [leL, leH, idsL, idsA, idsR, inH, hget, sameRow, upA, hvA, dsts, dstO, setA_0, setA_1, setA_8, List.append, List.cons_append, List.nil_append])
    · rintro k ⟨q1, q2⟩
      simp only [upA, hvA, dsts, dstO, setA_0, setA_1, setA_8, List.append, List.cons_append, List.nil_append]
      refine go_on ?_
      (try simp only [push_cast, simprocAttr])
      refine at_b (fun hg => ?_) (fun hg => ?_)
      · have hlt := lt_tt hg
        obtain ⟨x, hx⟩ := get_of_lt hlt
        obtain ⟨y, hy⟩ := get_of_lt (l := b) (k := k) (by omega)
        have i1 := ix_n hx
        have i3 := ix_n hy
        have i2 := map_get evC hx
        have i4 := map_get evC hy
        have hE := eqEvent_pc x y
        simp only [evC] at i2 i4 hE
        rw [drop_of_get hx, drop_of_get hy] at q2
        have w2 := wr ((k : Int) + 1) (by omega)
        (try simp only [hg, push_cast, simprocAttr])
        refine at_draw rfl (by kernel_rfl) ?_
        (try simp only [i1, i2, i3, i4, push_cast, simprocAttr])
        repeat' first | (refine at_bWn (fun hb => ?_) (fun hb => ?_) <;> simp only [i1, i2, i3, i4, hb, push_cast, simprocAttr]) | (refine at_bW (fun hb => ?_) (fun hb => ?_) <;> simp only [i1, i2, i3, i4, hb, push_cast, simprocAttr]) | (refine at_callD (by simp [clB, idsL, idsA, hget]) ?_; (try simp only [push_cast, simprocAttr]); first | (refine rcd_v (hE) ?_; simp only [i1, i2, i3, i4, push_cast, simprocAttr]) | (refine rcd_d (hE) (by simp [flatV, flatL, ctC, ndC, cmC]) (by simp [ren, ctC, ndC, cmC]) ?_; simp only [i1, i2, i3, i4, push_cast, simprocAttr])) | (refine at_done (by kernel_rfl) (by kernel_rfl) (go_on ?_); (try simp only [i1, i2, i3, i4, push_cast, simprocAttr]))
        refine at_b (fun hn => ?_) (fun hn => ?_)
        · (try simp only [hn, push_cast, simprocAttr])
          refine at_ret ?_; simp only [Tryz.results14, push_cast, simprocAttr]
          have := not_t hn
          simp only [decide_eq_false_iff_not] at this
          simp [vX, q2, this]
        · have hn' := not_f hn
          simp only [decide_eq_true_eq] at hn'
          (try simp only [hn, w2, push_cast, simprocAttr])
          refine at_fin ⟨k + 1, ⟨by omega, ?_⟩, by omega, ?_⟩
          · rw [q2]; simp [hn']
          · (refine wk_ok ?_ ?_ ?_ ?_ <;> simp [leL, leH, idsL, idsA, idsR, inH, hget, sameRow, upA, hvA, dsts, dstO, setA_0, setA_1, setA_8, List.append, List.cons_append, List.nil_append])
      · have h3 := lt_ff hg
        rw [List.drop_of_length_le h3, List.drop_of_length_le (by omega)] at q2
        (try simp only [hg, push_cast, simprocAttr])
        refine at_ret ?_; simp only [Tryz.results14, push_cast, simprocAttr]
        simp [vX, q2]
theorem markEventS_pcl (l : List Ev) (k : Nat) (h0 : 0 < k) (hk : k + 6 * l.length ≤ 4611686018427387904) : PCL Tryz.prog 16 [rowEv l] (mvF none) [.o 0 l.length, iA k] (markD (k + 6 * l.length) (rowEv (mkEv k l))) := by
  refine pcl_enter Tryz.func16 rfl rfl (by simp) fun w0 fb loc => go_on ?_; simp only [Tryz.ntmps16, hpL, nmL, mvF, renL, decide_true, decide_false, push_cast, simprocAttr]
  refine at_loop (X := Nat) (fun i => [(1, iA ((k + 6 * i : Nat) : Int)), (5, iA i)]) (fun i => [(500000, rowEv (upEv k l i))]) (fun i => i ≤ l.length) (fun i => l.length - i) 0 (Nat.zero_le _) ?_ ?_
  · (refine wk_frz ?_ ?_ ?_ ?_ <;> simp [rowEv, upEv, leF, leHF, frzB, idsL, idsA, idsR, inH, hget, sameRow, viewN, tk, upA, hvA, dsts, dstO, setA_0, setA_1, setA_8, List.append, List.cons_append, List.nil_append])
  · rintro i hi
    simp only [upA, hvA, dsts, dstO, setA_0, setA_1, setA_8, List.append, List.cons_append, List.nil_append]
    refine go_on ?_
    (try simp only [push_cast, simprocAttr])
    by_cases hlt : i < l.length
    · have i0 : ltI (i : Int) l.length = true := ltI_t (by omega)
      have hlen := upEv_len k l i hi
      have hm := markText_pc (k + 6 * i + 1) (by omega) (by omega)
      obtain ⟨x, hx⟩ := get_of_lt hlt
      have hux : (upEv k l i)[i]? = some x := by unfold upEv; rw [up_get (by rw [mkEv_len]; exact hi)]; exact hx
      have i1 := ix_n hx
      have i2 := map_get evC hux
      have i3 : ∀ e, ((List.map evC (upEv k l i)).set i e)[i]? = some e := fun e => by rw [List.getElem?_set_self (by rw [List.length_map]; omega)]
      have hs : (List.map evC (upEv k l i)).set i [iA ((k + 6 * i : Nat) : Int), sA (mkT (k + 6 * i + 1)), iA ((k + 6 * i : Nat) + 1 + 1), iA ((k + 6 * i : Nat) + 1 + 1 + 1), iA ((k + 6 * i : Nat) + 1 + 1 + 1 + 1), iA ((k + 6 * i : Nat) + 1 + 1 + 1 + 1 + 1)] = List.map evC (upEv k l (i + 1)) := by
        unfold upEv
        rw [← up_set (mkEv_get l k i hlt) hlt, List.map_set]
        rfl
      have w1 : IntKind.i64.wrap ((k : Int) + 6 * (i : Int) + 1) = (k : Int) + 6 * (i : Int) + 1 := wr _ (by omega)
      have w2 : IntKind.i64.wrap ((k : Int) + 6 * (i : Int) + 1 + 1) = (k : Int) + 6 * (i : Int) + 1 + 1 := wr _ (by omega)
      have w3 : IntKind.i64.wrap ((k : Int) + 6 * (i : Int) + 1 + 1 + 1) = (k : Int) + 6 * (i : Int) + 1 + 1 + 1 := wr _ (by omega)
      have w6 : IntKind.i64.wrap ((k : Int) + 6 * (i : Int) + 1 + 1 + 1 + 1) = (k : Int) + 6 * (i : Int) + 1 + 1 + 1 + 1 := wr _ (by omega)
      have w7 : IntKind.i64.wrap ((k : Int) + 6 * (i : Int) + 1 + 1 + 1 + 1 + 1) = (k : Int) + 6 * (i : Int) + 1 + 1 + 1 + 1 + 1 := wr _ (by omega)
      have w8 : IntKind.i64.wrap ((k : Int) + 6 * (i : Int) + 1 + 1 + 1 + 1 + 1 + 1) = (k : Int) + 6 * (i : Int) + 1 + 1 + 1 + 1 + 1 + 1 := wr _ (by omega)
      have w4 : IntKind.i64.wrap ((i : Int) + 1) = (i : Int) + 1 := wr _ (by omega)
      push_cast at hs
      push_cast at hm
      simp only [evC] at i2
      (try simp only [i0, i1, i2, i3, w1, push_cast, simprocAttr])
      (refine at_call ?_; (try simp only [push_cast, simprocAttr]); refine rwc_v (hm) (go_on ?_); (try simp only [push_cast, simprocAttr]))
      (try simp only [i1, i2, i3, w1, w2, w3, w4, w6, w7, w8, List.set_set, hs, push_cast, simprocAttr])
      have e5 : (k : Int) + 6 * ((i + 1 : Nat) : Int) = (k : Int) + 6 * (i : Int) + 1 + 1 + 1 + 1 + 1 + 1 := by omega
      refine at_fin ⟨i + 1, by omega, by omega, ?_⟩
      simp only [e5]
      (refine wk_frz ?_ ?_ ?_ ?_ <;> simp [rowEv, leF, leHF, frzB, idsL, idsA, idsR, inH, hget, sameRow, viewN, tk, upA, hvA, dsts, dstO, setA_0, setA_1, setA_8, List.append, List.cons_append, List.nil_append])
    · have i0 : ltI (i : Int) l.length = false := ltI_f (by omega)
      obtain rfl : i = l.length := by omega
      have e : upEv k l l.length = mkEv k l := by unfold upEv; rw [List.drop_length, List.append_nil, List.take_of_length_le (by rw [mkEv_len]; exact Nat.le_refl _)]
      have hfin : markD (k + 6 * l.length) (rowEv (mkEv k l)) (iA ((k + 6 * l.length : Nat) : Int)) [rowEv (mkEv k l)] [] := ⟨rfl, rfl, rfl⟩
      (try simp only [i0, e, push_cast, simprocAttr])
      (refine at_retL ?_; simp only [Tryz.results16, retL, push_cast, simprocAttr]; simpa [show List.range 1 = [0] from rfl, show List.range 2 = [0, 1] from rfl, show List.range 3 = [0, 1, 2] from rfl, nmL, mvF, ndB, ixOf, rowsOf, hget, rowS, rowN, rowC] using  hfin)
end Go.Proofs.YthifgndjpjaddaaGreatDoor
/-
  Walks: the draws of rounds (DrawRoundPlay, DrawRoundApart).
-/
namespace Go.Proofs.YthifgndjpjaddaaGreatDoor
open Go Go.RowKit Go.Proofs
attribute [local irreducible] RWp AW run kPe pe Kt effA gd gu br retR RDp runD kPeD brW gW effD
set_option maxRecDepth 100000
end Go.Proofs.YthifgndjpjaddaaGreatDoor
/-
  Walks: rounds: own rows read as data at a call; what rounds leave is small.
-/
namespace Go.Proofs.YthifgndjpjaddaaGreatDoor
open Go Go.RowKit Go.Proofs
theorem rPlay_sm (t : List Nd) (l : List Ev) : SmS (rPlay t l).1 ∧ SmS (rPlay t l).2.1 := by
  cases hv : rdV t l with
  | false => rw [rPlay_f hv]; exact ⟨st0_sm, st0_sm⟩
  | true =>
    have h : 0 ≤ (rPlay t l).2.2 := by
      have := rPlay_neg t l
      rw [hv] at this
      have := mt this.1 (by simp)
      omega
    obtain ⟨h1, h2, _⟩ := law_round h
    exact ⟨siteV_sm h1, siteV_sm h2⟩
end Go.Proofs.YthifgndjpjaddaaGreatDoor
/-
  Walks: own rows read as data at a call; what points into them is forgotten.
-/
namespace Go.Proofs.YthifgndjpjaddaaGreatDoor
open Go Go.RowKit Go.Proofs
end Go.Proofs.YthifgndjpjaddaaGreatDoor
/-
  Walks: impl.TreeChanged, impl.CanonDiff.
-/
namespace Go.Proofs.YthifgndjpjaddaaGreatDoor
open Go Go.RowKit Go.Proofs
attribute [local irreducible] RWp AW run kPe pe Kt effA gd gu br retR RDp runD kPeD brW gW effD
set_option maxRecDepth 100000
set_option maxHeartbeats 4000000
end Go.Proofs.YthifgndjpjaddaaGreatDoor
/-
  Walks: impl.RoundApart, read as data.
-/
namespace Go.Proofs.YthifgndjpjaddaaGreatDoor
open Go Go.RowKit Go.Proofs
attribute [local irreducible] RWp AW run kPe pe Kt effA gd gu br retR RDp runD kPeD brW gW effD
set_option maxRecDepth 100000
end Go.Proofs.YthifgndjpjaddaaGreatDoor
/-
  Walks: spec.TreeChanged, laws.sameTexts.
-/
namespace Go.Proofs.YthifgndjpjaddaaGreatDoor
open Go Go.RowKit Go.Proofs
attribute [local irreducible] RWp AW run kPe pe Kt effA gd gu br retR RDp runD kPeD brW gW effD
set_option maxRecDepth 100000
end Go.Proofs.YthifgndjpjaddaaGreatDoor
/-
  Walks: spec.TreeChanged, spec.RoundApart, laws.sameTexts.
-/
namespace Go.Proofs.YthifgndjpjaddaaGreatDoor
open Go Go.RowKit Go.Proofs
attribute [local irreducible] RWp AW run kPe pe Kt effA gd gu br retR RDp runD kPeD brW gW effD
set_option maxRecDepth 100000
end Go.Proofs.YthifgndjpjaddaaGreatDoor
/-
  Walks: the laws' own helpers at rows of integers and of texts: equalities, marks.
-/
namespace Go.Proofs.YthifgndjpjaddaaGreatDoor
open Go Go.RowKit Go.Proofs
attribute [local irreducible] RWp AW run kPe pe Kt effA gd gu br retR RDp runD kPeD brW gW effD
set_option maxRecDepth 100000
end Go.Proofs.YthifgndjpjaddaaGreatDoor
/-
  Walks: marks in rows of texts.
-/
namespace Go.Proofs.YthifgndjpjaddaaGreatDoor
open Go Go.RowKit Go.Proofs
attribute [local irreducible] RWp AW run kPe pe Kt effA gd gu br retR RDp runD kPeD brW gW effD
set_option maxRecDepth 100000
end Go.Proofs.YthifgndjpjaddaaGreatDoor
/-
  Walks: marks in rows of texts.
-/
namespace Go.Proofs.YthifgndjpjaddaaGreatDoor
open Go Go.RowKit Go.Proofs
attribute [local irreducible] RWp AW run kPe pe Kt effA gd gu br retR RDp runD kPeD brW gW effD
set_option maxRecDepth 100000
end Go.Proofs.YthifgndjpjaddaaGreatDoor
/-
  Walks: impl.play, RoundDone, RoundApart with rows of their own.
-/
namespace Go.Proofs.YthifgndjpjaddaaGreatDoor
open Go Go.RowKit Go.Proofs
structure RdOk2 (t : List Nd) (l : List Ev) : Prop where
  b : t.length ≤ maxLen
  bp : ∀ n ∈ t, n.p.length ≤ maxLen
  e : l.length ≤ maxLen
  ep : ∀ e ∈ l, e.c.p.length ≤ maxLen
attribute [local irreducible] RWp AW run kPe pe Kt effA gd gu br retR RDp runD kPeD brW gW effD
set_option maxRecDepth 100000
theorem toNodeS_d (l : List Nd) (hl : l.length ≤ 1048576) : PC Tryz.prog 9 [ndA l] (vX (ndA l)) := by
  have := (toNodeS_pc l hl).frzX
  simpa [viewN, hpOf, hget, isC, tk] using this
theorem toEventS_d (l : List Ev) (hl : l.length ≤ 1048576) : PC Tryz.prog 10 [evsA l] (vX (evsA l)) := by
  have := (toEventS_pc l hl).frzX
  simpa [viewN, hpOf, hget, isC, tk, rowEv] using this
end Go.Proofs.YthifgndjpjaddaaGreatDoor
/-
  Walks: marks in a side.
-/
namespace Go.Proofs.YthifgndjpjaddaaGreatDoor
open Go Go.RowKit Go.Proofs
def markS (s : St) (k : Nat) (rv : AV) (lr' rows : List Row) : Prop := rv = iA ((k + 3 * s.base.length + 5 * s.log.length : Nat) : Int) ∧ lr' = [rowN (mkN k s.base), rowC (mkC (k + 3 * s.base.length) s.log)] ∧ rows = []
attribute [local irreducible] RWp AW run kPe pe Kt effA gd gu br retR RDp runD kPeD brW gW effD
set_option maxRecDepth 100000
theorem markSite_pcl (s : St) (k : Nat) (h0 : 0 < k) (hk : k + 3 * s.base.length + 5 * s.log.length ≤ 4611686018427387904) : PCL Tryz.prog 27 [rowN s.base, rowC s.log] (mvF none) [stO s, iA k] (markS s k) := by
  have hN := markNodeS_pcl s.base k h0 (by omega)
  have hC := markCommandS_pcl s.log (k + 3 * s.base.length) (by omega) (by omega)
  unfold stO
  refine pcl_enter Tryz.func27 rfl rfl (by simp) fun w0 fb loc => go_on ?_; simp only [Tryz.ntmps27, hpL, nmL, mvF, renL, decide_true, decide_false, push_cast, simprocAttr]
  (try simp only [push_cast, simprocAttr]); refine call_lend [500000] none (lr := [rowN s.base]) (by simp [ndB]) (by first | rfl | simp [rowsOf, hget, rowS, rowN, rowC, sC, ndC, cmC]) (by simp [idsL, idsA]) (by simp [mvN]) (by simpa [rnA, ixOf] using hN) ?_
  rintro rv lr' rows ⟨rfl, rfl, rfl⟩
  (refine ⟨by simp [shB, mvF, rowS, rowN, rowC, mkN_len], by simp [frB, baseOf], go_on ?_⟩; simp only [killA, killH, killRow, push_cast, simprocAttr])
  push_cast at hC
  (try simp only [push_cast, simprocAttr]); refine call_lend [500001] none (lr := [rowC s.log]) (by simp [ndB]) (by first | rfl | simp [rowsOf, hget, rowS, rowN, rowC, sC, ndC, cmC]) (by simp [idsL, idsA]) (by simp [mvN]) (by simpa [rnA, ixOf] using hC) ?_
  rintro rv lr' rows ⟨rfl, rfl, rfl⟩
  (refine ⟨by simp [shB, mvF, rowS, rowN, rowC, mkC_len], by simp [frB, baseOf], go_on ?_⟩; simp only [killA, killH, killRow, push_cast, simprocAttr])
  have hfin : markS s k (iA ((k + 3 * s.base.length + 5 * s.log.length : Nat) : Int)) [rowN (mkN k s.base), rowC (mkC (k + 3 * s.base.length) s.log)] [] := ⟨rfl, rfl, rfl⟩
  push_cast at hfin
  (try simp only [push_cast, simprocAttr])
  (refine at_retL ?_; simp only [Tryz.results27, retL, push_cast, simprocAttr]; simpa [show List.range 1 = [0] from rfl, show List.range 2 = [0, 1] from rfl, show List.range 3 = [0, 1, 2] from rfl, nmL, mvF, ndB, ixOf, rowsOf, hget, rowS, rowN, rowC] using  hfin)
end Go.Proofs.YthifgndjpjaddaaGreatDoor
/-
  Walks: sessions that an exact law is handed: their size, copies, marks.
-/
namespace Go.Proofs.YthifgndjpjaddaaGreatDoor
open Go Go.RowKit Go.Proofs
set_option maxRecDepth 100000
section
variable {H : Type} {enc : TypeId × Value → H} {W : World} {base : Nat} {sp : Nat → Bool} {held : Bool} {fuel : Nat} {x : DataW H × List MemPlace}
end
attribute [local irreducible] RWp AW run kPe pe Kt effA gd gu br retR RDp runD kPeD brW gW effD
set_option maxRecDepth 100000
end Go.Proofs.YthifgndjpjaddaaGreatDoor
/-
  Walks: marks in a session; SessionRecover with rows of its own.
-/
namespace Go.Proofs.YthifgndjpjaddaaGreatDoor
open Go Go.RowKit Go.Proofs
def rows4 (s t : St) : List Row := [rowN s.base, rowC s.log, rowN t.base, rowC t.log]
theorem flat_4 (s t : St) : FlatR (rows4 s t) := flat_app (flat_nc s.base s.log) (flat_nc t.base t.log)
attribute [local irreducible] RWp AW run kPe pe Kt effA gd gu br retR RDp runD kPeD brW gW effD
set_option maxRecDepth 100000
end Go.Proofs.YthifgndjpjaddaaGreatDoor
/-
  Walks: impl.SessionRun with rows of its own.
-/
namespace Go.Proofs.YthifgndjpjaddaaGreatDoor
open Go Go.RowKit Go.Proofs
def run4 (s t : St) : AV := .tup [.agg [iA s.ep, .o 0 s.base.length, .o 1 s.log.length], .agg [iA t.ep, .o 2 t.base.length, .o 3 t.log.length], bA true]
attribute [local irreducible] RWp AW run kPe pe Kt effA gd gu br retR RDp runD kPeD brW gW effD
set_option maxRecDepth 100000
theorem SessionRun_o (a b : St) (ha : SmS a) (hb : SmS b) (x y : St) (hr : sRun a b = some (x, y)) : PC Tryz.prog 60 [stA' a, stA' b] (rX (run4 x y) (rows4 x y)) := by
  have hM := meet_pc a b ha hb
  have hA := SiteCanon_d a ha
  have hB := SiteCanon_d b hb
  have s1 := siteC_sm a
  have s2 := siteC_sm b
  have hP := PairBase_pc a.base ha.t (siteC a) (siteC b) s1 s2
  have hT := PairTree_d a.base ha.t (siteC a) (siteC b) s1 s2
  have hU := PairTree_d a.base ha.t (siteC b) (siteC a) s2 s1
  have hL := LeftOf_pc (siteC a) (siteC b) s1 s2
  have hR := LeftOf_pc (siteC b) (siteC a) s2 s1
  have hm : meet a b = true := by
    cases h : meet a b with
    | true => rfl
    | false => simp [sRun, h] at hr
  unfold sRun at hr
  rw [if_pos hm] at hr
  obtain ⟨t, u, v, e1, e2, e3, hx⟩ : ∃ t u v, pairBase a.base (siteC a) (siteC b) = some t ∧ pairTree a.base (siteC a) (siteC b) = some u ∧ pairTree a.base (siteC b) (siteC a) = some v ∧ (⟨a.ep + 1, t, leftOf (siteC a) (siteC b)⟩, ⟨a.ep + 1, t, leftOf (siteC b) (siteC a)⟩) = (x, y) := by
    split at hr
    · rename_i t u v e1 e2 e3
      exact ⟨t, u, v, e1, e2, e3, Option.some.inj hr⟩
    · cases hr
  obtain ⟨rfl, rfl⟩ := Prod.mk.inj hx
  have hm2 := (meet_iff a b).1 hm
  obtain ⟨ta, tb, La, Lb, hsa, hsb, hbb, hee, hlt⟩ := hm2
  have hep := hsa.ep
  have w1 : IntKind.i64.wrap (a.ep + 1) = a.ep + 1 := wr _ (by omega)
  have htl : t.length ≤ 10 := by
    obtain ⟨x, y, hpf⟩ := (pairFits_iff a.base (siteC a) (siteC b)).1 (by
      unfold pairBase at e1
      split at e1
      · rename_i hh; simp only [Bool.and_eq_true] at hh; exact hh.1
      · cases e1)
    exact (hpf.base_ov e1).2.le
  have hC := cloneTree_pc t (by omega)
  rw [e1] at hP
  rw [e2] at hT
  rw [e3] at hU
  unfold tbD at hP
  simp only [Option.getD_some, Option.isSome_some] at hP hT hU
  unfold stA' stC at *
  refine pc_enter Tryz.func60 rfl rfl fun w0 fb => go_on ?_; (try simp only [Tryz.ntmps60, push_cast, simprocAttr])
  (refine at_call ?_; (try simp only [push_cast, simprocAttr]); refine rwc_v (hM) (go_on ?_); (try simp only [push_cast, simprocAttr]))
  (try simp only [hm, Bool.not_true, push_cast, simprocAttr])
  refine at_draw rfl (by kernel_rfl) ?_; simp only [push_cast, simprocAttr]
  (refine at_shareD (by simp [isC2, isC]) (by first | rfl | simp [ren]) hA ?_; (try simp only [push_cast, simprocAttr]))
  (refine at_shareD (by simp [isC2, isC]) (by first | rfl | simp [ren]) hB ?_; (try simp only [push_cast, simprocAttr]))
  refine at_done (by kernel_rfl) (by kernel_rfl) (go_on ?_)
  (try simp only [push_cast, simprocAttr])
  (refine at_call ?_; (try simp only [push_cast, simprocAttr]); refine rwc_r (hP) (by simp [flatV, flatL]) (flat_n _) (by simp [frB, baseOf]) (go_on ?_); (try simp only [push_cast, simprocAttr]))
  ((try simp only [push_cast, simprocAttr]); refine at_share2 (by simp [isC2, isC]) (by first | rfl | simp [ren]) (hT) (go_on ?_); (try simp only [push_cast, simprocAttr]))
  ((try simp only [push_cast, simprocAttr]); refine at_share2 (by simp [isC2, isC]) (by first | rfl | simp [ren]) (hU) (go_on ?_); (try simp only [push_cast, simprocAttr]))
  (try simp only [Bool.not_true, push_cast, simprocAttr])
  refine at_draw rfl (by kernel_rfl) ?_; simp only [push_cast, simprocAttr]
  (try simp only [w1, push_cast, simprocAttr])
  (refine at_callD (by simp [clB, idsL, idsA, hget]) ?_; (try simp only [push_cast, simprocAttr]); refine rcd_r hL (by simp [flatV, flatL]) (flat_c _) (by simp [frB, baseOf]) ?_; (try simp only [push_cast, simprocAttr]))
  (try simp only [w1, push_cast, simprocAttr])
  (refine at_callD (by simp [clB, idsL, idsA, hget]) ?_; (try simp only [push_cast, simprocAttr]); refine rcd_r hC (by simp [flatV, flatL]) (flat_n _) (by simp [frB, baseOf]) ?_; (try simp only [push_cast, simprocAttr]))
  (refine at_callD (by simp [clB, idsL, idsA, hget]) ?_; (try simp only [push_cast, simprocAttr]); refine rcd_r hR (by simp [flatV, flatL]) (flat_c _) (by simp [frB, baseOf]) ?_; (try simp only [push_cast, simprocAttr]))
  (try simp only [w1, push_cast, simprocAttr])
  refine at_done (by kernel_rfl) (by kernel_rfl) (go_on ?_)
  (try simp only [push_cast, simprocAttr])
  refine at_ret ?_; simp only [Tryz.results60, push_cast, simprocAttr]
  simp [rX, ixOf, run4, rows4]
end Go.Proofs.YthifgndjpjaddaaGreatDoor
/-
  The abstract machine: names changed; rows that name one another.
-/
namespace Go.Proofs.YthifgndjpjaddaaGreatDoor
open Go Go.RowKit

/-- Names changed. -/
def rfA (f : Nat → Nat) : AV → AV
  | .o r n => .o (f r) n
  | .p r k off => .p (f r) k off
  | .q r lo z n => .q (f r) lo z n
  | .fn g caps => .fn g (caps.map (rfA f))
  | .agg cs => .agg (cs.map (rfA f))
  | .tup cs => .tup (cs.map (rfA f))
  | x => x
theorem idsL_at : ∀ {cs : List AV} {y : AV} {j : Nat}, cs[j]? = some y → ∀ r ∈ idsA y, r ∈ idsL cs
  | [], y, j, h, r, hr => by simp at h
  | z :: l, y, j, h, r, hr => by
    simp only [idsL, List.mem_append]
    cases j with
    | zero => simp at h; subst h; exact .inl hr
    | succ j => exact .inr (idsL_at (by simpa using h) r hr)
theorem C.rf {lv : Nat → Prop} {h : Hp} {loc : Loc} {w : World} {f : Nat → Nat} {x : AV} {u : Value} (hc : C lv 0 w x u) (hl : ∀ x u, C lv 0 w x u → C (Live h loc) 0 w x u) : G h loc w (rfA f x) u := by
  induction hc with
  | any => simp only [rfA]; exact .cl .any
  | v => simp only [rfA]; exact .cl .v
  | sl xs u a1 a2 a3 a4 a5 a6 a7 => simp only [rfA]; exact .cl (hl _ _ (.sl xs u a1 a2 a3 a4 a5 a6 a7))
  | ip b off u a1 a2 a3 a4 a5 => simp only [rfA]; exact .cl (hl _ _ (.ip b off u a1 a2 a3 a4 a5))
  | fn vs hs hg ih =>
    simp only [rfA]
    refine .fn vs (by simpa using hs) fun j a ha => ?_
    rw [List.getElem?_map, Option.map_eq_some_iff] at ha
    obtain ⟨y, hy, rfl⟩ := ha
    exact ih j y hy
  | agg vs hs hg ih =>
    simp only [rfA]
    refine .agg vs (by simpa using hs) fun j a ha => ?_
    rw [List.getElem?_map, Option.map_eq_some_iff] at ha
    obtain ⟨y, hy, rfl⟩ := ha
    exact ih j y hy
  | tup vs hs hg ih =>
    simp only [rfA]
    refine .tup vs (by simpa using hs) fun j a ha => ?_
    rw [List.getElem?_map, Option.map_eq_some_iff] at ha
    obtain ⟨y, hy, rfl⟩ := ha
    exact ih j y hy
theorem G.rf {h h' : Hp} {loc loc' : Loc} {w : World} {f : Nat → Nat} {p : Nat → Prop} {x : AV} {u : Value} (hg : G h loc w x u) (hin : ∀ r ∈ idsA x, p r)
    (hrow : ∀ q row, p q → hget h q = some row → loc' (f q) = loc q ∧ ∃ row', hget h' (f q) = some row' ∧ row'.sz = row.sz ∧ row.es.length ≤ row'.es.length)
    (hC : ∀ x u, C (Live h loc) 0 w x u → C (Live h' loc') 0 w x u) : G h' loc' w (rfA f x) u := by
  induction hg with
  | cl hc => exact hc.rf hC
  | @o q n row b c hr hl hn =>
    obtain ⟨h1, row', h2, h3, h4⟩ := hrow q row (hin _ (by simp [idsA])) hr
    simp only [rfA]; exact .o h2 (h1.trans hl) (by omega)
  | @onil q row hr hl =>
    obtain ⟨h1, row', h2, h3, h4⟩ := hrow q row (hin _ (by simp [idsA])) hr
    simp only [rfA]; exact .onil h2 (h1.trans hl)
  | @p q k off row b c hr hl =>
    obtain ⟨h1, row', h2, h3, h4⟩ := hrow q row (hin _ (by simp [idsA])) hr
    simp only [rfA]; rw [← h3]; exact .p h2 (h1.trans hl)
  | @q q lo z n row b c A c' hr hl hn =>
    obtain ⟨h1, row', h2, h3, h4⟩ := hrow q row (hin _ (by simp [idsA])) hr
    simp only [rfA]; exact .q h2 (h1.trans hl) hn
  | fn vs hs hg ih =>
    simp only [rfA]
    refine .fn vs (by simpa using hs) fun j a ha => ?_
    rw [List.getElem?_map, Option.map_eq_some_iff] at ha
    obtain ⟨y, hy, rfl⟩ := ha
    exact ih j y hy fun r hr => hin r (by simp only [idsA]; exact idsL_at hy r hr)
  | agg vs hs hg ih =>
    simp only [rfA]
    refine .agg vs (by simpa using hs) fun j a ha => ?_
    rw [List.getElem?_map, Option.map_eq_some_iff] at ha
    obtain ⟨y, hy, rfl⟩ := ha
    exact ih j y hy fun r hr => hin r (by simp only [idsA]; exact idsL_at hy r hr)
  | tup vs hs hg ih =>
    simp only [rfA]
    refine .tup vs (by simpa using hs) fun j a ha => ?_
    rw [List.getElem?_map, Option.map_eq_some_iff] at ha
    obtain ⟨y, hy, rfl⟩ := ha
    exact ih j y hy fun r hr => hin r (by simp only [idsA]; exact idsL_at hy r hr)

/-! ### Rows with names changed -/
def cloRow (row : Row) : Bool := row.cl || row.es.all (·.all isC)
/-- A row with its cells' names changed; one that names nothing stays. -/
def rfRow (f : Nat → Nat) (row : Row) : Row := if cloRow row then ⟨row.E, row.sz, row.es, true⟩ else ⟨row.E, row.sz, row.es.map (·.map (rfA f)), false⟩
theorem rfRow_sz (f : Nat → Nat) (row : Row) : (rfRow f row).sz = row.sz := by unfold rfRow; split <;> rfl
theorem rfRow_len (f : Nat → Nat) (row : Row) : (rfRow f row).es.length = row.es.length := by unfold rfRow; split <;> simp
theorem rfRow_ok {h h' : Hp} {loc loc' : Loc} {w : World} {f : Nat → Nat} {p : Nat → Prop} {r r' : Nat} {row : Row} (ho : RowOk h loc w r row) (hin : cloRow row = true ∨ ∀ e ∈ row.es, ∀ x ∈ e, ∀ q ∈ idsA x, p q) (hl : loc' r' = loc r)
    (hrow : ∀ q row, p q → hget h q = some row → loc' (f q) = loc q ∧ ∃ row', hget h' (f q) = some row' ∧ row'.sz = row.sz ∧ row.es.length ≤ row'.es.length)
    (hC : ∀ x u, C (Live h loc) 0 w x u → C (Live h' loc') 0 w x u) : RowOk h' loc' w r' (rfRow f row) := by
  obtain ⟨q1, xs, q2, q3⟩ := ho
  have hv : rowVal loc' r' row.es.length = rowVal loc r row.es.length := by simp only [rowVal, hl]
  by_cases hc : cloRow row = true
  · unfold rfRow
    rw [if_pos hc]
    refine ⟨q1, xs, by rw [hv]; exact q2, fun k e j x he hx => ?_⟩
    obtain ⟨u, p1, p2, p3, p4⟩ := q3 k e j x he hx
    have hcx : C (Live h loc) 0 w x u := by
      unfold cloRow at hc
      rw [Bool.or_eq_true] at hc
      rcases hc with hc | hc
      · exact p4 hc
      · exact isC_ok p3 (List.all_eq_true.1 (List.all_eq_true.1 hc e (List.mem_of_getElem? he)) x (List.mem_of_getElem? hx))
    exact ⟨u, p1, p2, .cl (hC _ _ hcx), fun _ => hC _ _ hcx⟩
  · have hin : ∀ e ∈ row.es, ∀ x ∈ e, ∀ q ∈ idsA x, p q := hin.resolve_left hc
    unfold rfRow
    rw [if_neg hc]
    refine ⟨fun k e he => ?_, xs, by rw [List.length_map, hv]; exact q2, fun k e j x he hx => ?_⟩
    · simp only [List.getElem?_map, Option.map_eq_some_iff] at he
      obtain ⟨e', he', rfl⟩ := he
      rw [List.length_map]; exact q1 k e' he'
    · simp only [List.getElem?_map, Option.map_eq_some_iff] at he
      obtain ⟨e', he', rfl⟩ := he
      rw [List.getElem?_map, Option.map_eq_some_iff] at hx
      obtain ⟨x', hx', rfl⟩ := hx
      obtain ⟨u, p1, p2, p3, p4⟩ := q3 k e' j x' he' hx'
      exact ⟨u, p1, p2, p3.rf (hin e' (List.mem_of_getElem? he') x' (List.mem_of_getElem? hx')) hrow hC, fun h => by cases h⟩
section
variable {w0 : World} {lent : Lent} {s : AS} {loc : Loc} {a : Act} {w : World}
end

/-! ### Contracts -/
/-- Lent rows lie apart; they may name one another. -/
structure LWX (lr : List Row) (fb : Nat → Prop) (w : World) (loc : Loc) : Prop where
  fbe : loc.fb = fb
  rw : ∀ r row, hget (hpOf 0 lr) r = some row → RowOk (hpOf 0 lr) loc w r row
  inj : ∀ r r' row row' b c c', hget (hpOf 0 lr) r = some row → hget (hpOf 0 lr) r' = some row' → loc r = some (b, c) → loc r' = some (b, c') → r = r'
  fbl : ∀ b, fb b → b < w.heap.size ∧ ¬ LiveR (hpOf 0 lr) loc b
structure LPX (lr lr' rows : List Row) (fb : Nat → Prop) (loc : Loc) (w w' : World) (rv : AV) (v : Value) (loc' : Loc) : Prop where
  len : lr'.length = lr.length
  os : w'.os = w.os
  tape : w'.tape = w.tape
  output : w'.output = w.output
  size : w.heap.size ≤ w'.heap.size
  keep : ∀ b, b < w.heap.size → ¬ LiveR (hpOf 0 lr) loc b → w'.heap[b]? = w.heap[b]?
  fbe : loc'.fb = fb
  stay : ∀ r, r < lr.length → loc' r = loc r
  val : G (hpOf 0 (lr' ++ rows)) loc' w' rv v
  rw : ∀ r row, hget (hpOf 0 (lr' ++ rows)) r = some row → RowOk (hpOf 0 (lr' ++ rows)) loc' w' r row
  inj : ∀ r r' row row' b c c', hget (hpOf 0 (lr' ++ rows)) r = some row → hget (hpOf 0 (lr' ++ rows)) r' = some row' → loc' r = some (b, c) → loc' r' = some (b, c') → r = r'
  own : ∀ r row b c, hget (hpOf 0 (lr' ++ rows)) r = some row → loc' r = some (b, c) → w.heap.size ≤ b ∨ LiveR (hpOf 0 lr) loc b
/-- A contract with lent rows (0, 1, ..) that stay where they are; they, and the new rows, may name one another. -/
def PCX (P : Program) (f : FuncId) (lr : List Row) (args : List AV) (D : AV → List Row → List Row → Prop) : Prop :=
  (∀ (vs : Array Value) (W : World), (callFunc f vs).run P W = .ok (.enter f vs) W) ∧
  ∀ (w : World) (fb : Nat → Prop) (loc : Loc) (vs : Array Value), LWX lr fb w loc → vs.size = args.length → (∀ (j : Nat) x, args[j]? = some x → G (hpOf 0 lr) loc w x (vs.getD j undef)) →
    Calls P f vs w fun e w' => ∃ rv lr' rows v loc', D rv lr' rows ∧ e = .returned v ∧ LPX lr lr' rows fb loc w w' rv v loc'
theorem PCX.mono {P : Program} {f : FuncId} {lr : List Row} {args : List AV} {D D' : AV → List Row → List Row → Prop} (h : PCX P f lr args D) (hd : ∀ rv lr' rows, D rv lr' rows → D' rv lr' rows) : PCX P f lr args D' :=
  ⟨h.1, fun w fb loc vs h1 h2 h3 => (h.2 w fb loc vs h1 h2 h3).mono fun _ _ ⟨rv, lr', rows, v, loc', h4, h5⟩ => ⟨rv, lr', rows, v, loc', hd _ _ _ h4, h5⟩⟩
section
variable {P : Program}
end
end Go.Proofs.YthifgndjpjaddaaGreatDoor
/-
  The abstract machine: a call that lends rows which may name one another.
-/
namespace Go.Proofs.YthifgndjpjaddaaGreatDoor
open Go Go.RowKit

/-- A row that is not touched, in another world. -/
theorem row_else {h h' : Hp} {loc loc' : Loc} {w w' : World} {q : Nat} {row : Row} (ho : RowOk h loc w q row) (hl : loc' q = loc q) (hb : ∀ b c, loc q = some (b, c) → w'.heap[b]? = w.heap[b]?)
    (hG : ∀ x u, G h loc w x u → G h' loc' w' x u) (hC : ∀ x u, C (Live h loc) 0 w x u → C (Live h' loc') 0 w' x u) : RowOk h' loc' w' q row := by
  obtain ⟨q1, xs, q2, q3⟩ := ho
  refine ⟨q1, xs, ?_, fun k e j x he hx => ?_⟩
  · have e1 : rowVal loc' q row.es.length = rowVal loc q row.es.length := by simp only [rowVal, hl]
    rw [e1]
    refine ⟨q2.1, ?_⟩
    rcases q2.2 with h6 | ⟨g, cap, cur, e2, e3, e4, e5⟩
    · exact .inl h6
    · refine .inr ⟨g, cap, cur, e2, e3, ?_, e5⟩
      cases hl : loc q with
      | none => rw [show rowVal loc q row.es.length = .slice none 0 0 from by simp only [rowVal, hl]] at e2; cases e2
      | some bc =>
        obtain ⟨b, c⟩ := bc
        rw [show rowVal loc q row.es.length = .slice (some ⟨b, 0, none⟩) row.es.length c from by simp only [rowVal, hl]] at e2
        cases e2
        rw [hb _ _ hl]; exact e4
  · obtain ⟨u, p1, p2, p3, p4⟩ := q3 k e j x he hx
    exact ⟨u, p1, p2, hG _ _ p3, fun hc => hC _ _ (p4 hc)⟩
section
variable {P : Program} {w0 : World} {lent : Lent} {Q : Exit → Act → World → Prop}
end
end Go.Proofs.YthifgndjpjaddaaGreatDoor
/-
  The abstract machine: a row under another name.
-/
namespace Go.Proofs.YthifgndjpjaddaaGreatDoor
open Go Go.RowKit

def rn1 (r r' q : Nat) : Nat := if q = r then r' else q
def renH (f : Nat → Nat) : Hp → Hp
  | [] => []
  | (k, row) :: l => (f k, rfRow f row) :: renH f l
def renS (r r' : Nat) (s : AS) : AS := ⟨s.t.map (rfA (rn1 r r')), renH (rn1 r r') s.h⟩
theorem hget_none : ∀ {h : Hp} {q : Nat}, hget h q = none → ∀ p ∈ h, p.1 ≠ q
  | [], q, _, p, hp => by simp at hp
  | (k, x) :: l, q, h, p, hp => by
    simp only [hget] at h
    split at h
    · cases h
    · rename_i hk
      rcases List.mem_cons.1 hp with rfl | hp
      · exact hk
      · exact hget_none h p hp
theorem hget_renH {r r' : Nat} : ∀ {h : Hp} {q : Nat}, (∀ p ∈ h, p.1 ≠ r') → q ≠ r' → hget (renH (rn1 r r') h) (rn1 r r' q) = (hget h q).map (rfRow (rn1 r r'))
  | [], q, _, _ => rfl
  | (k, x) :: l, q, h, hq => by
    have hk := h (k, x) List.mem_cons_self
    simp only at hk
    simp only [renH, hget]
    by_cases e : k = q
    · subst e; simp
    · rw [if_neg e, if_neg (by unfold rn1; split <;> split <;> omega)]
      exact hget_renH (fun p hp => h p (List.mem_cons_of_mem _ hp)) hq
theorem hget_renH_inv {r r' : Nat} : ∀ {h : Hp} {q : Nat} {row : Row}, (∀ p ∈ h, p.1 ≠ r') → hget (renH (rn1 r r') h) q = some row → ∃ q0 row0, rn1 r r' q0 = q ∧ q0 ≠ r' ∧ hget h q0 = some row0 ∧ row = rfRow (rn1 r r') row0
  | [], q, row, _, h => by cases h
  | (k, x) :: l, q, row, hn, h => by
    have hk := hn (k, x) List.mem_cons_self
    simp only at hk
    simp only [renH, hget] at h
    split at h
    · rename_i e
      cases h
      exact ⟨k, x, e, hk, by simp [hget], rfl⟩
    · rename_i e
      obtain ⟨q0, row0, h1, h2, h3, h4⟩ := hget_renH_inv (fun p hp => hn p (List.mem_cons_of_mem _ hp)) h
      refine ⟨q0, row0, h1, h2, ?_, h4⟩
      simp only [hget]
      rw [if_neg (fun e2 => e (by rw [e2]; exact h1))]
      exact h3
theorem wk_ren (r r' : Nat) {s : AS} (hne : r ≠ r') (h0 : hget s.h r' = none) (h1 : r < 500000 ∨ 600000 ≤ r) (h2 : r' < 500000 ∨ 600000 ≤ r') : Wk s (renS r r' s) := by
  intro w0 lent loc a w hR
  have hno := hget_none h0
  let loc' : Loc := ⟨fun q => if q = r' then loc r else if q = r then none else loc q, loc.fb⟩
  have hl : ∀ q, q ≠ r' → loc' (rn1 r r' q) = loc q := fun q hq => by
    show (if rn1 r r' q = r' then loc r else if rn1 r r' q = r then none else loc (rn1 r r' q)) = _
    unfold rn1
    by_cases e : q = r
    · simp [e]
    · simp [e, hq]
  have hrow : ∀ q row, True → hget s.h q = some row → loc' (rn1 r r' q) = loc q ∧ ∃ row', hget (renH (rn1 r r') s.h) (rn1 r r' q) = some row' ∧ row'.sz = row.sz ∧ row.es.length ≤ row'.es.length := fun q row _ hq => by
    have hq' : q ≠ r' := fun e => by rw [e, h0] at hq; cases hq
    exact ⟨hl q hq', _, by rw [hget_renH hno hq', hq]; rfl, rfRow_sz _ _, Nat.le_of_eq (rfRow_len _ _).symm⟩
  have hlive : ∀ b, Live (renH (rn1 r r') s.h) loc' b → Live s.h loc b := by
    rintro b (⟨q, row, c, g1, g2⟩ | hf)
    · obtain ⟨q0, row0, rfl, e2, e3, _⟩ := hget_renH_inv hno g1
      rw [hl q0 e2] at g2
      exact .inl ⟨_, row0, c, e3, g2⟩
    · exact .inr hf
  have hC : ∀ x u, C (Live s.h loc) 0 w x u → C (Live (renH (rn1 r r') s.h) loc') 0 w x u := fun x u hx => hx.mono (Nat.le_refl _) (Nat.le_refl _) fun b _ _ hn => ⟨fun h => hn (hlive b h), rfl⟩
  refine ⟨loc', by simpa [renS] using hR.tsz, fun i x hx => ?_, hR.df, fun q row hq => ?_, fun q q' row1 row2 b c c' g1 g2 g3 g4 => ?_, fun q row b c g1 g2 => ?_, hR.os, hR.tape, hR.output, hR.size, hR.keep, hR.fbe, hR.fbl, fun q p hp => ?_, hR.pl⟩
  · simp only [renS, List.getElem?_map, Option.map_eq_some_iff] at hx
    obtain ⟨y, hy, rfl⟩ := hx
    exact (hR.tm i y hy).rf (p := fun _ => True) (fun _ _ => trivial) hrow hC
  · obtain ⟨q0, row0, rfl, e2, e3, rfl⟩ := hget_renH_inv hno hq
    exact rfRow_ok (hR.rw _ row0 e3) (.inr fun _ _ _ _ _ _ => trivial) (hl q0 e2) hrow hC
  · obtain ⟨q0, row0, rfl, e2, e3, _⟩ := hget_renH_inv hno g1
    obtain ⟨q1, row3, rfl, e5, e6, _⟩ := hget_renH_inv hno g2
    rw [hl q0 e2] at g3
    rw [hl q1 e5] at g4
    rw [hR.inj _ _ _ _ b c c' e3 e6 g3 g4]
  · obtain ⟨q0, row0, rfl, e2, e3, _⟩ := hget_renH_inv hno g1
    rw [hl q0 e2] at g2
    exact hR.own _ row0 b c e3 g2
  · have := hR.pl q p hp
    show (if q = r' then _ else if q = r then _ else _) = _
    rw [if_neg (by omega), if_neg (by omega)]
    exact hR.pn q p hp
theorem Wk.trans {s s' s'' : AS} (h1 : Wk s s') (h2 : Wk s' s'') : Wk s s'' := fun w0 lent loc a w hR => by
  obtain ⟨l1, h3⟩ := h1 w0 lent loc a w hR
  exact h2 w0 lent l1 a w h3
end Go.Proofs.YthifgndjpjaddaaGreatDoor
/-
  The abstract machine: memory set aside ('fb'), and the world anew: calls that make or write memory of which no row speaks.
-/
namespace Go.Proofs.YthifgndjpjaddaaGreatDoor
open Go Go.RowKit

def nf : List It → Bool
  | [] => true
  | .fin _ :: _ => false
  | _ :: k => nf k
theorem Kt_nf {P : Program} {w0 w1 : World} {lent lent1 : Lent} {Q : Exit → Act → World → Prop} : ∀ {k : List It}, nf k = true → Kt P w0 lent Q k = Kt P w1 lent1 Q k
  | [], _ => by funext e a w; simp only [Kt]
  | .fin _ :: _, h => by cases h
  | .code c :: k, h => by
    have ih := Kt_nf (P := P) (w0 := w0) (w1 := w1) (lent := lent) (lent1 := lent1) (Q := Q) (k := k) h
    funext e a w; cases e <;> simp only [Kt, ih]
  | .ops l :: k, h => by
    have ih := Kt_nf (P := P) (w0 := w0) (w1 := w1) (lent := lent) (lent1 := lent1) (Q := Q) (k := k) h
    funext e a w; cases e <;> simp only [Kt, ih]
  | .inBlock id :: k, h => by
    have ih := Kt_nf (P := P) (w0 := w0) (w1 := w1) (lent := lent) (lent1 := lent1) (Q := Q) (k := k) h
    funext e a w; cases e <;> simp only [Kt, ih]
/-- What the base of a relation owes an older world; 'X': what may have been written of that. -/
structure ChX (X : Nat → Prop) (w0 w1 : World) (lent : Lent) : Prop where
  os : w1.os = w0.os
  tape : w1.tape = w0.tape
  output : w1.output = w0.output
  size : w0.heap.size ≤ w1.heap.size
  keep : ∀ b, b < w0.heap.size → ¬ X b → w1.heap[b]? = w0.heap[b]?
  bk : ∀ b, lent.bk b → X b ∨ w0.heap.size ≤ b
  fb : ∀ b, lent.fb b → X b ∨ w0.heap.size ≤ b
section
variable {P : Program} {w0 w1 : World} {lent1 : Lent} {Q : Exit → Act → World → Prop} {s : AS} {loc : Loc} {a : Act} {w : World}
theorem ChX.own {X : Nat → Prop} (h : ChX X w0 w1 lent1) (hR : Rel w1 lent1 s loc a w) {r : Nat} {row : Row} {b c : Nat} (h1 : hget s.h r = some row) (h2 : loc r = some (b, c)) : X b ∨ w0.heap.size ≤ b := by
  rcases hR.own r row b c h1 h2 with h4 | h4
  · exact .inr (Nat.le_trans h.size h4)
  · exact h.bk b h4
theorem Rel.liveLt (hR : Rel w1 lent1 s loc a w) {b : Nat} (hb : Live s.h loc b) : b < w.heap.size := by
  rcases hb with hb | hb
  · exact Live.lt hR.rw hb
  · rw [hR.fbe] at hb
    exact Nat.lt_of_lt_of_le (hR.fbl b hb).1 hR.size
theorem AW.re {k : List It} (hk : nf k = true) (h : ∀ loc a w, Rel w1 lent1 s loc a w → ∃ w2 lent2 s2 loc2, Rel w2 lent2 s2 loc2 a w ∧ AW P w2 lent2 Q k s2) : AW P w1 lent1 Q k s := fun loc a w hR => by
  obtain ⟨w2, lent2, s2, loc2, h1, h2⟩ := h loc a w hR
  rw [Kt_nf (w1 := w2) (lent1 := lent2) hk]
  exact h2 loc2 a w h1
/-- A relation anew, at the present world: other rows stand for the same memory. -/
theorem Rel.re {s2 : AS} {loc2 : Loc} (hR : Rel w1 lent1 s loc a w) (hlen : s2.t.length = s.t.length) (hlive : ∀ b, Live s2.h loc2 b → Live s.h loc b)
    (ht : ∀ (i : Nat) y, s2.t[i]? = some y → y = .any ∨ ∃ x, s.t[i]? = some x ∧ ((x = y ∧ isC x = true) ∨ ∀ u, G s.h loc w x u → G s2.h loc2 w y u))
    (hrw : ∀ r row, hget s2.h r = some row → RowOk s2.h loc2 w r row)
    (hinj : ∀ r r' row row' b c c', hget s2.h r = some row → hget s2.h r' = some row' → loc2 r = some (b, c) → loc2 r' = some (b, c') → r = r')
    (hfb : ∀ b, loc2.fb b → ¬ LiveR s2.h loc2 b) (pin : Nat → Option (Option (Nat × Nat))) (hpin : ∀ r p, pin r = some p → loc2 r = p ∧ 500000 ≤ r ∧ r < 600000) : Rel w ⟨LiveR s2.h loc2, loc2.fb, pin⟩ s2 loc2 a w := by
  refine ⟨hR.tsz.trans hlen.symm, fun i y hy => ?_, hR.df, hrw, hinj, fun r row b c h1 h2 => .inr ⟨r, row, c, h1, h2⟩, rfl, rfl, rfl, Nat.le_refl _, fun _ _ _ => rfl, rfl, fun b hb => ⟨hR.liveLt (hlive b (.inr hb)), hfb b hb⟩, fun r p hp => (hpin r p hp).1, fun r p hp => (hpin r p hp).2⟩
  rcases ht i y hy with rfl | ⟨x, hx, ⟨rfl, hc⟩ | h⟩
  · exact .cl .any
  · exact .cl ((isC_ok (hR.tm i x hx) hc).mono (Nat.le_refl _) (Nat.le_refl _) fun b _ _ hnl => ⟨fun hl => hnl (hlive b hl), rfl⟩)
  · exact h _ (hR.tm i x hx)
/-- A row whose cells stand for the same values. -/
theorem RowOk.re {h h2 : Hp} {loc2 : Loc} {r r2 : Nat} {row row2 : Row} (ho : RowOk h loc w r row) (hE : row2.E = row.E) (hz : row2.sz = row.sz) (hl : row2.es.length = row.es.length) (hloc : loc2 r2 = loc r)
    (hc : ∀ (k : Nat) e2, row2.es[k]? = some e2 → ∃ e, row.es[k]? = some e ∧ e.length = e2.length ∧ ∀ (j : Nat) y, e2[j]? = some y → ∃ x, e[j]? = some x ∧ ∀ u, G h loc w x u → (row.cl = true → C (Live h loc) 0 w x u) → G h2 loc2 w y u ∧ (row2.cl = true → C (Live h2 loc2) 0 w y u)) : RowOk h2 loc2 w r2 row2 := by
  obtain ⟨q1, xs, q2, q3⟩ := ho
  refine ⟨fun k e2 he => ?_, xs, ?_, fun k e2 j y he hy => ?_⟩
  · obtain ⟨e, h1, h2, _⟩ := hc k e2 he
    rw [hz, ← h2]; exact q1 k e h1
  · have : rowVal loc2 r2 row.es.length = rowVal loc r row.es.length := by simp only [rowVal, hloc]
    rw [hE, hz, hl, this]
    exact q2
  · obtain ⟨e, h1, _, h3⟩ := hc k e2 he
    obtain ⟨x, h4, h5⟩ := h3 j y hy
    obtain ⟨u, p1, p2, p3, p4⟩ := q3 k e j x h1 h4
    obtain ⟨g1, g2⟩ := h5 u p3 p4
    exact ⟨u, by rw [hz]; exact p1, p2, g1, g2⟩

/-! ### Contracts of functions that return memory set aside -/
end
end Go.Proofs.YthifgndjpjaddaaGreatDoor
/-
  The abstract machine: a nil cell becomes a row of its own.
-/
namespace Go.Proofs.YthifgndjpjaddaaGreatDoor
open Go Go.RowKit
def nlO (s : AS) (R r k j : Nat) (E : TypeId) (sz : Nat) : AS := match hget s.h R with
  | some row => (match row.es[k]? with
    | some e => ⟨s.t, hset (hset s.h R ⟨row.E, row.sz, row.es.set k (e.set j (.o r 0)), false⟩) r ⟨E, sz, [], true⟩⟩
    | none => s)
  | none => s
theorem wk_nlO {s : AS} (R r k j : Nat) (E : TypeId) (sz : Nat) {row : Row} {e : List AV} (h1 : hget s.h R = some row) (h2 : row.es[k]? = some e) (h3 : e[j]? = some (.v (.slice none 0 0))) (h4 : hget s.h r = none) (h5 : r < 500000 ∨ 600000 ≤ r) : Wk s (nlO s R r k j E sz) := by
  have hs : nlO s R r k j E sz = ⟨s.t, hset (hset s.h R ⟨row.E, row.sz, row.es.set k (e.set j (.o r 0)), false⟩) r ⟨E, sz, [], true⟩⟩ := by unfold nlO; rw [h1]; simp only; rw [h2]
  rw [hs]
  intro w0 lent loc a w hR
  have hne : R ≠ r := fun e => by rw [e, h4] at h1; cases h1
  obtain ⟨h', hh'⟩ : ∃ h', h' = hset (hset s.h R ⟨row.E, row.sz, row.es.set k (e.set j (.o r 0)), false⟩) r ⟨E, sz, [], true⟩ := ⟨_, rfl⟩
  rw [← hh']
  have hg : ∀ q, hget h' q = if r = q then some ⟨E, sz, [], true⟩ else if R = q then some ⟨row.E, row.sz, row.es.set k (e.set j (.o r 0)), false⟩ else hget s.h q := fun q => by rw [hh', hget_hset, hget_hset]
  let loc' : Loc := ⟨fun q => if q = r then none else loc q, loc.fb⟩
  have hl : ∀ q, q ≠ r → loc' q = loc q := fun q hq => by show (if q = r then none else loc q) = _; rw [if_neg hq]
  have hlr : loc' r = none := by show (if r = r then none else loc r) = none; rw [if_pos rfl]
  have hnr : ∀ q row0, hget s.h q = some row0 → q ≠ r := fun q row0 h e => by rw [e, h4] at h; cases h
  have hrow : ∀ q row0, hget s.h q = some row0 → loc' q = loc q ∧ ∃ row', hget h' q = some row' ∧ row'.sz = row0.sz ∧ row0.es.length ≤ row'.es.length := fun q row0 h => by
    have hq := hnr q row0 h
    refine ⟨hl q hq, ?_⟩
    rw [hg q, if_neg (Ne.symm hq)]
    by_cases hR' : R = q
    · subst hR'
      rw [h1] at h; cases h
      rw [if_pos rfl]
      exact ⟨_, rfl, rfl, by simp⟩
    · rw [if_neg hR']
      exact ⟨_, h, rfl, Nat.le_refl _⟩
  have hlive : ∀ b, Live h' loc' b → Live s.h loc b := by
    rintro b (⟨q, row', c, g1, g2⟩ | hf)
    · have hq : q ≠ r := fun e => by rw [e, hlr] at g2; cases g2
      rw [hl q hq] at g2
      rw [hg q, if_neg (Ne.symm hq)] at g1
      split at g1
      · rename_i e0; subst e0; exact .inl ⟨_, row, c, h1, g2⟩
      · exact .inl ⟨_, row', c, g1, g2⟩
    · exact .inr hf
  have hG : ∀ x u, G s.h loc w x u → G h' loc' w x u := fun x u hx => hx.mono (Nat.le_refl _) hrow fun b _ hn => ⟨fun h => hn (hlive b h), rfl⟩
  have hC : ∀ x u, C (Live s.h loc) 0 w x u → C (Live h' loc') 0 w x u := fun x u hx => hx.mono (Nat.le_refl _) (Nat.le_refl _) fun b _ _ hn => ⟨fun h => hn (hlive b h), rfl⟩
  refine ⟨loc', hR.tsz, fun i x hx => hG _ _ (hR.tm i x hx), hR.df, fun q row' hq => ?_, fun q q' row1 row2 b c c' g1 g2 g3 g4 => ?_, fun q row' b c g1 g2 => ?_, hR.os, hR.tape, hR.output, hR.size, hR.keep, hR.fbe, hR.fbl, fun q p hp => ?_, hR.pl⟩
  · rw [hg q] at hq
    split at hq
    · rename_i e0; subst e0; cases hq
      refine ⟨fun k e he => by simp at he, [], ⟨by simp, .inl ⟨?_, rfl⟩⟩, fun k e j a he => by simp at he⟩
      simp only [rowVal, hlr]
    · rename_i hq0
      split at hq
      · rename_i e0; subst e0; cases hq
        refine RowOk.re (hR.rw R row h1) rfl rfl (by simp) (hl R hne) fun k2 e2 he2 => ?_
        simp only at he2
        rw [List.getElem?_set] at he2
        split at he2
        · rename_i ek; subst ek
          split at he2
          · cases he2
            refine ⟨e, h2, by simp, fun j2 y hy => ?_⟩
            rw [List.getElem?_set] at hy
            split at hy
            · rename_i ej; subst ej
              split at hy
              · cases hy
                refine ⟨_, h3, fun u hu _ => ⟨?_, fun h => by cases h⟩⟩
                rw [hu.v_inv]
                exact .onil (row := ⟨E, sz, [], true⟩) (by rw [hg r, if_pos rfl]) hlr
              · cases hy
            · exact ⟨y, hy, fun u hu _ => ⟨hG _ _ hu, fun h => by cases h⟩⟩
          · cases he2
        · exact ⟨e2, he2, rfl, fun j2 y hy => ⟨y, hy, fun u hu _ => ⟨hG _ _ hu, fun h => by cases h⟩⟩⟩
      · exact row_else (hR.rw q row' hq) (hl q (hnr q _ hq)) (fun _ _ _ => rfl) hG hC
  · have n1 : q ≠ r := fun e => by rw [e, hlr] at g3; cases g3
    have n2 : q' ≠ r := fun e => by rw [e, hlr] at g4; cases g4
    rw [hl _ n1] at g3
    rw [hl _ n2] at g4
    rw [hg q, if_neg (Ne.symm n1)] at g1
    rw [hg q', if_neg (Ne.symm n2)] at g2
    have f : ∀ q row1, (if R = q then some (⟨row.E, row.sz, row.es.set k (e.set j (.o r 0)), false⟩ : Row) else hget s.h q) = some row1 → ∃ row0, hget s.h q = some row0 := fun q row1 h => by
      split at h
      · rename_i e0; subst e0; exact ⟨row, h1⟩
      · exact ⟨_, h⟩
    obtain ⟨x1, y1⟩ := f q row1 g1
    obtain ⟨x2, y2⟩ := f q' row2 g2
    exact hR.inj q q' x1 x2 b c c' y1 y2 g3 g4
  · have n1 : q ≠ r := fun e => by rw [e, hlr] at g2; cases g2
    rw [hl _ n1] at g2
    rw [hg q, if_neg (Ne.symm n1)] at g1
    split at g1
    · rename_i e0; subst e0; exact hR.own _ row b c h1 g2
    · exact hR.own q row' b c g1 g2
  · have := hR.pl q p hp
    rw [hl q (by omega)]
    exact hR.pn q p hp
end Go.Proofs.YthifgndjpjaddaaGreatDoor
/-
  Walks: impl.play with rows of its own for its sides too.
-/
namespace Go.Proofs.YthifgndjpjaddaaGreatDoor
open Go Go.RowKit Go.Proofs
theorem wk_drop (ids : List Nat) {s s'' : AS} (h : Wk s (dropS ids s)) (h2 : Wk (dropS ids s) s'') : Wk s s'' := Wk.trans h h2
theorem wk_rent (r r' : Nat) {s s'' : AS} (hne : r ≠ r') (h0 : hget s.h r' = none) (h1 : r < 500000 ∨ 600000 ≤ r) (h2 : r' < 500000 ∨ 600000 ≤ r') (h : Wk (renS r r' s) s'') : Wk s s'' := Wk.trans (wk_ren r r' hne h0 h1 h2) h
theorem wk_nlt (R r k j : Nat) (E : TypeId) (sz : Nat) {s s'' : AS} {row : Row} {e : List AV} (h1 : hget s.h R = some row) (h2 : row.es[k]? = some e) (h3 : e[j]? = some (.v (.slice none 0 0))) (h4 : hget s.h r = none) (h5 : r < 500000 ∨ 600000 ≤ r) (h : Wk (nlO s R r k j E sz) s'') : Wk s s'' := Wk.trans (wk_nlO R r k j E sz h1 h2 h3 h4 h5) h
def siO (a : St) (i j : Nat) : List AV := [iA a.ep, .o i a.base.length, .o j a.log.length]
def rowX (a : St) (i j : Nat) : Row := ⟨45, 3, [[iA a.ep, .o i a.base.length, .o j a.log.length]], false⟩
def plO (a b : St) (ds : List Int) : AV := .tup [.agg [iA a.ep, .o 0 a.base.length, .o 1 a.log.length], .agg [iA b.ep, .o 2 b.base.length, .o 3 b.log.length], .o 4 ds.length]
structure PK (t : List Nd) (l : List Ev) (k : Nat) (a b : St) (ds : List Int) : Prop where
  j : PJ t l k a b ds
  r : ∃ n, RI a b n
theorem PK.va {t : List Nd} {l : List Ev} {k : Nat} {a b : St} {ds : List Int} (h : PK t l k a b ds) : siteV a = true := by
  obtain ⟨n, hr⟩ := h.r
  exact (siteV_iff a).2 hr.va
theorem PK.vb {t : List Nd} {l : List Ev} {k : Nat} {a b : St} {ds : List Int} (h : PK t l k a b ds) : siteV b = true := by
  obtain ⟨n, hr⟩ := h.r
  exact (siteV_iff b).2 hr.vb
attribute [local irreducible] RWp AW run kPe pe Kt effA gd gu br retR RDp runD kPeD brW gW effD
set_option maxRecDepth 100000
set_option maxHeartbeats 2000000
theorem play_o (t : List Nd) (ht : SmT2 t) (l : List Ev) (hl : SmE l) (hv : rdV t l = true) : PC Tryz.prog 36 [ndA t, evsA l] (rX (plO (pl t l).1 (pl t l).2.1 (pl t l).2.2) [rowN (pl t l).1.base, rowC (pl t l).1.log, rowN (pl t l).2.1.base, rowC (pl t l).2.1.log, rowI (pl t l).2.2]) := by
  have hT := cloneTree_pc t (by have := ht.n; omega)
  have hn := hl.n
  have hv2 : tV t = true ∧ ∀ e ∈ l, evV e = true := by
    unfold rdV at hv
    simp only [Bool.and_eq_true] at hv
    exact ⟨hv.1.2, List.all_eq_true.1 hv.1.1⟩
  obtain ⟨htv, hev⟩ := hv2
  have hP0 : PK t l 0 ⟨0, t, []⟩ ⟨0, t, []⟩ [] := ⟨PJ.init ht l, 0, RI.init htv⟩
  refine pc_enter Tryz.func36 rfl rfl fun w0 fb => go_on ?_; (try simp only [Tryz.ntmps36, push_cast, simprocAttr])
  (refine at_call ?_; (try simp only [push_cast, simprocAttr]); refine rwc_r (hT) (by simp [flatV, flatL]) (flat_n _) (by simp [frB, baseOf]) (go_on ?_); (try simp only [push_cast, simprocAttr]))
  (refine at_call ?_; (try simp only [push_cast, simprocAttr]); refine rwc_r (hT) (by simp [flatV, flatL]) (flat_n _) (by simp [frB, baseOf]) (go_on ?_); (try simp only [push_cast, simprocAttr]))
  refine at_loop (X := Nat × St × St × List Int) (fun x => [(9, .o 9 x.2.2.2.length), (16, .any), (17, .any), (19, .any), (20, .any), (23, iA x.1)]) (fun x => [(4, ⟨45, 3, [[iA 0, .v (.slice none 0 0), .v (.slice none 0 0)]], true⟩), (5, ⟨45, 3, [[iA 0, .v (.slice none 0 0), .v (.slice none 0 0)]], true⟩), (6, ⟨3, 1, [], true⟩), (7, rowX x.2.1 600000 600001), (8, rowX x.2.2.1 600002 600003), (9, ⟨3, 1, x.2.2.2.map inC, true⟩), (600000, rowN x.2.1.base), (600001, rowC x.2.1.log), (600002, rowN x.2.2.1.base), (600003, rowC x.2.2.1.log)]) (fun x => PK t l x.1 x.2.1 x.2.2.1 x.2.2.2) (fun x => l.length - x.1) (0, ⟨0, t, []⟩, ⟨0, t, []⟩, []) hP0 ?_ ?_
  · refine wk_nlt 7 600001 0 2 68 5 (by simp only [hget, simprocAttr]; rfl) rfl rfl (by simp [hget]) (by decide) ?_
    simp only [nlO, hget, hset, List.getElem?_cons_zero, List.set_cons_zero, List.set_cons_succ, isC, idsA, idsL, hget, List.map_cons, List.map_nil, List.all_cons, List.all_nil, List.append_nil, List.nil_append, Bool.not_false, Bool.not_true, Bool.and_true, Bool.true_and, Bool.and_false, Bool.false_and, Bool.or_true, Bool.true_or, Bool.or_false, Bool.false_or, Bool.or_self, Bool.and_self, beq_iff_eq, if_true, if_false, reduceIte, Nat.reduceEqDiff, Nat.reduceBEq, Bool.false_eq_true, reduceCtorEq, simprocAttr]
    refine wk_nlt 8 600003 0 2 68 5 (by simp only [hget, simprocAttr]; rfl) rfl rfl (by simp [hget]) (by decide) ?_
    simp only [nlO, hget, hset, List.getElem?_cons_zero, List.set_cons_zero, List.set_cons_succ, isC, idsA, idsL, hget, List.map_cons, List.map_nil, List.all_cons, List.all_nil, List.append_nil, List.nil_append, Bool.not_false, Bool.not_true, Bool.and_true, Bool.true_and, Bool.and_false, Bool.false_and, Bool.or_true, Bool.true_or, Bool.or_false, Bool.false_or, Bool.or_self, Bool.and_self, beq_iff_eq, if_true, if_false, reduceIte, Nat.reduceEqDiff, Nat.reduceBEq, Bool.false_eq_true, reduceCtorEq, simprocAttr]
    refine wk_rent 17000 600000 (by decide) (by simp [hget]) (by decide) (by decide) ?_
    simp only [renS, renH, rfRow, cloRow, rfA, rn1, siO, rowX, isC, idsA, idsL, hget, List.map_cons, List.map_nil, List.all_cons, List.all_nil, List.append_nil, List.nil_append, Bool.not_false, Bool.not_true, Bool.and_true, Bool.true_and, Bool.and_false, Bool.false_and, Bool.or_true, Bool.true_or, Bool.or_false, Bool.false_or, Bool.or_self, Bool.and_self, beq_iff_eq, if_true, if_false, reduceIte, Nat.reduceEqDiff, Nat.reduceBEq, Bool.false_eq_true, reduceCtorEq, simprocAttr]
    refine wk_rent 20000 600002 (by decide) (by simp [hget]) (by decide) (by decide) ?_
    simp only [renS, renH, rfRow, cloRow, rfA, rn1, siO, rowX, isC, idsA, idsL, hget, List.map_cons, List.map_nil, List.all_cons, List.all_nil, List.append_nil, List.nil_append, Bool.not_false, Bool.not_true, Bool.and_true, Bool.true_and, Bool.and_false, Bool.false_and, Bool.or_true, Bool.true_or, Bool.or_false, Bool.false_or, Bool.or_self, Bool.and_self, beq_iff_eq, if_true, if_false, reduceIte, Nat.reduceEqDiff, Nat.reduceBEq, Bool.false_eq_true, reduceCtorEq, simprocAttr]
    (refine wk_ok ?_ ?_ ?_ ?_ <;> simp [rowX, leL, leH, idsL, idsA, idsR, inH, hget, sameRow, upA, hvA, dsts, dstO, setA_0, setA_1, setA_8, List.append, List.cons_append, List.nil_append])
  · rintro ⟨k, a, b, ds⟩ hK
    have hJ := hK.j
    simp only [upA, hvA, dsts, dstO, setA_0, setA_1, setA_8, List.append, List.cons_append, List.nil_append]
    simp only [rowX]
    refine go_on ?_
    (try simp only [push_cast, simprocAttr])
    refine at_b (fun hg => ?_) (fun hg => ?_)
    · have hlt := lt_tt hg
      obtain ⟨e, he⟩ := get_of_lt hlt
      have i1 := ix_n he
      have i2 := map_get evC he
      simp only [evC] at i2
      have hev' := hev e (List.mem_of_getElem? he)
      obtain ⟨rn, hRI⟩ := hK.r
      have hRI2 := hRI.step hev'
      have hp := hl.p e (List.mem_of_getElem? he)
      have w1 := wr ((k : Int) + 1) (by omega)
      have hdn : ds.length ≤ k := hJ.n
      have hmap : ds.map inC ++ [[iA (k : Int)]] = (ds ++ [(k : Int)]).map inC := by rw [List.map_append]; rfl
      (try simp only [hg, i1, i2, push_cast, simprocAttr])
      by_cases h1 : e.k = 1
      · have j1 : eqI e.k 1 = true := eqI_t h1
        have hcv : cmV e.c = true := by
          rcases evV_cases hev' with ⟨_, h⟩ | ⟨h, _⟩ | ⟨h, _⟩
          · exact h
          · omega
          · omega
        have hS := SiteDo_pc1 a hJ.sa e.c hp hK.va hcv
        have hsm := siteDo_sm hJ.sa hp (s := a)
        rw [evDo_1 h1] at hRI2
        obtain ⟨o, ok, hoo⟩ : ∃ o ok, siteDo a e.c = (o, ok) := ⟨_, _, rfl⟩
        have hJ2 := hJ.step he (evDo_1 h1) (by rw [hoo]; rw [hoo] at hsm; exact hsm) hJ.sb
        unfold doR at hS
        rw [hoo] at hS hJ2 hRI2
        simp only at hS hJ2 hRI2
        unfold stA' stC cmdA cmC stO at hS
        (try simp only [j1, push_cast, simprocAttr])
        (refine at_call ?_; (try simp only [push_cast, simprocAttr]); refine rwc_r (hS) (by simp [flatV, flatL]) (flat_nc _ _) (by simp [frB, baseOf]) (go_on ?_); (try simp only [push_cast, simprocAttr]))
        cases ok with
        | false =>
          (try simp only [w1, push_cast, simprocAttr])
          refine at_fin ⟨(k + 1, o, b, ds), ⟨hJ2, _, hRI2⟩, by dsimp only; omega, ?_⟩
          refine wk_drop [600000, 600001] (by refine wk_ok ?_ ?_ ?_ ?_ <;> simp [dropS, dropT, hasN, delL, hdel, rowX, leL, leH, idsL, idsA, idsR, inH, hget, sameRow]) ?_
          simp only [dropS, dropT, hasN, delL, hdel, rowX, isC, idsA, idsL, hget, List.map_cons, List.map_nil, List.all_cons, List.all_nil, List.append_nil, List.nil_append, Bool.not_false, Bool.not_true, Bool.and_true, Bool.true_and, Bool.and_false, Bool.false_and, Bool.or_true, Bool.true_or, Bool.or_false, Bool.false_or, Bool.or_self, Bool.and_self, beq_iff_eq, if_true, if_false, reduceIte, Nat.reduceEqDiff, Nat.reduceBEq, Bool.false_eq_true, reduceCtorEq, simprocAttr]
          refine wk_rent 47000 600000 (by decide) (by simp [hget]) (by decide) (by decide) ?_
          simp only [renS, renH, rfRow, cloRow, rfA, rn1, siO, rowX, isC, idsA, idsL, hget, List.map_cons, List.map_nil, List.all_cons, List.all_nil, List.append_nil, List.nil_append, Bool.not_false, Bool.not_true, Bool.and_true, Bool.true_and, Bool.and_false, Bool.false_and, Bool.or_true, Bool.true_or, Bool.or_false, Bool.false_or, Bool.or_self, Bool.and_self, beq_iff_eq, if_true, if_false, reduceIte, Nat.reduceEqDiff, Nat.reduceBEq, Bool.false_eq_true, reduceCtorEq, simprocAttr]
          refine wk_rent 47001 600001 (by decide) (by simp [hget]) (by decide) (by decide) ?_
          simp only [renS, renH, rfRow, cloRow, rfA, rn1, siO, rowX, isC, idsA, idsL, hget, List.map_cons, List.map_nil, List.all_cons, List.all_nil, List.append_nil, List.nil_append, Bool.not_false, Bool.not_true, Bool.and_true, Bool.true_and, Bool.and_false, Bool.false_and, Bool.or_true, Bool.true_or, Bool.or_false, Bool.false_or, Bool.or_self, Bool.and_self, beq_iff_eq, if_true, if_false, reduceIte, Nat.reduceEqDiff, Nat.reduceBEq, Bool.false_eq_true, reduceCtorEq, simprocAttr]
          (refine wk_ok ?_ ?_ ?_ ?_ <;> simp [rowX, leL, leH, idsL, idsA, idsR, inH, hget, sameRow, upA, hvA, dsts, dstO, setA_0, setA_1, setA_8, List.append, List.cons_append, List.nil_append])
        | true =>
          (try simp only [w1, push_cast, simprocAttr])
          refine at_chk (by omega) ?_
          (try simp only [w1, hmap, push_cast, simprocAttr])
          refine at_fin ⟨(k + 1, o, b, ds ++ [(k : Int)]), ⟨hJ2, _, hRI2⟩, by dsimp only; omega, ?_⟩
          simp only [List.length_append, List.length_cons, List.length_nil]
          refine wk_drop [600000, 600001] (by refine wk_ok ?_ ?_ ?_ ?_ <;> simp [dropS, dropT, hasN, delL, hdel, rowX, leL, leH, idsL, idsA, idsR, inH, hget, sameRow]) ?_
          simp only [dropS, dropT, hasN, delL, hdel, rowX, isC, idsA, idsL, hget, List.map_cons, List.map_nil, List.all_cons, List.all_nil, List.append_nil, List.nil_append, Bool.not_false, Bool.not_true, Bool.and_true, Bool.true_and, Bool.and_false, Bool.false_and, Bool.or_true, Bool.true_or, Bool.or_false, Bool.false_or, Bool.or_self, Bool.and_self, beq_iff_eq, if_true, if_false, reduceIte, Nat.reduceEqDiff, Nat.reduceBEq, Bool.false_eq_true, reduceCtorEq, simprocAttr]
          refine wk_rent 47000 600000 (by decide) (by simp [hget]) (by decide) (by decide) ?_
          simp only [renS, renH, rfRow, cloRow, rfA, rn1, siO, rowX, isC, idsA, idsL, hget, List.map_cons, List.map_nil, List.all_cons, List.all_nil, List.append_nil, List.nil_append, Bool.not_false, Bool.not_true, Bool.and_true, Bool.true_and, Bool.and_false, Bool.false_and, Bool.or_true, Bool.true_or, Bool.or_false, Bool.false_or, Bool.or_self, Bool.and_self, beq_iff_eq, if_true, if_false, reduceIte, Nat.reduceEqDiff, Nat.reduceBEq, Bool.false_eq_true, reduceCtorEq, simprocAttr]
          refine wk_rent 47001 600001 (by decide) (by simp [hget]) (by decide) (by decide) ?_
          simp only [renS, renH, rfRow, cloRow, rfA, rn1, siO, rowX, isC, idsA, idsL, hget, List.map_cons, List.map_nil, List.all_cons, List.all_nil, List.append_nil, List.nil_append, Bool.not_false, Bool.not_true, Bool.and_true, Bool.true_and, Bool.and_false, Bool.false_and, Bool.or_true, Bool.true_or, Bool.or_false, Bool.false_or, Bool.or_self, Bool.and_self, beq_iff_eq, if_true, if_false, reduceIte, Nat.reduceEqDiff, Nat.reduceBEq, Bool.false_eq_true, reduceCtorEq, simprocAttr]
          (refine wk_ok ?_ ?_ ?_ ?_ <;> simp [rowX, leL, leH, idsL, idsA, idsR, inH, hget, sameRow, upA, hvA, dsts, dstO, setA_0, setA_1, setA_8, List.append, List.cons_append, List.nil_append])
      · have j1 : eqI e.k 1 = false := eqI_f h1
        by_cases h2 : e.k = 2
        · have j2 : eqI e.k 2 = true := eqI_t h2
          have hcv : cmV e.c = true := by
            rcases evV_cases hev' with ⟨h, _⟩ | ⟨_, h⟩ | ⟨h, _⟩
            · omega
            · exact h
            · omega
          have hS := SiteDo_pc1 b hJ.sb e.c hp hK.vb hcv
          have hsm := siteDo_sm hJ.sb hp (s := b)
          rw [evDo_2 h2] at hRI2
          obtain ⟨o, ok, hoo⟩ : ∃ o ok, siteDo b e.c = (o, ok) := ⟨_, _, rfl⟩
          have hJ2 := hJ.step he (evDo_2 h2) hJ.sa (by rw [hoo]; rw [hoo] at hsm; exact hsm)
          unfold doR at hS
          rw [hoo] at hS hJ2 hRI2
          simp only at hS hJ2 hRI2
          unfold stA' stC cmdA cmC stO at hS
          (try simp only [j1, j2, push_cast, simprocAttr])
          (refine at_call ?_; (try simp only [push_cast, simprocAttr]); refine rwc_r (hS) (by simp [flatV, flatL]) (flat_nc _ _) (by simp [frB, baseOf]) (go_on ?_); (try simp only [push_cast, simprocAttr]))
          cases ok with
          | false =>
            (try simp only [w1, push_cast, simprocAttr])
            refine at_fin ⟨(k + 1, a, o, ds), ⟨hJ2, _, hRI2⟩, by dsimp only; omega, ?_⟩
            refine wk_drop [600002, 600003] (by refine wk_ok ?_ ?_ ?_ ?_ <;> simp [dropS, dropT, hasN, delL, hdel, rowX, leL, leH, idsL, idsA, idsR, inH, hget, sameRow]) ?_
            simp only [dropS, dropT, hasN, delL, hdel, rowX, isC, idsA, idsL, hget, List.map_cons, List.map_nil, List.all_cons, List.all_nil, List.append_nil, List.nil_append, Bool.not_false, Bool.not_true, Bool.and_true, Bool.true_and, Bool.and_false, Bool.false_and, Bool.or_true, Bool.true_or, Bool.or_false, Bool.false_or, Bool.or_self, Bool.and_self, beq_iff_eq, if_true, if_false, reduceIte, Nat.reduceEqDiff, Nat.reduceBEq, Bool.false_eq_true, reduceCtorEq, simprocAttr]
            refine wk_rent 56000 600002 (by decide) (by simp [hget]) (by decide) (by decide) ?_
            simp only [renS, renH, rfRow, cloRow, rfA, rn1, siO, rowX, isC, idsA, idsL, hget, List.map_cons, List.map_nil, List.all_cons, List.all_nil, List.append_nil, List.nil_append, Bool.not_false, Bool.not_true, Bool.and_true, Bool.true_and, Bool.and_false, Bool.false_and, Bool.or_true, Bool.true_or, Bool.or_false, Bool.false_or, Bool.or_self, Bool.and_self, beq_iff_eq, if_true, if_false, reduceIte, Nat.reduceEqDiff, Nat.reduceBEq, Bool.false_eq_true, reduceCtorEq, simprocAttr]
            refine wk_rent 56001 600003 (by decide) (by simp [hget]) (by decide) (by decide) ?_
            simp only [renS, renH, rfRow, cloRow, rfA, rn1, siO, rowX, isC, idsA, idsL, hget, List.map_cons, List.map_nil, List.all_cons, List.all_nil, List.append_nil, List.nil_append, Bool.not_false, Bool.not_true, Bool.and_true, Bool.true_and, Bool.and_false, Bool.false_and, Bool.or_true, Bool.true_or, Bool.or_false, Bool.false_or, Bool.or_self, Bool.and_self, beq_iff_eq, if_true, if_false, reduceIte, Nat.reduceEqDiff, Nat.reduceBEq, Bool.false_eq_true, reduceCtorEq, simprocAttr]
            (refine wk_ok ?_ ?_ ?_ ?_ <;> simp [rowX, leL, leH, idsL, idsA, idsR, inH, hget, sameRow, upA, hvA, dsts, dstO, setA_0, setA_1, setA_8, List.append, List.cons_append, List.nil_append])
          | true =>
            (try simp only [w1, push_cast, simprocAttr])
            refine at_chk (by omega) ?_
            (try simp only [w1, hmap, push_cast, simprocAttr])
            refine at_fin ⟨(k + 1, a, o, ds ++ [(k : Int)]), ⟨hJ2, _, hRI2⟩, by dsimp only; omega, ?_⟩
            simp only [List.length_append, List.length_cons, List.length_nil]
            refine wk_drop [600002, 600003] (by refine wk_ok ?_ ?_ ?_ ?_ <;> simp [dropS, dropT, hasN, delL, hdel, rowX, leL, leH, idsL, idsA, idsR, inH, hget, sameRow]) ?_
            simp only [dropS, dropT, hasN, delL, hdel, rowX, isC, idsA, idsL, hget, List.map_cons, List.map_nil, List.all_cons, List.all_nil, List.append_nil, List.nil_append, Bool.not_false, Bool.not_true, Bool.and_true, Bool.true_and, Bool.and_false, Bool.false_and, Bool.or_true, Bool.true_or, Bool.or_false, Bool.false_or, Bool.or_self, Bool.and_self, beq_iff_eq, if_true, if_false, reduceIte, Nat.reduceEqDiff, Nat.reduceBEq, Bool.false_eq_true, reduceCtorEq, simprocAttr]
            refine wk_rent 56000 600002 (by decide) (by simp [hget]) (by decide) (by decide) ?_
            simp only [renS, renH, rfRow, cloRow, rfA, rn1, siO, rowX, isC, idsA, idsL, hget, List.map_cons, List.map_nil, List.all_cons, List.all_nil, List.append_nil, List.nil_append, Bool.not_false, Bool.not_true, Bool.and_true, Bool.true_and, Bool.and_false, Bool.false_and, Bool.or_true, Bool.true_or, Bool.or_false, Bool.false_or, Bool.or_self, Bool.and_self, beq_iff_eq, if_true, if_false, reduceIte, Nat.reduceEqDiff, Nat.reduceBEq, Bool.false_eq_true, reduceCtorEq, simprocAttr]
            refine wk_rent 56001 600003 (by decide) (by simp [hget]) (by decide) (by decide) ?_
            simp only [renS, renH, rfRow, cloRow, rfA, rn1, siO, rowX, isC, idsA, idsL, hget, List.map_cons, List.map_nil, List.all_cons, List.all_nil, List.append_nil, List.nil_append, Bool.not_false, Bool.not_true, Bool.and_true, Bool.true_and, Bool.and_false, Bool.false_and, Bool.or_true, Bool.true_or, Bool.or_false, Bool.false_or, Bool.or_self, Bool.and_self, beq_iff_eq, if_true, if_false, reduceIte, Nat.reduceEqDiff, Nat.reduceBEq, Bool.false_eq_true, reduceCtorEq, simprocAttr]
            (refine wk_ok ?_ ?_ ?_ ?_ <;> simp [rowX, leL, leH, idsL, idsA, idsR, inH, hget, sameRow, upA, hvA, dsts, dstO, setA_0, setA_1, setA_8, List.append, List.cons_append, List.nil_append])
        · have j2 : eqI e.k 2 = false := eqI_f h2
          cases hr : sRun a b with
          | none =>
            have hR := SessionRun_d a b hJ.sa hJ.sb
            rw [hr] at hR
            unfold srV st00 stA' stC at hR
            rw [evDo_n h1 h2 hr] at hRI2
            have hJ2 := hJ.step he (evDo_n h1 h2 hr) hJ.sa hJ.sb
            (try simp only [j1, j2, push_cast, simprocAttr])
            (refine at_call ?_; (try simp only [push_cast, simprocAttr]); refine rwc_d (hR) (by simp [flatV, flatL, ctC, ndC, cmC]) (by simp [ren, ctC, ndC, cmC]) (go_on ?_); (try simp only [push_cast, simprocAttr]))
            (try simp only [w1, push_cast, simprocAttr])
            refine at_fin ⟨(k + 1, a, b, ds), ⟨hJ2, _, hRI2⟩, by dsimp only; omega, ?_⟩
            (refine wk_ok ?_ ?_ ?_ ?_ <;> simp [rowX, leL, leH, idsL, idsA, idsR, inH, hget, sameRow, upA, hvA, dsts, dstO, setA_0, setA_1, setA_8, List.append, List.cons_append, List.nil_append])
          | some xy =>
            obtain ⟨x, y⟩ := xy
            have hR := SessionRun_o a b hJ.sa hJ.sb x y hr
            unfold run4 rows4 stA' stC at hR
            rw [evDo_s h1 h2 hr] at hRI2
            have hJ2 := hJ.step he (evDo_s h1 h2 hr) (siteV_sm (law_session hr).1) (siteV_sm (law_session hr).2.1)
            (try simp only [j1, j2, push_cast, simprocAttr])
            (refine at_call ?_; (try simp only [push_cast, simprocAttr]); refine rwc_r (hR) (by simp [flatV, flatL]) (flat_4 _ _) (by simp [frB, baseOf]) (go_on ?_); (try simp only [push_cast, simprocAttr]))
            refine at_draw rfl (by kernel_rfl) ?_; simp only [push_cast, simprocAttr]
            refine at_done (by kernel_rfl) (by kernel_rfl) (go_on ?_)
            (try simp only [w1, push_cast, simprocAttr])
            refine at_chk (by omega) ?_
            (try simp only [w1, hmap, push_cast, simprocAttr])
            refine at_fin ⟨(k + 1, x, y, ds ++ [(k : Int)]), ⟨hJ2, _, hRI2⟩, by dsimp only; omega, ?_⟩
            simp only [List.length_append, List.length_cons, List.length_nil]
            refine wk_drop [13, 14, 600000, 600001, 600002, 600003] (by refine wk_ok ?_ ?_ ?_ ?_ <;> simp [dropS, dropT, hasN, delL, hdel, rowX, leL, leH, idsL, idsA, idsR, inH, hget, sameRow]) ?_
            simp only [dropS, dropT, hasN, delL, hdel, rowX, isC, idsA, idsL, hget, List.map_cons, List.map_nil, List.all_cons, List.all_nil, List.append_nil, List.nil_append, Bool.not_false, Bool.not_true, Bool.and_true, Bool.true_and, Bool.and_false, Bool.false_and, Bool.or_true, Bool.true_or, Bool.or_false, Bool.false_or, Bool.or_self, Bool.and_self, beq_iff_eq, if_true, if_false, reduceIte, Nat.reduceEqDiff, Nat.reduceBEq, Bool.false_eq_true, reduceCtorEq, simprocAttr]
            refine wk_rent 34000 600000 (by decide) (by simp [hget]) (by decide) (by decide) ?_
            simp only [renS, renH, rfRow, cloRow, rfA, rn1, siO, rowX, isC, idsA, idsL, hget, List.map_cons, List.map_nil, List.all_cons, List.all_nil, List.append_nil, List.nil_append, Bool.not_false, Bool.not_true, Bool.and_true, Bool.true_and, Bool.and_false, Bool.false_and, Bool.or_true, Bool.true_or, Bool.or_false, Bool.false_or, Bool.or_self, Bool.and_self, beq_iff_eq, if_true, if_false, reduceIte, Nat.reduceEqDiff, Nat.reduceBEq, Bool.false_eq_true, reduceCtorEq, simprocAttr]
            refine wk_rent 34001 600001 (by decide) (by simp [hget]) (by decide) (by decide) ?_
            simp only [renS, renH, rfRow, cloRow, rfA, rn1, siO, rowX, isC, idsA, idsL, hget, List.map_cons, List.map_nil, List.all_cons, List.all_nil, List.append_nil, List.nil_append, Bool.not_false, Bool.not_true, Bool.and_true, Bool.true_and, Bool.and_false, Bool.false_and, Bool.or_true, Bool.true_or, Bool.or_false, Bool.false_or, Bool.or_self, Bool.and_self, beq_iff_eq, if_true, if_false, reduceIte, Nat.reduceEqDiff, Nat.reduceBEq, Bool.false_eq_true, reduceCtorEq, simprocAttr]
            refine wk_rent 34002 600002 (by decide) (by simp [hget]) (by decide) (by decide) ?_
            simp only [renS, renH, rfRow, cloRow, rfA, rn1, siO, rowX, isC, idsA, idsL, hget, List.map_cons, List.map_nil, List.all_cons, List.all_nil, List.append_nil, List.nil_append, Bool.not_false, Bool.not_true, Bool.and_true, Bool.true_and, Bool.and_false, Bool.false_and, Bool.or_true, Bool.true_or, Bool.or_false, Bool.false_or, Bool.or_self, Bool.and_self, beq_iff_eq, if_true, if_false, reduceIte, Nat.reduceEqDiff, Nat.reduceBEq, Bool.false_eq_true, reduceCtorEq, simprocAttr]
            refine wk_rent 34003 600003 (by decide) (by simp [hget]) (by decide) (by decide) ?_
            simp only [renS, renH, rfRow, cloRow, rfA, rn1, siO, rowX, isC, idsA, idsL, hget, List.map_cons, List.map_nil, List.all_cons, List.all_nil, List.append_nil, List.nil_append, Bool.not_false, Bool.not_true, Bool.and_true, Bool.true_and, Bool.and_false, Bool.false_and, Bool.or_true, Bool.true_or, Bool.or_false, Bool.false_or, Bool.or_self, Bool.and_self, beq_iff_eq, if_true, if_false, reduceIte, Nat.reduceEqDiff, Nat.reduceBEq, Bool.false_eq_true, reduceCtorEq, simprocAttr]
            (refine wk_ok ?_ ?_ ?_ ?_ <;> simp [rowX, leL, leH, idsL, idsA, idsR, inH, hget, sameRow, upA, hvA, dsts, dstO, setA_0, setA_1, setA_8, List.append, List.cons_append, List.nil_append])
    · have h3 := lt_ff hg
      have hd := hJ.done h3
      (try simp only [hg, push_cast, simprocAttr])
      refine at_draw rfl (by kernel_rfl) ?_; simp only [push_cast, simprocAttr]
      refine at_done (by kernel_rfl) (by kernel_rfl) (go_on ?_)
      (try simp only [push_cast, simprocAttr])
      refine at_ret ?_; simp only [Tryz.results36, push_cast, simprocAttr]
      rw [hd]
      simp [rX, ixOf, plO]
end Go.Proofs.YthifgndjpjaddaaGreatDoor
/-
  Walks: marks in a side, read again; a side of nothing.
-/
namespace Go.Proofs.YthifgndjpjaddaaGreatDoor
open Go Go.RowKit Go.Proofs
attribute [local irreducible] RWp AW run kPe pe Kt effA gd gu br retR RDp runD kPeD brW gW effD
set_option maxRecDepth 100000
theorem heldSite_pc (s : St) (k : Nat) (h0 : 0 < k) (hk : k + 3 * s.base.length + 5 * s.log.length ≤ 4611686018427387904) :
    PC Tryz.prog 28 [stA' ⟨s.ep, mkN k s.base, mkC (k + 3 * s.base.length) s.log⟩, iA k] (vI ((k + 3 * s.base.length + 5 * s.log.length : Nat) : Int)) := by
  have hN := heldNodeS_pc s.base k h0 (by omega)
  have hC := heldCommandS_pc s.log (k + 3 * s.base.length) (by omega) (by omega)
  have i1 : ltI ((k : Int) + 3 * (s.base.length : Int)) 0 = false := ltI_f (by omega)
  have i2 : ltI ((k : Int) + 3 * (s.base.length : Int) + 5 * (s.log.length : Int)) 0 = false := ltI_f (by omega)
  push_cast at hC
  unfold stA' stC
  refine pc_enter Tryz.func28 rfl rfl fun w0 fb => go_on ?_; (try simp only [Tryz.ntmps28, push_cast, simprocAttr])
  (refine at_call ?_; (try simp only [push_cast, simprocAttr]); refine rwc_v (hN) (go_on ?_); (try simp only [push_cast, simprocAttr]))
  (try simp only [i1, push_cast, simprocAttr])
  (refine at_call ?_; (try simp only [push_cast, simprocAttr]); refine rwc_v (hC) (go_on ?_); (try simp only [push_cast, simprocAttr]))
  (try simp only [i2, push_cast, simprocAttr])
  refine at_ret ?_; simp only [Tryz.results28, push_cast, simprocAttr]
  simp [vX]
theorem markNodeS_0 (k : Nat) : PC Tryz.prog 15 [ndA [], iA k] (vI k) := by
  refine pc_enter Tryz.func15 rfl rfl fun w0 fb => go_on ?_; (try simp only [Tryz.ntmps15, push_cast, simprocAttr])
  refine at_loop (X := Unit) (fun _ => [(1, iA k), (5, iA 0)]) (fun _ => []) (fun _ => True) (fun _ => 0) () trivial ?_ ?_
  · (refine wk_ok ?_ ?_ ?_ ?_ <;> simp [leL, leH, idsL, idsA, idsR, inH, hget, sameRow, upA, hvA, dsts, dstO, setA_0, setA_1, setA_8, List.append, List.cons_append, List.nil_append])
  · rintro _ _
    simp only [upA, hvA, dsts, dstO, setA_0, setA_1, setA_8, List.append, List.cons_append, List.nil_append]
    refine go_on ?_
    (try simp only [push_cast, simprocAttr])
    refine at_ret ?_; simp only [Tryz.results15, push_cast, simprocAttr]
    simp [vX]
theorem markCommandS_0 (k : Nat) : PC Tryz.prog 45 [cmA [], iA k] (vI k) := by
  refine pc_enter Tryz.func45 rfl rfl fun w0 fb => go_on ?_; (try simp only [Tryz.ntmps45, push_cast, simprocAttr])
  refine at_loop (X := Unit) (fun _ => [(1, iA k), (5, iA 0)]) (fun _ => []) (fun _ => True) (fun _ => 0) () trivial ?_ ?_
  · (refine wk_ok ?_ ?_ ?_ ?_ <;> simp [leL, leH, idsL, idsA, idsR, inH, hget, sameRow, upA, hvA, dsts, dstO, setA_0, setA_1, setA_8, List.append, List.cons_append, List.nil_append])
  · rintro _ _
    simp only [upA, hvA, dsts, dstO, setA_0, setA_1, setA_8, List.append, List.cons_append, List.nil_append]
    refine go_on ?_
    (try simp only [push_cast, simprocAttr])
    refine at_ret ?_; simp only [Tryz.results45, push_cast, simprocAttr]
    simp [vX]
theorem markSite_0 (ep : Int) (k : Nat) : PC Tryz.prog 27 [stA' ⟨ep, [], []⟩, iA k] (vI k) := by
  unfold stA' stC
  refine pc_enter Tryz.func27 rfl rfl fun w0 fb => go_on ?_; (try simp only [Tryz.ntmps27, push_cast, simprocAttr])
  (refine at_call ?_; (try simp only [push_cast, simprocAttr]); refine rwc_v (markNodeS_0 k) (go_on ?_); (try simp only [push_cast, simprocAttr]))
  (refine at_call ?_; (try simp only [push_cast, simprocAttr]); refine rwc_v (markCommandS_0 k) (go_on ?_); (try simp only [push_cast, simprocAttr]))
  refine at_ret ?_; simp only [Tryz.results27, push_cast, simprocAttr]
  simp [vX]
theorem C.st00 {lv : Nat → Prop} {w : World} {u : Value} (h : C lv 0 w st00 u) : C lv 0 w (stA' st0) u := by
  unfold Go.Proofs.YthifgndjpjaddaaGreatDoor.st00 at h
  cases h with
  | agg vs hs hg =>
    refine .agg vs hs fun j a ha => ?_
    rcases j with _ | _ | _ | j
    · cases ha; exact hg 0 _ rfl
    · cases ha
      have := hg 1 _ rfl
      generalize vs.getD 1 undef = v at this ⊢
      cases this
      exact .nilsl _
    · cases ha
      have := hg 2 _ rfl
      generalize vs.getD 2 undef = v at this ⊢
      cases this
      exact .nilsl _
    · simp [stC] at ha
theorem eqSite_0 : PC Tryz.prog 26 [st00, stA' st0] (vB true) := by
  have := eqSite_pc st0 st0 (by simp [st0]) (by simp [st0])
  rw [decide_eq_true rfl] at this
  refine this.args rfl fun j x y hx hy lv w u hc => ?_
  rcases j with _ | _ | j
  · cases hx; cases hy; exact hc.st00
  · cases hx; cases hy; exact hc
  · simp at hx
theorem markSite_00 (k : Nat) : PC Tryz.prog 27 [st00, iA k] (vI k) := by
  refine (markSite_0 0 k).args rfl fun j x y hx hy lv w u hc => ?_
  rcases j with _ | _ | j
  · cases hx; cases hy; exact hc.st00
  · cases hx; cases hy; exact hc
  · simp at hx
theorem heldSite_00 : PC Tryz.prog 28 [st00, iA 1] (vI 1) := by
  refine (heldSite_pc st0 1 (by omega) (by simp [st0])).args rfl fun j x y hx hy lv w u hc => ?_
  rcases j with _ | _ | j
  · cases hx; cases hy; exact hc.st00
  · cases hx; cases hy; exact hc
  · simp at hx
end Go.Proofs.YthifgndjpjaddaaGreatDoor
/-
  Walks: RoundPlay with rows of its own.
-/
namespace Go.Proofs.YthifgndjpjaddaaGreatDoor
open Go Go.RowKit Go.Proofs
def rp3 (a b : St) (d : Int) : AV := .tup [.agg [iA a.ep, .o 0 a.base.length, .o 1 a.log.length], .agg [iA b.ep, .o 2 b.base.length, .o 3 b.log.length], iA d]
attribute [local irreducible] RWp AW run kPe pe Kt effA gd gu br retR RDp runD kPeD brW gW effD
set_option maxRecDepth 100000
theorem RoundPlay_o (t : List Nd) (ht : SmT2 t) (l : List Ev) (hl : SmE l) (h : rdV t l = true) : PC Tryz.prog 25 [ndA t, evsA l] (rX (rp3 (rPlay t l).1 (rPlay t l).2.1 (rPlay t l).2.2) (rows4 (rPlay t l).1 (rPlay t l).2.1)) := by
  rw [rPlay_t h]
  have hV := roundValid_pc t ht.s l hl
  have hP := play_o t ht l hl h
  have hn := hl.n
  have hln := pl_len t l
  have w1 := wr ((l.length : Int) - ((pl t l).2.2.length : Int)) (by omega)
  rw [h] at hV
  unfold plO at hP
  refine pc_enter Tryz.func25 rfl rfl fun w0 fb => go_on ?_; (try simp only [Tryz.ntmps25, push_cast, simprocAttr])
  (refine at_call ?_; (try simp only [push_cast, simprocAttr]); refine rwc_v (hV) (go_on ?_); (try simp only [push_cast, simprocAttr]))
  (try simp only [Bool.not_true, push_cast, simprocAttr])
  (refine at_call ?_; (try simp only [push_cast, simprocAttr]); refine rwc_r (hP) (by simp [flatV, flatL]) ((flat_app (flat_nc _ _) (flat_app (flat_nc _ _) (flat_i _)))) (by simp [frB, baseOf]) (go_on ?_); (try simp only [push_cast, simprocAttr]))
  refine at_draw rfl (by kernel_rfl) ?_; simp only [push_cast, simprocAttr]
  (try simp only [w1, List.length_map, push_cast, simprocAttr])
  refine at_done (by kernel_rfl) (by kernel_rfl) (go_on ?_)
  (try simp only [push_cast, simprocAttr])
  refine at_ret ?_; simp only [Tryz.results25, push_cast, simprocAttr]
  simp [rX, ixOf, rp3, rows4]
end Go.Proofs.YthifgndjpjaddaaGreatDoor
/-
  Walks: FnExactRoundPlay.
-/
namespace Go.Proofs.YthifgndjpjaddaaGreatDoor
open Go Go.RowKit Go.Proofs
attribute [local irreducible] RWp AW run kPe pe Kt effA gd gu br retR RDp runD kPeD brW gW effD
set_option maxRecDepth 100000
set_option maxHeartbeats 4000000
theorem FnExactRoundPlay_1 (t : List Nd) (l : List Ev) (q : RdOk2 t l) (h : rdV t l = true) : PC Tryz.prog 5 [ndA t, evsA l] (vB true) := by
  have hm := max63
  have hZ := szNodeS_pc t 1048576 (by omega) (by omega) (by have := q.b; omega) (fun n hn => by have := q.bp n hn; omega)
  refine pc_enter Tryz.func5 rfl rfl fun w0 fb => go_on ?_; (try simp only [Tryz.ntmps5, push_cast, simprocAttr])
  (refine at_call ?_; (try simp only [push_cast, simprocAttr]); refine rwc_v (hZ) (go_on ?_); (try simp only [push_cast, simprocAttr]))
  refine at_b (fun hb => ?_) (fun hb => ?_)
  · (try simp only [hb, push_cast, simprocAttr])
    refine at_ret ?_; simp only [Tryz.results5, push_cast, simprocAttr]
    simp [vX]
  have hb' := of_ltI_f hb
  obtain ⟨a1, a2, a3⟩ := szS_ok (by omega) hb'
  have hZ2 := szEventS_pc l _ hb' a3 (by have := q.e; omega) (fun n hn => by have := q.ep n hn; omega)
  (try simp only [hb, push_cast, simprocAttr])
  (refine at_call ?_; (try simp only [push_cast, simprocAttr]); refine rwc_v (hZ2) (go_on ?_); (try simp only [push_cast, simprocAttr]))
  refine at_b (fun hc => ?_) (fun hc => ?_)
  · (try simp only [hc, push_cast, simprocAttr])
    refine at_ret ?_; simp only [Tryz.results5, push_cast, simprocAttr]
    simp [vX]
  have hc' := of_ltI_f hc
  obtain ⟨b1, b2, b3⟩ := szS_ok hb' hc'
  simp only [List.length_map] at a1 b1
  have hln : l.length ≤ 1048576 := by omega
  have htn : t.length ≤ 1048576 := by omega
  have htp : ∀ n ∈ t, n.p.length < 4294967281 := fun n hn => by have := a2 _ (List.mem_map_of_mem hn); omega
  have hlp : ∀ e ∈ l, e.c.p.length < 4294967281 := fun e he => by have := b2 _ (List.mem_map_of_mem he); omega
  have ht : SmT2 t := ⟨⟨by omega, htp⟩, by omega⟩
  have hl : SmE l := ⟨by omega, hlp⟩
  clear hZ hZ2
  have hT := toNodeS_pc t htn
  have hTd := toNodeS_d t htn
  have hV := toEventS_pc l hln
  have hVd := toEventS_d l hln
  have hS := specRoundPlay_d t ht l hl
  have hId := RoundPlay_d t ht l hl
  have hEN := eqNodeS_pc t t (by omega)
  rw [decide_eq_true rfl] at hEN
  have hEE := eqEventS_pc l l (by omega)
  rw [decide_eq_true rfl] at hEE
  have hMN := markNodeS_pcl t 1 (by omega) (by omega)
  have hME := markEventS_pcl l (1 + 3 * t.length) (by omega) (by omega)
  have i1 : ltI (1 + 3 * (t.length : Int) + 6 * (l.length : Int)) 0 = false := ltI_f (by omega)
  push_cast at hME
  obtain ⟨hA, hB⟩ := rPlay_sm t l
  have hI := RoundPlay_o t ht l hl h
  obtain ⟨A, B, d, hr⟩ : ∃ A B d, rPlay t l = (A, B, d) := ⟨_, _, _, rfl⟩
  rw [hr] at hS hId hI hA hB
  simp only at hS hId hI hA hB
  have A1 := hA.t.n
  have A2 := hA.l.n
  have B1 := hB.t.n
  have B2 := hB.l.n
  have hE1 := eqSite_pc A A (by omega) (by omega)
  have hE2 := eqSite_pc B B (by omega) (by omega)
  rw [decide_eq_true rfl] at hE1 hE2
  have hM1 := markSite_pcl A 1 (by omega) (by omega)
  have hM2 := markSite_pcl B (1 + 3 * A.base.length + 5 * A.log.length) (by omega) (by omega)
  have hH1 := heldSite_pc A 1 (by omega) (by omega)
  have hH2 := heldSite_pc B (1 + 3 * A.base.length + 5 * A.log.length) (by omega) (by omega)
  push_cast at hM2 hH2
  unfold rp3 rows4 at hI
  unfold stA' stC at hS hId hE1 hE2 hH1 hH2
  unfold stO at hM1 hM2
  have i2 : ltI (1 + 3 * (A.base.length : Int) + 5 * (A.log.length : Int)) 0 = false := ltI_f (by omega)
  have i3 : ltI (1 + 3 * (A.base.length : Int) + 5 * (A.log.length : Int) + 3 * (B.base.length : Int) + 5 * (B.log.length : Int)) 0 = false := ltI_f (by omega)
  (try simp only [hc, push_cast, simprocAttr])
  ((try simp only [push_cast, simprocAttr]); refine at_share2 (by simp [isC2, isC]) (by first | rfl | simp [ren]) (hTd) (go_on ?_); (try simp only [push_cast, simprocAttr]))
  ((try simp only [push_cast, simprocAttr]); refine at_share2 (by simp [isC2, isC]) (by first | rfl | simp [ren]) (hVd) (go_on ?_); (try simp only [push_cast, simprocAttr]))
  ((try simp only [push_cast, simprocAttr]); refine at_share2 (by simp [isC2, isC]) (by first | rfl | simp [ren]) (hS) (go_on ?_); (try simp only [push_cast, simprocAttr]))
  (refine at_call ?_; (try simp only [push_cast, simprocAttr]); refine rwc_r (hT) rfl (flat_n _) (by simp [frB, baseOf]) (go_on ?_); (try simp only [push_cast, simprocAttr]))
  (refine at_call ?_; (try simp only [push_cast, simprocAttr]); refine rwc_r (hV) rfl (flat_ev _) (by simp [frB, baseOf]) (go_on ?_); (try simp only [push_cast, simprocAttr]))
  (refine at_call ?_; (try simp only [push_cast, simprocAttr]); refine rwc_r (hI) (by simp [flatV, flatL]) (flat_4 _ _) (by simp [frB, baseOf]) (go_on ?_); (try simp only [push_cast, simprocAttr]))
  (refine at_call ?_; (try simp only [push_cast, simprocAttr]); refine rwc_v (hE1) (go_on ?_); (try simp only [push_cast, simprocAttr]))
  (try simp only [Bool.not_true, push_cast, simprocAttr])
  (refine at_call ?_; (try simp only [push_cast, simprocAttr]); refine rwc_v (hE2) (go_on ?_); (try simp only [push_cast, simprocAttr]))
  (try simp only [Bool.not_true, eqI_self, push_cast, simprocAttr])
  ((try simp only [push_cast, simprocAttr]); refine at_share2 (by simp [isC2, isC]) (by first | rfl | simp [ren]) (hTd) (go_on ?_); (try simp only [push_cast, simprocAttr]))
  (refine at_call ?_; (try simp only [push_cast, simprocAttr]); refine rwc_v (hEN) (go_on ?_); (try simp only [push_cast, simprocAttr]))
  (try simp only [Bool.not_true, push_cast, simprocAttr])
  ((try simp only [push_cast, simprocAttr]); refine at_share2 (by simp [isC2, isC]) (by first | rfl | simp [ren]) (hVd) (go_on ?_); (try simp only [push_cast, simprocAttr]))
  (refine at_call ?_; (try simp only [push_cast, simprocAttr]); refine rwc_v (hEE) (go_on ?_); (try simp only [push_cast, simprocAttr]))
  (try simp only [Bool.not_true, push_cast, simprocAttr])
  (try simp only [push_cast, simprocAttr]); refine call_lend [41000] none (lr := [rowN t]) (by simp [ndB]) (by first | rfl | simp [rowsOf, hget, rowS, rowN, rowC, sC, ndC, cmC]) (by simp [idsL, idsA]) (by simp [mvN]) (by simpa [rnA, ixOf] using hMN) ?_
  rintro rv lr' rows ⟨rfl, rfl, rfl⟩
  (refine ⟨by simp [shB, mvF, rowS, rowN, rowC, mkN_len], by simp [frB, baseOf], go_on ?_⟩; simp only [killA, killH, killRow, push_cast, simprocAttr])
  (try simp only [push_cast, simprocAttr]); refine call_lend [43000] none (lr := [rowEv l]) (by simp [ndB]) (by first | rfl | simp [rowsOf, hget, rowS, rowN, rowC, sC, ndC, cmC]) (by simp [idsL, idsA]) (by simp [mvN]) (by simpa [rnA, ixOf] using hME) ?_
  rintro rv lr' rows ⟨rfl, rfl, rfl⟩
  (refine ⟨by simp [shB, mvF, rowS, rowN, rowC, mkEv_len], by simp [frB, baseOf], go_on ?_⟩; simp only [killA, killH, killRow, push_cast, simprocAttr])
  (try simp only [i1, push_cast, simprocAttr])
  (refine at_call ?_; (try simp only [push_cast, simprocAttr]); refine rwc_v (hE1) (go_on ?_); (try simp only [push_cast, simprocAttr]))
  (try simp only [Bool.not_true, push_cast, simprocAttr])
  (refine at_call ?_; (try simp only [push_cast, simprocAttr]); refine rwc_v (hE2) (go_on ?_); (try simp only [push_cast, simprocAttr]))
  (try simp only [Bool.not_true, eqI_self, push_cast, simprocAttr])
  (try simp only [push_cast, simprocAttr]); refine call_lend [47000, 47001] none (lr := [rowN A.base, rowC A.log]) (by simp [ndB]) (by first | rfl | simp [rowsOf, hget, rowS, rowN, rowC, sC, ndC, cmC]) (by simp [idsL, idsA]) (by simp [mvN]) (by simpa [rnA, ixOf] using hM1) ?_
  rintro rv lr' rows ⟨rfl, rfl, rfl⟩
  (refine ⟨by simp [shB, mvF, rowS, rowN, rowC, mkN_len, mkC_len], by simp [frB, baseOf], go_on ?_⟩; simp only [killA, killH, killRow, push_cast, simprocAttr])
  (try simp only [push_cast, simprocAttr]); refine call_lend [47002, 47003] none (lr := [rowN B.base, rowC B.log]) (by simp [ndB]) (by first | rfl | simp [rowsOf, hget, rowS, rowN, rowC, sC, ndC, cmC]) (by simp [idsL, idsA]) (by simp [mvN]) (by simpa [rnA, ixOf] using hM2) ?_
  rintro rv lr' rows ⟨rfl, rfl, rfl⟩
  (refine ⟨by simp [shB, mvF, rowS, rowN, rowC, mkN_len, mkC_len], by simp [frB, baseOf], go_on ?_⟩; simp only [killA, killH, killRow, push_cast, simprocAttr])
  refine at_call ?_
  simp only [mkN_len, mkC_len, push_cast, simprocAttr]
  refine rwc_v hH1 (go_on ?_)
  (try simp only [i2, push_cast, simprocAttr])
  refine at_call ?_
  simp only [mkN_len, mkC_len, push_cast, simprocAttr]
  refine rwc_v hH2 (go_on ?_)
  (try simp only [i3, eqI_self, Bool.not_true, push_cast, simprocAttr])
  ((try simp only [push_cast, simprocAttr]); refine at_share2 (by simp [isC2, isC]) (by first | rfl | simp [ren]) (hTd) (go_on ?_); (try simp only [push_cast, simprocAttr]))
  ((try simp only [push_cast, simprocAttr]); refine at_share2 (by simp [isC2, isC]) (by first | rfl | simp [ren]) (hVd) (go_on ?_); (try simp only [push_cast, simprocAttr]))
  ((try simp only [push_cast, simprocAttr]); refine at_share2 (by simp [isC2, isC]) (by first | rfl | simp [ren]) (hId) (go_on ?_); (try simp only [push_cast, simprocAttr]))
  (refine at_call ?_; (try simp only [push_cast, simprocAttr]); refine rwc_v (hE1) (go_on ?_); (try simp only [push_cast, simprocAttr]))
  (try simp only [Bool.not_true, push_cast, simprocAttr])
  (refine at_call ?_; (try simp only [push_cast, simprocAttr]); refine rwc_v (hE2) (go_on ?_); (try simp only [push_cast, simprocAttr]))
  (try simp only [Bool.not_true, eqI_self, push_cast, simprocAttr])
  refine at_call ?_
  simp only [mkN_len, mkC_len, push_cast, simprocAttr]
  refine rwc_v hH1 (go_on ?_)
  (try simp only [i2, push_cast, simprocAttr])
  refine at_call ?_
  simp only [mkN_len, mkC_len, push_cast, simprocAttr]
  refine rwc_v hH2 (go_on ?_)
  (try simp only [i3, eqI_self, Bool.not_true, push_cast, simprocAttr])
  refine at_ret ?_; simp only [Tryz.results5, push_cast, simprocAttr]
  simp [vX]
theorem FnExactRoundPlay_0 (t : List Nd) (l : List Ev) (q : RdOk2 t l) (h : rdV t l = false) : PC Tryz.prog 5 [ndA t, evsA l] (vB true) := by
  have hm := max63
  have hZ := szNodeS_pc t 1048576 (by omega) (by omega) (by have := q.b; omega) (fun n hn => by have := q.bp n hn; omega)
  refine pc_enter Tryz.func5 rfl rfl fun w0 fb => go_on ?_; (try simp only [Tryz.ntmps5, push_cast, simprocAttr])
  (refine at_call ?_; (try simp only [push_cast, simprocAttr]); refine rwc_v (hZ) (go_on ?_); (try simp only [push_cast, simprocAttr]))
  refine at_b (fun hb => ?_) (fun hb => ?_)
  · (try simp only [hb, push_cast, simprocAttr])
    refine at_ret ?_; simp only [Tryz.results5, push_cast, simprocAttr]
    simp [vX]
  have hb' := of_ltI_f hb
  obtain ⟨a1, a2, a3⟩ := szS_ok (by omega) hb'
  have hZ2 := szEventS_pc l _ hb' a3 (by have := q.e; omega) (fun n hn => by have := q.ep n hn; omega)
  (try simp only [hb, push_cast, simprocAttr])
  (refine at_call ?_; (try simp only [push_cast, simprocAttr]); refine rwc_v (hZ2) (go_on ?_); (try simp only [push_cast, simprocAttr]))
  refine at_b (fun hc => ?_) (fun hc => ?_)
  · (try simp only [hc, push_cast, simprocAttr])
    refine at_ret ?_; simp only [Tryz.results5, push_cast, simprocAttr]
    simp [vX]
  have hc' := of_ltI_f hc
  obtain ⟨b1, b2, b3⟩ := szS_ok hb' hc'
  simp only [List.length_map] at a1 b1
  have hln : l.length ≤ 1048576 := by omega
  have htn : t.length ≤ 1048576 := by omega
  have htp : ∀ n ∈ t, n.p.length < 4294967281 := fun n hn => by have := a2 _ (List.mem_map_of_mem hn); omega
  have hlp : ∀ e ∈ l, e.c.p.length < 4294967281 := fun e he => by have := b2 _ (List.mem_map_of_mem he); omega
  have ht : SmT2 t := ⟨⟨by omega, htp⟩, by omega⟩
  have hl : SmE l := ⟨by omega, hlp⟩
  clear hZ hZ2
  have hT := toNodeS_pc t htn
  have hTd := toNodeS_d t htn
  have hV := toEventS_pc l hln
  have hVd := toEventS_d l hln
  have hS := specRoundPlay_d t ht l hl
  have hId := RoundPlay_d t ht l hl
  have hEN := eqNodeS_pc t t (by omega)
  rw [decide_eq_true rfl] at hEN
  have hEE := eqEventS_pc l l (by omega)
  rw [decide_eq_true rfl] at hEE
  have hMN := markNodeS_pcl t 1 (by omega) (by omega)
  have hME := markEventS_pcl l (1 + 3 * t.length) (by omega) (by omega)
  have i1 : ltI (1 + 3 * (t.length : Int) + 6 * (l.length : Int)) 0 = false := ltI_f (by omega)
  push_cast at hME
  obtain ⟨hA, hB⟩ := rPlay_sm t l
  have hI := RoundPlay_0 t ht l hl h
  rw [rPlay_f h] at hS hId
  simp only at hS hId
  have hE0 := eqSite_0
  have hEo := eqSite_pc st0 st0 (by simp [st0]) (by simp [st0])
  rw [decide_eq_true rfl] at hEo
  have hM0 := markSite_00 1
  have hH0 := heldSite_00
  unfold st00 stA' stC at hE0
  unfold st00 at hI
  unfold st00 at hM0 hH0
  unfold stA' stC at hS hId hEo
  (try simp only [hc, push_cast, simprocAttr])
  ((try simp only [push_cast, simprocAttr]); refine at_share2 (by simp [isC2, isC]) (by first | rfl | simp [ren]) (hTd) (go_on ?_); (try simp only [push_cast, simprocAttr]))
  ((try simp only [push_cast, simprocAttr]); refine at_share2 (by simp [isC2, isC]) (by first | rfl | simp [ren]) (hVd) (go_on ?_); (try simp only [push_cast, simprocAttr]))
  ((try simp only [push_cast, simprocAttr]); refine at_share2 (by simp [isC2, isC]) (by first | rfl | simp [ren]) (hS) (go_on ?_); (try simp only [push_cast, simprocAttr]))
  (refine at_call ?_; (try simp only [push_cast, simprocAttr]); refine rwc_r (hT) rfl (flat_n _) (by simp [frB, baseOf]) (go_on ?_); (try simp only [push_cast, simprocAttr]))
  (refine at_call ?_; (try simp only [push_cast, simprocAttr]); refine rwc_r (hV) rfl (flat_ev _) (by simp [frB, baseOf]) (go_on ?_); (try simp only [push_cast, simprocAttr]))
  (refine at_call ?_; (try simp only [push_cast, simprocAttr]); refine rwc_d (hI) (by simp [flatV, flatL, ctC, ndC, cmC]) (by simp [ren, ctC, ndC, cmC]) (go_on ?_); (try simp only [push_cast, simprocAttr]))
  (refine at_call ?_; (try simp only [push_cast, simprocAttr]); refine rwc_v (hE0) (go_on ?_); (try simp only [push_cast, simprocAttr]))
  (try simp only [Bool.not_true, push_cast, simprocAttr])
  (refine at_call ?_; (try simp only [push_cast, simprocAttr]); refine rwc_v (hE0) (go_on ?_); (try simp only [push_cast, simprocAttr]))
  (try simp only [Bool.not_true, eqI_self, push_cast, simprocAttr])
  ((try simp only [push_cast, simprocAttr]); refine at_share2 (by simp [isC2, isC]) (by first | rfl | simp [ren]) (hTd) (go_on ?_); (try simp only [push_cast, simprocAttr]))
  (refine at_call ?_; (try simp only [push_cast, simprocAttr]); refine rwc_v (hEN) (go_on ?_); (try simp only [push_cast, simprocAttr]))
  (try simp only [Bool.not_true, push_cast, simprocAttr])
  ((try simp only [push_cast, simprocAttr]); refine at_share2 (by simp [isC2, isC]) (by first | rfl | simp [ren]) (hVd) (go_on ?_); (try simp only [push_cast, simprocAttr]))
  (refine at_call ?_; (try simp only [push_cast, simprocAttr]); refine rwc_v (hEE) (go_on ?_); (try simp only [push_cast, simprocAttr]))
  (try simp only [Bool.not_true, push_cast, simprocAttr])
  (try simp only [push_cast, simprocAttr]); refine call_lend [41000] none (lr := [rowN t]) (by simp [ndB]) (by first | rfl | simp [rowsOf, hget, rowS, rowN, rowC, sC, ndC, cmC]) (by simp [idsL, idsA]) (by simp [mvN]) (by simpa [rnA, ixOf] using hMN) ?_
  rintro rv lr' rows ⟨rfl, rfl, rfl⟩
  (refine ⟨by simp [shB, mvF, rowS, rowN, rowC, mkN_len], by simp [frB, baseOf], go_on ?_⟩; simp only [killA, killH, killRow, push_cast, simprocAttr])
  (try simp only [push_cast, simprocAttr]); refine call_lend [43000] none (lr := [rowEv l]) (by simp [ndB]) (by first | rfl | simp [rowsOf, hget, rowS, rowN, rowC, sC, ndC, cmC]) (by simp [idsL, idsA]) (by simp [mvN]) (by simpa [rnA, ixOf] using hME) ?_
  rintro rv lr' rows ⟨rfl, rfl, rfl⟩
  (refine ⟨by simp [shB, mvF, rowS, rowN, rowC, mkEv_len], by simp [frB, baseOf], go_on ?_⟩; simp only [killA, killH, killRow, push_cast, simprocAttr])
  (try simp only [i1, push_cast, simprocAttr])
  (refine at_call ?_; (try simp only [push_cast, simprocAttr]); refine rwc_v (hE0) (go_on ?_); (try simp only [push_cast, simprocAttr]))
  (try simp only [Bool.not_true, push_cast, simprocAttr])
  (refine at_call ?_; (try simp only [push_cast, simprocAttr]); refine rwc_v (hE0) (go_on ?_); (try simp only [push_cast, simprocAttr]))
  (try simp only [Bool.not_true, eqI_self, push_cast, simprocAttr])
  (refine at_call ?_; (try simp only [push_cast, simprocAttr]); refine rwc_v (hM0) (go_on ?_); (try simp only [push_cast, simprocAttr]))
  (refine at_call ?_; (try simp only [push_cast, simprocAttr]); refine rwc_v (hM0) (go_on ?_); (try simp only [push_cast, simprocAttr]))
  (refine at_call ?_; (try simp only [push_cast, simprocAttr]); refine rwc_v (hH0) (go_on ?_); (try simp only [push_cast, simprocAttr]))
  (try simp only [show ltI 1 0 = false from rfl, push_cast, simprocAttr])
  (refine at_call ?_; (try simp only [push_cast, simprocAttr]); refine rwc_v (hH0) (go_on ?_); (try simp only [push_cast, simprocAttr]))
  (try simp only [show ltI 1 0 = false from rfl, eqI_self, Bool.not_true, show eqI 1 1 = true from rfl, push_cast, simprocAttr])
  ((try simp only [push_cast, simprocAttr]); refine at_share2 (by simp [isC2, isC]) (by first | rfl | simp [ren]) (hTd) (go_on ?_); (try simp only [push_cast, simprocAttr]))
  ((try simp only [push_cast, simprocAttr]); refine at_share2 (by simp [isC2, isC]) (by first | rfl | simp [ren]) (hVd) (go_on ?_); (try simp only [push_cast, simprocAttr]))
  ((try simp only [push_cast, simprocAttr]); refine at_share2 (by simp [isC2, isC]) (by first | rfl | simp [ren]) (hId) (go_on ?_); (try simp only [push_cast, simprocAttr]))
  (refine at_call ?_; (try simp only [push_cast, simprocAttr]); refine rwc_v (hEo) (go_on ?_); (try simp only [push_cast, simprocAttr]))
  (try simp only [Bool.not_true, push_cast, simprocAttr])
  (refine at_call ?_; (try simp only [push_cast, simprocAttr]); refine rwc_v (hEo) (go_on ?_); (try simp only [push_cast, simprocAttr]))
  (try simp only [Bool.not_true, eqI_self, push_cast, simprocAttr])
  (refine at_call ?_; (try simp only [push_cast, simprocAttr]); refine rwc_v (hH0) (go_on ?_); (try simp only [push_cast, simprocAttr]))
  (try simp only [show ltI 1 0 = false from rfl, push_cast, simprocAttr])
  (refine at_call ?_; (try simp only [push_cast, simprocAttr]); refine rwc_v (hH0) (go_on ?_); (try simp only [push_cast, simprocAttr]))
  (try simp only [show ltI 1 0 = false from rfl, eqI_self, Bool.not_true, show eqI 1 1 = true from rfl, push_cast, simprocAttr])
  refine at_ret ?_; simp only [Tryz.results5, push_cast, simprocAttr]
  simp [vX]
theorem FnExactRoundPlay_pc (t : List Nd) (l : List Ev) (q : RdOk2 t l) : PC Tryz.prog 5 [ndA t, evsA l] (vB true) := by
  cases h : rdV t l with
  | true => exact FnExactRoundPlay_1 t l q h
  | false => exact FnExactRoundPlay_0 t l q h
end Go.Proofs.YthifgndjpjaddaaGreatDoor
