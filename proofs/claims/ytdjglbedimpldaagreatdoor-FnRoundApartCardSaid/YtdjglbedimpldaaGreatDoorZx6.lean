/- A part of the proof of the session laws: texts W38 W39 W40 W41 W42 W43 W44 W45 W46 Y5 W47 W48 W49 W50 W51 W52 W53 W54 W55 W56 Y6 Y7 Y4 M34 M35 D9 D10 D11 Y8 Y9 M36 W57 W58 W59 W60. -/
import Derived.Test.YtdjglbedimpldaaGreatDoorZx5
import Derived.Test.YtdjglbedimpldaaGreatDoorZx4
import Derived.Test.YtdjglbedimpldaaGreatDoorZxp
set_option linter.unusedSimpArgs false
set_option linter.unusedVariables false
/-
  Walks: spec: the order of canonical logs, conflicts.
-/
namespace Go.Proofs.YtdjglbedimpldaaGreatDoor
open Go Go.RowKit Go.Proofs
theorem und_take {a b : Str} (ha : pV a = true) (hb : pV b = true) (hr : a ≠ root) : (decide (a.length < b.length) && decide (b.take a.length = a)) = und a b := by
  unfold und
  rw [if_neg hr]
  simp only [pV, hr, decide_false, Bool.false_or, Bool.and_eq_true, decide_eq_true_eq] at ha
  obtain ⟨⟨ha0, ha1⟩, _⟩ := ha
  rw [Bool.eq_iff_iff, Bool.and_eq_true, decide_eq_true_eq, decide_eq_true_eq, List.isPrefixOf_iff_prefix]
  have hev := prs_even a ha1
  constructor
  · rintro ⟨h1, h2⟩
    have hb' : b ≠ root := by
      rintro rfl
      simp [root] at h1
      exact ha0 h1
    simp only [pV, hb', decide_false, Bool.false_or, Bool.and_eq_true, decide_eq_true_eq] at hb
    obtain ⟨x, hx⟩ := get_of_lt h1
    have := (prs_get b a.length x hb.1.2 hx).1 hev
    subst this
    rw [List.prefix_iff_eq_take]
    simp only [List.length_append, List.length_cons, List.length_nil]
    rw [List.take_add_one, h2, hx]
    rfl
  · intro h
    have hl := h.length_le
    simp only [List.length_append, List.length_cons, List.length_nil] at hl
    refine ⟨by omega, ?_⟩
    have h2 : a <+: b := (List.prefix_append a [47]).trans h
    exact (List.prefix_iff_eq_take.1 h2).symm
theorem canon_fail {l : List Cm} {j : Nat} {x y : Cm} (hx : l[j]? = some x) (hy : l[j + 1]? = some y) (h : cLt x y = false ∨ firstB l (j + 1) y.p = false) : canonV l = false := by
  cases hc : canonV l with
  | false => rfl
  | true =>
    exfalso
    unfold canonV at hc
    simp only [Bool.and_eq_true] at hc
    obtain ⟨⟨_, h1⟩, h2⟩ := hc
    have hnd := (one1_iff l).1 h1
    have hne : ∀ i z, i < j + 1 → l[i]? = some z → z.p ≠ y.p := fun i z hi hz => by
      have hli := lt_of_some hz
      have hlj := lt_of_some hy
      have := List.pairwise_iff_getElem.1 hnd i (j + 1) (by simpa using hli) (by simpa using hlj) hi
      simp only [List.getElem_map] at this
      rw [List.getElem?_eq_getElem hli] at hz
      rw [List.getElem?_eq_getElem hlj] at hy
      rwa [Option.some.inj hz, Option.some.inj hy] at this
    rcases h with h | h
    · have h3 : cOrd (l.drop j) = true := by
        cases h4 : cOrd (l.drop j) with
        | true => rfl
        | false => rw [cOrd_pre l j h4] at h2; cases h2
      rw [cOrd_step hy hx] at h3
      simp only [Bool.and_eq_true, Bool.not_eq_true'] at h3
      rw [cLt_total (hne j x (by omega) hx) h] at h3
      cases h3.1
    · simp only [firstB, Bool.not_eq_false', decide_eq_true_eq, List.mem_map] at h
      obtain ⟨z, hz, he⟩ := h
      obtain ⟨i, hi, hiz⟩ := List.mem_take_iff_getElem.1 hz
      exact hne i z (by omega) (by rw [List.getElem?_eq_getElem (by omega), hiz]) he
theorem cOrd_all : ∀ {l : List Cm}, (∀ (j : Nat) x y, l[j]? = some x → l[j + 1]? = some y → cLt y x = false) → cOrd l = true
  | [], _ => rfl
  | [_], _ => rfl
  | a :: b :: r, h => by
    have h1 := h 0 a b rfl rfl
    have h2 := cOrd_all (l := b :: r) fun j x y hx hy => h (j + 1) x y (by simpa using hx) (by simpa using hy)
    simp only [cOrd, h1, h2]
    rfl
theorem canon_all {l : List Cm} (h : ∀ (j : Nat) x y, l[j]? = some x → l[j + 1]? = some y → cLt x y = true ∧ firstB l (j + 1) y.p = true) : canonV l = lV l := by
  have h2 : cOrd l = true := cOrd_all fun j x y hx hy => cLt_asymm (h j x y hx hy).1
  have h1 : one1 l = true := by
    rw [one1_iff]
    refine List.pairwise_iff_getElem.2 fun i j hi hj hij => ?_
    simp only [List.length_map] at hi hj
    simp only [List.getElem_map]
    obtain ⟨k, rfl⟩ : ∃ k, j = k + 1 := ⟨j - 1, by omega⟩
    have := (h k l[k] l[k + 1] (List.getElem?_eq_getElem (by omega)) (List.getElem?_eq_getElem hj)).2
    simp only [firstB, Bool.not_eq_true', decide_eq_false_iff_not, List.mem_map, not_exists, not_and] at this
    exact this l[i] (List.mem_take_iff_getElem.2 ⟨i, by omega, rfl⟩)
  simp [canonV, h1, h2]
attribute [local irreducible] RWp AW run kPe pe Kt effA gd gu br retR RDp runD kPeD brW gW effD
set_option maxRecDepth 100000
theorem l1Under_pc (a b : Str) (ha : pV a = true) (hb : pV b = true) : PC Tryz.prog 202 [sA a, sA b] (vB (und a b)) := by
  have hla : a.length < 100 := by unfold pV at ha; simp only [Bool.or_eq_true, Bool.and_eq_true, decide_eq_true_eq] at ha; rcases ha with rfl | h; simp [root]; omega
  have hlb : b.length < 100 := by unfold pV at hb; simp only [Bool.or_eq_true, Bool.and_eq_true, decide_eq_true_eq] at hb; rcases hb with rfl | h; simp [root]; omega
  refine pc_enter Tryz.func202 rfl rfl fun w0 fb => go_on ?_; (try simp only [Tryz.ntmps202, push_cast, simprocAttr])
  by_cases hr : a = root
  · have d1 : decide (a = [47]) = true := by simpa [root] using hr
    by_cases hb2 : b = root
    · have d2 : decide (b = [47]) = true := by simpa [root] using hb2
      have i0 : ltI (a.length : Int) b.length = false := ltI_f (by rw [hr, hb2]; omega)
      (try simp only [d1, d2, i0, Bool.not_true, push_cast, simprocAttr])
      refine at_ret ?_; simp only [Tryz.results202, push_cast, simprocAttr]
      simp [vX, und, hr, hb2]
    · have d2 : decide (b = [47]) = false := by simpa [root] using hb2
      (try simp only [d1, d2, Bool.not_false, push_cast, simprocAttr])
      refine at_ret ?_; simp only [Tryz.results202, push_cast, simprocAttr]
      simp [vX, und, hr, hb2]
  · have d1 : decide (a = [47]) = false := by simpa [root] using hr
    rw [← und_take ha hb hr]
    by_cases hl : a.length < b.length
    · have i0 : ltI (a.length : Int) b.length = true := ltI_t (by omega)
      have i1 : (a.length : Int) ≤ b.length := by omega
      (try simp only [d1, i0, i1, push_cast, simprocAttr])
      refine at_ret ?_; simp only [Tryz.results202, push_cast, simprocAttr]
      simp [vX, hl]
    · have i0 : ltI (a.length : Int) b.length = false := ltI_f (by omega)
      (try simp only [d1, i0, push_cast, simprocAttr])
      refine at_ret ?_; simp only [Tryz.results202, push_cast, simprocAttr]
      simp [vX, hl]
theorem l16Over_pc (c d : Cm) (hc : pV c.p = true) (hd : pV d.p = true) : PC Tryz.prog 179 [cmdA c, cmdA d] (vB (stops c d)) := by
  have hU := l1Under_pc c.p d.p hc hd
  have e : stops c d = (und c.p d.p && !eqI c.b.k 1 && !eqI d.b.k 0) := by unfold stops; rw [eqI_d, eqI_d]; simp
  unfold cmdA cmC
  refine pc_enter Tryz.func179 rfl rfl fun w0 fb => go_on ?_; (try simp only [Tryz.ntmps179, push_cast, simprocAttr])
  repeat' first | (refine at_b (fun hb => ?_) (fun hb => ?_) <;> simp only [hb, push_cast, simprocAttr]) | (refine at_ret ?_; simp only [Tryz.results179, push_cast, simprocAttr]) | (refine at_call ?_; (try simp only [push_cast, simprocAttr]); refine rwc_v (by first | exact hU) (go_on ?_); simp only [push_cast, simprocAttr]) | (show RWp _ _ _ _ _; simp only [push_cast, simprocAttr])
  all_goals simp [vX, e, *]
theorem l16Clash_pc (c d : Cm) (hc : pV c.p = true) (hd : pV d.p = true) : PC Tryz.prog 145 [cmdA c, cmdA d] (vB (clash c d)) := by
  have h1 := l16Over_pc c d hc hd
  have h2 := l16Over_pc d c hd hc
  have e : clash c d = ((decide (c.p = d.p) && !decide (c.b = d.b)) || stops c d || stops d c) := by unfold clash; simp
  unfold cmdA cmC at *
  refine pc_enter Tryz.func145 rfl rfl fun w0 fb => go_on ?_; (try simp only [Tryz.ntmps145, push_cast, simprocAttr])
  repeat' first | (refine at_b (fun hb => ?_) (fun hb => ?_) <;> simp only [ctg, cth, ct_eq, hb, push_cast, simprocAttr]) | (refine at_ret ?_; simp only [ctg, cth, ct_eq, Tryz.results145, push_cast, simprocAttr]) | (refine at_call ?_; (try simp only [push_cast, simprocAttr]); refine rwc_v (by first | exact h1 | exact h2) (go_on ?_); simp only [ctg, cth, ct_eq, push_cast, simprocAttr]) | (show RWp _ _ _ _ _; simp only [ctg, cth, ct_eq, push_cast, simprocAttr])
  all_goals simp [vX, e, *]
theorem specCanonValid_pc (l : List Cm) (hl : SmL l) : PC Tryz.prog 144 [cmA l] (vB (canonV l)) := by
  have hln := hl.n
  have hV := specLogValid_pc l hl
  refine pc_enter Tryz.func144 rfl rfl fun w0 fb => go_on ?_; (try simp only [Tryz.ntmps144, push_cast, simprocAttr])
  refine at_loop (X := Nat) (fun k => [(3, iA ((k : Int) + 1))]) (fun _ => []) (fun k => (k = 0 ∨ k < l.length) ∧ ∀ (j : Nat) x y, j < k → l[j]? = some x → l[j + 1]? = some y → cLt x y = true ∧ firstB l (j + 1) y.p = true) (fun k => l.length - k) 0 ⟨.inl rfl, fun j x y h => by omega⟩ ?_ ?_
  · (refine wk_ok ?_ ?_ ?_ ?_ <;> simp [leL, leH, idsL, idsA, idsR, inH, hget, sameRow, upA, hvA, dsts, dstO, setA_0, setA_1, setA_8, List.append, List.cons_append, List.nil_append])
  · rintro k ⟨q1, q2⟩
    simp only [upA, hvA, dsts, dstO, setA_0, setA_1, setA_8, List.append, List.cons_append, List.nil_append]
    refine go_on ?_
    (try simp only [push_cast, simprocAttr])
    by_cases hk : k + 1 < l.length
    · obtain ⟨x, hx⟩ := get_of_lt (l := l) (k := k) (by omega)
      obtain ⟨y, hy⟩ := get_of_lt hk
      have i0 : ltI ((k : Int) + 1) l.length = true := ltI_t (by omega)
      have w0' : IntKind.i64.wrap ((k : Int) + 1 - 1) = (k : Int) := by rw [show (k : Int) + 1 - 1 = k by omega]; exact wr _ (by omega)
      have w1 : IntKind.i64.wrap ((k : Int) + 1 + 1) = (k : Int) + 1 + 1 := wr _ (by omega)
      have i1 := ix_n hx
      have i3 : toIx ((k : Int) + 1) l.length = some (k + 1) := by have := ix_n hy; simpa using this
      have i2 := map_get cmC hx
      have i4 := map_get cmC hy
      have hB := l14Before_pc x y
      have hF := l14First_pc l (by omega) (k + 1) y hy
      unfold cmdA at hB
      simp only [cmC] at i2 i4 hB
      rw [show ((k + 1 : Nat) : Int) = (k : Int) + 1 by omega] at hF
      (try simp only [i0, push_cast, simprocAttr])
      refine at_draw rfl (by kernel_rfl) ?_
      (try simp only [i1, i2, w0', i3, i4, push_cast, simprocAttr])
      refine at_callD (by simp [clB, idsL, idsA, hget]) ?_
      (try simp only [push_cast, simprocAttr])
      refine rcd_v hB ?_
      cases hb : cLt x y with
      | false =>
        (try simp only [hb, Bool.not_false, push_cast, simprocAttr])
        refine at_done (by kernel_rfl) (by kernel_rfl) (go_on ?_)
        (try simp only [push_cast, simprocAttr])
        refine at_ret ?_; simp only [Tryz.results144, push_cast, simprocAttr]
        simp [vX, canon_fail hx hy (.inl hb)]
      | true =>
        (try simp only [hb, Bool.not_true, push_cast, simprocAttr])
        refine at_callD (by simp [clB, idsL, idsA, hget]) ?_
        (try simp only [push_cast, simprocAttr])
        refine rcd_v hF ?_
        cases hf : firstB l (k + 1) y.p with
        | false =>
          (try simp only [hf, Bool.not_false, push_cast, simprocAttr])
          refine at_done (by kernel_rfl) (by kernel_rfl) (go_on ?_)
          (try simp only [push_cast, simprocAttr])
          refine at_ret ?_; simp only [Tryz.results144, push_cast, simprocAttr]
          simp [vX, canon_fail hx hy (.inr hf)]
        | true =>
          (try simp only [hf, Bool.not_true, push_cast, simprocAttr])
          refine at_done (by kernel_rfl) (by kernel_rfl) (go_on ?_)
          (try simp only [w1, push_cast, simprocAttr])
          refine at_fin ⟨k + 1, ⟨.inr (by omega), fun j u v hj hu hv => ?_⟩, by omega, ?_⟩
          · rcases Nat.lt_or_ge j k with h | h
            · exact q2 j u v h hu hv
            · obtain rfl : j = k := by omega
              rw [hx] at hu
              rw [hy] at hv
              cases hu
              cases hv
              exact ⟨hb, hf⟩
          · (refine wk_ok ?_ ?_ ?_ ?_ <;> simp [show ((k + 1 : Nat) : Int) = (k : Int) + 1 by omega, leL, leH, idsL, idsA, idsR, inH, hget, sameRow, upA, hvA, dsts, dstO, setA_0, setA_1, setA_8, List.append, List.cons_append, List.nil_append])
    · have i0 : ltI ((k : Int) + 1) l.length = false := ltI_f (by omega)
      have e := canon_all fun j x y hx hy => q2 j x y (by have := lt_of_some hy; omega) hx hy
      (try simp only [i0, push_cast, simprocAttr])
      (refine at_call ?_; (try simp only [push_cast, simprocAttr]); refine rwc_v (hV) (go_on ?_); (try simp only [push_cast, simprocAttr]))
      refine at_ret ?_; simp only [Tryz.results144, push_cast, simprocAttr]
      simp [vX, e]
end Go.Proofs.YtdjglbedimpldaaGreatDoor
/-
  Walks: spec: l16Ok, l16Some, l16Has, ClashesOf, l42Ok, SessionClashes.
-/
namespace Go.Proofs.YtdjglbedimpldaaGreatDoor
open Go Go.RowKit Go.Proofs
/-- All paths are well formed. -/
def PvL (l : List Cm) : Prop := ∀ c ∈ l, pV c.p = true
theorem canonV_pv {l : List Cm} (h : canonV l = true) : PvL l := fun c hc => by
  unfold canonV at h
  simp only [Bool.and_eq_true] at h
  exact (lV_cv h.1.1 c hc).p
attribute [local irreducible] RWp AW run kPe pe Kt effA gd gu br retR RDp runD kPeD brW gW effD
set_option maxRecDepth 100000
theorem l16Ok_pc (a b : List Cm) (ha : SmL a) (hb : SmL b) : PC Tryz.prog 101 [cmA a, cmA b] (vB (canonV a && canonV b)) := by
  have h1 := specCanonValid_pc a ha
  have h2 := specCanonValid_pc b hb
  refine pc_enter Tryz.func101 rfl rfl fun w0 fb => go_on ?_; (try simp only [Tryz.ntmps101, push_cast, simprocAttr])
  repeat' first | (refine at_b (fun hb => ?_) (fun hb => ?_) <;> simp only [hb, push_cast, simprocAttr]) | (refine at_ret ?_; simp only [Tryz.results101, push_cast, simprocAttr]) | (refine at_call ?_; (try simp only [push_cast, simprocAttr]); refine rwc_v (by first | exact h1 | exact h2) (go_on ?_); simp only [push_cast, simprocAttr]) | (show RWp _ _ _ _ _; simp only [push_cast, simprocAttr])
  all_goals simp [vX, *]
theorem any_drop {α : Type} {p : α → Bool} {l : List α} {k : Nat} {x : α} (hx : l[k]? = some x) : (l.drop k).any p = (p x || (l.drop (k + 1)).any p) := by
  rw [drop_of_get hx, List.any_cons]
theorem l16Some_pc (l : List Cm) (hl : SmL l) (hp : PvL l) (c : Cm) (hc : pV c.p = true) : PC Tryz.prog 102 [cmA l, cmdA c] (vB (disp l c)) := by
  have hln := hl.n
  have e : disp l c = l.any fun d => clash d c := by unfold disp; congr 1; funext d; exact clash_symm c d
  rw [e]
  unfold cmdA cmC
  refine pc_enter Tryz.func102 rfl rfl fun w0 fb => go_on ?_; (try simp only [Tryz.ntmps102, push_cast, simprocAttr])
  refine at_loop (X := Nat) (fun k => [(5, iA k)]) (fun _ => [(3, ⟨53, 5, [cmC c], true⟩)]) (fun k => k ≤ l.length ∧ (l.any fun d => clash d c) = ((l.drop k).any fun d => clash d c)) (fun k => l.length - k) 0 ⟨Nat.zero_le _, rfl⟩ ?_ ?_
  · (refine wk_ok ?_ ?_ ?_ ?_ <;> simp [cmC, leL, leH, idsL, idsA, idsR, inH, hget, sameRow, upA, hvA, dsts, dstO, setA_0, setA_1, setA_8, List.append, List.cons_append, List.nil_append])
  · rintro k ⟨q1, q2⟩
    simp only [upA, hvA, dsts, dstO, setA_0, setA_1, setA_8, List.append, List.cons_append, List.nil_append]
    refine go_on ?_
    (try simp only [push_cast, simprocAttr])
    by_cases hk : k < l.length
    · obtain ⟨x, hx⟩ := get_of_lt hk
      have i0 : ltI (k : Int) l.length = true := ltI_t (by omega)
      have i1 := ix_n hx
      have i2 := map_get cmC hx
      have w1 := wr ((k : Int) + 1) (by omega)
      have hX := l16Clash_pc x c (hp x (mem_of_get hx)) hc
      unfold cmdA at hX
      simp only [cmC] at i2 hX
      rw [any_drop hx] at q2
      (try simp only [i0, push_cast, simprocAttr])
      refine at_draw rfl (by kernel_rfl) ?_
      (try simp only [i1, i2, cmC, push_cast, simprocAttr])
      refine at_callD (by simp [clB, idsL, idsA, hget]) ?_
      (try simp only [push_cast, simprocAttr])
      refine rcd_v hX ?_
      (try simp only [push_cast, simprocAttr])
      refine at_done (by kernel_rfl) (by kernel_rfl) (go_on ?_)
      cases hcl : clash x c with
      | true =>
        rw [hcl] at q2
        (try simp only [hcl, push_cast, simprocAttr])
        refine at_ret ?_; simp only [Tryz.results102, push_cast, simprocAttr]
        simp [vX, q2]
      | false =>
        rw [hcl] at q2
        (try simp only [hcl, w1, push_cast, simprocAttr])
        refine at_fin ⟨k + 1, ⟨by omega, by simpa using q2⟩, by omega, ?_⟩
        (refine wk_ok ?_ ?_ ?_ ?_ <;> simp [cmC, leL, leH, idsL, idsA, idsR, inH, hget, sameRow, upA, hvA, dsts, dstO, setA_0, setA_1, setA_8, List.append, List.cons_append, List.nil_append])
    · have i0 : ltI (k : Int) l.length = false := ltI_f (by omega)
      rw [List.drop_of_length_le (by omega)] at q2
      (try simp only [i0, push_cast, simprocAttr])
      refine at_ret ?_; simp only [Tryz.results102, push_cast, simprocAttr]
      simp [vX, q2]
theorem l16Has_pc (l : List Cm) (hl : SmL l) (c : Cm) : PC Tryz.prog 143 [cmA l, cmdA c] (vB (decide (c ∈ l))) := by
  have hln := hl.n
  have e : decide (c ∈ l) = l.any fun d => decide (d = c) := by
    rw [Bool.eq_iff_iff, List.any_eq_true, decide_eq_true_eq]
    exact ⟨fun h => ⟨c, h, by simp⟩, fun ⟨x, h1, h2⟩ => by simp at h2; rwa [← h2]⟩
  rw [e]
  unfold cmdA cmC
  refine pc_enter Tryz.func143 rfl rfl fun w0 fb => go_on ?_; (try simp only [Tryz.ntmps143, push_cast, simprocAttr])
  refine at_loop (X := Nat) (fun k => [(5, iA k)]) (fun _ => [(3, ⟨53, 5, [cmC c], true⟩)]) (fun k => k ≤ l.length ∧ (l.any fun d => decide (d = c)) = ((l.drop k).any fun d => decide (d = c))) (fun k => l.length - k) 0 ⟨Nat.zero_le _, rfl⟩ ?_ ?_
  · (refine wk_ok ?_ ?_ ?_ ?_ <;> simp [cmC, leL, leH, idsL, idsA, idsR, inH, hget, sameRow, upA, hvA, dsts, dstO, setA_0, setA_1, setA_8, List.append, List.cons_append, List.nil_append])
  · rintro k ⟨q1, q2⟩
    simp only [upA, hvA, dsts, dstO, setA_0, setA_1, setA_8, List.append, List.cons_append, List.nil_append]
    refine go_on ?_
    (try simp only [push_cast, simprocAttr])
    by_cases hk : k < l.length
    · obtain ⟨x, hx⟩ := get_of_lt hk
      have i0 : ltI (k : Int) l.length = true := ltI_t (by omega)
      have i1 := ix_n hx
      have i2 := map_get cmC hx
      have w1 := wr ((k : Int) + 1) (by omega)
      have e := cm_eq x c
      simp only [cmC] at i2
      rw [any_drop hx] at q2
      (try simp only [i0, push_cast, simprocAttr])
      refine at_draw rfl (by kernel_rfl) ?_
      (try simp only [i1, i2, cmC, ctg, cth, cmg, cmh, push_cast, simprocAttr])
      refine at_done (by kernel_rfl) (by kernel_rfl) (go_on ?_)
      (try simp only [e, push_cast, simprocAttr])
      refine at_b (fun hn => ?_) (fun hn => ?_)
      · rw [hn] at q2
        (try simp only [hn, push_cast, simprocAttr])
        refine at_ret ?_; simp only [Tryz.results143, push_cast, simprocAttr]
        simp [vX, q2]
      · have hn' : decide (x = c) = false := hn
        rw [hn'] at q2
        (try simp only [hn', w1, push_cast, simprocAttr])
        refine at_fin ⟨k + 1, ⟨by omega, by simpa using q2⟩, by omega, ?_⟩
        (refine wk_ok ?_ ?_ ?_ ?_ <;> simp [cmC, leL, leH, idsL, idsA, idsR, inH, hget, sameRow, upA, hvA, dsts, dstO, setA_0, setA_1, setA_8, List.append, List.cons_append, List.nil_append])
    · have i0 : ltI (k : Int) l.length = false := ltI_f (by omega)
      rw [List.drop_of_length_le (by omega)] at q2
      (try simp only [i0, push_cast, simprocAttr])
      refine at_ret ?_; simp only [Tryz.results143, push_cast, simprocAttr]
      simp [vX, q2]
end Go.Proofs.YtdjglbedimpldaaGreatDoor
/-
  Walks: spec: l42Trees, l42Ok, SessionClashes.
-/
namespace Go.Proofs.YtdjglbedimpldaaGreatDoor
open Go Go.RowKit Go.Proofs
attribute [local irreducible] RWp AW run kPe pe Kt effA gd gu br retR RDp runD kPeD brW gW effD
set_option maxRecDepth 100000
theorem l42Trees_pc (a b : List Nd) (hl : a.length < 4294967281) : PC Tryz.prog 94 [ndA a, ndA b] (vB (decide (a = b))) := by
  refine pc_enter Tryz.func94 rfl rfl fun w0 fb => go_on ?_; (try simp only [Tryz.ntmps94, push_cast, simprocAttr])
  refine at_b (fun hb => ?_) (fun hb => ?_)
  · have h1 := of_eqI_f (not_t hb)
    have h2 : a ≠ b := by rintro rfl; exact h1 rfl
    (try simp only [hb, push_cast, simprocAttr])
    refine at_ret ?_; simp only [Tryz.results94, push_cast, simprocAttr]
    simp [vX, h2]
  · have h1 : a.length = b.length := by have := of_eqI_t (not_f hb); omega
    (try simp only [hb, push_cast, simprocAttr])
    refine at_loop (X := Nat) (fun k => [(5, iA k)]) (fun _ => []) (fun k => k ≤ a.length ∧ decide (a = b) = decide (a.drop k = b.drop k)) (fun k => a.length - k) 0 ⟨Nat.zero_le _, rfl⟩ ?_ ?_
    · (refine wk_ok ?_ ?_ ?_ ?_ <;> simp [leL, leH, idsL, idsA, idsR, inH, hget, sameRow, upA, hvA, dsts, dstO, setA_0, setA_1, setA_8, List.append, List.cons_append, List.nil_append])
    · rintro k ⟨q1, q2⟩
      simp only [upA, hvA, dsts, dstO, setA_0, setA_1, setA_8, List.append, List.cons_append, List.nil_append]
      refine go_on ?_
      (try simp only [push_cast, simprocAttr])
      refine at_b (fun hg => ?_) (fun hg => ?_)
      · have hlt := lt_tt hg
        obtain ⟨x, hx⟩ := get_of_lt hlt
        obtain ⟨y, hy⟩ := get_of_lt (l := b) (k := k) (by omega)
        have i1 := ix_n hx
        have i3 := ix_n hy
        have i2 := map_get ndC hx
        have i4 := map_get ndC hy
        simp only [ndC] at i2 i4
        rw [drop_of_get hx, drop_of_get hy] at q2
        have w2 := wr ((k : Int) + 1) (by omega)
        (try simp only [hg, push_cast, simprocAttr])
        refine at_draw rfl (by kernel_rfl) ?_
        (try simp only [i1, i2, i3, i4, ctg, cth, ndg, ndh, push_cast, simprocAttr])
        refine at_done (by kernel_rfl) (by kernel_rfl) (go_on ?_)
        have e : (decide (x.p = y.p) && (eqI x.c.k y.c.k && eqI x.c.v y.c.v)) = decide (x = y) := by
          rw [Bool.eq_iff_iff]; simp [eqI_d, nd_ext, ct_ext]
        (try simp only [e, push_cast, simprocAttr])
        refine at_b (fun hn => ?_) (fun hn => ?_)
        · have hxy : x ≠ y := by simpa using hn
          (try simp only [hn, push_cast, simprocAttr])
          refine at_ret ?_; simp only [Tryz.results94, push_cast, simprocAttr]
          simp [vX, q2, hxy]
        · have hxy : x = y := by simpa using hn
          (try simp only [hn, w2, push_cast, simprocAttr])
          refine at_fin ⟨k + 1, ⟨by omega, ?_⟩, by omega, ?_⟩
          · rw [q2]; simp [hxy]
          · (refine wk_ok ?_ ?_ ?_ ?_ <;> simp [leL, leH, idsL, idsA, idsR, inH, hget, sameRow, upA, hvA, dsts, dstO, setA_0, setA_1, setA_8, List.append, List.cons_append, List.nil_append])
      · have h3 := lt_ff hg
        (try simp only [hg, push_cast, simprocAttr])
        refine at_ret ?_; simp only [Tryz.results94, push_cast, simprocAttr]
        rw [List.drop_of_length_le h3, List.drop_of_length_le (by omega)] at q2
        simp [vX, q2]
theorem l42Ok_pc (a b : St) (ha : SmS a) (hb : SmS b) : PC Tryz.prog 54 [stA' a, stA' b] (vB (meet a b)) := by
  have h1 := specSiteValid_pc a ha
  have h2 := specSiteValid_pc b hb
  have h3 := l42Trees_pc a.base b.base (by have := ha.t.n; omega)
  have e : meet a b = (siteV a && siteV b && eqI a.ep b.ep && ltI a.ep 99 && decide (a.base = b.base)) := by
    unfold meet ltI; rw [eqI_d]
    cases siteV a <;> cases siteV b <;> cases decide (a.base = b.base) <;> cases decide (a.ep = b.ep) <;> cases decide (a.ep < 99) <;> rfl
  unfold stA' stC at *
  refine pc_enter Tryz.func54 rfl rfl fun w0 fb => go_on ?_; (try simp only [Tryz.ntmps54, push_cast, simprocAttr])
  repeat' first | (refine at_b (fun hb => ?_) (fun hb => ?_) <;> simp only [hb, push_cast, simprocAttr]) | (refine at_ret ?_; simp only [Tryz.results54, push_cast, simprocAttr]) | (refine at_call ?_; (try simp only [push_cast, simprocAttr]); refine rwc_v (by first | exact h1 | exact h2 | exact h3) (go_on ?_); simp only [push_cast, simprocAttr]) | (show RWp _ _ _ _ _; simp only [push_cast, simprocAttr])
  all_goals simp [vX, e, *]
end Go.Proofs.YtdjglbedimpldaaGreatDoor
/-
  Walks: spec: SafeOf, LeftOf, PairFits.
-/
namespace Go.Proofs.YtdjglbedimpldaaGreatDoor
open Go Go.RowKit Go.Proofs
attribute [local irreducible] RWp AW run kPe pe Kt effA gd gu br retR RDp runD kPeD brW gW effD
set_option maxRecDepth 100000
theorem specSafeOf_pc (a b : List Cm) (ha : SmL a) (hb : SmL b) : PC Tryz.prog 100 [cmA a, cmA b] (rX (.o 0 (safeOf a b).length) [rowC (safeOf a b)]) := by
  have hO := l16Ok_pc a b ha hb
  have hln := hb.n
  refine pc_enter Tryz.func100 rfl rfl fun w0 fb => go_on ?_; (try simp only [Tryz.ntmps100, push_cast, simprocAttr])
  cases hc : (canonV a && canonV b) with
  | false =>
    have e : safeOf a b = [] := by simp [safeOf, hc]
    rw [hc] at hO
    refine at_loop (X := Unit) (fun _ => [(4, .any), (5, .o 7 0), (6, iA 0)]) (fun _ => [(7, rowC [])]) (fun _ => True) (fun _ => 0) () trivial ?_ ?_
    · (refine wk_ok ?_ ?_ ?_ ?_ <;> simp [rowC, leL, leH, idsL, idsA, idsR, inH, hget, sameRow, upA, hvA, dsts, dstO, setA_0, setA_1, setA_8, List.append, List.cons_append, List.nil_append])
    · rintro ⟨⟩ -
      simp only [upA, hvA, dsts, dstO, setA_0, setA_1, setA_8, List.append, List.cons_append, List.nil_append]
      refine go_on ?_
      (try simp only [push_cast, simprocAttr])
      by_cases hi : 0 < b.length
      · have i0 : ltI 0 (b.length : Int) = true := ltI_t (by omega)
        (try simp only [i0, push_cast, simprocAttr])
        (refine at_call ?_; (try simp only [push_cast, simprocAttr]); refine rwc_v (hO) (go_on ?_); (try simp only [push_cast, simprocAttr]))
        refine at_ret ?_; simp only [Tryz.results100, push_cast, simprocAttr]
        simp [rX, e, ixOf]
      · have i0 : ltI 0 (b.length : Int) = false := ltI_f (by omega)
        (try simp only [i0, push_cast, simprocAttr])
        refine at_ret ?_; simp only [Tryz.results100, push_cast, simprocAttr]
        simp [rX, e, ixOf]
  | true =>
    rw [hc] at hO
    have e : safeOf a b = b.filter (fun c => !decide (c ∈ a) && !disp a c) := by simp [safeOf, hc]
    simp only [Bool.and_eq_true] at hc
    have hla := canonV_le hc.1
    have hlb := canonV_le hc.2
    have hpa := canonV_pv hc.1
    have hpb := canonV_pv hc.2
    rw [e]
    refine at_loop (X := Nat × List Cm) (fun x => [(4, .any), (7, .any), (5, .o 7 x.2.length), (6, iA x.1)]) (fun x => [(7, rowC x.2)])
      (fun x => x.1 ≤ b.length ∧ x.2 = (b.take x.1).filter (fun c => !decide (c ∈ a) && !disp a c)) (fun x => b.length - x.1) (0, []) ⟨Nat.zero_le _, rfl⟩ ?_ ?_
    · (refine wk_ok ?_ ?_ ?_ ?_ <;> simp [rowC, leL, leH, idsL, idsA, idsR, inH, hget, sameRow, upA, hvA, dsts, dstO, setA_0, setA_1, setA_8, List.append, List.cons_append, List.nil_append])
    · rintro ⟨i, o⟩ ⟨q1, q2⟩
      simp only at q1 q2
      simp only [upA, hvA, dsts, dstO, setA_0, setA_1, setA_8, List.append, List.cons_append, List.nil_append]
      refine go_on ?_
      (try simp only [push_cast, simprocAttr])
      have w1 : IntKind.i64.wrap ((i : Int) + 1) = (i : Int) + 1 := wr _ (by omega)
      have hol : o.length ≤ i := by rw [q2]; exact Nat.le_trans (List.length_filter_le _ _) (by simp; omega)
      by_cases hi : i < b.length
      · obtain ⟨c, hc⟩ := get_of_lt hi
        have i0 : ltI (i : Int) b.length = true := ltI_t (by omega)
        have i1 := ix_n hc
        have i2 := map_get cmC hc
        have hS := l16Some_pc a ha hpa c (hpb c (mem_of_get hc))
        have hH := l16Has_pc a ha c
        unfold cmdA at hS hH
        simp only [cmC] at i2 hS hH
        have hq : (b.take (i + 1)).filter (fun c => !decide (c ∈ a) && !disp a c) = o ++ (if !decide (c ∈ a) && !disp a c then [c] else []) := by
          rw [List.take_add_one, hc, List.filter_append, ← q2]
          cases hpc : (!decide (c ∈ a) && !disp a c) <;> simp [hpc]
        (try simp only [i0, push_cast, simprocAttr])
        (refine at_call ?_; (try simp only [push_cast, simprocAttr]); refine rwc_v (hO) (go_on ?_); (try simp only [push_cast, simprocAttr]))
        (try simp only [i1, i2, push_cast, simprocAttr])
        (refine at_call ?_; (try simp only [push_cast, simprocAttr]); refine rwc_v (hS) (go_on ?_); (try simp only [push_cast, simprocAttr]))
        cases hd : disp a c with
        | true =>
          rw [hd, Bool.not_true, Bool.and_false, if_neg (by simp), List.append_nil] at hq
          (try simp only [hd, Bool.not_true, w1, push_cast, simprocAttr])
          refine at_fin ⟨(i + 1, o), ⟨by dsimp only; omega, hq.symm⟩, by dsimp only; omega, ?_⟩
          (refine wk_ok ?_ ?_ ?_ ?_ <;> simp [rowC, cmC, leL, leH, idsL, idsA, idsR, inH, hget, sameRow, upA, hvA, dsts, dstO, setA_0, setA_1, setA_8, List.append, List.cons_append, List.nil_append])
        | false =>
          rw [hd, Bool.not_false, Bool.and_true] at hq
          (try simp only [hd, Bool.not_false, i1, i2, push_cast, simprocAttr])
          (refine at_call ?_; (try simp only [push_cast, simprocAttr]); refine rwc_v (hH) (go_on ?_); (try simp only [push_cast, simprocAttr]))
          refine at_b (fun hm => ?_) (fun hm => ?_)
          · have hm' : decide (c ∈ a) = false := by simpa using hm
            rw [hm', Bool.not_false, if_pos rfl] at hq
            have happ : o.map cmC ++ [[sA c.p, iA c.a.k, iA c.a.v, iA c.b.k, iA c.b.v]] = (o ++ [c]).map cmC := by rw [List.map_append]; rfl
            (try simp only [hm', Bool.not_false, i1, i2, rowC, push_cast, simprocAttr])
            refine at_chk (by omega) ?_
            (try simp only [happ, rowC, w1, push_cast, simprocAttr])
            refine at_fin ⟨(i + 1, o ++ [c]), ⟨by dsimp only; omega, hq.symm⟩, by dsimp only; omega, ?_⟩
            (refine wk_ok ?_ ?_ ?_ ?_ <;> simp [rowC, cmC, leL, leH, idsL, idsA, idsR, inH, hget, sameRow, upA, hvA, dsts, dstO, setA_0, setA_1, setA_8, List.append, List.cons_append, List.nil_append])
          · have hm' : decide (c ∈ a) = true := by simpa using hm
            rw [hm', Bool.not_true, if_neg (by simp), List.append_nil] at hq
            (try simp only [hm', Bool.not_true, w1, push_cast, simprocAttr])
            refine at_fin ⟨(i + 1, o), ⟨by dsimp only; omega, hq.symm⟩, by dsimp only; omega, ?_⟩
            (refine wk_ok ?_ ?_ ?_ ?_ <;> simp [rowC, cmC, leL, leH, idsL, idsA, idsR, inH, hget, sameRow, upA, hvA, dsts, dstO, setA_0, setA_1, setA_8, List.append, List.cons_append, List.nil_append])
      · have i0 : ltI (i : Int) b.length = false := ltI_f (by omega)
        rw [List.take_of_length_le (by omega)] at q2
        (try simp only [i0, push_cast, simprocAttr])
        refine at_ret ?_; simp only [Tryz.results100, push_cast, simprocAttr]
        simp [rX, ← q2, ixOf]
theorem specLeftOf_pc (a b : List Cm) (ha : SmL a) (hb : SmL b) : PC Tryz.prog 58 [cmA a, cmA b] (rX (.o 0 (leftOf a b).length) [rowC (leftOf a b)]) := by
  have hO := l16Ok_pc a b ha hb
  have hln := ha.n
  refine pc_enter Tryz.func58 rfl rfl fun w0 fb => go_on ?_; (try simp only [Tryz.ntmps58, push_cast, simprocAttr])
  cases hc : (canonV a && canonV b) with
  | false =>
    have e : leftOf a b = [] := by simp [leftOf, hc]
    rw [hc] at hO
    refine at_loop (X := Unit) (fun _ => [(4, .any), (5, .o 7 0), (6, iA 0)]) (fun _ => [(7, rowC [])]) (fun _ => True) (fun _ => 0) () trivial ?_ ?_
    · (refine wk_ok ?_ ?_ ?_ ?_ <;> simp [rowC, leL, leH, idsL, idsA, idsR, inH, hget, sameRow, upA, hvA, dsts, dstO, setA_0, setA_1, setA_8, List.append, List.cons_append, List.nil_append])
    · rintro ⟨⟩ -
      simp only [upA, hvA, dsts, dstO, setA_0, setA_1, setA_8, List.append, List.cons_append, List.nil_append]
      refine go_on ?_
      (try simp only [push_cast, simprocAttr])
      by_cases hi : 0 < a.length
      · have i0 : ltI 0 (a.length : Int) = true := ltI_t (by omega)
        (try simp only [i0, push_cast, simprocAttr])
        (refine at_call ?_; (try simp only [push_cast, simprocAttr]); refine rwc_v (hO) (go_on ?_); (try simp only [push_cast, simprocAttr]))
        refine at_ret ?_; simp only [Tryz.results58, push_cast, simprocAttr]
        simp [rX, e, ixOf]
      · have i0 : ltI 0 (a.length : Int) = false := ltI_f (by omega)
        (try simp only [i0, push_cast, simprocAttr])
        refine at_ret ?_; simp only [Tryz.results58, push_cast, simprocAttr]
        simp [rX, e, ixOf]
  | true =>
    rw [hc] at hO
    have e : leftOf a b = a.filter (disp b) := by simp [leftOf, hc]
    simp only [Bool.and_eq_true] at hc
    have hla := canonV_le hc.1
    have hlb := canonV_le hc.2
    have hpa := canonV_pv hc.1
    have hpb := canonV_pv hc.2
    rw [e]
    refine at_loop (X := Nat × List Cm) (fun x => [(4, .any), (7, .any), (5, .o 7 x.2.length), (6, iA x.1)]) (fun x => [(7, rowC x.2)])
      (fun x => x.1 ≤ a.length ∧ x.2 = (a.take x.1).filter (disp b)) (fun x => a.length - x.1) (0, []) ⟨Nat.zero_le _, rfl⟩ ?_ ?_
    · (refine wk_ok ?_ ?_ ?_ ?_ <;> simp [rowC, leL, leH, idsL, idsA, idsR, inH, hget, sameRow, upA, hvA, dsts, dstO, setA_0, setA_1, setA_8, List.append, List.cons_append, List.nil_append])
    · rintro ⟨i, o⟩ ⟨q1, q2⟩
      simp only at q1 q2
      simp only [upA, hvA, dsts, dstO, setA_0, setA_1, setA_8, List.append, List.cons_append, List.nil_append]
      refine go_on ?_
      (try simp only [push_cast, simprocAttr])
      have w1 : IntKind.i64.wrap ((i : Int) + 1) = (i : Int) + 1 := wr _ (by omega)
      have hol : o.length ≤ i := by rw [q2]; exact Nat.le_trans (List.length_filter_le _ _) (by simp; omega)
      by_cases hi : i < a.length
      · obtain ⟨c, hc⟩ := get_of_lt hi
        have i0 : ltI (i : Int) a.length = true := ltI_t (by omega)
        have i1 := ix_n hc
        have i2 := map_get cmC hc
        have hS := l16Some_pc b hb hpb c (hpa c (mem_of_get hc))
        unfold cmdA at hS
        simp only [cmC] at i2 hS
        have hq : (a.take (i + 1)).filter (disp b) = o ++ (if disp b c then [c] else []) := by
          rw [List.take_add_one, hc, List.filter_append, ← q2]
          cases hpc : disp b c <;> simp [hpc]
        (try simp only [i0, push_cast, simprocAttr])
        (refine at_call ?_; (try simp only [push_cast, simprocAttr]); refine rwc_v (hO) (go_on ?_); (try simp only [push_cast, simprocAttr]))
        (try simp only [i1, i2, push_cast, simprocAttr])
        (refine at_call ?_; (try simp only [push_cast, simprocAttr]); refine rwc_v (hS) (go_on ?_); (try simp only [push_cast, simprocAttr]))
        cases hd : disp b c with
        | false =>
          rw [hd, if_neg (by simp), List.append_nil] at hq
          (try simp only [hd, w1, push_cast, simprocAttr])
          refine at_fin ⟨(i + 1, o), ⟨by dsimp only; omega, hq.symm⟩, by dsimp only; omega, ?_⟩
          (refine wk_ok ?_ ?_ ?_ ?_ <;> simp [rowC, cmC, leL, leH, idsL, idsA, idsR, inH, hget, sameRow, upA, hvA, dsts, dstO, setA_0, setA_1, setA_8, List.append, List.cons_append, List.nil_append])
        | true =>
          rw [hd, if_pos rfl] at hq
          have happ : o.map cmC ++ [[sA c.p, iA c.a.k, iA c.a.v, iA c.b.k, iA c.b.v]] = (o ++ [c]).map cmC := by rw [List.map_append]; rfl
          (try simp only [hd, i1, i2, rowC, push_cast, simprocAttr])
          refine at_chk (by omega) ?_
          (try simp only [happ, rowC, w1, push_cast, simprocAttr])
          refine at_fin ⟨(i + 1, o ++ [c]), ⟨by dsimp only; omega, hq.symm⟩, by dsimp only; omega, ?_⟩
          (refine wk_ok ?_ ?_ ?_ ?_ <;> simp [rowC, cmC, leL, leH, idsL, idsA, idsR, inH, hget, sameRow, upA, hvA, dsts, dstO, setA_0, setA_1, setA_8, List.append, List.cons_append, List.nil_append])
      · have i0 : ltI (i : Int) a.length = false := ltI_f (by omega)
        rw [List.take_of_length_le (by omega)] at q2
        (try simp only [i0, push_cast, simprocAttr])
        refine at_ret ?_; simp only [Tryz.results58, push_cast, simprocAttr]
        simp [rX, ← q2, ixOf]
theorem specPairFits_pc (t : List Nd) (ht : SmT2 t) (a b : List Cm) (ha : SmL a) (hb : SmL b) : PC Tryz.prog 96 [ndA t, cmA a, cmA b] (vB (pairFits t a b)) := by
  have h1 := l16Ok_pc a b ha hb
  have h3 := specLogFits_pc t ht a ha
  have h4 := specLogFits_pc t ht b hb
  obtain ⟨u, hu⟩ : ∃ u, u = (canonV a && canonV b) := ⟨_, rfl⟩
  have e : pairFits t a b = (u && fits t a && fits t b) := by rw [hu]; rfl
  rw [← hu] at h1
  clear hu
  refine pc_enter Tryz.func96 rfl rfl fun w0 fb => go_on ?_; (try simp only [Tryz.ntmps96, push_cast, simprocAttr])
  repeat' first | (refine at_b (fun hb => ?_) (fun hb => ?_) <;> simp only [hb, push_cast, simprocAttr]) | (refine at_ret ?_; simp only [Tryz.results96, push_cast, simprocAttr]) | (refine at_call ?_; (try simp only [push_cast, simprocAttr]); refine rwc_v (by first | exact h1 | exact h3 | exact h4) (go_on ?_); simp only [push_cast, simprocAttr]) | (show RWp _ _ _ _ _; simp only [push_cast, simprocAttr])
  all_goals simp [vX, e, *]
end Go.Proofs.YtdjglbedimpldaaGreatDoor
/-
  Walks: spec: l21Kept, PairTree, PairBase.
-/
namespace Go.Proofs.YtdjglbedimpldaaGreatDoor
open Go Go.RowKit Go.Proofs
attribute [local irreducible] RWp AW run kPe pe Kt effA gd gu br retR RDp runD kPeD brW gW effD
set_option maxRecDepth 100000
theorem l21Kept_pc (a b : List Cm) (ha : SmL a) (hb : SmL b) (h1 : canonV a = true) (h2 : canonV b = true) : PC Tryz.prog 97 [cmA a, cmA b] (vX (cmA (cSort (kept a b)))) := by
  have hS := specSafeOf_pc a b ha hb
  have hla := canonV_le h1
  have hlb := canonV_le h2
  have hpa := canonV_pv h1
  have hpb := canonV_pv h2
  have h3 := safeOf_len a b
  refine pc_enter Tryz.func97 rfl rfl fun w0 fb => go_on ?_; (try simp only [Tryz.ntmps97, push_cast, simprocAttr])
  (refine at_call ?_; (try simp only [push_cast, simprocAttr]); refine rwc_r (hS) rfl (flat_c _) (by simp [frB, baseOf]) (go_on ?_); (try simp only [push_cast, simprocAttr]))
  refine at_loop (X := Nat × List Cm) (fun x => [(4, .any), (9, .any), (5, .o 10000 x.2.length), (6, iA x.1)]) (fun x => [(10000, rowC x.2)])
    (fun x => x.1 ≤ a.length ∧ x.2 = safeOf a b ++ (a.take x.1).filter fun c => !disp b c) (fun x => a.length - x.1) (0, safeOf a b) ⟨Nat.zero_le _, by simp⟩ ?_ ?_
  · (refine wk_ok ?_ ?_ ?_ ?_ <;> simp [rowC, leL, leH, idsL, idsA, idsR, inH, hget, sameRow, upA, hvA, dsts, dstO, setA_0, setA_1, setA_8, List.append, List.cons_append, List.nil_append])
  · rintro ⟨i, o⟩ ⟨q1, q2⟩
    simp only at q1 q2
    simp only [upA, hvA, dsts, dstO, setA_0, setA_1, setA_8, List.append, List.cons_append, List.nil_append]
    have w1 : IntKind.i64.wrap ((i : Int) + 1) = (i : Int) + 1 := wr _ (by omega)
    have hol : o.length ≤ b.length + i := by
      have := List.length_filter_le (fun c => !disp b c) (a.take i)
      rw [q2]; simp only [List.length_append]; simp only [List.length_take] at this; omega
    by_cases hi : i < a.length
    · refine go_on ?_
      (try simp only [push_cast, simprocAttr])
      obtain ⟨c, hc⟩ := get_of_lt hi
      have i0 : ltI (i : Int) a.length = true := ltI_t (by omega)
      have i1 := ix_n hc
      have i2 := map_get cmC hc
      have hP := l16Some_pc b hb hpb c (hpa c (mem_of_get hc))
      unfold cmdA at hP
      simp only [cmC] at i2 hP
      (try simp only [i0, i1, i2, push_cast, simprocAttr])
      (refine at_call ?_; (try simp only [push_cast, simprocAttr]); refine rwc_v (hP) (go_on ?_); (try simp only [push_cast, simprocAttr]))
      have hq : safeOf a b ++ (a.take (i + 1)).filter (fun c => !disp b c) = o ++ (if disp b c then [] else [c]) := by
        rw [List.take_add_one, hc, List.filter_append, q2, List.append_assoc]
        cases hpc : disp b c <;> simp [hpc]
      cases hpc : disp b c with
      | false =>
        rw [hpc, if_neg (by simp)] at hq
        have happ : o.map cmC ++ [[sA c.p, iA c.a.k, iA c.a.v, iA c.b.k, iA c.b.v]] = (o ++ [c]).map cmC := by rw [List.map_append]; rfl
        (try simp only [hpc, Bool.not_false, i1, i2, rowC, push_cast, simprocAttr])
        refine at_chk (by omega) ?_
        (try simp only [happ, rowC, w1, push_cast, simprocAttr])
        refine at_fin ⟨(i + 1, o ++ [c]), ⟨by dsimp only; omega, hq.symm⟩, by dsimp only; omega, ?_⟩
        (refine wk_ok ?_ ?_ ?_ ?_ <;> simp [rowC, cmC, leL, leH, idsL, idsA, idsR, inH, hget, sameRow, upA, hvA, dsts, dstO, setA_0, setA_1, setA_8, List.append, List.cons_append, List.nil_append])
      | true =>
        rw [hpc, if_pos rfl, List.append_nil] at hq
        (try simp only [hpc, Bool.not_true, w1, push_cast, simprocAttr])
        refine at_fin ⟨(i + 1, o), ⟨by dsimp only; omega, hq.symm⟩, by dsimp only; omega, ?_⟩
        (refine wk_ok ?_ ?_ ?_ ?_ <;> simp [rowC, cmC, leL, leH, idsL, idsA, idsR, inH, hget, sameRow, upA, hvA, dsts, dstO, setA_0, setA_1, setA_8, List.append, List.cons_append, List.nil_append])
    · have i0 : ltI (i : Int) a.length = false := ltI_f (by omega)
      rw [List.take_of_length_le (by omega)] at q2
      have hk : o = kept a b := q2
      rw [← hk]
      have hSo := l14Sort_pc o (by omega)
      refine go_on_n 12 ?_
      (try simp only [i0, run_0, push_cast, simprocAttr])
      refine at_more ?_
      (refine at_frzS [10000] (by refine wk_frz ?_ ?_ ?_ ?_ <;> simp [frzS, frzT, hasN, delL, hdel, leF, leHF, frzB, idsL, idsA, idsR, inH, hget, sameRow, viewN, tk]) ?_; simp only [frzS, frzT, hasN, delL, hdel, idsA, idsL, viewN, hget, List.map_cons, List.map_nil, List.all_cons, List.all_nil, List.append_nil, List.drop, List.getElem?_cons_zero, List.getElem?_cons_succ, Bool.not_false, Bool.not_true, Bool.and_true, if_true, if_false, simprocAttr])
      refine go_on ?_
      (try simp only [push_cast, simprocAttr])
      ((try simp only [push_cast, simprocAttr]); refine at_share (by first | rfl | simp [isC]) (by first | rfl | simp only [ren]) (hSo) (go_on ?_); (try simp only [push_cast, simprocAttr]))
      refine at_ret ?_; simp only [Tryz.results97, push_cast, simprocAttr]
      simp [vX]
end Go.Proofs.YtdjglbedimpldaaGreatDoor
/-
  Walks: spec: PairTree, PairBase.
-/
namespace Go.Proofs.YtdjglbedimpldaaGreatDoor
open Go Go.RowKit Go.Proofs
theorem specSafeOf_d (a b : List Cm) (ha : SmL a) (hb : SmL b) : PC Tryz.prog 100 [cmA a, cmA b] (vX (cmA (safeOf a b))) := by
  have := (specSafeOf_pc a b ha hb).frzX
  simpa [viewN, hpOf, hget, isC, tk] using this
theorem specLeftOf_d (a b : List Cm) (ha : SmL a) (hb : SmL b) : PC Tryz.prog 58 [cmA a, cmA b] (vX (cmA (leftOf a b))) := by
  have := (specLeftOf_pc a b ha hb).frzX
  simpa [viewN, hpOf, hget, isC, tk] using this
def tbV (x : Option (List Nd)) : AV → List Row → Prop := vX (.tup [ndA (x.getD []), bA x.isSome])
attribute [local irreducible] RWp AW run kPe pe Kt effA gd gu br retR RDp runD kPeD brW gW effD
set_option maxRecDepth 100000
theorem specPairTree_pc (t : List Nd) (ht : SmT2 t) (a b : List Cm) (ha : SmL a) (hb : SmL b) : PC Tryz.prog 57 [ndA t, cmA a, cmA b] (tbV (pairTree t a b)) := by
  have hF := specPairFits_pc t ht a b ha hb
  have hS := specSafeOf_d a b ha hb
  have hA := specLogApply_pc t ht a ha
  refine pc_enter Tryz.func57 rfl rfl fun w0 fb => go_on ?_; (try simp only [Tryz.ntmps57, push_cast, simprocAttr])
  refine at_call ?_
  (try simp only [push_cast, simprocAttr])
  refine rwc_v hF ?_
  (try simp only [push_cast, simprocAttr])
  (refine at_dropS [6] (by refine wk_ok ?_ ?_ ?_ ?_ <;> simp [dropS, dropT, hasN, delL, hdel, leL, leH, idsL, idsA, idsR, inH, hget, sameRow]) ?_; simp only [dropS, dropT, hasN, delL, hdel, idsA, idsL, hget, List.map_cons, List.map_nil, List.all_cons, List.all_nil, List.append_nil, Bool.not_false, Bool.not_true, Bool.and_true, if_true, if_false, simprocAttr])
  refine go_on ?_
  (try simp only [push_cast, simprocAttr])
  cases hf : pairFits t a b with
  | false =>
    have e : pairTree t a b = none := by simp [pairTree, hf]
    (try simp only [hf, Bool.not_false, push_cast, simprocAttr])
    refine at_retf ?_; simp only [Tryz.results57, push_cast, simprocAttr]
    simp [tbV, vX, e, ixOf]
  | true =>
    obtain ⟨ta, tb, h⟩ := (pairFits_iff t a b).1 hf
    obtain ⟨hc1, hc2⟩ := pf_cv hf
    have e1 : lap t a = (ta, (a.length : Int)) := by
      unfold lap
      have : lV a = true := by unfold canonV at hc1; simp only [Bool.and_eq_true] at hc1; exact hc1.1.1
      rw [if_pos (by rw [(tV_iff t).2 h.tv, this]; rfl), h.fa]
    rw [e1] at hA
    have hta : SmT2 ta := sm_tv h.tva
    have hsv : lV (safeOf a b) = true := lV_mk h.safe_co.cv (by have := safeOf_len a b; have := canonV_le hc2; omega)
    have hB := specLogApply_pc ta hta (safeOf a b) (sm_safe hb)
    have e2 : lap ta (safeOf a b) = ((apAll ta (safeOf a b)).1, ((apAll ta (safeOf a b)).2 : Int)) := by
      unfold lap
      rw [if_pos (by rw [(tV_iff ta).2 h.tva, hsv]; rfl)]
    rw [e2] at hB
    (try simp only [hf, Bool.not_true, push_cast, simprocAttr])
    ((try simp only [push_cast, simprocAttr]); refine at_share2 (by simp [isC2, isC]) (by first | rfl | simp [ren]) (hA) (go_on ?_); (try simp only [push_cast, simprocAttr]))
    ((try simp only [push_cast, simprocAttr]); refine at_share2 (by simp [isC2, isC]) (by first | rfl | simp [ren]) (hS) (go_on ?_); (try simp only [push_cast, simprocAttr]))
    ((try simp only [push_cast, simprocAttr]); refine at_share2 (by simp [isC2, isC]) (by first | rfl | simp [ren]) (hB) (go_on ?_); (try simp only [push_cast, simprocAttr]))
    by_cases hn : (apAll ta (safeOf a b)).2 = (safeOf a b).length
    · have i0 : eqI ((apAll ta (safeOf a b)).2 : Int) (safeOf a b).length = true := eqI_t (by omega)
      have e : pairTree t a b = some (apAll ta (safeOf a b)).1 := h.tree.2 (by rw [← hn])
      (try simp only [i0, Bool.not_true, push_cast, simprocAttr])
      refine at_ret ?_; simp only [Tryz.results57, push_cast, simprocAttr]
      simp [tbV, vX, e]
    · have i0 : eqI ((apAll ta (safeOf a b)).2 : Int) (safeOf a b).length = false := eqI_f (by omega)
      have e : pairTree t a b = none := by
        cases hx : pairTree t a b with
        | none => rfl
        | some T => exact absurd (by rw [h.tree.1 hx]) hn
      (try simp only [i0, Bool.not_false, push_cast, simprocAttr])
      refine at_retf ?_; simp only [Tryz.results57, push_cast, simprocAttr]
      simp [tbV, vX, e, ixOf]
theorem specPairBase_pc (t : List Nd) (ht : SmT2 t) (a b : List Cm) (ha : SmL a) (hb : SmL b) : PC Tryz.prog 56 [ndA t, cmA a, cmA b] (tbV (pairBase t a b)) := by
  have hF := specPairFits_pc t ht a b ha hb
  refine pc_enter Tryz.func56 rfl rfl fun w0 fb => go_on ?_; (try simp only [Tryz.ntmps56, push_cast, simprocAttr])
  refine at_call ?_
  (try simp only [push_cast, simprocAttr])
  refine rwc_v hF ?_
  (try simp only [push_cast, simprocAttr])
  (refine at_dropS [6] (by refine wk_ok ?_ ?_ ?_ ?_ <;> simp [dropS, dropT, hasN, delL, hdel, leL, leH, idsL, idsA, idsR, inH, hget, sameRow]) ?_; simp only [dropS, dropT, hasN, delL, hdel, idsA, idsL, hget, List.map_cons, List.map_nil, List.all_cons, List.all_nil, List.append_nil, Bool.not_false, Bool.not_true, Bool.and_true, if_true, if_false, simprocAttr])
  refine go_on ?_
  (try simp only [push_cast, simprocAttr])
  cases hf : pairFits t a b with
  | false =>
    have e : pairBase t a b = none := by simp [pairBase, hf]
    (try simp only [hf, Bool.not_false, push_cast, simprocAttr])
    refine at_retf ?_; simp only [Tryz.results56, push_cast, simprocAttr]
    simp [tbV, vX, e, ixOf]
  | true =>
    obtain ⟨ta, tb, h⟩ := (pairFits_iff t a b).1 hf
    obtain ⟨hc1, hc2⟩ := pf_cv hf
    have hl1 := canonV_le hc1
    have hl2 := canonV_le hc2
    have hK := l21Kept_pc a b ha hb hc1 hc2
    have hkl := kept_len_le a b
    obtain ⟨q, hq⟩ : ∃ q, q = cSort (kept a b) := ⟨_, rfl⟩
    have hql : q.length = (kept a b).length := by rw [hq, cSort_len]
    have hqc : ∀ c ∈ q, CV c := fun c hc => kept_cv h c ((cSort_perm _).mem_iff.1 (by rw [← hq]; exact hc))
    rw [← hq] at hK
    have hqs : SmL q := ⟨by omega, fun c hc => by have h2 := hqc c hc; have := (pV_len h2.p h2.r).2; omega⟩
    have hL := specLogFits_pc t ht q hqs
    have hA := specLogApply_pc t ht q hqs
    (try simp only [hf, Bool.not_true, push_cast, simprocAttr])
    ((try simp only [push_cast, simprocAttr]); refine at_share2 (by simp [isC2, isC]) (by first | rfl | simp [ren]) (hK) (go_on ?_); (try simp only [push_cast, simprocAttr]))
    (refine at_call ?_; (try simp only [push_cast, simprocAttr]); refine rwc_v (hL) (go_on ?_); (try simp only [push_cast, simprocAttr]))
    cases hfq : fits t q with
    | false =>
      have e : pairBase t a b = none := by
        cases hx : pairBase t a b with
        | none => rfl
        | some B =>
          obtain ⟨g1, g2⟩ := h.base_iff.1 hx
          rw [← hq] at g2
          have : fits t q = true := by
            unfold fits
            rw [(tV_iff t).2 h.tv, lV_mk hqc (by omega), g2]
            simp [hql]
          rw [hfq] at this; cases this
      (try simp only [hfq, Bool.not_false, push_cast, simprocAttr])
      refine at_retf ?_; simp only [Tryz.results56, push_cast, simprocAttr]
      simp [tbV, vX, e, ixOf]
    | true =>
      have hfq2 := hfq
      unfold fits at hfq2
      simp only [Bool.and_eq_true, decide_eq_true_eq] at hfq2
      obtain ⟨⟨f1, f2⟩, f3⟩ := hfq2
      have e1 : lap t q = ((apAll t q).1, ((apAll t q).2 : Int)) := by
        unfold lap
        rw [if_pos (by rw [f1, f2]; rfl)]
      rw [e1] at hA
      have e : pairBase t a b = some (apAll t q).1 := h.base_iff.2 ⟨by have := lV_len f2; omega, by rw [← hq, ← hql, ← f3]⟩
      (try simp only [hfq, Bool.not_true, push_cast, simprocAttr])
      ((try simp only [push_cast, simprocAttr]); refine at_share2 (by simp [isC2, isC]) (by first | rfl | simp [ren]) (hA) (go_on ?_); (try simp only [push_cast, simprocAttr]))
      refine at_ret ?_; simp only [Tryz.results56, push_cast, simprocAttr]
      simp [tbV, vX, e]
end Go.Proofs.YtdjglbedimpldaaGreatDoor
/-
  Walks: impl.SessionRun, read as data.
-/
namespace Go.Proofs.YtdjglbedimpldaaGreatDoor
open Go Go.RowKit Go.Proofs
theorem cloneTree_d (l : List Nd) (hl : l.length < 4294967281) : PC Tryz.prog 66 [ndA l] (vX (ndA l)) := by
  have := (cloneTree_pc l hl).frzX
  simpa [viewN, hpOf, hget, isC, tk] using this
def srV (x : Option (St × St)) : AV → List Row → Prop := vX (.tup (match x with
  | some (x, y) => [stA' x, stA' y, bA true]
  | none => [st00, st00, bA false]))
attribute [local irreducible] RWp AW run kPe pe Kt effA gd gu br retR RDp runD kPeD brW gW effD
set_option maxRecDepth 100000
theorem SessionRun_d (a b : St) (ha : SmS a) (hb : SmS b) : PC Tryz.prog 21 [stA' a, stA' b] (srV (sRun a b)) := by
  have hM := meet_pc a b ha hb
  have hA := SiteCanon_d a ha
  have hB := SiteCanon_d b hb
  have s1 := siteC_sm a
  have s2 := siteC_sm b
  have hP := PairBase_d a.base ha.t (siteC a) (siteC b) s1 s2
  have hT := PairTree_d a.base ha.t (siteC a) (siteC b) s1 s2
  have hU := PairTree_d a.base ha.t (siteC b) (siteC a) s2 s1
  have hL := LeftOf_d (siteC a) (siteC b) s1 s2
  have hR := LeftOf_d (siteC b) (siteC a) s2 s1
  unfold stA' stC at *
  refine pc_enter Tryz.func21 rfl rfl fun w0 fb => go_on ?_; (try simp only [Tryz.ntmps21, push_cast, simprocAttr])
  (refine at_call ?_; (try simp only [push_cast, simprocAttr]); refine rwc_v (hM) (go_on ?_); (try simp only [push_cast, simprocAttr]))
  cases h : meet a b with
  | false =>
    have e : sRun a b = none := by simp [sRun, h]
    (try simp only [h, Bool.not_false, push_cast, simprocAttr])
    refine at_ret ?_; simp only [Tryz.results21, push_cast, simprocAttr]
    simp [srV, vX, e, st00]
  | true =>
    (try simp only [h, Bool.not_true, push_cast, simprocAttr])
    refine at_draw rfl (by kernel_rfl) ?_; simp only [push_cast, simprocAttr]
    (refine at_shareD (by simp [isC2, isC]) (by first | rfl | simp [ren]) hA ?_; (try simp only [push_cast, simprocAttr]))
    (refine at_shareD (by simp [isC2, isC]) (by first | rfl | simp [ren]) hB ?_; (try simp only [push_cast, simprocAttr]))
    refine at_done (by kernel_rfl) (by kernel_rfl) (go_on ?_)
    (try simp only [push_cast, simprocAttr])
    ((try simp only [push_cast, simprocAttr]); refine at_share2 (by simp [isC2, isC]) (by first | rfl | simp [ren]) (hP) (go_on ?_); (try simp only [push_cast, simprocAttr]))
    ((try simp only [push_cast, simprocAttr]); refine at_share2 (by simp [isC2, isC]) (by first | rfl | simp [ren]) (hT) (go_on ?_); (try simp only [push_cast, simprocAttr]))
    ((try simp only [push_cast, simprocAttr]); refine at_share2 (by simp [isC2, isC]) (by first | rfl | simp [ren]) (hU) (go_on ?_); (try simp only [push_cast, simprocAttr]))
    cases e1 : pairBase a.base (siteC a) (siteC b) with
    | none =>
      have e : sRun a b = none := by simp [sRun, h, e1]
      (try simp only [e1, Option.isSome_none, Bool.not_false, push_cast, simprocAttr])
      refine at_ret ?_; simp only [Tryz.results21, push_cast, simprocAttr]
      simp [srV, vX, e, st00]
    | some t =>
    cases e2 : pairTree a.base (siteC a) (siteC b) with
    | none =>
      have e : sRun a b = none := by simp [sRun, h, e1, e2]
      (try simp only [e1, e2, Option.isSome_none, Option.isSome_some, Bool.not_false, Bool.not_true, push_cast, simprocAttr])
      refine at_ret ?_; simp only [Tryz.results21, push_cast, simprocAttr]
      simp [srV, vX, e, st00]
    | some u =>
    cases e3 : pairTree a.base (siteC b) (siteC a) with
    | none =>
      have e : sRun a b = none := by simp [sRun, h, e1, e2, e3]
      (try simp only [e1, e2, e3, Option.isSome_none, Option.isSome_some, Bool.not_false, Bool.not_true, push_cast, simprocAttr])
      refine at_ret ?_; simp only [Tryz.results21, push_cast, simprocAttr]
      simp [srV, vX, e, st00]
    | some v =>
    have e : sRun a b = some (⟨a.ep + 1, t, leftOf (siteC a) (siteC b)⟩, ⟨a.ep + 1, t, leftOf (siteC b) (siteC a)⟩) := by simp [sRun, h, e1, e2, e3]
    have hm := (meet_iff a b).1 h
    obtain ⟨ta, tb, La, Lb, hsa, hsb, hbb, hee, hlt⟩ := hm
    have hep := hsa.ep
    have w1 : IntKind.i64.wrap (a.ep + 1) = a.ep + 1 := wr _ (by first | omega | (simp [inR] at hep; omega))
    have htl : t.length ≤ 10 := by
      obtain ⟨x, y, hpf⟩ := (pairFits_iff a.base (siteC a) (siteC b)).1 (by
        unfold pairBase at e1
        split at e1
        · rename_i hh; simp only [Bool.and_eq_true] at hh; exact hh.1
        · cases e1)
      exact (hpf.base_ov e1).2.le
    have hC := cloneTree_d t (by omega)
    (try simp only [e1, e2, e3, Option.isSome_some, Bool.not_true, Option.getD_some, push_cast, simprocAttr])
    refine at_draw rfl (by kernel_rfl) ?_; simp only [push_cast, simprocAttr]
    (try simp only [w1, push_cast, simprocAttr])
    (refine at_shareD (by simp [isC2, isC]) (by first | rfl | simp [ren]) hL ?_; (try simp only [push_cast, simprocAttr]))
    (try simp only [w1, push_cast, simprocAttr])
    (refine at_shareD (by simp [isC2, isC]) (by first | rfl | simp [ren]) hC ?_; (try simp only [push_cast, simprocAttr]))
    (refine at_shareD (by simp [isC2, isC]) (by first | rfl | simp [ren]) hR ?_; (try simp only [push_cast, simprocAttr]))
    (try simp only [w1, push_cast, simprocAttr])
    refine at_done (by kernel_rfl) (by kernel_rfl) (go_on ?_)
    (try simp only [push_cast, simprocAttr])
    refine at_ret ?_; simp only [Tryz.results21, push_cast, simprocAttr]
    simp [srV, vX, e, stC]
end Go.Proofs.YtdjglbedimpldaaGreatDoor
/-
  Walks: spec.SessionRun.
-/
namespace Go.Proofs.YtdjglbedimpldaaGreatDoor
open Go Go.RowKit Go.Proofs
attribute [local irreducible] RWp AW run kPe pe Kt effA gd gu br retR RDp runD kPeD brW gW effD
set_option maxRecDepth 100000
theorem specSessionRun_d (a b : St) (ha : SmS a) (hb : SmS b) : PC Tryz.prog 19 [stA' a, stA' b] (srV (sRun a b)) := by
  have hM := l42Ok_pc a b ha hb
  have hA := specSiteCanon_pc a ha
  have hB := specSiteCanon_pc b hb
  have s1 := siteC_sm a
  have s2 := siteC_sm b
  have hP := specPairBase_pc a.base ha.t (siteC a) (siteC b) s1 s2
  have hT := specPairTree_pc a.base ha.t (siteC a) (siteC b) s1 s2
  have hU := specPairTree_pc a.base ha.t (siteC b) (siteC a) s2 s1
  have hL := specLeftOf_d (siteC a) (siteC b) s1 s2
  have hR := specLeftOf_d (siteC b) (siteC a) s2 s1
  unfold tbV at hP hT hU
  unfold stA' stC at *
  unfold srV
  refine PC.toF ?_
  refine pc_enter Tryz.func19 rfl rfl fun w0 fb => go_on ?_; (try simp only [Tryz.ntmps19, push_cast, simprocAttr])
  (refine at_call ?_; (try simp only [push_cast, simprocAttr]); refine rwc_v (hM) (go_on ?_); (try simp only [push_cast, simprocAttr]))
  cases h : meet a b with
  | false =>
    have e : sRun a b = none := by simp [sRun, h]
    (try simp only [h, Bool.not_false, push_cast, simprocAttr])
    refine at_ret ?_; simp only [Tryz.results19, push_cast, simprocAttr]
    simp [vF, viewN, isC, hpOf, hget, tk, ixOf, e, st00]
  | true =>
    (try simp only [h, Bool.not_true, push_cast, simprocAttr])
    ((try simp only [push_cast, simprocAttr]); refine at_share2 (by simp [isC2, isC]) (by first | rfl | simp [ren]) (hA) (go_on ?_); (try simp only [push_cast, simprocAttr]))
    ((try simp only [push_cast, simprocAttr]); refine at_share2 (by simp [isC2, isC]) (by first | rfl | simp [ren]) (hB) (go_on ?_); (try simp only [push_cast, simprocAttr]))
    ((try simp only [push_cast, simprocAttr]); refine at_share2 (by simp [isC2, isC]) (by first | rfl | simp [ren]) (hP) (go_on ?_); (try simp only [push_cast, simprocAttr]))
    ((try simp only [push_cast, simprocAttr]); refine at_share2 (by simp [isC2, isC]) (by first | rfl | simp [ren]) (hT) (go_on ?_); (try simp only [push_cast, simprocAttr]))
    ((try simp only [push_cast, simprocAttr]); refine at_share2 (by simp [isC2, isC]) (by first | rfl | simp [ren]) (hU) (go_on ?_); (try simp only [push_cast, simprocAttr]))
    cases e1 : pairBase a.base (siteC a) (siteC b) with
    | none =>
      have e : sRun a b = none := by simp [sRun, h, e1]
      (try simp only [e1, Option.isSome_none, Bool.not_false, push_cast, simprocAttr])
      refine at_ret ?_; simp only [Tryz.results19, push_cast, simprocAttr]
      simp [vF, viewN, isC, hpOf, hget, tk, ixOf, e, st00]
    | some t =>
    cases e2 : pairTree a.base (siteC a) (siteC b) with
    | none =>
      have e : sRun a b = none := by simp [sRun, h, e1, e2]
      (try simp only [e1, e2, Option.isSome_none, Option.isSome_some, Bool.not_false, Bool.not_true, push_cast, simprocAttr])
      refine at_ret ?_; simp only [Tryz.results19, push_cast, simprocAttr]
      simp [vF, viewN, isC, hpOf, hget, tk, ixOf, e, st00]
    | some u =>
    cases e3 : pairTree a.base (siteC b) (siteC a) with
    | none =>
      have e : sRun a b = none := by simp [sRun, h, e1, e2, e3]
      (try simp only [e1, e2, e3, Option.isSome_none, Option.isSome_some, Bool.not_false, Bool.not_true, push_cast, simprocAttr])
      refine at_ret ?_; simp only [Tryz.results19, push_cast, simprocAttr]
      simp [vF, viewN, isC, hpOf, hget, tk, ixOf, e, st00]
    | some v =>
    have e : sRun a b = some (⟨a.ep + 1, t, leftOf (siteC a) (siteC b)⟩, ⟨a.ep + 1, t, leftOf (siteC b) (siteC a)⟩) := by simp [sRun, h, e1, e2, e3]
    have hm := (meet_iff a b).1 h
    obtain ⟨ta, tb, La, Lb, hsa, hsb, hbb, hee, hlt⟩ := hm
    have hep := hsa.ep
    have htl : t.length ≤ 10 := by
      obtain ⟨x, y, hpf⟩ := (pairFits_iff a.base (siteC a) (siteC b)).1 (by
        unfold pairBase at e1
        split at e1
        · rename_i hh; simp only [Bool.and_eq_true] at hh; exact hh.1
        · cases e1)
      exact (hpf.base_ov e1).2.le
    have w1 : IntKind.i64.wrap (a.ep + 1) = a.ep + 1 := wr _ (by omega)
    (try simp only [e1, e2, e3, Option.isSome_some, Bool.not_true, Option.getD_some, push_cast, simprocAttr])
    refine at_draw rfl (by kernel_rfl) ?_; simp only [push_cast, simprocAttr]
    (try simp only [w1, push_cast, simprocAttr])
    (refine at_shareD (by simp [isC2, isC]) (by first | rfl | simp [ren]) hL ?_; (try simp only [push_cast, simprocAttr]))
    (try simp only [w1, push_cast, simprocAttr])
    refine at_done (by kernel_rfl) (by kernel_rfl) (go_on ?_)
    (try simp only [push_cast, simprocAttr])
    refine at_draw rfl (by kernel_rfl) ?_; simp only [push_cast, simprocAttr]
    (try simp only [w1, push_cast, simprocAttr])
    (try simp only [effD_app2, w1, push_cast, simprocAttr])
    refine at_chkD (by omega) ?_
    (try simp only [push_cast, simprocAttr])
    (refine at_shareD (by simp [isC2, isC]) (by first | rfl | simp [ren]) hR ?_; (try simp only [push_cast, simprocAttr]))
    refine at_done (by kernel_rfl) (by kernel_rfl) (go_on ?_)
    (try simp only [push_cast, simprocAttr])
    refine at_draw rfl (by kernel_rfl) ?_; simp only [push_cast, simprocAttr]
    refine at_done (by kernel_rfl) (by kernel_rfl) (go_on ?_)
    (try simp only [push_cast, simprocAttr])
    refine at_ret ?_; simp only [Tryz.results19, push_cast, simprocAttr]
    simp [vF, viewN, isC, hpOf, hget, tk, ixOf, e, stC]
end Go.Proofs.YtdjglbedimpldaaGreatDoor
/-
  Walks: sessions in steps: SessionNew, SessionRecover (read as data).
-/
namespace Go.Proofs.YtdjglbedimpldaaGreatDoor
open Go Go.RowKit Go.Proofs
theorem clone_d (s : St) (h1 : s.base.length < 4294967281) (h2 : s.log.length < 4294967281) : PC Tryz.prog 46 [stA' s] (vX (stA' s)) := by
  have := (clone_pc s h1 h2).frzX
  simpa [viewN, hpOf, hget, stO, stA', stC, isC, tk] using this
def ssC (s : Ss) : List AV := [iA s.A.ep, ndA s.A.base, cmA s.A.log, iA s.B.ep, ndA s.B.base, cmA s.B.log, bA s.plan, iA s.nA.ep, ndA s.nA.base, cmA s.nA.log, iA s.nB.ep, ndA s.nB.base, cmA s.nB.log]
abbrev ssA (s : Ss) : AV := .agg (ssC s)
structure SmSs (s : Ss) : Prop where
  A : SmS s.A
  B : SmS s.B
  nA : SmS s.nA
  nB : SmS s.nB
theorem SmS.c1 {s : St} (h : SmS s) : s.base.length < 4294967281 := by have := h.t.n; omega
theorem SmS.c2 {s : St} (h : SmS s) : s.log.length < 4294967281 := by have := h.l.n; omega
attribute [local irreducible] RWp AW run kPe pe Kt effA gd gu br retR RDp runD kPeD brW gW effD
set_option maxRecDepth 100000
end Go.Proofs.YtdjglbedimpldaaGreatDoor
/-
  Walks: sessions that an exact law is handed: their size, copies, marks.
-/
namespace Go.Proofs.YtdjglbedimpldaaGreatDoor
open Go Go.RowKit Go.Proofs
structure SsOk (s : Ss) : Prop where
  A : SiteOk s.A
  B : SiteOk s.B
  nA : SiteOk s.nA
  nB : SiteOk s.nB
set_option maxRecDepth 100000
section
variable {H : Type} {enc : TypeId × Value → H} {W : World} {base : Nat} {sp : Nat → Bool} {held : Bool} {fuel : Nat} {x : DataW H × List MemPlace}
theorem thirteen_of {α : Type} {l : List α} (h : l.length = 13) : ∃ a0 a1 a2 a3 a4 a5 a6 a7 a8 a9 b0 b1 b2, l = [a0, a1, a2, a3, a4, a5, a6, a7, a8, a9, b0, b1, b2] := by
  match l, h with
  | [a0, a1, a2, a3, a4, a5, a6, a7, a8, a9, b0, b1, b2], _ => exact ⟨a0, a1, a2, a3, a4, a5, a6, a7, a8, a9, b0, b1, b2, rfl⟩
theorem site_parts {lv : Nat → Prop} {s : St} {a b c : Value} (h : C lv 0 W (stA' s) (.agg #[a, b, c])) : C lv 0 W (iA s.ep) a ∧ C lv 0 W (ndA s.base) b ∧ C lv 0 W (cmA s.log) c := by
  cases h with
  | agg vs hs hg => exact ⟨hg 0 _ rfl, hg 1 _ rfl, hg 2 _ rfl⟩
theorem open_session {lv : Nat → Prop} {cs : Array Value} (hlv : ∀ b, b < W.heap.size → ¬ lv b) (h : DataW.trod enc Tryz.prog W 0 sp held fuel 69 cs.toList = some x) :
    ∃ s : Ss, C lv 0 W (ssA s) (.agg cs) ∧ SsOk s := by
  obtain ⟨cs⟩ := cs
  simp only at h
  obtain ⟨xs, n, rfl, rfl, hl, hlen, hf⟩ := DataW.trod_struct Tryz.underlying69 h
  rw [show Tryz.prog.cellsOf 69 = 13 by kernel_rfl] at hl
  obtain ⟨a0, a1, a2, a3, a4, a5, a6, a7, a8, a9, b0, b1, b2, rfl⟩ := thirteen_of hl
  obtain ⟨y0, y1, y2, y3, y4, rfl⟩ := five_of hlen
  have h0 := hf 0 _ rfl
  have h1 := hf 1 _ rfl
  have h2 := hf 2 _ rfl
  have h3 := hf 3 _ rfl
  have h4 := hf 4 _ rfl
  simp only [show Tryz.prog.cellsOf 4 = 1 by kernel_rfl, show Tryz.prog.cellsOf 38 = 3 by kernel_rfl, List.drop, List.take, List.getElem?_cons_zero, List.getElem?_cons_succ] at h0 h1 h2 h3 h4
  obtain ⟨s0, c0, o0⟩ := open_site (cs := #[a0, a1, a2]) hlv h0
  obtain ⟨s1, c1, o1⟩ := open_site (cs := #[a3, a4, a5]) hlv h1
  obtain ⟨p, e2, _⟩ := DataW.trod_bool Tryz.underlying4 h2
  obtain ⟨s3, c3, o3⟩ := open_site (cs := #[a7, a8, a9]) hlv h3
  obtain ⟨s4, c4, o4⟩ := open_site (cs := #[b0, b1, b2]) hlv h4
  cases e2
  obtain ⟨d0, d1, d2⟩ := site_parts c0
  obtain ⟨d3, d4, d5⟩ := site_parts c1
  obtain ⟨d6, d7, d8⟩ := site_parts c3
  obtain ⟨d9, da, db⟩ := site_parts c4
  refine ⟨⟨s0, s1, p, s3, s4⟩, C.agg _ rfl fun j a ha => ?_, ⟨o0, o1, o3, o4⟩⟩
  rcases j with _ | _ | _ | _ | _ | _ | _ | _ | _ | _ | _ | _ | _ | j
  · cases ha; exact d0
  · cases ha; exact d1
  · cases ha; exact d2
  · cases ha; exact d3
  · cases ha; exact d4
  · cases ha; exact d5
  · cases ha; exact C.v
  · cases ha; exact d6
  · cases ha; exact d7
  · cases ha; exact d8
  · cases ha; exact d9
  · cases ha; exact da
  · cases ha; exact db
  · simp [ssC] at ha
end
def szSs (s : Ss) (left : Int) : Int :=
  if szT s.A left < 0 then -1 else if szT s.B (szT s.A left) < 0 then -1 else if szT s.nA (szT s.B (szT s.A left)) < 0 then -1 else if szT s.nB (szT s.nA (szT s.B (szT s.A left))) < 0 then -1 else szT s.nB (szT s.nA (szT s.B (szT s.A left)))
/-- What a session's size says. -/
structure SsSz (s : Ss) : Prop where
  sm : SmSs s
  A1 : s.A.base.length ≤ 1048576
  A2 : s.A.log.length ≤ 1048576
  B1 : s.B.base.length ≤ 1048576
  B2 : s.B.log.length ≤ 1048576
  nA1 : s.nA.base.length ≤ 1048576
  nA2 : s.nA.log.length ≤ 1048576
  nB1 : s.nB.base.length ≤ 1048576
  nB2 : s.nB.log.length ≤ 1048576
theorem szSs_ok {s : Ss} {left : Int} (h0 : 0 ≤ left) (h1 : left ≤ 1048576) (h : 0 ≤ szSs s left) : SsSz s := by
  unfold szSs at h
  split at h
  · omega
  split at h
  · omega
  split at h
  · omega
  split at h
  · omega
  rename_i g1 g2 g3 g4
  obtain ⟨a0, a1, a2, _⟩ := szT_ok (s := s.A) h0 h1 (by omega)
  obtain ⟨b0, b1, b2, _⟩ := szT_ok (s := s.B) (left := szT s.A left) (by omega) (by omega) (by omega)
  obtain ⟨c0, c1, c2, _⟩ := szT_ok (s := s.nA) (left := szT s.B (szT s.A left)) (by omega) (by omega) (by omega)
  obtain ⟨d0, d1, d2, _⟩ := szT_ok (s := s.nB) (left := szT s.nA (szT s.B (szT s.A left))) (by omega) (by omega) (by omega)
  exact ⟨⟨szT_sm (s := s.A) h0 h1 (by omega), szT_sm (left := szT s.A left) (by omega) (by omega) (by omega), szT_sm (left := szT s.B (szT s.A left)) (by omega) (by omega) (by omega), szT_sm (left := szT s.nA (szT s.B (szT s.A left))) (by omega) (by omega) (by omega)⟩, a1, a2, b1, b2, c1, c2, d1, d2⟩
/-- A session, its lists in rows of their own. -/
def ssO8 (s : Ss) : AV := .agg [iA s.A.ep, .o 0 s.A.base.length, .o 1 s.A.log.length, iA s.B.ep, .o 2 s.B.base.length, .o 3 s.B.log.length, bA s.plan, iA s.nA.ep, .o 4 s.nA.base.length, .o 5 s.nA.log.length, iA s.nB.ep, .o 6 s.nB.base.length, .o 7 s.nB.log.length]
def rows8 (s : Ss) : List Row := [rowN s.A.base, rowC s.A.log, rowN s.B.base, rowC s.B.log, rowN s.nA.base, rowC s.nA.log, rowN s.nB.base, rowC s.nB.log]
theorem flat_8 (s : Ss) : FlatR (rows8 s) := flat_app (flat_nc s.A.base s.A.log) (flat_app (flat_nc s.B.base s.B.log) (flat_app (flat_nc s.nA.base s.nA.log) (flat_nc s.nB.base s.nB.log)))
attribute [local irreducible] RWp AW run kPe pe Kt effA gd gu br retR RDp runD kPeD brW gW effD
set_option maxRecDepth 100000
theorem szSession_pc (s : Ss) (left : Int) (h0 : 0 ≤ left) (h1 : left ≤ 1048576) (q : SsOk s) : PC Tryz.prog 42 [ssA s, iA left] (vI (szSs s left)) := by
  have hA := szSite_pc s.A left h0 h1 q.A
  unfold ssA ssC
  unfold stA' stC at hA
  refine pc_enter Tryz.func42 rfl rfl fun w0 fb => go_on ?_; (try simp only [Tryz.ntmps42, push_cast, simprocAttr])
  (refine at_call ?_; (try simp only [push_cast, simprocAttr]); refine rwc_v (hA) (go_on ?_); (try simp only [push_cast, simprocAttr]))
  refine at_b (fun hb => ?_) (fun hb => ?_)
  · have := of_ltI_t hb
    (try simp only [hb, push_cast, simprocAttr])
    refine at_ret ?_; simp only [Tryz.results42, push_cast, simprocAttr]
    simp [vX, szSs, this]
  have g1 := of_ltI_f hb
  obtain ⟨a0, _⟩ := szT_ok h0 h1 g1
  have hB := szSite_pc s.B (szT s.A left) g1 (by omega) q.B
  unfold stA' stC at hB
  (try simp only [hb, push_cast, simprocAttr])
  (refine at_call ?_; (try simp only [push_cast, simprocAttr]); refine rwc_v (hB) (go_on ?_); (try simp only [push_cast, simprocAttr]))
  refine at_b (fun hb2 => ?_) (fun hb2 => ?_)
  · have := of_ltI_t hb2
    (try simp only [hb2, push_cast, simprocAttr])
    refine at_ret ?_; simp only [Tryz.results42, push_cast, simprocAttr]
    simp [vX, szSs, this]
  have g2 := of_ltI_f hb2
  obtain ⟨b0, _⟩ := szT_ok g1 (by omega) g2
  have hC := szSite_pc s.nA (szT s.B (szT s.A left)) g2 (by omega) q.nA
  unfold stA' stC at hC
  (try simp only [hb2, push_cast, simprocAttr])
  (refine at_call ?_; (try simp only [push_cast, simprocAttr]); refine rwc_v (hC) (go_on ?_); (try simp only [push_cast, simprocAttr]))
  refine at_b (fun hb3 => ?_) (fun hb3 => ?_)
  · have := of_ltI_t hb3
    (try simp only [hb3, push_cast, simprocAttr])
    refine at_ret ?_; simp only [Tryz.results42, push_cast, simprocAttr]
    simp [vX, szSs, this]
  have g3 := of_ltI_f hb3
  obtain ⟨c0, _⟩ := szT_ok g2 (by omega) g3
  have hD := szSite_pc s.nB (szT s.nA (szT s.B (szT s.A left))) g3 (by omega) q.nB
  unfold stA' stC at hD
  (try simp only [hb3, push_cast, simprocAttr])
  (refine at_call ?_; (try simp only [push_cast, simprocAttr]); refine rwc_v (hD) (go_on ?_); (try simp only [push_cast, simprocAttr]))
  refine at_b (fun hb4 => ?_) (fun hb4 => ?_)
  · have := of_ltI_t hb4
    (try simp only [hb4, push_cast, simprocAttr])
    refine at_ret ?_; simp only [Tryz.results42, push_cast, simprocAttr]
    simp [vX, szSs, this]
  have g4 := of_ltI_f hb4
  (try simp only [hb4, push_cast, simprocAttr])
  refine at_ret ?_; simp only [Tryz.results42, push_cast, simprocAttr]
  have e1 : ¬ szT s.A left < 0 := by omega
  have e2 : ¬ szT s.B (szT s.A left) < 0 := by omega
  have e3 : ¬ szT s.nA (szT s.B (szT s.A left)) < 0 := by omega
  have e4 : ¬ szT s.nB (szT s.nA (szT s.B (szT s.A left))) < 0 := by omega
  simp [vX, szSs, e1, e2, e3, e4]
theorem toSession_pc (s : Ss) (q : SsSz s) : PC Tryz.prog 43 [ssA s] (rX (ssO8 s) (rows8 s)) := by
  have hA := toSite_pc s.A q.A1 q.A2
  have hB := toSite_pc s.B q.B1 q.B2
  have hC := toSite_pc s.nA q.nA1 q.nA2
  have hD := toSite_pc s.nB q.nB1 q.nB2
  unfold ssA ssC
  unfold stA' stC at hA hB hC hD
  unfold stO at hA hB hC hD
  refine pc_enter Tryz.func43 rfl rfl fun w0 fb => go_on ?_; (try simp only [Tryz.ntmps43, push_cast, simprocAttr])
  (refine at_call ?_; (try simp only [push_cast, simprocAttr]); refine rwc_r (hA) (by simp [flatV, flatL]) (flat_nc _ _) (by simp [frB, baseOf]) (go_on ?_); (try simp only [push_cast, simprocAttr]))
  (refine at_call ?_; (try simp only [push_cast, simprocAttr]); refine rwc_r (hB) (by simp [flatV, flatL]) (flat_nc _ _) (by simp [frB, baseOf]) (go_on ?_); (try simp only [push_cast, simprocAttr]))
  (refine at_call ?_; (try simp only [push_cast, simprocAttr]); refine rwc_r (hC) (by simp [flatV, flatL]) (flat_nc _ _) (by simp [frB, baseOf]) (go_on ?_); (try simp only [push_cast, simprocAttr]))
  (refine at_call ?_; (try simp only [push_cast, simprocAttr]); refine rwc_r (hD) (by simp [flatV, flatL]) (flat_nc _ _) (by simp [frB, baseOf]) (go_on ?_); (try simp only [push_cast, simprocAttr]))
  refine at_ret ?_; simp only [Tryz.results43, push_cast, simprocAttr]
  simp [rX, ixOf, ssO8, rows8]
theorem ss_ext (a b : Ss) : a = b ↔ a.A = b.A ∧ a.B = b.B ∧ a.plan = b.plan ∧ a.nA = b.nA ∧ a.nB = b.nB := by
  cases a; cases b; simp
theorem eqSession_pc (a b : Ss) (ha : SmSs a) : PC Tryz.prog 34 [ssA a, ssA b] (vB (decide (a = b))) := by
  have h1 := eqSite_pc a.A b.A ha.A.c1 ha.A.c2
  have h2 := eqSite_pc a.B b.B ha.B.c1 ha.B.c2
  have h3 := eqSite_pc a.nA b.nA ha.nA.c1 ha.nA.c2
  have h4 := eqSite_pc a.nB b.nB ha.nB.c1 ha.nB.c2
  unfold ssA ssC
  unfold stA' stC at h1 h2 h3 h4
  refine pc_enter Tryz.func34 rfl rfl fun w0 fb => go_on ?_; (try simp only [Tryz.ntmps34, push_cast, simprocAttr])
  repeat' first | (refine at_b (fun hb => ?_) (fun hb => ?_) <;> simp only [hb, push_cast, simprocAttr]) | (refine at_ret ?_; simp only [Tryz.results34, push_cast, simprocAttr]) | (refine at_call ?_; (try simp only [push_cast, simprocAttr]); refine rwc_v (by first | exact h1 | exact h2 | exact h3 | exact h4) (go_on ?_); simp only [push_cast, simprocAttr]) | (show RWp _ _ _ _ _; simp only [push_cast, simprocAttr])
  all_goals simp only [Bool.not_eq_true', Bool.not_eq_false', beq_iff_eq, beq_eq_false_iff_ne, decide_eq_true_eq, decide_eq_false_iff_not] at *
  all_goals simp [vX, ss_ext a b, *]
end Go.Proofs.YtdjglbedimpldaaGreatDoor
/-
  Walks: sessions in steps: SessionNew (read as data).
-/
namespace Go.Proofs.YtdjglbedimpldaaGreatDoor
open Go Go.RowKit Go.Proofs
def z3 : List AV := [iA 0, .v (.slice none 0 0), .v (.slice none 0 0)]
def ss00 : AV := .agg (z3 ++ z3 ++ [bA false] ++ z3 ++ z3)
attribute [local irreducible] RWp AW run kPe pe Kt effA gd gu br retR RDp runD kPeD brW gW effD
set_option maxRecDepth 100000
theorem SessionNew_d0 (a b : St) (ha : SmS a) (hb : SmS b) (h : sRun a b = none) : PC Tryz.prog 33 [stA' a, stA' b] (vX (.tup [ss00, bA false])) := by
  have hR := SessionRun_d a b ha hb
  rw [h] at hR
  unfold srV at hR
  unfold stA' stC at *
  unfold st00 at hR
  refine pc_enter Tryz.func33 rfl rfl fun w0 fb => go_on ?_; (try simp only [Tryz.ntmps33, push_cast, simprocAttr])
  ((try simp only [push_cast, simprocAttr]); refine at_share2 (by simp [isC2, isC]) (by first | rfl | simp [ren]) (hR) (go_on ?_); (try simp only [push_cast, simprocAttr]))
  (try simp only [Bool.not_false, push_cast, simprocAttr])
  refine at_ret ?_; simp only [Tryz.results33, push_cast, simprocAttr]
  simp [vX, ss00, z3]
theorem SessionNew_d1 (a b : St) (ha : SmS a) (hb : SmS b) (x y : St) (h : sRun a b = some (x, y)) : PC Tryz.prog 33 [stA' a, stA' b] (vX (.tup [.agg (stC a ++ stC b ++ [bA false] ++ z3 ++ z3), bA true])) := by
  have hR := SessionRun_d a b ha hb
  have h1 := clone_d a ha.c1 ha.c2
  have h2 := clone_d b hb.c1 hb.c2
  rw [h] at hR
  unfold srV at hR
  unfold stA' stC at *
  refine pc_enter Tryz.func33 rfl rfl fun w0 fb => go_on ?_; (try simp only [Tryz.ntmps33, push_cast, simprocAttr])
  ((try simp only [push_cast, simprocAttr]); refine at_share2 (by simp [isC2, isC]) (by first | rfl | simp [ren]) (hR) (go_on ?_); (try simp only [push_cast, simprocAttr]))
  (try simp only [Bool.not_true, push_cast, simprocAttr])
  refine at_draw rfl (by kernel_rfl) ?_; simp only [push_cast, simprocAttr]
  (refine at_shareD (by simp [isC2, isC]) (by first | rfl | simp [ren]) h1 ?_; (try simp only [push_cast, simprocAttr]))
  (refine at_shareD (by simp [isC2, isC]) (by first | rfl | simp [ren]) h2 ?_; (try simp only [push_cast, simprocAttr]))
  refine at_done (by kernel_rfl) (by kernel_rfl) (go_on ?_)
  (try simp only [push_cast, simprocAttr])
  refine at_ret ?_; simp only [Tryz.results33, push_cast, simprocAttr]
  simp [vX, z3]
end Go.Proofs.YtdjglbedimpldaaGreatDoor
/-
  Walks: sessions in steps: SessionStep (read as data).
-/
namespace Go.Proofs.YtdjglbedimpldaaGreatDoor
open Go Go.RowKit Go.Proofs
attribute [local irreducible] RWp AW run kPe pe Kt effA gd gu br retR RDp runD kPeD brW gW effD
set_option maxRecDepth 100000
theorem SessionStep_d0 (s : Ss) (hs : SmSs s) (hp : s.plan = false) (h : sRun s.A s.B = none) : PC Tryz.prog 14 [ssA s] (vX (.tup [ss00, bA false])) := by
  have h1 := clone_d s.A hs.A.c1 hs.A.c2
  have h2 := clone_d s.B hs.B.c1 hs.B.c2
  have h3 := clone_d s.nA hs.nA.c1 hs.nA.c2
  have h4 := clone_d s.nB hs.nB.c1 hs.nB.c2
  have hR := SessionRun_d s.A s.B hs.A hs.B
  rw [h] at hR
  unfold srV at hR
  unfold stA' stC at *
  unfold st00 at hR
  unfold ssA ssC
  rw [hp]
  refine pc_enter Tryz.func14 rfl rfl fun w0 fb => go_on ?_; (try simp only [Tryz.ntmps14, push_cast, simprocAttr])
  refine at_draw rfl (by kernel_rfl) ?_; simp only [push_cast, simprocAttr]
  (refine at_shareD (by simp [isC2, isC]) (by first | rfl | simp [ren]) h1 ?_; (try simp only [push_cast, simprocAttr]))
  (refine at_shareD (by simp [isC2, isC]) (by first | rfl | simp [ren]) h2 ?_; (try simp only [push_cast, simprocAttr]))
  (refine at_shareD (by simp [isC2, isC]) (by first | rfl | simp [ren]) h3 ?_; (try simp only [push_cast, simprocAttr]))
  (refine at_shareD (by simp [isC2, isC]) (by first | rfl | simp [ren]) h4 ?_; (try simp only [push_cast, simprocAttr]))
  refine at_done (by kernel_rfl) (by kernel_rfl) (go_on ?_)
  (try simp only [Bool.not_false, push_cast, simprocAttr])
  ((try simp only [push_cast, simprocAttr]); refine at_share2 (by simp [isC2, isC]) (by first | rfl | simp [ren]) (hR) (go_on ?_); (try simp only [push_cast, simprocAttr]))
  (try simp only [Bool.not_false, push_cast, simprocAttr])
  refine at_ret ?_; simp only [Tryz.results14, push_cast, simprocAttr]
  simp [vX, ss00, z3]
theorem SessionStep_d1 (s : Ss) (hs : SmSs s) (hp : s.plan = false) (x y : St) (h : sRun s.A s.B = some (x, y)) : PC Tryz.prog 14 [ssA s] (vX (.tup [.agg (stC s.A ++ stC s.B ++ [bA true] ++ stC x ++ stC y), bA true])) := by
  have h1 := clone_d s.A hs.A.c1 hs.A.c2
  have h2 := clone_d s.B hs.B.c1 hs.B.c2
  have h3 := clone_d s.nA hs.nA.c1 hs.nA.c2
  have h4 := clone_d s.nB hs.nB.c1 hs.nB.c2
  have hR := SessionRun_d s.A s.B hs.A hs.B
  rw [h] at hR
  unfold srV at hR
  unfold stA' stC at *
  unfold ssA ssC
  rw [hp]
  refine pc_enter Tryz.func14 rfl rfl fun w0 fb => go_on ?_; (try simp only [Tryz.ntmps14, push_cast, simprocAttr])
  refine at_draw rfl (by kernel_rfl) ?_; simp only [push_cast, simprocAttr]
  (refine at_shareD (by simp [isC2, isC]) (by first | rfl | simp [ren]) h1 ?_; (try simp only [push_cast, simprocAttr]))
  (refine at_shareD (by simp [isC2, isC]) (by first | rfl | simp [ren]) h2 ?_; (try simp only [push_cast, simprocAttr]))
  (refine at_shareD (by simp [isC2, isC]) (by first | rfl | simp [ren]) h3 ?_; (try simp only [push_cast, simprocAttr]))
  (refine at_shareD (by simp [isC2, isC]) (by first | rfl | simp [ren]) h4 ?_; (try simp only [push_cast, simprocAttr]))
  refine at_done (by kernel_rfl) (by kernel_rfl) (go_on ?_)
  (try simp only [Bool.not_false, push_cast, simprocAttr])
  ((try simp only [push_cast, simprocAttr]); refine at_share2 (by simp [isC2, isC]) (by first | rfl | simp [ren]) (hR) (go_on ?_); (try simp only [push_cast, simprocAttr]))
  (try simp only [Bool.not_true, push_cast, simprocAttr])
  refine at_draw rfl (by kernel_rfl) ?_; simp only [push_cast, simprocAttr]
  refine at_done (by kernel_rfl) (by kernel_rfl) (go_on ?_)
  (try simp only [push_cast, simprocAttr])
  refine at_ret ?_; simp only [Tryz.results14, push_cast, simprocAttr]
  simp [vX]
end Go.Proofs.YtdjglbedimpldaaGreatDoor
/-
  Walks: sessions in steps: SessionStep behind its plan (read as data).
-/
namespace Go.Proofs.YtdjglbedimpldaaGreatDoor
open Go Go.RowKit Go.Proofs
attribute [local irreducible] RWp AW run kPe pe Kt effA gd gu br retR RDp runD kPeD brW gW effD
set_option maxRecDepth 100000
theorem SessionStep_d2 (s : Ss) (hs : SmSs s) (hp : s.plan = true) : PC Tryz.prog 14 [ssA s] (vX (.tup [.agg (if s.A ≠ s.nA then stC s.nA ++ stC s.B ++ [bA true] ++ stC s.nA ++ stC s.nB else if s.B ≠ s.nB then stC s.A ++ stC s.nB ++ [bA true] ++ stC s.nA ++ stC s.nB else stC s.A ++ stC s.B ++ [bA false] ++ z3 ++ z3), bA true])) := by
  have h1 := clone_d s.A hs.A.c1 hs.A.c2
  have h2 := clone_d s.B hs.B.c1 hs.B.c2
  have h3 := clone_d s.nA hs.nA.c1 hs.nA.c2
  have h4 := clone_d s.nB hs.nB.c1 hs.nB.c2
  have hS := same_pc s.A s.nA hs.A hs.nA
  have hT := same_pc s.B s.nB hs.B hs.nB
  unfold stA' stC at *
  unfold ssA ssC
  rw [hp]
  refine pc_enter Tryz.func14 rfl rfl fun w0 fb => go_on ?_; (try simp only [Tryz.ntmps14, push_cast, simprocAttr])
  refine at_draw rfl (by kernel_rfl) ?_; simp only [push_cast, simprocAttr]
  (refine at_shareD (by simp [isC2, isC]) (by first | rfl | simp [ren]) h1 ?_; (try simp only [push_cast, simprocAttr]))
  (refine at_shareD (by simp [isC2, isC]) (by first | rfl | simp [ren]) h2 ?_; (try simp only [push_cast, simprocAttr]))
  (refine at_shareD (by simp [isC2, isC]) (by first | rfl | simp [ren]) h3 ?_; (try simp only [push_cast, simprocAttr]))
  (refine at_shareD (by simp [isC2, isC]) (by first | rfl | simp [ren]) h4 ?_; (try simp only [push_cast, simprocAttr]))
  refine at_done (by kernel_rfl) (by kernel_rfl) (go_on ?_)
  (try simp only [Bool.not_true, push_cast, simprocAttr])
  (refine at_call ?_; (try simp only [push_cast, simprocAttr]); refine rwc_v (hS) (go_on ?_); (try simp only [push_cast, simprocAttr]))
  by_cases e1 : s.A = s.nA
  · have d1 : decide (s.A = s.nA) = true := by simpa using e1
    (try simp only [d1, Bool.not_true, push_cast, simprocAttr])
    (refine at_call ?_; (try simp only [push_cast, simprocAttr]); refine rwc_v (hT) (go_on ?_); (try simp only [push_cast, simprocAttr]))
    by_cases e2 : s.B = s.nB
    · have d2 : decide (s.B = s.nB) = true := by simpa using e2
      (try simp only [d2, Bool.not_true, push_cast, simprocAttr])
      refine at_ret ?_; simp only [Tryz.results14, push_cast, simprocAttr]
      simp [vX, z3, e1, e2]
    · have d2 : decide (s.B = s.nB) = false := by simpa using e2
      (try simp only [d2, Bool.not_false, push_cast, simprocAttr])
      ((try simp only [push_cast, simprocAttr]); refine at_share2 (by simp [isC2, isC]) (by first | rfl | simp [ren]) (h4) (go_on ?_); (try simp only [push_cast, simprocAttr]))
      refine at_ret ?_; simp only [Tryz.results14, push_cast, simprocAttr]
      simp [vX, e1, e2]
  · have d1 : decide (s.A = s.nA) = false := by simpa using e1
    (try simp only [d1, Bool.not_false, push_cast, simprocAttr])
    ((try simp only [push_cast, simprocAttr]); refine at_share2 (by simp [isC2, isC]) (by first | rfl | simp [ren]) (h3) (go_on ?_); (try simp only [push_cast, simprocAttr]))
    refine at_ret ?_; simp only [Tryz.results14, push_cast, simprocAttr]
    simp [vX, e1]
end Go.Proofs.YtdjglbedimpldaaGreatDoor
/-
  Walks: spec.SessionNew (read as data).
-/
namespace Go.Proofs.YtdjglbedimpldaaGreatDoor
open Go Go.RowKit Go.Proofs
theorem l41Copy_d (s : St) (h1 : s.base.length < 4294967281) (h2 : s.log.length < 4294967281) : PC Tryz.prog 48 [stA' s] (vX (stA' s)) := by
  have := (l41Copy_pc s h1 h2).frzX
  simpa [viewN, hpOf, hget, stO, stA', stC, isC, tk] using this
attribute [local irreducible] RWp AW run kPe pe Kt effA gd gu br retR RDp runD kPeD brW gW effD
set_option maxRecDepth 100000
theorem specSessionNew_d0 (a b : St) (ha : SmS a) (hb : SmS b) (h : sRun a b = none) : PC Tryz.prog 32 [stA' a, stA' b] (vX (.tup [ss00, bA false])) := by
  have hR := specSessionRun_d a b ha hb
  rw [h] at hR
  unfold srV at hR
  unfold stA' stC at *
  unfold st00 at hR
  refine pc_enter Tryz.func32 rfl rfl fun w0 fb => go_on ?_; (try simp only [Tryz.ntmps32, push_cast, simprocAttr])
  ((try simp only [push_cast, simprocAttr]); refine at_share2 (by simp [isC2, isC]) (by first | rfl | simp [ren]) (hR) (go_on ?_); (try simp only [push_cast, simprocAttr]))
  (try simp only [Bool.not_false, push_cast, simprocAttr])
  refine at_ret ?_; simp only [Tryz.results32, push_cast, simprocAttr]
  simp [vX, ss00, z3]
theorem specSessionNew_d1 (a b : St) (ha : SmS a) (hb : SmS b) (x y : St) (h : sRun a b = some (x, y)) : PC Tryz.prog 32 [stA' a, stA' b] (vX (.tup [.agg (stC a ++ stC b ++ [bA false] ++ z3 ++ z3), bA true])) := by
  have hR := specSessionRun_d a b ha hb
  have h1 := l41Copy_d a ha.c1 ha.c2
  have h2 := l41Copy_d b hb.c1 hb.c2
  rw [h] at hR
  unfold srV at hR
  unfold stA' stC at *
  refine pc_enter Tryz.func32 rfl rfl fun w0 fb => go_on ?_; (try simp only [Tryz.ntmps32, push_cast, simprocAttr])
  ((try simp only [push_cast, simprocAttr]); refine at_share2 (by simp [isC2, isC]) (by first | rfl | simp [ren]) (hR) (go_on ?_); (try simp only [push_cast, simprocAttr]))
  (try simp only [Bool.not_true, push_cast, simprocAttr])
  refine at_draw rfl (by kernel_rfl) ?_; simp only [push_cast, simprocAttr]
  (refine at_shareD (by simp [isC2, isC]) (by first | rfl | simp [ren]) h1 ?_; (try simp only [push_cast, simprocAttr]))
  (refine at_shareD (by simp [isC2, isC]) (by first | rfl | simp [ren]) h2 ?_; (try simp only [push_cast, simprocAttr]))
  refine at_done (by kernel_rfl) (by kernel_rfl) (go_on ?_)
  (try simp only [push_cast, simprocAttr])
  refine at_ret ?_; simp only [Tryz.results32, push_cast, simprocAttr]
  simp [vX, z3]
end Go.Proofs.YtdjglbedimpldaaGreatDoor
/-
  Walks: laws.sameSession.
-/
namespace Go.Proofs.YtdjglbedimpldaaGreatDoor
open Go Go.RowKit Go.Proofs
attribute [local irreducible] RWp AW run kPe pe Kt effA gd gu br retR RDp runD kPeD brW gW effD
set_option maxRecDepth 100000
end Go.Proofs.YtdjglbedimpldaaGreatDoor
/-
  Walks: impl.TreeGet.
-/
namespace Go.Proofs.YtdjglbedimpldaaGreatDoor
open Go Go.RowKit Go.Proofs
attribute [local irreducible] RWp AW run kPe pe Kt effA gd gu br retR RDp runD kPeD brW gW effD
set_option maxRecDepth 100000
end Go.Proofs.YtdjglbedimpldaaGreatDoor
/-
  Walks: sessions, read as data, with the empty side and the empty session where there is none.
-/
namespace Go.Proofs.YtdjglbedimpldaaGreatDoor
open Go Go.RowKit Go.Proofs
def rA (a b : St) : St := ((sRun a b).map (·.1)).getD st0
def rB (a b : St) : St := ((sRun a b).map (·.2)).getD st0
theorem rA_some {a b x y : St} (h : sRun a b = some (x, y)) : rA a b = x := by simp [rA, h]
theorem rB_some {a b x y : St} (h : sRun a b = some (x, y)) : rB a b = y := by simp [rB, h]
theorem rA_none {a b : St} (h : sRun a b = none) : rA a b = st0 := by simp [rA, h]
theorem rB_none {a b : St} (h : sRun a b = none) : rB a b = st0 := by simp [rB, h]
theorem siteV_sm {s : St} (h : siteV s = true) : SmS s := by
  obtain ⟨t, L, h3⟩ := (siteV_iff s).1 h
  have := lV_len h3.lv
  refine ⟨sm_tv h3.tv, ⟨by omega, fun c hc => ?_⟩⟩
  have hc := lV_cv h3.lv c hc
  have := (pV_len hc.p hc.r).2
  omega
theorem st0_sm : SmS st0 := ⟨⟨⟨by simp [st0], fun n hn => by simp [st0] at hn⟩, by simp [st0]⟩, ⟨by simp [st0], fun c hc => by simp [st0] at hc⟩⟩
theorem srV_e {P : Program} {f : FuncId} {args : List AV} {a b : St} (h : PC P f args (srV (sRun a b))) : PC P f args (vX (.tup [stA' (rA a b), stA' (rB a b), bA (sRun a b).isSome])) := by
  cases hr : sRun a b with
  | none =>
    rw [hr] at h
    rw [rA_none hr, rB_none hr]
    refine PC.less h fun h loc w v hg => hg.tup2 rfl fun j x y u h1 h2 h3 => ?_
    rcases j with _ | _ | _ | j
    · cases h1; cases h2; exact nil_st0 h3
    · cases h1; cases h2; exact nil_st0 h3
    · cases h1; cases h2; exact h3
    · cases h1
  | some p =>
    obtain ⟨x, y⟩ := p
    rw [hr] at h
    rw [rA_some hr, rB_some hr]
    exact h
theorem SessionRun_e (a b : St) (ha : SmS a) (hb : SmS b) : PC Tryz.prog 21 [stA' a, stA' b] (vX (.tup [stA' (rA a b), stA' (rB a b), bA (sRun a b).isSome])) := srV_e (SessionRun_d a b ha hb)
theorem specSessionRun_e (a b : St) (ha : SmS a) (hb : SmS b) : PC Tryz.prog 19 [stA' a, stA' b] (vX (.tup [stA' (rA a b), stA' (rB a b), bA (sRun a b).isSome])) := srV_e (specSessionRun_d a b ha hb)
theorem nil_ss {h : Hp} {loc : Loc} {w : World} {v : Value} (a b : St) (p : Bool) (hg : G h loc w (.agg (stC a ++ stC b ++ [bA p] ++ z3 ++ z3)) v) : G h loc w (ssA ⟨a, b, p, st0, st0⟩) v := by
  refine hg.agg2 rfl fun j x y u h1 h2 h3 => ?_
  rcases j with _ | _ | _ | _ | _ | _ | _ | _ | _ | _ | _ | _ | _ | j
  all_goals first
    | (cases h1; cases h2; exact h3)
    | (cases h1; cases h2; exact h3.nil2)
    | cases h1
theorem nil_ss0 {h : Hp} {loc : Loc} {w : World} {v : Value} (hg : G h loc w ss00 v) : G h loc w (ssA ss0) v := by
  refine hg.agg2 rfl fun j x y u h1 h2 h3 => ?_
  rcases j with _ | _ | _ | _ | _ | _ | _ | _ | _ | _ | _ | _ | _ | j
  all_goals first
    | (cases h1; cases h2; exact h3)
    | (cases h1; cases h2; exact h3.nil2)
    | cases h1
theorem ss_e0 {P : Program} {f : FuncId} {args : List AV} (h : PC P f args (vX (.tup [ss00, bA false]))) : PC P f args (vX (.tup [ssA ss0, bA false])) := by
  refine PC.less h fun h loc w v hg => hg.tup2 rfl fun j x y u h1 h2 h3 => ?_
  rcases j with _ | _ | j
  · cases h1; cases h2; exact nil_ss0 h3
  · cases h1; cases h2; exact h3
  · cases h1
theorem ss_e1 {P : Program} {f : FuncId} {args : List AV} {a b : St} {p : Bool} (h : PC P f args (vX (.tup [.agg (stC a ++ stC b ++ [bA p] ++ z3 ++ z3), bA true]))) : PC P f args (vX (.tup [ssA ⟨a, b, p, st0, st0⟩, bA true])) := by
  refine PC.less h fun h loc w v hg => hg.tup2 rfl fun j x y u h1 h2 h3 => ?_
  rcases j with _ | _ | j
  · cases h1; cases h2; exact nil_ss _ _ _ h3
  · cases h1; cases h2; exact h3
  · cases h1
def ssO (x : Option Ss) : AV → List Row → Prop := vX (.tup [ssA (x.getD ss0), bA x.isSome])
theorem specSessionNew_e (a b : St) (ha : SmS a) (hb : SmS b) : PC Tryz.prog 32 [stA' a, stA' b] (ssO (sNew a b)) := by
  cases hr : sRun a b with
  | none => simpa [ssO, sNew, hr] using ss_e0 (specSessionNew_d0 a b ha hb hr)
  | some p => obtain ⟨x, y⟩ := p; simpa [ssO, sNew, hr] using ss_e1 (specSessionNew_d1 a b ha hb x y hr)
theorem SessionStep_e (s : Ss) (hs : SmSs s) : PC Tryz.prog 14 [ssA s] (ssO (sStep s)) := by
  cases hp : s.plan with
  | false =>
    cases hr : sRun s.A s.B with
    | none => simpa [ssO, sStep, hp, hr] using ss_e0 (SessionStep_d0 s hs hp hr)
    | some p =>
      obtain ⟨x, y⟩ := p
      have := SessionStep_d1 s hs hp x y hr
      simpa [ssO, sStep, hp, hr, ssA, ssC, stC] using this
  | true =>
    have := SessionStep_d2 s hs hp
    by_cases h1 : s.A = s.nA
    · by_cases h2 : s.B = s.nB
      · simp only [h1, h2, ne_eq, not_true_eq_false, if_false] at this
        have h3 := ss_e1 this
        simpa [ssO, sStep, hp, h1, h2] using h3
      · simp only [h1, h2, ne_eq, not_true_eq_false, not_false_eq_true, if_false, if_true] at this
        simpa [ssO, sStep, hp, h1, h2, ssA, ssC, stC] using this
    · simp only [h1, ne_eq, not_false_eq_true, if_true] at this
      simpa [ssO, sStep, hp, h1, ssA, ssC, stC] using this
end Go.Proofs.YtdjglbedimpldaaGreatDoor
/-
  Plain: the sessions that four steps pass through.
-/
namespace Go.Proofs.YtdjglbedimpldaaGreatDoor
open Go Go.RowKit Go.Proofs
end Go.Proofs.YtdjglbedimpldaaGreatDoor
/-
  Walks: spec.SessionStep.
-/
namespace Go.Proofs.YtdjglbedimpldaaGreatDoor
open Go Go.RowKit Go.Proofs
attribute [local irreducible] RWp AW run kPe pe Kt effA gd gu br retR RDp runD kPeD brW gW effD
set_option maxRecDepth 100000
theorem l42Empty_pc : PC Tryz.prog 50 [] (rX (stO st0) [rowN [], rowC []]) := by
  unfold stO st0
  refine pc_enter Tryz.func50 rfl rfl fun w0 fb => go_on ?_; (try simp only [Tryz.ntmps50, push_cast, simprocAttr])
  refine at_ret ?_; simp only [Tryz.results50, push_cast, simprocAttr]
  simp [rX, ixOf, rowN, rowC]
theorem l42Logs_pc (a b : List Cm) (hl : a.length < 4294967281) : PC Tryz.prog 138 [cmA a, cmA b] (vB (decide (a = b))) := by
  refine pc_enter Tryz.func138 rfl rfl fun w0 fb => go_on ?_; (try simp only [Tryz.ntmps138, push_cast, simprocAttr])
  refine at_b (fun hb => ?_) (fun hb => ?_)
  · have h1 := of_eqI_f (not_t hb)
    have h2 : a ≠ b := by rintro rfl; exact h1 rfl
    (try simp only [hb, push_cast, simprocAttr])
    refine at_ret ?_; simp only [Tryz.results138, push_cast, simprocAttr]
    simp [vX, h2]
  · have h1 : a.length = b.length := by have := of_eqI_t (not_f hb); omega
    (try simp only [hb, push_cast, simprocAttr])
    refine at_loop (X := Nat) (fun k => [(5, iA k)]) (fun _ => []) (fun k => k ≤ a.length ∧ decide (a = b) = decide (a.drop k = b.drop k)) (fun k => a.length - k) 0 ⟨Nat.zero_le _, rfl⟩ ?_ ?_
    · (refine wk_ok ?_ ?_ ?_ ?_ <;> simp [leL, leH, idsL, idsA, idsR, inH, hget, sameRow, upA, hvA, dsts, dstO, setA_0, setA_1, setA_8, List.append, List.cons_append, List.nil_append])
    · rintro k ⟨q1, q2⟩
      simp only [upA, hvA, dsts, dstO, setA_0, setA_1, setA_8, List.append, List.cons_append, List.nil_append]
      refine go_on ?_
      (try simp only [push_cast, simprocAttr])
      refine at_b (fun hg => ?_) (fun hg => ?_)
      · have hlt := lt_tt hg
        obtain ⟨x, hx⟩ := get_of_lt hlt
        obtain ⟨y, hy⟩ := get_of_lt (l := b) (k := k) (by omega)
        have i1 := ix_n hx
        have i3 := ix_n hy
        have i2 := map_get cmC hx
        have i4 := map_get cmC hy
        simp only [cmC] at i2 i4
        rw [drop_of_get hx, drop_of_get hy] at q2
        have w2 := wr ((k : Int) + 1) (by omega)
        (try simp only [hg, push_cast, simprocAttr])
        refine at_draw rfl (by kernel_rfl) ?_
        (try simp only [i1, i2, i3, i4, ctg, cth, cmg, cmh, push_cast, simprocAttr])
        refine at_done (by kernel_rfl) (by kernel_rfl) (go_on ?_)
        have e := cm_eq x y
        (try simp only [e, push_cast, simprocAttr])
        refine at_b (fun hn => ?_) (fun hn => ?_)
        · have hxy : x ≠ y := by simpa using hn
          (try simp only [hn, push_cast, simprocAttr])
          refine at_ret ?_; simp only [Tryz.results138, push_cast, simprocAttr]
          simp [vX, q2, hxy]
        · have hxy : x = y := by simpa using hn
          (try simp only [hn, w2, push_cast, simprocAttr])
          refine at_fin ⟨k + 1, ⟨by omega, ?_⟩, by omega, ?_⟩
          · rw [q2]; simp [hxy]
          · (refine wk_ok ?_ ?_ ?_ ?_ <;> simp [leL, leH, idsL, idsA, idsR, inH, hget, sameRow, upA, hvA, dsts, dstO, setA_0, setA_1, setA_8, List.append, List.cons_append, List.nil_append])
      · have h3 := lt_ff hg
        (try simp only [hg, push_cast, simprocAttr])
        refine at_ret ?_; simp only [Tryz.results138, push_cast, simprocAttr]
        rw [List.drop_of_length_le h3, List.drop_of_length_le (by omega)] at q2
        simp [vX, q2]
theorem l42Sites_pc (a b : St) (ha : SmS a) (hb : SmS b) : PC Tryz.prog 90 [stA' a, stA' b] (vB (decide (a = b))) := by
  have h1 := l42Trees_pc a.base b.base ha.c1
  have h2 := l42Logs_pc a.log b.log ha.c2
  unfold stA' stC at *
  refine pc_enter Tryz.func90 rfl rfl fun w0 fb => go_on ?_; (try simp only [Tryz.ntmps90, push_cast, simprocAttr])
  repeat' first | (refine at_b (fun hb => ?_) (fun hb => ?_) <;> simp only [hb, push_cast, simprocAttr]) | (refine at_ret ?_; simp only [Tryz.results90, push_cast, simprocAttr]) | (refine at_call ?_; (try simp only [push_cast, simprocAttr]); refine rwc_v (by first | exact h1 | exact h2) (go_on ?_); simp only [push_cast, simprocAttr]) | (show RWp _ _ _ _ _; simp only [push_cast, simprocAttr])
  all_goals simp only [Bool.not_eq_true', Bool.not_eq_false', eqI_d, decide_eq_true_eq, decide_eq_false_iff_not] at *
  all_goals simp [vX, st_ext a b, *]
theorem l42Moved_pc (a b : St) (ha : SmS a) (hb : SmS b) : PC Tryz.prog 49 [stA' a, stA' b] (vB (decide (a = b))) := by
  have h1 := l42Sites_pc a b ha hb
  unfold stA' stC at *
  refine pc_enter Tryz.func49 rfl rfl fun w0 fb => go_on ?_; (try simp only [Tryz.ntmps49, push_cast, simprocAttr])
  (refine at_call ?_; (try simp only [push_cast, simprocAttr]); refine rwc_v (h1) (go_on ?_); (try simp only [push_cast, simprocAttr]))
  refine at_ret ?_; simp only [Tryz.results49, push_cast, simprocAttr]
  simp [vX]
end Go.Proofs.YtdjglbedimpldaaGreatDoor
/-
  Walks: spec.SessionStep (read as data).
-/
namespace Go.Proofs.YtdjglbedimpldaaGreatDoor
open Go Go.RowKit Go.Proofs
theorem l42Empty_d : PC Tryz.prog 50 [] (vX (stA' st0)) := by
  have := l42Empty_pc.frzX
  simp [viewN, hpOf, hget, stO, isC, tk, st0, rowN, rowC] at this
  exact this
attribute [local irreducible] RWp AW run kPe pe Kt effA gd gu br retR RDp runD kPeD brW gW effD
set_option maxRecDepth 100000
theorem specSessionStep_d0 (s : Ss) (hs : SmSs s) (hp : s.plan = false) (h : sRun s.A s.B = none) : PC Tryz.prog 15 [ssA s] (vX (.tup [ss00, bA false])) := by
  have h1 := l41Copy_d s.A hs.A.c1 hs.A.c2
  have h2 := l41Copy_d s.B hs.B.c1 hs.B.c2
  have h3 := l41Copy_d s.nA hs.nA.c1 hs.nA.c2
  have h4 := l41Copy_d s.nB hs.nB.c1 hs.nB.c2
  have hR := specSessionRun_d s.A s.B hs.A hs.B
  rw [h] at hR
  unfold srV at hR
  unfold stA' stC at *
  unfold st00 at hR
  unfold ssA ssC
  rw [hp]
  refine pc_enter Tryz.func15 rfl rfl fun w0 fb => go_on ?_; (try simp only [Tryz.ntmps15, push_cast, simprocAttr])
  refine at_draw rfl (by kernel_rfl) ?_; simp only [push_cast, simprocAttr]
  (refine at_shareD (by simp [isC2, isC]) (by first | rfl | simp [ren]) h1 ?_; (try simp only [push_cast, simprocAttr]))
  (refine at_shareD (by simp [isC2, isC]) (by first | rfl | simp [ren]) h2 ?_; (try simp only [push_cast, simprocAttr]))
  (refine at_shareD (by simp [isC2, isC]) (by first | rfl | simp [ren]) h3 ?_; (try simp only [push_cast, simprocAttr]))
  (refine at_shareD (by simp [isC2, isC]) (by first | rfl | simp [ren]) h4 ?_; (try simp only [push_cast, simprocAttr]))
  refine at_done (by kernel_rfl) (by kernel_rfl) (go_on ?_)
  (try simp only [Bool.not_false, push_cast, simprocAttr])
  ((try simp only [push_cast, simprocAttr]); refine at_share2 (by simp [isC2, isC]) (by first | rfl | simp [ren]) (hR) (go_on ?_); (try simp only [push_cast, simprocAttr]))
  (try simp only [Bool.not_false, push_cast, simprocAttr])
  refine at_ret ?_; simp only [Tryz.results15, push_cast, simprocAttr]
  simp [vX, ss00, z3]
theorem specSessionStep_d1 (s : Ss) (hs : SmSs s) (hp : s.plan = false) (x y : St) (h : sRun s.A s.B = some (x, y)) : PC Tryz.prog 15 [ssA s] (vX (.tup [.agg (stC s.A ++ stC s.B ++ [bA true] ++ stC x ++ stC y), bA true])) := by
  have h1 := l41Copy_d s.A hs.A.c1 hs.A.c2
  have h2 := l41Copy_d s.B hs.B.c1 hs.B.c2
  have h3 := l41Copy_d s.nA hs.nA.c1 hs.nA.c2
  have h4 := l41Copy_d s.nB hs.nB.c1 hs.nB.c2
  have hR := specSessionRun_d s.A s.B hs.A hs.B
  rw [h] at hR
  unfold srV at hR
  unfold stA' stC at *
  unfold ssA ssC
  rw [hp]
  refine pc_enter Tryz.func15 rfl rfl fun w0 fb => go_on ?_; (try simp only [Tryz.ntmps15, push_cast, simprocAttr])
  refine at_draw rfl (by kernel_rfl) ?_; simp only [push_cast, simprocAttr]
  (refine at_shareD (by simp [isC2, isC]) (by first | rfl | simp [ren]) h1 ?_; (try simp only [push_cast, simprocAttr]))
  (refine at_shareD (by simp [isC2, isC]) (by first | rfl | simp [ren]) h2 ?_; (try simp only [push_cast, simprocAttr]))
  (refine at_shareD (by simp [isC2, isC]) (by first | rfl | simp [ren]) h3 ?_; (try simp only [push_cast, simprocAttr]))
  (refine at_shareD (by simp [isC2, isC]) (by first | rfl | simp [ren]) h4 ?_; (try simp only [push_cast, simprocAttr]))
  refine at_done (by kernel_rfl) (by kernel_rfl) (go_on ?_)
  (try simp only [Bool.not_false, push_cast, simprocAttr])
  ((try simp only [push_cast, simprocAttr]); refine at_share2 (by simp [isC2, isC]) (by first | rfl | simp [ren]) (hR) (go_on ?_); (try simp only [push_cast, simprocAttr]))
  (try simp only [Bool.not_true, push_cast, simprocAttr])
  refine at_ret ?_; simp only [Tryz.results15, push_cast, simprocAttr]
  simp [vX]
theorem specSessionStep_d2 (s : Ss) (hs : SmSs s) (hp : s.plan = true) : PC Tryz.prog 15 [ssA s] (vX (.tup [.agg (if s.A ≠ s.nA then stC s.nA ++ stC s.B ++ [bA true] ++ stC s.nA ++ stC s.nB else if s.B ≠ s.nB then stC s.A ++ stC s.nB ++ [bA true] ++ stC s.nA ++ stC s.nB else stC s.A ++ stC s.B ++ [bA false] ++ stC st0 ++ stC st0), bA true])) := by
  have h1 := l41Copy_d s.A hs.A.c1 hs.A.c2
  have h2 := l41Copy_d s.B hs.B.c1 hs.B.c2
  have h3 := l41Copy_d s.nA hs.nA.c1 hs.nA.c2
  have h4 := l41Copy_d s.nB hs.nB.c1 hs.nB.c2
  have hS := l42Moved_pc s.A s.nA hs.A hs.nA
  have hT := l42Moved_pc s.B s.nB hs.B hs.nB
  have hE := l42Empty_d
  unfold stA' stC at *
  unfold ssA ssC
  rw [hp]
  refine pc_enter Tryz.func15 rfl rfl fun w0 fb => go_on ?_; (try simp only [Tryz.ntmps15, push_cast, simprocAttr])
  refine at_draw rfl (by kernel_rfl) ?_; simp only [push_cast, simprocAttr]
  (refine at_shareD (by simp [isC2, isC]) (by first | rfl | simp [ren]) h1 ?_; (try simp only [push_cast, simprocAttr]))
  (refine at_shareD (by simp [isC2, isC]) (by first | rfl | simp [ren]) h2 ?_; (try simp only [push_cast, simprocAttr]))
  (refine at_shareD (by simp [isC2, isC]) (by first | rfl | simp [ren]) h3 ?_; (try simp only [push_cast, simprocAttr]))
  (refine at_shareD (by simp [isC2, isC]) (by first | rfl | simp [ren]) h4 ?_; (try simp only [push_cast, simprocAttr]))
  refine at_done (by kernel_rfl) (by kernel_rfl) (go_on ?_)
  (try simp only [Bool.not_true, push_cast, simprocAttr])
  (refine at_call ?_; (try simp only [push_cast, simprocAttr]); refine rwc_v (hS) (go_on ?_); (try simp only [push_cast, simprocAttr]))
  by_cases e1 : s.A = s.nA
  · have d1 : decide (s.A = s.nA) = true := by simpa using e1
    (try simp only [d1, Bool.not_true, push_cast, simprocAttr])
    (refine at_call ?_; (try simp only [push_cast, simprocAttr]); refine rwc_v (hT) (go_on ?_); (try simp only [push_cast, simprocAttr]))
    by_cases e2 : s.B = s.nB
    · have d2 : decide (s.B = s.nB) = true := by simpa using e2
      (try simp only [d2, Bool.not_true, push_cast, simprocAttr])
      ((try simp only [push_cast, simprocAttr]); refine at_share2 (by simp [isC2, isC]) (by first | rfl | simp [ren]) (hE) (go_on ?_); (try simp only [push_cast, simprocAttr]))
      ((try simp only [push_cast, simprocAttr]); refine at_share2 (by simp [isC2, isC]) (by first | rfl | simp [ren]) (hE) (go_on ?_); (try simp only [push_cast, simprocAttr]))
      refine at_ret ?_; simp only [Tryz.results15, push_cast, simprocAttr]
      simp [vX, e1, e2]
    · have d2 : decide (s.B = s.nB) = false := by simpa using e2
      (try simp only [d2, Bool.not_false, push_cast, simprocAttr])
      ((try simp only [push_cast, simprocAttr]); refine at_share2 (by simp [isC2, isC]) (by first | rfl | simp [ren]) (h4) (go_on ?_); (try simp only [push_cast, simprocAttr]))
      refine at_ret ?_; simp only [Tryz.results15, push_cast, simprocAttr]
      simp [vX, e1, e2]
  · have d1 : decide (s.A = s.nA) = false := by simpa using e1
    (try simp only [d1, Bool.not_false, push_cast, simprocAttr])
    ((try simp only [push_cast, simprocAttr]); refine at_share2 (by simp [isC2, isC]) (by first | rfl | simp [ren]) (h3) (go_on ?_); (try simp only [push_cast, simprocAttr]))
    refine at_ret ?_; simp only [Tryz.results15, push_cast, simprocAttr]
    simp [vX, e1]
theorem specSessionStep_e (s : Ss) (hs : SmSs s) : PC Tryz.prog 15 [ssA s] (ssO (sStep s)) := by
  cases hp : s.plan with
  | false =>
    cases hr : sRun s.A s.B with
    | none => simpa [ssO, sStep, hp, hr] using ss_e0 (specSessionStep_d0 s hs hp hr)
    | some p =>
      obtain ⟨x, y⟩ := p
      have := specSessionStep_d1 s hs hp x y hr
      simpa [ssO, sStep, hp, hr, ssA, ssC, stC] using this
  | true =>
    have := specSessionStep_d2 s hs hp
    by_cases h1 : s.A = s.nA
    · by_cases h2 : s.B = s.nB
      · simp only [h1, h2, ne_eq, not_true_eq_false, if_false] at this
        simpa [ssO, sStep, hp, h1, h2, ssA, ssC, stC] using this
      · simp only [h1, h2, ne_eq, not_true_eq_false, not_false_eq_true, if_false, if_true] at this
        simpa [ssO, sStep, hp, h1, h2, ssA, ssC, stC] using this
    · simp only [h1, ne_eq, not_false_eq_true, if_true] at this
      simpa [ssO, sStep, hp, h1, ssA, ssC, stC] using this
theorem sStep_sm {s o : Ss} (hs : SmSs s) (h : sStep s = some o) : SmSs o := by
  unfold sStep at h
  split at h
  · split at h
    · rename_i x y hr
      cases h
      exact ⟨hs.A, hs.B, siteV_sm (law_session hr).1, siteV_sm (law_session hr).2.1⟩
    · cases h
  · split at h
    · cases h; exact ⟨hs.nA, hs.B, hs.nA, hs.nB⟩
    · split at h
      · cases h; exact ⟨hs.A, hs.nB, hs.nA, hs.nB⟩
      · cases h; exact ⟨hs.A, hs.B, st0_sm, st0_sm⟩
theorem ss0_sm : SmSs ss0 := ⟨st0_sm, st0_sm, st0_sm, st0_sm⟩
end Go.Proofs.YtdjglbedimpldaaGreatDoor
/-
  Walks: marks in a session; SessionRecover with rows of its own.
-/
namespace Go.Proofs.YtdjglbedimpldaaGreatDoor
open Go Go.RowKit Go.Proofs
def mk8 (s : Ss) (k : Nat) : List Row := [rowN (mkN k s.A.base), rowC (mkC (k + 3 * s.A.base.length) s.A.log), rowN (mkN (k + 3 * s.A.base.length + 5 * s.A.log.length) s.B.base), rowC (mkC ((k + 3 * s.A.base.length + 5 * s.A.log.length) + 3 * s.B.base.length) s.B.log), rowN (mkN ((k + 3 * s.A.base.length + 5 * s.A.log.length) + 3 * s.B.base.length + 5 * s.B.log.length) s.nA.base), rowC (mkC (((k + 3 * s.A.base.length + 5 * s.A.log.length) + 3 * s.B.base.length + 5 * s.B.log.length) + 3 * s.nA.base.length) s.nA.log), rowN (mkN (((k + 3 * s.A.base.length + 5 * s.A.log.length) + 3 * s.B.base.length + 5 * s.B.log.length) + 3 * s.nA.base.length + 5 * s.nA.log.length) s.nB.base), rowC (mkC ((((k + 3 * s.A.base.length + 5 * s.A.log.length) + 3 * s.B.base.length + 5 * s.B.log.length) + 3 * s.nA.base.length + 5 * s.nA.log.length) + 3 * s.nB.base.length) s.nB.log)]
def mkE8 (s : Ss) (k : Nat) : Nat := (((k + 3 * s.A.base.length + 5 * s.A.log.length) + 3 * s.B.base.length + 5 * s.B.log.length) + 3 * s.nA.base.length + 5 * s.nA.log.length) + 3 * s.nB.base.length + 5 * s.nB.log.length
def mark8 (s : Ss) (k : Nat) (rv : AV) (lr' rows : List Row) : Prop := rv = iA ((mkE8 s k : Nat) : Int) ∧ lr' = mk8 s k ∧ rows = []
def rows4 (s t : St) : List Row := [rowN s.base, rowC s.log, rowN t.base, rowC t.log]
theorem flat_4 (s t : St) : FlatR (rows4 s t) := flat_app (flat_nc s.base s.log) (flat_nc t.base t.log)
attribute [local irreducible] RWp AW run kPe pe Kt effA gd gu br retR RDp runD kPeD brW gW effD
set_option maxRecDepth 100000
theorem markSession_pcl (s : Ss) (k : Nat) (h0 : 0 < k) (hk : mkE8 s k ≤ 4611686018427387904) : PCL Tryz.prog 35 (rows8 s) (mvF none) [ssO8 s, iA k] (mark8 s k) := by
  unfold mkE8 at hk
  have hA := markSite_pcl s.A k (by omega) (by omega)
  have hB := markSite_pcl s.B (k + 3 * s.A.base.length + 5 * s.A.log.length) (by omega) (by omega)
  have hC := markSite_pcl s.nA ((k + 3 * s.A.base.length + 5 * s.A.log.length) + 3 * s.B.base.length + 5 * s.B.log.length) (by omega) (by omega)
  have hD := markSite_pcl s.nB (((k + 3 * s.A.base.length + 5 * s.A.log.length) + 3 * s.B.base.length + 5 * s.B.log.length) + 3 * s.nA.base.length + 5 * s.nA.log.length) (by omega) (by omega)
  unfold stO at hA hB hC hD
  unfold ssO8 rows8
  refine pcl_enter Tryz.func35 rfl rfl (by simp) fun w0 fb loc => go_on ?_; simp only [Tryz.ntmps35, hpL, nmL, mvF, renL, decide_true, decide_false, push_cast, simprocAttr]
  (try simp only [push_cast, simprocAttr]); refine call_lend [500000, 500001] none (lr := [rowN s.A.base, rowC s.A.log]) (by simp [ndB]) (by first | rfl | simp [rowsOf, hget, rdR, rowS, rowN, rowC, sC, ndC, cmC]) (by simp [idsL, idsA]) (by simp [mvN]) (by simpa [rnA, ixOf] using hA) ?_
  rintro rv lr' rows ⟨rfl, rfl, rfl⟩
  (refine ⟨by simp [shB, mvF, rdR, rowS, rowN, rowC, mkN_len, mkC_len], by simp [frB, baseOf], go_on ?_⟩; simp only [killA, killH, killRow, push_cast, simprocAttr])
  push_cast at hB
  (try simp only [push_cast, simprocAttr]); refine call_lend [500002, 500003] none (lr := [rowN s.B.base, rowC s.B.log]) (by simp [ndB]) (by first | rfl | simp [rowsOf, hget, rdR, rowS, rowN, rowC, sC, ndC, cmC]) (by simp [idsL, idsA]) (by simp [mvN]) (by simpa [rnA, ixOf] using hB) ?_
  rintro rv lr' rows ⟨rfl, rfl, rfl⟩
  (refine ⟨by simp [shB, mvF, rdR, rowS, rowN, rowC, mkN_len, mkC_len], by simp [frB, baseOf], go_on ?_⟩; simp only [killA, killH, killRow, push_cast, simprocAttr])
  push_cast at hC
  (try simp only [push_cast, simprocAttr]); refine call_lend [500004, 500005] none (lr := [rowN s.nA.base, rowC s.nA.log]) (by simp [ndB]) (by first | rfl | simp [rowsOf, hget, rdR, rowS, rowN, rowC, sC, ndC, cmC]) (by simp [idsL, idsA]) (by simp [mvN]) (by simpa [rnA, ixOf] using hC) ?_
  rintro rv lr' rows ⟨rfl, rfl, rfl⟩
  (refine ⟨by simp [shB, mvF, rdR, rowS, rowN, rowC, mkN_len, mkC_len], by simp [frB, baseOf], go_on ?_⟩; simp only [killA, killH, killRow, push_cast, simprocAttr])
  push_cast at hD
  (try simp only [push_cast, simprocAttr]); refine call_lend [500006, 500007] none (lr := [rowN s.nB.base, rowC s.nB.log]) (by simp [ndB]) (by first | rfl | simp [rowsOf, hget, rdR, rowS, rowN, rowC, sC, ndC, cmC]) (by simp [idsL, idsA]) (by simp [mvN]) (by simpa [rnA, ixOf] using hD) ?_
  rintro rv lr' rows ⟨rfl, rfl, rfl⟩
  (refine ⟨by simp [shB, mvF, rdR, rowS, rowN, rowC, mkN_len, mkC_len], by simp [frB, baseOf], go_on ?_⟩; simp only [killA, killH, killRow, push_cast, simprocAttr])
  have hfin : mark8 s k (iA ((mkE8 s k : Nat) : Int)) (mk8 s k) [] := ⟨rfl, rfl, rfl⟩
  unfold mkE8 mk8 at hfin
  push_cast at hfin
  (try simp only [push_cast, simprocAttr])
  (refine at_retL ?_; simp only [Tryz.results35, retL, push_cast, simprocAttr]; simpa [show List.range 8 = [0, 1, 2, 3, 4, 5, 6, 7] from rfl, nmL, mvF, ndB, ixOf, rowsOf, hget, rdR, rowS, rowN, rowC] using hfin)
end Go.Proofs.YtdjglbedimpldaaGreatDoor
/-
  Walks: impl.SessionRun with rows of its own.
-/
namespace Go.Proofs.YtdjglbedimpldaaGreatDoor
open Go Go.RowKit Go.Proofs
def run4 (s t : St) : AV := .tup [.agg [iA s.ep, .o 0 s.base.length, .o 1 s.log.length], .agg [iA t.ep, .o 2 t.base.length, .o 3 t.log.length], bA true]
attribute [local irreducible] RWp AW run kPe pe Kt effA gd gu br retR RDp runD kPeD brW gW effD
set_option maxRecDepth 100000
theorem SessionRun_o (a b : St) (ha : SmS a) (hb : SmS b) (x y : St) (hr : sRun a b = some (x, y)) : PC Tryz.prog 21 [stA' a, stA' b] (rX (run4 x y) (rows4 x y)) := by
  have hM := meet_pc a b ha hb
  have hA := SiteCanon_d a ha
  have hB := SiteCanon_d b hb
  have s1 := siteC_sm a
  have s2 := siteC_sm b
  have hP := PairBase_pc a.base ha.t (siteC a) (siteC b) s1 s2
  have hT := PairTree_d a.base ha.t (siteC a) (siteC b) s1 s2
  have hU := PairTree_d a.base ha.t (siteC b) (siteC a) s2 s1
  have hL := LeftOf_pc (siteC a) (siteC b) s1 s2
  have hR := LeftOf_pc (siteC b) (siteC a) s2 s1
  have hm : meet a b = true := by
    cases h : meet a b with
    | true => rfl
    | false => simp [sRun, h] at hr
  unfold sRun at hr
  rw [if_pos hm] at hr
  obtain ⟨t, u, v, e1, e2, e3, hx⟩ : ∃ t u v, pairBase a.base (siteC a) (siteC b) = some t ∧ pairTree a.base (siteC a) (siteC b) = some u ∧ pairTree a.base (siteC b) (siteC a) = some v ∧ (⟨a.ep + 1, t, leftOf (siteC a) (siteC b)⟩, ⟨a.ep + 1, t, leftOf (siteC b) (siteC a)⟩) = (x, y) := by
    split at hr
    · rename_i t u v e1 e2 e3
      exact ⟨t, u, v, e1, e2, e3, Option.some.inj hr⟩
    · cases hr
  obtain ⟨rfl, rfl⟩ := Prod.mk.inj hx
  have hm2 := (meet_iff a b).1 hm
  obtain ⟨ta, tb, La, Lb, hsa, hsb, hbb, hee, hlt⟩ := hm2
  have hep := hsa.ep
  have w1 : IntKind.i64.wrap (a.ep + 1) = a.ep + 1 := wr _ (by omega)
  have htl : t.length ≤ 10 := by
    obtain ⟨x, y, hpf⟩ := (pairFits_iff a.base (siteC a) (siteC b)).1 (by
      unfold pairBase at e1
      split at e1
      · rename_i hh; simp only [Bool.and_eq_true] at hh; exact hh.1
      · cases e1)
    exact (hpf.base_ov e1).2.le
  have hC := cloneTree_pc t (by omega)
  rw [e1] at hP
  rw [e2] at hT
  rw [e3] at hU
  unfold tbD at hP
  simp only [Option.getD_some, Option.isSome_some] at hP hT hU
  unfold stA' stC at *
  refine pc_enter Tryz.func21 rfl rfl fun w0 fb => go_on ?_; (try simp only [Tryz.ntmps21, push_cast, simprocAttr])
  (refine at_call ?_; (try simp only [push_cast, simprocAttr]); refine rwc_v (hM) (go_on ?_); (try simp only [push_cast, simprocAttr]))
  (try simp only [hm, Bool.not_true, push_cast, simprocAttr])
  refine at_draw rfl (by kernel_rfl) ?_; simp only [push_cast, simprocAttr]
  (refine at_shareD (by simp [isC2, isC]) (by first | rfl | simp [ren]) hA ?_; (try simp only [push_cast, simprocAttr]))
  (refine at_shareD (by simp [isC2, isC]) (by first | rfl | simp [ren]) hB ?_; (try simp only [push_cast, simprocAttr]))
  refine at_done (by kernel_rfl) (by kernel_rfl) (go_on ?_)
  (try simp only [push_cast, simprocAttr])
  (refine at_call ?_; (try simp only [push_cast, simprocAttr]); refine rwc_r (hP) (by simp [flatV, flatL]) (flat_n _) (by simp [frB, baseOf]) (go_on ?_); (try simp only [push_cast, simprocAttr]))
  ((try simp only [push_cast, simprocAttr]); refine at_share2 (by simp [isC2, isC]) (by first | rfl | simp [ren]) (hT) (go_on ?_); (try simp only [push_cast, simprocAttr]))
  ((try simp only [push_cast, simprocAttr]); refine at_share2 (by simp [isC2, isC]) (by first | rfl | simp [ren]) (hU) (go_on ?_); (try simp only [push_cast, simprocAttr]))
  (try simp only [Bool.not_true, push_cast, simprocAttr])
  refine at_draw rfl (by kernel_rfl) ?_; simp only [push_cast, simprocAttr]
  (try simp only [w1, push_cast, simprocAttr])
  (refine at_callD (by simp [clB, idsL, idsA, hget]) ?_; (try simp only [push_cast, simprocAttr]); refine rcd_r hL (by simp [flatV, flatL]) (flat_c _) (by simp [frB, baseOf]) ?_; (try simp only [push_cast, simprocAttr]))
  (try simp only [w1, push_cast, simprocAttr])
  (refine at_callD (by simp [clB, idsL, idsA, hget]) ?_; (try simp only [push_cast, simprocAttr]); refine rcd_r hC (by simp [flatV, flatL]) (flat_n _) (by simp [frB, baseOf]) ?_; (try simp only [push_cast, simprocAttr]))
  (refine at_callD (by simp [clB, idsL, idsA, hget]) ?_; (try simp only [push_cast, simprocAttr]); refine rcd_r hR (by simp [flatV, flatL]) (flat_c _) (by simp [frB, baseOf]) ?_; (try simp only [push_cast, simprocAttr]))
  (try simp only [w1, push_cast, simprocAttr])
  refine at_done (by kernel_rfl) (by kernel_rfl) (go_on ?_)
  (try simp only [push_cast, simprocAttr])
  refine at_ret ?_; simp only [Tryz.results21, push_cast, simprocAttr]
  simp [rX, ixOf, run4, rows4]
end Go.Proofs.YtdjglbedimpldaaGreatDoor
/-
  Walks: marks in a side, read again; a side of nothing.
-/
namespace Go.Proofs.YtdjglbedimpldaaGreatDoor
open Go Go.RowKit Go.Proofs
attribute [local irreducible] RWp AW run kPe pe Kt effA gd gu br retR RDp runD kPeD brW gW effD
set_option maxRecDepth 100000
theorem heldSite_pc (s : St) (k : Nat) (h0 : 0 < k) (hk : k + 3 * s.base.length + 5 * s.log.length ≤ 4611686018427387904) :
    PC Tryz.prog 24 [stA' ⟨s.ep, mkN k s.base, mkC (k + 3 * s.base.length) s.log⟩, iA k] (vI ((k + 3 * s.base.length + 5 * s.log.length : Nat) : Int)) := by
  have hN := heldNodeS_pc s.base k h0 (by omega)
  have hC := heldCommandS_pc s.log (k + 3 * s.base.length) (by omega) (by omega)
  have i1 : ltI ((k : Int) + 3 * (s.base.length : Int)) 0 = false := ltI_f (by omega)
  have i2 : ltI ((k : Int) + 3 * (s.base.length : Int) + 5 * (s.log.length : Int)) 0 = false := ltI_f (by omega)
  push_cast at hC
  unfold stA' stC
  refine pc_enter Tryz.func24 rfl rfl fun w0 fb => go_on ?_; (try simp only [Tryz.ntmps24, push_cast, simprocAttr])
  (refine at_call ?_; (try simp only [push_cast, simprocAttr]); refine rwc_v (hN) (go_on ?_); (try simp only [push_cast, simprocAttr]))
  (try simp only [i1, push_cast, simprocAttr])
  (refine at_call ?_; (try simp only [push_cast, simprocAttr]); refine rwc_v (hC) (go_on ?_); (try simp only [push_cast, simprocAttr]))
  (try simp only [i2, push_cast, simprocAttr])
  refine at_ret ?_; simp only [Tryz.results24, push_cast, simprocAttr]
  simp [vX]
theorem markNodeS_0 (k : Nat) : PC Tryz.prog 69 [ndA [], iA k] (vI k) := by
  refine pc_enter Tryz.func69 rfl rfl fun w0 fb => go_on ?_; (try simp only [Tryz.ntmps69, push_cast, simprocAttr])
  refine at_loop (X := Unit) (fun _ => [(1, iA k), (5, iA 0)]) (fun _ => []) (fun _ => True) (fun _ => 0) () trivial ?_ ?_
  · (refine wk_ok ?_ ?_ ?_ ?_ <;> simp [leL, leH, idsL, idsA, idsR, inH, hget, sameRow, upA, hvA, dsts, dstO, setA_0, setA_1, setA_8, List.append, List.cons_append, List.nil_append])
  · rintro _ _
    simp only [upA, hvA, dsts, dstO, setA_0, setA_1, setA_8, List.append, List.cons_append, List.nil_append]
    refine go_on ?_
    (try simp only [push_cast, simprocAttr])
    refine at_ret ?_; simp only [Tryz.results69, push_cast, simprocAttr]
    simp [vX]
theorem markCommandS_0 (k : Nat) : PC Tryz.prog 70 [cmA [], iA k] (vI k) := by
  refine pc_enter Tryz.func70 rfl rfl fun w0 fb => go_on ?_; (try simp only [Tryz.ntmps70, push_cast, simprocAttr])
  refine at_loop (X := Unit) (fun _ => [(1, iA k), (5, iA 0)]) (fun _ => []) (fun _ => True) (fun _ => 0) () trivial ?_ ?_
  · (refine wk_ok ?_ ?_ ?_ ?_ <;> simp [leL, leH, idsL, idsA, idsR, inH, hget, sameRow, upA, hvA, dsts, dstO, setA_0, setA_1, setA_8, List.append, List.cons_append, List.nil_append])
  · rintro _ _
    simp only [upA, hvA, dsts, dstO, setA_0, setA_1, setA_8, List.append, List.cons_append, List.nil_append]
    refine go_on ?_
    (try simp only [push_cast, simprocAttr])
    refine at_ret ?_; simp only [Tryz.results70, push_cast, simprocAttr]
    simp [vX]
theorem markSite_0 (ep : Int) (k : Nat) : PC Tryz.prog 23 [stA' ⟨ep, [], []⟩, iA k] (vI k) := by
  unfold stA' stC
  refine pc_enter Tryz.func23 rfl rfl fun w0 fb => go_on ?_; (try simp only [Tryz.ntmps23, push_cast, simprocAttr])
  (refine at_call ?_; (try simp only [push_cast, simprocAttr]); refine rwc_v (markNodeS_0 k) (go_on ?_); (try simp only [push_cast, simprocAttr]))
  (refine at_call ?_; (try simp only [push_cast, simprocAttr]); refine rwc_v (markCommandS_0 k) (go_on ?_); (try simp only [push_cast, simprocAttr]))
  refine at_ret ?_; simp only [Tryz.results23, push_cast, simprocAttr]
  simp [vX]
theorem C.st00 {lv : Nat → Prop} {w : World} {u : Value} (h : C lv 0 w st00 u) : C lv 0 w (stA' st0) u := by
  unfold Go.Proofs.YtdjglbedimpldaaGreatDoor.st00 at h
  cases h with
  | agg vs hs hg =>
    refine .agg vs hs fun j a ha => ?_
    rcases j with _ | _ | _ | j
    · cases ha; exact hg 0 _ rfl
    · cases ha
      have := hg 1 _ rfl
      generalize vs.getD 1 undef = v at this ⊢
      cases this
      exact .nilsl _
    · cases ha
      have := hg 2 _ rfl
      generalize vs.getD 2 undef = v at this ⊢
      cases this
      exact .nilsl _
    · simp [stC] at ha
theorem markSite_00 (k : Nat) : PC Tryz.prog 23 [st00, iA k] (vI k) := by
  refine (markSite_0 0 k).args rfl fun j x y hx hy lv w u hc => ?_
  rcases j with _ | _ | j
  · cases hx; cases hy; exact hc.st00
  · cases hx; cases hy; exact hc
  · simp at hx
theorem heldSite_00 : PC Tryz.prog 24 [st00, iA 1] (vI 1) := by
  refine (heldSite_pc st0 1 (by omega) (by simp [st0])).args rfl fun j x y hx hy lv w u hc => ?_
  rcases j with _ | _ | j
  · cases hx; cases hy; exact hc.st00
  · cases hx; cases hy; exact hc
  · simp at hx
end Go.Proofs.YtdjglbedimpldaaGreatDoor
/-
  The abstract machine: a region that draws its order, several calls within that borrow a row, and operations that wait for none of them.
-/
namespace Go.Proofs.YtdjglbedimpldaaGreatDoor
open Go Go.RowKit

/-! ### Moves of slots that nothing writes: they see no row -/
section
variable {P : Program} {w0 : World} {lent : Lent} {Q : Exit → Act → World → Prop}
end

end Go.Proofs.YtdjglbedimpldaaGreatDoor
/-
  The abstract machine: what a call that was lent rows leaves anew, read as data.
-/
namespace Go.Proofs.YtdjglbedimpldaaGreatDoor
open Go Go.RowKit

theorem hp_app {l l' : List Row} {r : Nat} {row : Row} (h : hget (hpOf 0 l) r = some row) : hget (hpOf 0 (l ++ l')) r = some row := by
  rw [hget_hpOf] at h ⊢
  rw [if_pos (Nat.zero_le _)] at h ⊢
  have := lt_of_some h
  rw [List.getElem?_append_left this]
  exact h
theorem live_app {l l' : List Row} {loc : Loc} {b : Nat} (h : Live (hpOf 0 l) loc b) : Live (hpOf 0 (l ++ l')) loc b := by
  rcases h with ⟨r, row, c, h1, h2⟩ | h
  · exact .inl ⟨r, row, c, hp_app h1, h2⟩
  · exact .inr h
theorem PCL.frz {P : Program} {f : FuncId} {lr : List Row} {mv : Nat → Bool} {args : List AV} {D D' : AV → List Row → List Row → Prop} (h : PCL P f lr mv args D)
    (hd : ∀ rv lr' rows, D rv lr' rows → (idsA rv).all (fun r => decide (lr.length ≤ r)) = true ∧ D' (viewN 3 (hpOf 0 (lr' ++ rows)) rv) lr' []) : PCL P f lr mv args D' := by
  refine ⟨h.1, fun w fb loc vs h1 h2 h3 => (h.2 w fb loc vs h1 h2 h3).mono ?_⟩
  rintro e w' ⟨rv, lr', rows, v, loc', hD, rfl, hL⟩
  obtain ⟨hi, hD'⟩ := hd _ _ _ hD
  have hC : ∀ {x u}, C (Live (hpOf 0 (lr' ++ rows)) loc') 0 w' x u → C (Live (hpOf 0 (lr' ++ [])) loc') 0 w' x u := fun hx => hx.mono (Nat.le_refl _) (Nat.le_refl _) fun b _ _ hnl => ⟨fun hl => by
    rw [List.append_nil] at hl
    exact hnl (live_app hl), rfl⟩
  refine ⟨_, lr', [], v, loc', hD', rfl, ⟨hL.len, hL.os, hL.tape, hL.output, hL.size, hL.keep, hL.fbe, hL.stay, .cl ?_, fun r row hr => ?_, fun r r' row row' b c c' hr hr' => ?_, fun r row b c hr => ?_⟩⟩
  · refine view_frz (fun r row hr => (hL.rw r row hr).2) hL.inj (fun r row b c hr hl hf => ?_) (fun r row' hr => ⟨row', ?_⟩) 3 rv v hL.val ?_
    · rw [hL.fbe] at hf
      obtain ⟨g1, g2⟩ := h1.fbl b hf
      rcases hL.own r row b c hr hl with g3 | g3
      · omega
      · exact g2 g3
    · rw [List.append_nil] at hr
      exact hp_app hr
    · refine List.all_eq_true.2 fun r hr => ?_
      have h4 := of_decide_eq_true (List.all_eq_true.1 hi r hr)
      rw [Bool.and_eq_true]
      refine ⟨?_, ?_⟩
      · have : hget (hpOf 0 (lr' ++ [])) r = none := by
          rw [hget_hpOf, if_pos (Nat.zero_le _), List.append_nil]
          exact List.getElem?_eq_none (by have := hL.len; omega)
        unfold inH
        rw [this]
        rfl
      · cases hg : hget (hpOf 0 (lr' ++ rows)) r with
        | none => rfl
        | some row => exact (hL.rw r row hg).1
  · rw [List.append_nil] at hr
    obtain ⟨g1, g2, xs, g3, g4⟩ := hL.rw r row (hp_app hr)
    refine ⟨g1, g2, xs, g3, fun k e j a he ha => ?_⟩
    obtain ⟨u, g5, g6, _, g8⟩ := g4 k e j a he ha
    have := hC (g8 g1)
    exact ⟨u, g5, g6, .cl this, fun _ => this⟩
  · rw [List.append_nil] at hr hr'
    exact hL.inj r r' row row' b c c' (hp_app hr) (hp_app hr')
  · rw [List.append_nil] at hr
    exact hL.own r row b c (hp_app hr)

end Go.Proofs.YtdjglbedimpldaaGreatDoor
/-
  Walks: the draws: two sides.
-/
namespace Go.Proofs.YtdjglbedimpldaaGreatDoor
open Go Go.RowKit Go.Proofs
def frzRow (ids : List Nat) (h : Hp) (row : Row) : Row := if (row.es.all fun e => e.all fun x => (idsA x).all fun r => !hasN ids r) = true then row else ⟨row.E, row.sz, row.es.map (·.map (viewN 3 h)), true⟩
def frzH (ids : List Nat) (h : Hp) : Hp → Hp
  | [] => []
  | (r, row) :: l => (r, frzRow ids h row) :: frzH ids h l
def frzS2 (ids : List Nat) (s : AS) : AS := ⟨s.t.map (frzT ids s.h), frzH ids s.h (delL s.h ids)⟩
theorem at_frzS2 {P : Program} {w0 : World} {lent : Lent} {Q : Exit → Act → World → Prop} {k : List It} {s : AS} (ids : List Nat) (h : Wk s (frzS2 ids s)) (h' : AW P w0 lent Q k (frzS2 ids s)) : AW P w0 lent Q k s := at_frz h h'
attribute [local irreducible] RWp AW run kPe pe Kt effA gd gu br retR RDp runD kPeD brW gW effD
set_option maxRecDepth 100000
end Go.Proofs.YtdjglbedimpldaaGreatDoor
/-
  Walks: the draws of two sides (DrawSessionRun, DrawSessionClashes, DrawSessionNew).
-/
namespace Go.Proofs.YtdjglbedimpldaaGreatDoor
open Go Go.RowKit Go.Proofs
attribute [local irreducible] RWp AW run kPe pe Kt effA gd gu br retR RDp runD kPeD brW gW effD
set_option maxRecDepth 100000
end Go.Proofs.YtdjglbedimpldaaGreatDoor
/-
  Walks: the draws of sessions (DrawSessionRecover, DrawSessionStep).
-/
namespace Go.Proofs.YtdjglbedimpldaaGreatDoor
open Go Go.RowKit Go.Proofs
theorem nil_C {lv : Nat → Prop} {w : World} {u : Value} {n : Nat} (h : C lv 0 w (.v (.slice none 0 0)) u) : C lv 0 w (.sl n []) u := by
  cases h
  exact .nilsl _
attribute [local irreducible] RWp AW run kPe pe Kt effA gd gu br retR RDp runD kPeD brW gW effD
set_option maxRecDepth 100000
end Go.Proofs.YtdjglbedimpldaaGreatDoor
/-
  Walks: sessions with rows of their own, whole, half and empty: marks, SessionNew, SessionStep.
-/
namespace Go.Proofs.YtdjglbedimpldaaGreatDoor
open Go Go.RowKit Go.Proofs
/-- A session without its second half, as data. -/
def ssH (a b : St) (p : Bool) : List AV := [iA a.ep, ndA a.base, cmA a.log, iA b.ep, ndA b.base, cmA b.log, bA p, iA 0, .v (.slice none 0 0), .v (.slice none 0 0), iA 0, .v (.slice none 0 0), .v (.slice none 0 0)]
/-- The same with rows of its own. -/
def ssO4 (a b : St) (p : Bool) : AV := .agg [iA a.ep, .o 0 a.base.length, .o 1 a.log.length, iA b.ep, .o 2 b.base.length, .o 3 b.log.length, bA p, iA 0, .v (.slice none 0 0), .v (.slice none 0 0), iA 0, .v (.slice none 0 0), .v (.slice none 0 0)]
theorem ssH_C {lv : Nat → Prop} {w : World} {u : Value} (a b : St) (p : Bool) (h : C lv 0 w (.agg (ssH a b p)) u) : C lv 0 w (ssA ⟨a, b, p, st0, st0⟩) u := by
  unfold ssH at h
  cases h with
  | agg vs hs hg =>
    refine .agg vs hs fun j a ha => ?_
    rcases j with _ | _ | _ | _ | _ | _ | _ | _ | _ | _ | _ | _ | _ | j
    all_goals first
      | (cases ha; exact hg _ _ rfl)
      | (cases ha; exact nil_C (hg _ _ rfl))
      | (simp [ssC] at ha; done)
theorem ss00_C {lv : Nat → Prop} {w : World} {u : Value} (h : C lv 0 w ss00 u) : C lv 0 w (ssA ss0) u := by
  unfold ss00 z3 at h
  cases h with
  | agg vs hs hg =>
    refine .agg vs hs fun j a ha => ?_
    rcases j with _ | _ | _ | _ | _ | _ | _ | _ | _ | _ | _ | _ | _ | j
    all_goals first
      | (cases ha; exact hg _ _ rfl)
      | (cases ha; exact nil_C (hg _ _ rfl))
      | (simp [ssC] at ha; done)
theorem eqSession_H (a b : St) (p : Bool) (ha : SmS a) (hb : SmS b) : PC Tryz.prog 34 [.agg (ssH a b p), ssA ⟨a, b, p, st0, st0⟩] (vB true) := by
  have := eqSession_pc ⟨a, b, p, st0, st0⟩ ⟨a, b, p, st0, st0⟩ ⟨ha, hb, st0_sm, st0_sm⟩
  rw [decide_eq_true rfl] at this
  refine this.args rfl fun j x y hx hy lv w u hc => ?_
  rcases j with _ | _ | j
  · cases hx; cases hy; exact ssH_C _ _ _ hc
  · cases hx; cases hy; exact hc
  · simp at hx
theorem eqSession_0 : PC Tryz.prog 34 [ss00, ssA ss0] (vB true) := by
  have := eqSession_pc ss0 ss0 ss0_sm
  rw [decide_eq_true rfl] at this
  refine this.args rfl fun j x y hx hy lv w u hc => ?_
  rcases j with _ | _ | j
  · cases hx; cases hy; exact ss00_C hc
  · cases hx; cases hy; exact hc
  · simp at hx
theorem heldSite_k0 (k : Nat) (h0 : 0 < k) (hk : k ≤ 4611686018427387904) : PC Tryz.prog 24 [st00, iA k] (vI k) := by
  have := heldSite_pc st0 k h0 (by simp only [st0, List.length_nil]; omega)
  simp only [st0, List.length_nil, Nat.mul_zero, Nat.add_zero] at this
  refine this.args rfl fun j x y hx hy lv w u hc => ?_
  rcases j with _ | _ | j
  · cases hx; cases hy; exact hc.st00
  · cases hx; cases hy; exact hc
  · simp at hx
def mkS (s : St) (k : Nat) : St := ⟨s.ep, mkN k s.base, mkC (k + 3 * s.base.length) s.log⟩
def mkSs (s : Ss) (k : Nat) : Ss := ⟨mkS s.A k, mkS s.B (k + 3 * s.A.base.length + 5 * s.A.log.length), s.plan, mkS s.nA ((k + 3 * s.A.base.length + 5 * s.A.log.length) + 3 * s.B.base.length + 5 * s.B.log.length), mkS s.nB (((k + 3 * s.A.base.length + 5 * s.A.log.length) + 3 * s.B.base.length + 5 * s.B.log.length) + 3 * s.nA.base.length + 5 * s.nA.log.length)⟩
def endS (s : St) (k : Nat) : Nat := k + 3 * s.base.length + 5 * s.log.length
def markH (a b : St) (k : Nat) (rv : AV) (lr' rows : List Row) : Prop := rv = iA ((endS b (endS a k) : Nat) : Int) ∧ lr' = [rowN (mkN k a.base), rowC (mkC (k + 3 * a.base.length) a.log), rowN (mkN (endS a k) b.base), rowC (mkC (endS a k + 3 * b.base.length) b.log)] ∧ rows = []
attribute [local irreducible] RWp AW run kPe pe Kt effA gd gu br retR RDp runD kPeD brW gW effD
set_option maxRecDepth 100000
theorem markSession_0 : PC Tryz.prog 35 [ss00, iA 1] (vI 1) := by
  have hM := markSite_00 1
  unfold st00 at hM
  unfold ss00 z3
  refine pc_enter Tryz.func35 rfl rfl fun w0 fb => go_on ?_; (try simp only [Tryz.ntmps35, push_cast, simprocAttr])
  (refine at_call ?_; (try simp only [push_cast, simprocAttr]); refine rwc_v (hM) (go_on ?_); (try simp only [push_cast, simprocAttr]))
  (refine at_call ?_; (try simp only [push_cast, simprocAttr]); refine rwc_v (hM) (go_on ?_); (try simp only [push_cast, simprocAttr]))
  (refine at_call ?_; (try simp only [push_cast, simprocAttr]); refine rwc_v (hM) (go_on ?_); (try simp only [push_cast, simprocAttr]))
  (refine at_call ?_; (try simp only [push_cast, simprocAttr]); refine rwc_v (hM) (go_on ?_); (try simp only [push_cast, simprocAttr]))
  refine at_ret ?_; simp only [Tryz.results35, push_cast, simprocAttr]
  simp [vX]
theorem heldSession_0 : PC Tryz.prog 36 [ss00, iA 1] (vI 1) := by
  have hM := heldSite_00
  unfold st00 at hM
  unfold ss00 z3
  refine pc_enter Tryz.func36 rfl rfl fun w0 fb => go_on ?_; (try simp only [Tryz.ntmps36, push_cast, simprocAttr])
  (refine at_call ?_; (try simp only [push_cast, simprocAttr]); refine rwc_v (hM) (go_on ?_); (try simp only [push_cast, simprocAttr]))
  (try simp only [show ltI 1 0 = false from rfl, push_cast, simprocAttr])
  (refine at_call ?_; (try simp only [push_cast, simprocAttr]); refine rwc_v (hM) (go_on ?_); (try simp only [push_cast, simprocAttr]))
  (try simp only [show ltI 1 0 = false from rfl, push_cast, simprocAttr])
  (refine at_call ?_; (try simp only [push_cast, simprocAttr]); refine rwc_v (hM) (go_on ?_); (try simp only [push_cast, simprocAttr]))
  (try simp only [show ltI 1 0 = false from rfl, push_cast, simprocAttr])
  (refine at_call ?_; (try simp only [push_cast, simprocAttr]); refine rwc_v (hM) (go_on ?_); (try simp only [push_cast, simprocAttr]))
  (try simp only [show ltI 1 0 = false from rfl, push_cast, simprocAttr])
  refine at_ret ?_; simp only [Tryz.results36, push_cast, simprocAttr]
  simp [vX]
theorem markSession_H (a b : St) (p : Bool) (k : Nat) (h0 : 0 < k) (hk : endS b (endS a k) ≤ 4611686018427387904) : PCL Tryz.prog 35 (rows4 a b) (mvF none) [ssO4 a b p, iA k] (markH a b k) := by
  unfold endS at hk
  have hA := markSite_pcl a k h0 (by omega)
  have hB := markSite_pcl b (k + 3 * a.base.length + 5 * a.log.length) (by omega) (by omega)
  have hM := markSite_00 (endS b (endS a k))
  unfold st00 at hM
  unfold stO at hA hB
  unfold ssO4 rows4
  refine pcl_enter Tryz.func35 rfl rfl (by simp) fun w0 fb loc => go_on ?_; simp only [Tryz.ntmps35, hpL, nmL, mvF, renL, decide_true, decide_false, push_cast, simprocAttr]
  (try simp only [push_cast, simprocAttr]); refine call_lend [500000, 500001] none (lr := [rowN a.base, rowC a.log]) (by simp [ndB]) (by first | rfl | simp [rowsOf, hget, rdR, rowS, rowN, rowC, sC, ndC, cmC]) (by simp [idsL, idsA]) (by simp [mvN]) (by simpa [rnA, ixOf] using hA) ?_
  rintro rv lr' rows ⟨rfl, rfl, rfl⟩
  (refine ⟨by simp [shB, mvF, rdR, rowS, rowN, rowC, mkN_len, mkC_len], by simp [frB, baseOf], go_on ?_⟩; simp only [killA, killH, killRow, push_cast, simprocAttr])
  push_cast at hB
  (try simp only [push_cast, simprocAttr]); refine call_lend [500002, 500003] none (lr := [rowN b.base, rowC b.log]) (by simp [ndB]) (by first | rfl | simp [rowsOf, hget, rdR, rowS, rowN, rowC, sC, ndC, cmC]) (by simp [idsL, idsA]) (by simp [mvN]) (by simpa [rnA, ixOf] using hB) ?_
  rintro rv lr' rows ⟨rfl, rfl, rfl⟩
  (refine ⟨by simp [shB, mvF, rdR, rowS, rowN, rowC, mkN_len, mkC_len], by simp [frB, baseOf], go_on ?_⟩; simp only [killA, killH, killRow, push_cast, simprocAttr])
  unfold endS at hM
  push_cast at hM
  (refine at_call ?_; (try simp only [push_cast, simprocAttr]); refine rwc_v (hM) (go_on ?_); (try simp only [push_cast, simprocAttr]))
  (refine at_call ?_; (try simp only [push_cast, simprocAttr]); refine rwc_v (hM) (go_on ?_); (try simp only [push_cast, simprocAttr]))
  have hfin : markH a b k (iA ((endS b (endS a k) : Nat) : Int)) [rowN (mkN k a.base), rowC (mkC (k + 3 * a.base.length) a.log), rowN (mkN (endS a k) b.base), rowC (mkC (endS a k + 3 * b.base.length) b.log)] [] := ⟨rfl, rfl, rfl⟩
  unfold endS at hfin
  push_cast at hfin
  (try simp only [push_cast, simprocAttr])
  (refine at_retL ?_; simp only [Tryz.results35, retL, push_cast, simprocAttr]; simpa [show List.range 4 = [0, 1, 2, 3] from rfl, nmL, mvF, ndB, ixOf, rowsOf, hget, rdR, rowS, rowN, rowC] using hfin)
theorem heldSession_pc (s : Ss) (k : Nat) (h0 : 0 < k) (hk : mkE8 s k ≤ 4611686018427387904) : PC Tryz.prog 36 [ssA (mkSs s k), iA k] (vI (mkE8 s k : Nat)) := by
  unfold mkE8 at *
  have hA := heldSite_pc s.A k (by omega) (by omega)
  have hB := heldSite_pc s.B (k + 3 * s.A.base.length + 5 * s.A.log.length) (by omega) (by omega)
  have hC := heldSite_pc s.nA ((k + 3 * s.A.base.length + 5 * s.A.log.length) + 3 * s.B.base.length + 5 * s.B.log.length) (by omega) (by omega)
  have hD := heldSite_pc s.nB (((k + 3 * s.A.base.length + 5 * s.A.log.length) + 3 * s.B.base.length + 5 * s.B.log.length) + 3 * s.nA.base.length + 5 * s.nA.log.length) (by omega) (by omega)
  unfold ssA ssC mkSs mkS
  simp only
  unfold stA' stC at hA hB hC hD
  simp only at hA hB hC hD
  push_cast at hA hB hC hD ⊢
  have i1 : ltI ((k : Int) + 3 * (s.A.base.length : Int) + 5 * (s.A.log.length : Int)) 0 = false := ltI_f (by omega)
  have i2 : ltI ((k : Int) + 3 * (s.A.base.length : Int) + 5 * (s.A.log.length : Int) + 3 * (s.B.base.length : Int) + 5 * (s.B.log.length : Int)) 0 = false := ltI_f (by omega)
  have i3 : ltI ((k : Int) + 3 * (s.A.base.length : Int) + 5 * (s.A.log.length : Int) + 3 * (s.B.base.length : Int) + 5 * (s.B.log.length : Int) + 3 * (s.nA.base.length : Int) + 5 * (s.nA.log.length : Int)) 0 = false := ltI_f (by omega)
  have i4 : ltI ((k : Int) + 3 * (s.A.base.length : Int) + 5 * (s.A.log.length : Int) + 3 * (s.B.base.length : Int) + 5 * (s.B.log.length : Int) + 3 * (s.nA.base.length : Int) + 5 * (s.nA.log.length : Int) + 3 * (s.nB.base.length : Int) + 5 * (s.nB.log.length : Int)) 0 = false := ltI_f (by omega)
  refine pc_enter Tryz.func36 rfl rfl fun w0 fb => go_on ?_; (try simp only [Tryz.ntmps36, push_cast, simprocAttr])
  (refine at_call ?_; (try simp only [push_cast, simprocAttr]); refine rwc_v (hA) (go_on ?_); (try simp only [push_cast, simprocAttr]))
  (try simp only [i1, push_cast, simprocAttr])
  (refine at_call ?_; (try simp only [push_cast, simprocAttr]); refine rwc_v (hB) (go_on ?_); (try simp only [push_cast, simprocAttr]))
  (try simp only [i2, push_cast, simprocAttr])
  (refine at_call ?_; (try simp only [push_cast, simprocAttr]); refine rwc_v (hC) (go_on ?_); (try simp only [push_cast, simprocAttr]))
  (try simp only [i3, push_cast, simprocAttr])
  (refine at_call ?_; (try simp only [push_cast, simprocAttr]); refine rwc_v (hD) (go_on ?_); (try simp only [push_cast, simprocAttr]))
  (try simp only [i4, push_cast, simprocAttr])
  refine at_ret ?_; simp only [Tryz.results36, push_cast, simprocAttr]
  simp [vX]
theorem heldSession_H (a b : St) (p : Bool) (k : Nat) (h0 : 0 < k) (hk : endS b (endS a k) ≤ 4611686018427387904) : PC Tryz.prog 36 [.agg (ssH (mkS a k) (mkS b (endS a k)) p), iA k] (vI (endS b (endS a k) : Nat)) := by
  have hM := heldSite_k0 (endS b (endS a k)) (by unfold endS; omega) hk
  unfold st00 at hM
  unfold endS at *
  have hA := heldSite_pc a k h0 (by omega)
  have hB := heldSite_pc b (k + 3 * a.base.length + 5 * a.log.length) (by omega) (by omega)
  unfold ssH mkS
  simp only
  unfold stA' stC at hA hB
  simp only at hA hB
  push_cast at hA hB hM ⊢
  have i1 : ltI ((k : Int) + 3 * (a.base.length : Int) + 5 * (a.log.length : Int)) 0 = false := ltI_f (by omega)
  have i2 : ltI ((k : Int) + 3 * (a.base.length : Int) + 5 * (a.log.length : Int) + 3 * (b.base.length : Int) + 5 * (b.log.length : Int)) 0 = false := ltI_f (by omega)
  refine pc_enter Tryz.func36 rfl rfl fun w0 fb => go_on ?_; (try simp only [Tryz.ntmps36, push_cast, simprocAttr])
  (refine at_call ?_; (try simp only [push_cast, simprocAttr]); refine rwc_v (hA) (go_on ?_); (try simp only [push_cast, simprocAttr]))
  (try simp only [i1, push_cast, simprocAttr])
  (refine at_call ?_; (try simp only [push_cast, simprocAttr]); refine rwc_v (hB) (go_on ?_); (try simp only [push_cast, simprocAttr]))
  (try simp only [i2, push_cast, simprocAttr])
  (refine at_call ?_; (try simp only [push_cast, simprocAttr]); refine rwc_v (hM) (go_on ?_); (try simp only [push_cast, simprocAttr]))
  (try simp only [i2, push_cast, simprocAttr])
  (refine at_call ?_; (try simp only [push_cast, simprocAttr]); refine rwc_v (hM) (go_on ?_); (try simp only [push_cast, simprocAttr]))
  (try simp only [i2, push_cast, simprocAttr])
  refine at_ret ?_; simp only [Tryz.results36, push_cast, simprocAttr]
  simp [vX]
theorem SessionNew_o (a b : St) (ha : SmS a) (hb : SmS b) (x y : St) (h : sRun a b = some (x, y)) : PC Tryz.prog 33 [stA' a, stA' b] (rX (.tup [ssO4 a b false, bA true]) (rows4 a b)) := by
  have hR := SessionRun_d a b ha hb
  have h1 := clone_pc a ha.c1 ha.c2
  have h2 := clone_pc b hb.c1 hb.c2
  rw [h] at hR
  unfold srV at hR
  unfold stA' stC stO at *
  refine pc_enter Tryz.func33 rfl rfl fun w0 fb => go_on ?_; (try simp only [Tryz.ntmps33, push_cast, simprocAttr])
  ((try simp only [push_cast, simprocAttr]); refine at_share2 (by simp [isC2, isC]) (by first | rfl | simp [ren]) (hR) (go_on ?_); (try simp only [push_cast, simprocAttr]))
  (try simp only [Bool.not_true, push_cast, simprocAttr])
  refine at_draw rfl (by kernel_rfl) ?_; simp only [push_cast, simprocAttr]
  (refine at_callD (by simp [clB, idsL, idsA, hget]) ?_; (try simp only [push_cast, simprocAttr]); refine rcd_r h1 (by simp [flatV, flatL]) (flat_nc _ _) (by simp [frB, baseOf]) ?_; (try simp only [push_cast, simprocAttr]))
  (refine at_callD (by simp [clB, idsL, idsA, hget]) ?_; (try simp only [push_cast, simprocAttr]); refine rcd_r h2 (by simp [flatV, flatL]) (flat_nc _ _) (by simp [frB, baseOf]) ?_; (try simp only [push_cast, simprocAttr]))
  refine at_done (by kernel_rfl) (by kernel_rfl) (go_on ?_)
  (try simp only [push_cast, simprocAttr])
  refine at_ret ?_; simp only [Tryz.results33, push_cast, simprocAttr]
  simp [rX, ixOf, ssO4, rows4]
end Go.Proofs.YtdjglbedimpldaaGreatDoor
/-
  Walks: impl.SessionStep with rows of its own.
-/
namespace Go.Proofs.YtdjglbedimpldaaGreatDoor
open Go Go.RowKit Go.Proofs
attribute [local irreducible] RWp AW run kPe pe Kt effA gd gu br retR RDp runD kPeD brW gW effD
set_option maxRecDepth 100000
set_option maxHeartbeats 1000000
theorem SessionStep_o1 (s : Ss) (hs : SmSs s) (hp : s.plan = false) (x y : St) (h : sRun s.A s.B = some (x, y)) : PC Tryz.prog 14 [ssA s] (rX (.tup [ssO8 ⟨s.A, s.B, true, x, y⟩, bA true]) (rows8 ⟨s.A, s.B, true, x, y⟩)) := by
  have h1 := clone_pc s.A hs.A.c1 hs.A.c2
  have h2 := clone_pc s.B hs.B.c1 hs.B.c2
  have h3 := clone_pc s.nA hs.nA.c1 hs.nA.c2
  have h4 := clone_pc s.nB hs.nB.c1 hs.nB.c2
  have hR := SessionRun_o s.A s.B hs.A hs.B x y h
  unfold run4 rows4 at hR
  unfold stA' stC at *
  unfold stO at h1 h2 h3 h4
  unfold ssA ssC
  rw [hp]
  refine pc_enter Tryz.func14 rfl rfl fun w0 fb => go_on ?_; (try simp only [Tryz.ntmps14, push_cast, simprocAttr])
  refine at_draw rfl (by kernel_rfl) ?_; simp only [push_cast, simprocAttr]
  (refine at_callD (by simp [clB, idsL, idsA, hget]) ?_; (try simp only [push_cast, simprocAttr]); refine rcd_r h1 (by simp [flatV, flatL]) (flat_nc _ _) (by simp [frB, baseOf]) ?_; (try simp only [push_cast, simprocAttr]))
  (refine at_callD (by simp [clB, idsL, idsA, hget]) ?_; (try simp only [push_cast, simprocAttr]); refine rcd_r h2 (by simp [flatV, flatL]) (flat_nc _ _) (by simp [frB, baseOf]) ?_; (try simp only [push_cast, simprocAttr]))
  (refine at_callD (by simp [clB, idsL, idsA, hget]) ?_; (try simp only [push_cast, simprocAttr]); refine rcd_r h3 (by simp [flatV, flatL]) (flat_nc _ _) (by simp [frB, baseOf]) ?_; (try simp only [push_cast, simprocAttr]))
  (refine at_callD (by simp [clB, idsL, idsA, hget]) ?_; (try simp only [push_cast, simprocAttr]); refine rcd_r h4 (by simp [flatV, flatL]) (flat_nc _ _) (by simp [frB, baseOf]) ?_; (try simp only [push_cast, simprocAttr]))
  refine at_done (by kernel_rfl) (by kernel_rfl) (go_on ?_)
  (try simp only [Bool.not_false, push_cast, simprocAttr])
  (refine at_call ?_; (try simp only [push_cast, simprocAttr]); refine rwc_r (hR) (by simp [flatV, flatL]) (flat_4 _ _) (by simp [frB, baseOf]) (go_on ?_); (try simp only [push_cast, simprocAttr]))
  (try simp only [Bool.not_true, push_cast, simprocAttr])
  refine at_draw rfl (by kernel_rfl) ?_; simp only [push_cast, simprocAttr]
  refine at_done (by kernel_rfl) (by kernel_rfl) (go_on ?_)
  (try simp only [push_cast, simprocAttr])
  refine at_ret ?_; simp only [Tryz.results14, push_cast, simprocAttr]
  simp [rX, ixOf, ssO8, rows8]
theorem SessionStep_oA (s : Ss) (hs : SmSs s) (hp : s.plan = true) (hn : s.A ≠ s.nA) : PC Tryz.prog 14 [ssA s] (rX (.tup [ssO8 ⟨s.nA, s.B, true, s.nA, s.nB⟩, bA true]) (rows8 ⟨s.nA, s.B, true, s.nA, s.nB⟩)) := by
  have h1 := clone_pc s.A hs.A.c1 hs.A.c2
  have h2 := clone_pc s.B hs.B.c1 hs.B.c2
  have h3 := clone_pc s.nA hs.nA.c1 hs.nA.c2
  have h4 := clone_pc s.nB hs.nB.c1 hs.nB.c2
  have hS := same_pc s.A s.nA hs.A hs.nA
  rw [decide_eq_false hn] at hS
  unfold stA' stC at *
  unfold stO at h1 h2 h3 h4
  unfold ssA ssC
  rw [hp]
  refine pc_enter Tryz.func14 rfl rfl fun w0 fb => go_on ?_; (try simp only [Tryz.ntmps14, push_cast, simprocAttr])
  refine at_draw rfl (by kernel_rfl) ?_; simp only [push_cast, simprocAttr]
  (refine at_callD (by simp [clB, idsL, idsA, hget]) ?_; (try simp only [push_cast, simprocAttr]); refine rcd_r h1 (by simp [flatV, flatL]) (flat_nc _ _) (by simp [frB, baseOf]) ?_; (try simp only [push_cast, simprocAttr]))
  (refine at_callD (by simp [clB, idsL, idsA, hget]) ?_; (try simp only [push_cast, simprocAttr]); refine rcd_r h2 (by simp [flatV, flatL]) (flat_nc _ _) (by simp [frB, baseOf]) ?_; (try simp only [push_cast, simprocAttr]))
  (refine at_callD (by simp [clB, idsL, idsA, hget]) ?_; (try simp only [push_cast, simprocAttr]); refine rcd_r h3 (by simp [flatV, flatL]) (flat_nc _ _) (by simp [frB, baseOf]) ?_; (try simp only [push_cast, simprocAttr]))
  (refine at_callD (by simp [clB, idsL, idsA, hget]) ?_; (try simp only [push_cast, simprocAttr]); refine rcd_r h4 (by simp [flatV, flatL]) (flat_nc _ _) (by simp [frB, baseOf]) ?_; (try simp only [push_cast, simprocAttr]))
  refine at_done (by kernel_rfl) (by kernel_rfl) (go_on ?_)
  (try simp only [Bool.not_true, push_cast, simprocAttr])
  (refine at_call ?_; (try simp only [push_cast, simprocAttr]); refine rwc_v (hS) (go_on ?_); (try simp only [push_cast, simprocAttr]))
  (try simp only [Bool.not_false, push_cast, simprocAttr])
  (refine at_call ?_; (try simp only [push_cast, simprocAttr]); refine rwc_r (h3) (by simp [flatV, flatL]) (flat_nc _ _) (by simp [frB, baseOf]) (go_on ?_); (try simp only [push_cast, simprocAttr]))
  (try simp only [push_cast, simprocAttr])
  refine at_ret ?_; simp only [Tryz.results14, push_cast, simprocAttr]
  simp [rX, ixOf, ssO8, rows8]
theorem SessionStep_oB (s : Ss) (hs : SmSs s) (hp : s.plan = true) (he : s.A = s.nA) (hn : s.B ≠ s.nB) : PC Tryz.prog 14 [ssA s] (rX (.tup [ssO8 ⟨s.A, s.nB, true, s.nA, s.nB⟩, bA true]) (rows8 ⟨s.A, s.nB, true, s.nA, s.nB⟩)) := by
  have h1 := clone_pc s.A hs.A.c1 hs.A.c2
  have h2 := clone_pc s.B hs.B.c1 hs.B.c2
  have h3 := clone_pc s.nA hs.nA.c1 hs.nA.c2
  have h4 := clone_pc s.nB hs.nB.c1 hs.nB.c2
  have hS := same_pc s.A s.nA hs.A hs.nA
  have hT := same_pc s.B s.nB hs.B hs.nB
  rw [decide_eq_true he] at hS
  rw [decide_eq_false hn] at hT
  unfold stA' stC at *
  unfold stO at h1 h2 h3 h4
  unfold ssA ssC
  rw [hp]
  refine pc_enter Tryz.func14 rfl rfl fun w0 fb => go_on ?_; (try simp only [Tryz.ntmps14, push_cast, simprocAttr])
  refine at_draw rfl (by kernel_rfl) ?_; simp only [push_cast, simprocAttr]
  (refine at_callD (by simp [clB, idsL, idsA, hget]) ?_; (try simp only [push_cast, simprocAttr]); refine rcd_r h1 (by simp [flatV, flatL]) (flat_nc _ _) (by simp [frB, baseOf]) ?_; (try simp only [push_cast, simprocAttr]))
  (refine at_callD (by simp [clB, idsL, idsA, hget]) ?_; (try simp only [push_cast, simprocAttr]); refine rcd_r h2 (by simp [flatV, flatL]) (flat_nc _ _) (by simp [frB, baseOf]) ?_; (try simp only [push_cast, simprocAttr]))
  (refine at_callD (by simp [clB, idsL, idsA, hget]) ?_; (try simp only [push_cast, simprocAttr]); refine rcd_r h3 (by simp [flatV, flatL]) (flat_nc _ _) (by simp [frB, baseOf]) ?_; (try simp only [push_cast, simprocAttr]))
  (refine at_callD (by simp [clB, idsL, idsA, hget]) ?_; (try simp only [push_cast, simprocAttr]); refine rcd_r h4 (by simp [flatV, flatL]) (flat_nc _ _) (by simp [frB, baseOf]) ?_; (try simp only [push_cast, simprocAttr]))
  refine at_done (by kernel_rfl) (by kernel_rfl) (go_on ?_)
  (try simp only [Bool.not_true, push_cast, simprocAttr])
  (refine at_call ?_; (try simp only [push_cast, simprocAttr]); refine rwc_v (hS) (go_on ?_); (try simp only [push_cast, simprocAttr]))
  (try simp only [Bool.not_true, push_cast, simprocAttr])
  (refine at_call ?_; (try simp only [push_cast, simprocAttr]); refine rwc_v (hT) (go_on ?_); (try simp only [push_cast, simprocAttr]))
  (try simp only [Bool.not_false, push_cast, simprocAttr])
  (refine at_call ?_; (try simp only [push_cast, simprocAttr]); refine rwc_r (h4) (by simp [flatV, flatL]) (flat_nc _ _) (by simp [frB, baseOf]) (go_on ?_); (try simp only [push_cast, simprocAttr]))
  (try simp only [push_cast, simprocAttr])
  refine at_ret ?_; simp only [Tryz.results14, push_cast, simprocAttr]
  simp [rX, ixOf, ssO8, rows8]
theorem SessionStep_oZ (s : Ss) (hs : SmSs s) (hp : s.plan = true) (he : s.A = s.nA) (hn : s.B = s.nB) : PC Tryz.prog 14 [ssA s] (rX (.tup [ssO4 s.A s.B false, bA true]) (rows4 s.A s.B)) := by
  have h1 := clone_pc s.A hs.A.c1 hs.A.c2
  have h2 := clone_pc s.B hs.B.c1 hs.B.c2
  have h3 := clone_pc s.nA hs.nA.c1 hs.nA.c2
  have h4 := clone_pc s.nB hs.nB.c1 hs.nB.c2
  have hS := same_pc s.A s.nA hs.A hs.nA
  have hT := same_pc s.B s.nB hs.B hs.nB
  rw [decide_eq_true he] at hS
  rw [decide_eq_true hn] at hT
  unfold stA' stC at *
  unfold stO at h1 h2 h3 h4
  unfold ssA ssC
  rw [hp]
  refine pc_enter Tryz.func14 rfl rfl fun w0 fb => go_on ?_; (try simp only [Tryz.ntmps14, push_cast, simprocAttr])
  refine at_draw rfl (by kernel_rfl) ?_; simp only [push_cast, simprocAttr]
  (refine at_callD (by simp [clB, idsL, idsA, hget]) ?_; (try simp only [push_cast, simprocAttr]); refine rcd_r h1 (by simp [flatV, flatL]) (flat_nc _ _) (by simp [frB, baseOf]) ?_; (try simp only [push_cast, simprocAttr]))
  (refine at_callD (by simp [clB, idsL, idsA, hget]) ?_; (try simp only [push_cast, simprocAttr]); refine rcd_r h2 (by simp [flatV, flatL]) (flat_nc _ _) (by simp [frB, baseOf]) ?_; (try simp only [push_cast, simprocAttr]))
  (refine at_callD (by simp [clB, idsL, idsA, hget]) ?_; (try simp only [push_cast, simprocAttr]); refine rcd_r h3 (by simp [flatV, flatL]) (flat_nc _ _) (by simp [frB, baseOf]) ?_; (try simp only [push_cast, simprocAttr]))
  (refine at_callD (by simp [clB, idsL, idsA, hget]) ?_; (try simp only [push_cast, simprocAttr]); refine rcd_r h4 (by simp [flatV, flatL]) (flat_nc _ _) (by simp [frB, baseOf]) ?_; (try simp only [push_cast, simprocAttr]))
  refine at_done (by kernel_rfl) (by kernel_rfl) (go_on ?_)
  (try simp only [Bool.not_true, push_cast, simprocAttr])
  (refine at_call ?_; (try simp only [push_cast, simprocAttr]); refine rwc_v (hS) (go_on ?_); (try simp only [push_cast, simprocAttr]))
  (try simp only [Bool.not_true, push_cast, simprocAttr])
  (refine at_call ?_; (try simp only [push_cast, simprocAttr]); refine rwc_v (hT) (go_on ?_); (try simp only [push_cast, simprocAttr]))
  (try simp only [Bool.not_true, push_cast, simprocAttr])
  refine at_ret ?_; simp only [Tryz.results14, push_cast, simprocAttr]
  simp [rX, ixOf, ssO4, rows4]
end Go.Proofs.YtdjglbedimpldaaGreatDoor
/-
  The abstract machine: a slice that is nil, read as an empty one, within rows.
-/
namespace Go.Proofs.YtdjglbedimpldaaGreatDoor
open Go Go.RowKit

def nlv (x y : AV) : Prop := x = y ∨ (x = .v (.slice none 0 0) ∧ ∃ n, y = .sl n [])
def nlC : List AV → List AV → Prop
  | [], [] => True
  | x :: l, y :: l' => nlv x y ∧ nlC l l'
  | _, _ => False
def nlE : List (List AV) → List (List AV) → Prop
  | [], [] => True
  | x :: l, y :: l' => nlC x y ∧ nlE l l'
  | _, _ => False
theorem nlC_get : ∀ {l l' : List AV}, nlC l l' → l.length = l'.length ∧ ∀ (j : Nat) y, l'[j]? = some y → ∃ x, l[j]? = some x ∧ nlv x y
  | [], [], _ => ⟨rfl, fun j y h => by simp at h⟩
  | x :: l, y :: l', ⟨h1, h2⟩ => by
    obtain ⟨g1, g2⟩ := nlC_get h2
    refine ⟨by simp [g1], fun j z hz => ?_⟩
    cases j with
    | zero => simp at hz; subst hz; exact ⟨x, rfl, h1⟩
    | succ j => exact g2 j z (by simpa using hz)
  | [], _ :: _, h => h.elim
  | _ :: _, [], h => h.elim
theorem nlE_get : ∀ {l l' : List (List AV)}, nlE l l' → l.length = l'.length ∧ ∀ (j : Nat) y, l'[j]? = some y → ∃ x, l[j]? = some x ∧ nlC x y
  | [], [], _ => ⟨rfl, fun j y h => by simp at h⟩
  | x :: l, y :: l', ⟨h1, h2⟩ => by
    obtain ⟨g1, g2⟩ := nlE_get h2
    refine ⟨by simp [g1], fun j z hz => ?_⟩
    cases j with
    | zero => simp at hz; subst hz; exact ⟨x, rfl, h1⟩
    | succ j => exact g2 j z (by simpa using hz)
  | [], _ :: _, h => h.elim
  | _ :: _, [], h => h.elim
def rowN2 (row row' : Row) : Prop := row'.E = row.E ∧ row'.sz = row.sz ∧ nlE row.es row'.es ∧ (row'.cl = true → (row.cl || row.es.all (·.all isC)) = true)
def leN (h : Hp) : Hp → Prop
  | [] => True
  | (r, row') :: l => (match hget h r with | some row => rowN2 row row' | none => False) ∧ leN h l
theorem leN_get {h : Hp} : ∀ {h' : Hp}, leN h h' → ∀ r row', hget h' r = some row' → ∃ row, hget h r = some row ∧ rowN2 row row'
  | [], _, r, row', hr => by simp [hget] at hr
  | (q, row0) :: h', hl, r, row', hr => by
    obtain ⟨h1, h2⟩ := hl
    simp only [hget] at hr
    split at hr
    · rename_i hq
      cases hr
      subst hq
      cases hg : hget h q with
      | none => rw [hg] at h1; exact h1.elim
      | some row => rw [hg] at h1; exact ⟨row, rfl, h1⟩
    · exact leN_get h2 r row' hr
theorem G.sub2 {h h' : Hp} {loc : Loc} {w : World} {x : AV} {u : Value} (hg : G h loc w x u) (hs : ∀ r ∈ idsA x, inH h' r = true) (hh : leN h h') (hC : ∀ x u, C (Live h loc) 0 w x u → C (Live h' loc) 0 w x u) : G h' loc w x u := by
  have hrow : ∀ r row, inH h' r = true → hget h r = some row → ∃ row', hget h' r = some row' ∧ rowN2 row row' := fun r row hi hr => by
    unfold inH at hi
    split at hi
    · rename_i row' hr'
      obtain ⟨row2, h1, h2⟩ := leN_get hh r row' hr'
      rw [hr] at h1
      cases h1
      exact ⟨row', hr', h2⟩
    · cases hi
  induction hg with
  | cl hc => exact .cl (hC _ _ hc)
  | @o r n row b c hr hl hn =>
    obtain ⟨row', h1, h2, h3, h4, _⟩ := hrow r row (hs r (by simp [idsA])) hr
    exact .o h1 hl (by rw [← (nlE_get h4).1]; exact hn)
  | @onil r row hr hl =>
    obtain ⟨row', h1, _⟩ := hrow r row (hs r (by simp [idsA])) hr
    exact .onil h1 hl
  | @p r k off row b c hr hl =>
    obtain ⟨row', h1, h2, h3, h4, _⟩ := hrow r row (hs r (by simp [idsA])) hr
    rw [← h3]
    exact .p h1 hl
  | @q r lo z n row b c A c' hr hl hn =>
    obtain ⟨row', h1, h2, h3, h4, _⟩ := hrow r row (hs r (by simp [idsA])) hr
    exact .q h1 hl hn
  | fn vs hvs hg ih => exact .fn vs hvs fun j a ha => ih j a ha fun r hr => hs r (by simp only [idsA]; exact idsL_mem ha r hr)
  | agg vs hvs hg ih => exact .agg vs hvs fun j a ha => ih j a ha fun r hr => hs r (by simp only [idsA]; exact idsL_mem ha r hr)
  | tup vs hvs hg ih => exact .tup vs hvs fun j a ha => ih j a ha fun r hr => hs r (by simp only [idsA]; exact idsL_mem ha r hr)
theorem wk_nil {s s' : AS} (ht : leL s.t s'.t) (hh : leN s.h s'.h) (hi : (idsL s'.t).all (inH s'.h) = true) (hr : idsR s'.h s'.h = true) : Wk s s' := by
  intro w0 lent loc a w hR
  obtain ⟨g1, g2⟩ := leL_get ht
  have hlive : ∀ b, Live s'.h loc b → Live s.h loc b := by
    rintro b (⟨r, row', c, h1, h2⟩ | hf)
    · obtain ⟨row, h3, _⟩ := leN_get hh r row' h1
      exact .inl ⟨r, row, c, h3, h2⟩
    · exact .inr hf
  have hC : ∀ x u, C (Live s.h loc) 0 w x u → C (Live s'.h loc) 0 w x u := fun x u hx => hx.mono (Nat.le_refl _) (Nat.le_refl _) fun b _ _ hnl => ⟨fun h => hnl (hlive b h), rfl⟩
  refine ⟨loc, hR.tsz.trans g1, fun i y hy => ?_, hR.df, fun r row' h1 => ?_, fun r r' row row' b c c' h1 h2 h3 h4 => ?_, fun r row' b c h1 h2 => ?_, hR.os, hR.tape, hR.output, hR.size, hR.keep, hR.fbe, hR.fbl, hR.pn, hR.pl⟩
  · rcases g2 i y hy with rfl | h
    · exact .cl .any
    · exact (hR.tm i y h).sub2 (fun r hr => List.all_eq_true.1 hi r (idsL_mem hy r hr)) hh hC
  · obtain ⟨row, h2, e1, e2, e3, e4⟩ := leN_get hh r row' h1
    obtain ⟨q1, xs, q2, q3⟩ := hR.rw r row h2
    obtain ⟨f1, f2⟩ := nlE_get e3
    refine ⟨fun k e he => ?_, xs, ?_, fun k e j y he hy => ?_⟩
    · obtain ⟨e0, f3, f4⟩ := f2 k e he
      rw [e2, ← (nlC_get f4).1]; exact q1 k e0 f3
    · rw [e1, e2, ← f1]; exact q2
    · obtain ⟨e0, f3, f4⟩ := f2 k e he
      obtain ⟨x, f5, f6⟩ := (nlC_get f4).2 j y hy
      obtain ⟨u, p1, p2, p3, p4⟩ := q3 k e0 j x f3 f5
      refine ⟨u, by rw [e2]; exact p1, p2, ?_, fun hc => ?_⟩
      · rcases f6 with rfl | ⟨rfl, n, rfl⟩
        · rcases idsR_get hr r row' h1 with hc | hc
          · have := e4 hc
            rw [Bool.or_eq_true] at this
            rcases this with h | h
            · exact .cl (hC _ _ (p4 h))
            · exact .cl (hC _ _ (isC_ok p3 (List.all_eq_true.1 (List.all_eq_true.1 h e0 (List.mem_of_getElem? f3)) x (List.mem_of_getElem? f5))))
          · refine p3.sub2 (fun r' hr' => ?_) hh hC
            have := hc e (List.mem_of_getElem? he)
            exact List.all_eq_true.1 this r' (idsL_mem hy r' hr')
        · have := G.nil2 (n := n) p3
          rw [p3.v_inv]
          exact .cl (.nilsl _)
      · rcases f6 with rfl | ⟨rfl, n, rfl⟩
        · have := e4 hc
          rw [Bool.or_eq_true] at this
          rcases this with h | h
          · exact hC _ _ (p4 h)
          · exact hC _ _ (isC_ok p3 (List.all_eq_true.1 (List.all_eq_true.1 h e0 (List.mem_of_getElem? f3)) x (List.mem_of_getElem? f5)))
        · rw [p3.v_inv]
          exact .nilsl _
  · obtain ⟨row1, g3, _⟩ := leN_get hh r row h1
    obtain ⟨row2, g4, _⟩ := leN_get hh r' row' h2
    exact hR.inj r r' row1 row2 b c c' g3 g4 h3 h4
  · obtain ⟨row1, g3, _⟩ := leN_get hh r row' h1
    exact hR.own r row1 b c g3 h2

end Go.Proofs.YtdjglbedimpldaaGreatDoor
/-
  Walks: events: impl.roundValid.
-/
namespace Go.Proofs.YtdjglbedimpldaaGreatDoor
open Go Go.RowKit Go.Proofs
def evC (e : Ev) : List AV := [iA e.k, sA e.c.p, iA e.c.a.k, iA e.c.a.v, iA e.c.b.k, iA e.c.b.v]
abbrev evsA (l : List Ev) : AV := .sl 6 (l.map evC)
structure SmE (l : List Ev) : Prop where
  n : l.length < 4294967280
  p : ∀ e ∈ l, e.c.p.length < 4294967281
theorem evV_1 {e : Ev} (h : e.k = 1) : evV e = cmV e.c := by simp [evV, h]
theorem evV_2 {e : Ev} (h : e.k = 2) : evV e = cmV e.c := by simp [evV, h]
theorem evV_3 {e : Ev} (h : e.k = 3) : evV e = decide (e.c = cm0) := by simp [evV, h]
theorem evV_n {e : Ev} (h1 : e.k ≠ 1) (h2 : e.k ≠ 2) (h3 : e.k ≠ 3) : evV e = false := by simp [evV, h1, h2, h3]
attribute [local irreducible] RWp AW run kPe pe Kt effA gd gu br retR RDp runD kPeD brW gW effD
set_option maxRecDepth 100000
theorem roundValid_pc (t : List Nd) (ht : SmT t) (l : List Ev) (hl : SmE l) : PC Tryz.prog 74 [ndA t, evsA l] (vB (rdV t l)) := by
  have hT := TreeValid_pc t ht
  have hn := hl.n
  refine pc_enter Tryz.func74 rfl rfl fun w0 fb => go_on ?_; (try simp only [Tryz.ntmps74, push_cast, simprocAttr])
  refine at_loop (X := Nat) (fun k => [(9, iA k)]) (fun _ => []) (fun k => k ≤ l.length ∧ l.all evV = (l.drop k).all evV) (fun k => l.length - k) 0 ⟨Nat.zero_le _, rfl⟩ ?_ ?_
  · (refine wk_ok ?_ ?_ ?_ ?_ <;> simp [leL, leH, idsL, idsA, idsR, inH, hget, sameRow, upA, hvA, dsts, dstO, setA_0, setA_1, setA_8, List.append, List.cons_append, List.nil_append])
  · rintro k ⟨q1, q2⟩
    simp only [upA, hvA, dsts, dstO, setA_0, setA_1, setA_8, List.append, List.cons_append, List.nil_append]
    refine go_on ?_
    (try simp only [push_cast, simprocAttr])
    refine at_b (fun hg => ?_) (fun hg => ?_)
    · have hlt := lt_tt hg
      obtain ⟨e, he⟩ := get_of_lt hlt
      have i1 := ix_n he
      have i2 := map_get evC he
      simp only [evC] at i2
      have hp := hl.p e (List.mem_of_getElem? he)
      have hC := CommandValid_pc e.c hp
      unfold cmdA cmC at hC
      rw [drop_of_get he] at q2
      simp only [List.all_cons] at q2
      have w1 := wr ((k : Int) + 1) (by omega)
      (try simp only [hg, i1, i2, push_cast, simprocAttr])
      by_cases h1 : e.k = 1
      · have j1 : eqI e.k 1 = true := eqI_t h1
        rw [evV_1 h1] at q2
        (try simp only [j1, push_cast, simprocAttr])
        (refine at_call ?_; (try simp only [push_cast, simprocAttr]); refine rwc_v (hC) (go_on ?_); (try simp only [push_cast, simprocAttr]))
        cases hv : cmV e.c with
        | false =>
          (try simp only [hv, Bool.not_false, push_cast, simprocAttr])
          refine at_ret ?_; simp only [Tryz.results74, push_cast, simprocAttr]
          simp [vX, rdV, q2, hv]
        | true =>
          (try simp only [hv, Bool.not_true, w1, push_cast, simprocAttr])
          refine at_fin ⟨k + 1, ⟨by omega, by rw [q2, hv]; rfl⟩, by omega, ?_⟩
          (refine wk_ok ?_ ?_ ?_ ?_ <;> simp [leL, leH, idsL, idsA, idsR, inH, hget, sameRow, upA, hvA, dsts, dstO, setA_0, setA_1, setA_8, List.append, List.cons_append, List.nil_append])
      · have j1 : eqI e.k 1 = false := eqI_f h1
        by_cases h2 : e.k = 2
        · have j2 : eqI e.k 2 = true := eqI_t h2
          rw [evV_2 h2] at q2
          (try simp only [j1, j2, push_cast, simprocAttr])
          (refine at_call ?_; (try simp only [push_cast, simprocAttr]); refine rwc_v (hC) (go_on ?_); (try simp only [push_cast, simprocAttr]))
          cases hv : cmV e.c with
          | false =>
            (try simp only [hv, Bool.not_false, push_cast, simprocAttr])
            refine at_ret ?_; simp only [Tryz.results74, push_cast, simprocAttr]
            simp [vX, rdV, q2, hv]
          | true =>
            (try simp only [hv, Bool.not_true, w1, push_cast, simprocAttr])
            refine at_fin ⟨k + 1, ⟨by omega, by rw [q2, hv]; rfl⟩, by omega, ?_⟩
            (refine wk_ok ?_ ?_ ?_ ?_ <;> simp [leL, leH, idsL, idsA, idsR, inH, hget, sameRow, upA, hvA, dsts, dstO, setA_0, setA_1, setA_8, List.append, List.cons_append, List.nil_append])
        · have j2 : eqI e.k 2 = false := eqI_f h2
          by_cases h3 : e.k = 3
          · have j3 : eqI e.k 3 = true := eqI_t h3
            rw [evV_3 h3] at q2
            (try simp only [j1, j2, j3, ctg, cth, cmg, cmh, push_cast, simprocAttr])
            have e0 : (decide (e.c.p = []) && ((eqI e.c.a.k 0 && eqI e.c.a.v 0) && (eqI e.c.b.k 0 && eqI e.c.b.v 0))) = decide (e.c = cm0) := cm_eq e.c cm0
            cases hv : decide (e.c = cm0) with
            | false =>
              (try simp only [e0, hv, Bool.not_false, push_cast, simprocAttr])
              refine at_ret ?_; simp only [Tryz.results74, push_cast, simprocAttr]
              simp only [hv, Bool.false_and] at q2
              simp [vX, rdV, q2]
            | true =>
              (try simp only [e0, hv, Bool.not_true, w1, push_cast, simprocAttr])
              refine at_fin ⟨k + 1, ⟨by omega, by rw [q2, hv]; rfl⟩, by omega, ?_⟩
              (refine wk_ok ?_ ?_ ?_ ?_ <;> simp [leL, leH, idsL, idsA, idsR, inH, hget, sameRow, upA, hvA, dsts, dstO, setA_0, setA_1, setA_8, List.append, List.cons_append, List.nil_append])
          · have j3 : eqI e.k 3 = false := eqI_f h3
            rw [evV_n h1 h2 h3] at q2
            (try simp only [j1, j2, j3, push_cast, simprocAttr])
            refine at_ret ?_; simp only [Tryz.results74, push_cast, simprocAttr]
            simp [vX, rdV, q2]
    · have h3 := lt_ff hg
      rw [List.drop_of_length_le h3] at q2
      have e1 : rdV t l = (tV t && leI (l.length : Int) 24) := by
        unfold rdV leI
        rw [q2]
        cases tV t <;> simp <;> omega
      (try simp only [hg, push_cast, simprocAttr])
      (refine at_call ?_; (try simp only [push_cast, simprocAttr]); refine rwc_v (hT) (go_on ?_); (try simp only [push_cast, simprocAttr]))
      cases hv : tV t with
      | false =>
        (try simp only [hv, push_cast, simprocAttr])
        refine at_ret ?_; simp only [Tryz.results74, push_cast, simprocAttr]
        simp [vX, e1, hv]
      | true =>
        (try simp only [hv, push_cast, simprocAttr])
        refine at_ret ?_; simp only [Tryz.results74, push_cast, simprocAttr]
        simp [vX, e1, hv]
end Go.Proofs.YtdjglbedimpldaaGreatDoor
/-
  Walks: impl.play.
-/
namespace Go.Proofs.YtdjglbedimpldaaGreatDoor
open Go Go.RowKit Go.Proofs
def pl (t : List Nd) (l : List Ev) : St × St × List Int := play 0 ⟨0, t, []⟩ ⟨0, t, []⟩ l
structure PJ (t : List Nd) (l : List Ev) (k : Nat) (a b : St) (ds : List Int) : Prop where
  hk : k ≤ l.length
  sa : SmS a
  sb : SmS b
  n : ds.length ≤ k
  e : pl t l = ((play k a b (l.drop k)).1, (play k a b (l.drop k)).2.1, ds ++ (play k a b (l.drop k)).2.2)
theorem PJ.init {t : List Nd} (ht : SmT2 t) (l : List Ev) : PJ t l 0 ⟨0, t, []⟩ ⟨0, t, []⟩ [] :=
  ⟨Nat.zero_le _, ⟨ht, st0_sm.l⟩, ⟨ht, st0_sm.l⟩, Nat.le_refl _, by simp [pl]⟩
theorem PJ.step {t : List Nd} {l : List Ev} {k : Nat} {a b : St} {ds : List Int} (h : PJ t l k a b ds) {e : Ev} (he : l[k]? = some e) {a' b' : St} {ok : Bool} (hr : evDo a b e = (a', b', ok)) (ha : SmS a') (hb : SmS b') :
    PJ t l (k + 1) a' b' (if ok then ds ++ [(k : Int)] else ds) := by
  have hk := lt_of_some he
  refine ⟨hk, ha, hb, ?_, ?_⟩
  · have := h.n
    split
    · simp; omega
    · omega
  · rw [h.e, drop_of_get he]
    simp only [play, hr]
    have hc : ((k + 1 : Nat) : Int) = (k : Int) + 1 := by simp
    rw [hc]
    cases ok <;> simp
theorem PJ.done {t : List Nd} {l : List Ev} {k : Nat} {a b : St} {ds : List Int} (h : PJ t l k a b ds) (hk : l.length ≤ k) : pl t l = (a, b, ds) := by
  rw [h.e, List.drop_of_length_le hk]
  simp [play]
theorem evDo_1 {a b : St} {e : Ev} (h : e.k = 1) : evDo a b e = ((siteDo a e.c).1, b, (siteDo a e.c).2) := by simp [evDo, h]
theorem evDo_2 {a b : St} {e : Ev} (h : e.k = 2) : evDo a b e = (a, (siteDo b e.c).1, (siteDo b e.c).2) := by simp [evDo, h]
theorem evDo_n {a b : St} {e : Ev} (h1 : e.k ≠ 1) (h2 : e.k ≠ 2) (hr : sRun a b = none) : evDo a b e = (a, b, false) := by simp [evDo, h1, h2, hr]
theorem evDo_s {a b x y : St} {e : Ev} (h1 : e.k ≠ 1) (h2 : e.k ≠ 2) (hr : sRun a b = some (x, y)) : evDo a b e = (x, y, true) := by simp [evDo, h1, h2, hr]
attribute [local irreducible] RWp AW run kPe pe Kt effA gd gu br retR RDp runD kPeD brW gW effD
set_option maxRecDepth 100000
theorem play_d (t : List Nd) (ht : SmT2 t) (l : List Ev) (hl : SmE l) : PC Tryz.prog 75 [ndA t, evsA l] (vX (.tup [stA' (pl t l).1, stA' (pl t l).2.1, .sl 1 ((pl t l).2.2.map inC)])) := by
  have hT := cloneTree_d t (by have := ht.n; omega)
  have hn := hl.n
  unfold stA' stC
  refine PC.toF ?_
  refine pc_enter Tryz.func75 rfl rfl fun w0 fb => go_on ?_; (try simp only [Tryz.ntmps75, push_cast, simprocAttr])
  ((try simp only [push_cast, simprocAttr]); refine at_share2 (by simp [isC2, isC]) (by first | rfl | simp [ren]) (hT) (go_on ?_); (try simp only [push_cast, simprocAttr]))
  ((try simp only [push_cast, simprocAttr]); refine at_share2 (by simp [isC2, isC]) (by first | rfl | simp [ren]) (hT) (go_on ?_); (try simp only [push_cast, simprocAttr]))
  refine at_loop (X := Nat × St × St × List Int) (fun x => [(9, .o 9 x.2.2.2.length), (23, iA x.1)]) (fun x => [(4, ⟨26, 3, [[iA 0, .v (.slice none 0 0), .v (.slice none 0 0)]], true⟩), (5, ⟨26, 3, [[iA 0, .v (.slice none 0 0), .v (.slice none 0 0)]], true⟩), (6, ⟨3, 1, [], true⟩), (7, ⟨26, 3, [[iA x.2.1.ep, ndA x.2.1.base, cmA x.2.1.log]], true⟩), (8, ⟨26, 3, [[iA x.2.2.1.ep, ndA x.2.2.1.base, cmA x.2.2.1.log]], true⟩), (9, ⟨3, 1, x.2.2.2.map inC, true⟩)]) (fun x => PJ t l x.1 x.2.1 x.2.2.1 x.2.2.2) (fun x => l.length - x.1) (0, ⟨0, t, []⟩, ⟨0, t, []⟩, []) (PJ.init ht l) ?_ ?_
  · refine wk_nil ?_ ?_ ?_ ?_ <;> simp [leL, leN, rowN2, nlE, nlC, nlv, idsL, idsA, idsR, inH, hget, upA, hvA, dsts, dstO, setA_0, setA_1, setA_8, List.append, List.cons_append, List.nil_append]
  · rintro ⟨k, a, b, ds⟩ hJ
    simp only [upA, hvA, dsts, dstO, setA_0, setA_1, setA_8, List.append, List.cons_append, List.nil_append]
    refine go_on ?_
    (try simp only [push_cast, simprocAttr])
    refine at_b (fun hg => ?_) (fun hg => ?_)
    · have hlt := lt_tt hg
      obtain ⟨e, he⟩ := get_of_lt hlt
      have i1 := ix_n he
      have i2 := map_get evC he
      simp only [evC] at i2
      have hp := hl.p e (List.mem_of_getElem? he)
      have w1 := wr ((k : Int) + 1) (by omega)
      have hdn : ds.length ≤ k := hJ.n
      have hmap : ds.map inC ++ [[iA (k : Int)]] = (ds ++ [(k : Int)]).map inC := by rw [List.map_append]; rfl
      (try simp only [hg, i1, i2, push_cast, simprocAttr])
      by_cases h1 : e.k = 1
      · have j1 : eqI e.k 1 = true := eqI_t h1
        have hS := SiteDo_d a hJ.sa e.c hp
        have hsm := siteDo_sm hJ.sa hp (s := a)
        obtain ⟨o, ok, hoo⟩ : ∃ o ok, siteDo a e.c = (o, ok) := ⟨_, _, rfl⟩
        have hJ2 := hJ.step he (evDo_1 h1) (by rw [hoo]; rw [hoo] at hsm; exact hsm) hJ.sb
        rw [hoo] at hS hJ2
        simp only at hS hJ2
        unfold stA' stC cmdA cmC at hS
        (try simp only [j1, push_cast, simprocAttr])
        ((try simp only [push_cast, simprocAttr]); refine at_share2 (by simp [isC2, isC]) (by first | rfl | simp [ren]) (hS) (go_on ?_); (try simp only [push_cast, simprocAttr]))
        cases ok with
        | false =>
          (try simp only [w1, push_cast, simprocAttr])
          refine at_fin ⟨(k + 1, o, b, ds), hJ2, by dsimp only; omega, ?_⟩
          (refine wk_ok ?_ ?_ ?_ ?_ <;> simp [leL, leH, idsL, idsA, idsR, inH, hget, sameRow, upA, hvA, dsts, dstO, setA_0, setA_1, setA_8, List.append, List.cons_append, List.nil_append])
        | true =>
          (try simp only [w1, push_cast, simprocAttr])
          refine at_chk (by omega) ?_
          (try simp only [w1, hmap, push_cast, simprocAttr])
          refine at_fin ⟨(k + 1, o, b, ds ++ [(k : Int)]), hJ2, by dsimp only; omega, ?_⟩
          simp only [List.length_append, List.length_cons, List.length_nil]
          (refine wk_ok ?_ ?_ ?_ ?_ <;> simp [leL, leH, idsL, idsA, idsR, inH, hget, sameRow, upA, hvA, dsts, dstO, setA_0, setA_1, setA_8, List.append, List.cons_append, List.nil_append])
      · have j1 : eqI e.k 1 = false := eqI_f h1
        by_cases h2 : e.k = 2
        · have j2 : eqI e.k 2 = true := eqI_t h2
          have hS := SiteDo_d b hJ.sb e.c hp
          have hsm := siteDo_sm hJ.sb hp (s := b)
          obtain ⟨o, ok, hoo⟩ : ∃ o ok, siteDo b e.c = (o, ok) := ⟨_, _, rfl⟩
          have hJ2 := hJ.step he (evDo_2 h2) hJ.sa (by rw [hoo]; rw [hoo] at hsm; exact hsm)
          rw [hoo] at hS hJ2
          simp only at hS hJ2
          unfold stA' stC cmdA cmC at hS
          (try simp only [j1, j2, push_cast, simprocAttr])
          ((try simp only [push_cast, simprocAttr]); refine at_share2 (by simp [isC2, isC]) (by first | rfl | simp [ren]) (hS) (go_on ?_); (try simp only [push_cast, simprocAttr]))
          cases ok with
          | false =>
            (try simp only [w1, push_cast, simprocAttr])
            refine at_fin ⟨(k + 1, a, o, ds), hJ2, by dsimp only; omega, ?_⟩
            (refine wk_ok ?_ ?_ ?_ ?_ <;> simp [leL, leH, idsL, idsA, idsR, inH, hget, sameRow, upA, hvA, dsts, dstO, setA_0, setA_1, setA_8, List.append, List.cons_append, List.nil_append])
          | true =>
            (try simp only [w1, push_cast, simprocAttr])
            refine at_chk (by omega) ?_
            (try simp only [w1, hmap, push_cast, simprocAttr])
            refine at_fin ⟨(k + 1, a, o, ds ++ [(k : Int)]), hJ2, by dsimp only; omega, ?_⟩
            simp only [List.length_append, List.length_cons, List.length_nil]
            (refine wk_ok ?_ ?_ ?_ ?_ <;> simp [leL, leH, idsL, idsA, idsR, inH, hget, sameRow, upA, hvA, dsts, dstO, setA_0, setA_1, setA_8, List.append, List.cons_append, List.nil_append])
        · have j2 : eqI e.k 2 = false := eqI_f h2
          have hR := SessionRun_e a b hJ.sa hJ.sb
          unfold stA' stC at hR
          (try simp only [j1, j2, push_cast, simprocAttr])
          ((try simp only [push_cast, simprocAttr]); refine at_share2 (by simp [isC2, isC]) (by first | rfl | simp [ren]) (hR) (go_on ?_); (try simp only [push_cast, simprocAttr]))
          cases hr : sRun a b with
          | none =>
            have hJ2 := hJ.step he (evDo_n h1 h2 hr) hJ.sa hJ.sb
            (try simp only [hr, Option.isSome_none, w1, push_cast, simprocAttr])
            refine at_fin ⟨(k + 1, a, b, ds), hJ2, by dsimp only; omega, ?_⟩
            (refine wk_ok ?_ ?_ ?_ ?_ <;> simp [leL, leH, idsL, idsA, idsR, inH, hget, sameRow, upA, hvA, dsts, dstO, setA_0, setA_1, setA_8, List.append, List.cons_append, List.nil_append])
          | some xy =>
            obtain ⟨x, y⟩ := xy
            have hJ2 := hJ.step he (evDo_s h1 h2 hr) (siteV_sm (law_session hr).1) (siteV_sm (law_session hr).2.1)
            (try simp only [hr, Option.isSome_some, rA_some hr, rB_some hr, w1, push_cast, simprocAttr])
            refine at_draw rfl (by kernel_rfl) ?_; simp only [push_cast, simprocAttr]
            refine at_done (by kernel_rfl) (by kernel_rfl) (go_on ?_)
            (try simp only [w1, push_cast, simprocAttr])
            refine at_chk (by omega) ?_
            (try simp only [w1, hmap, push_cast, simprocAttr])
            refine at_fin ⟨(k + 1, x, y, ds ++ [(k : Int)]), hJ2, by dsimp only; omega, ?_⟩
            simp only [List.length_append, List.length_cons, List.length_nil]
            (refine wk_ok ?_ ?_ ?_ ?_ <;> simp [leL, leH, idsL, idsA, idsR, inH, hget, sameRow, upA, hvA, dsts, dstO, setA_0, setA_1, setA_8, List.append, List.cons_append, List.nil_append])
    · have h3 := lt_ff hg
      have hd := hJ.done h3
      (try simp only [hg, push_cast, simprocAttr])
      refine at_draw rfl (by kernel_rfl) ?_; simp only [push_cast, simprocAttr]
      refine at_done (by kernel_rfl) (by kernel_rfl) (go_on ?_)
      (try simp only [push_cast, simprocAttr])
      refine at_ret ?_; simp only [Tryz.results75, push_cast, simprocAttr]
      rw [hd]
      simp [vF, viewN, isC, hpOf, hget, tk, ixOf]
end Go.Proofs.YtdjglbedimpldaaGreatDoor
/-
  Walks: spec.l43Ok, l43Do, l43Play.
-/
namespace Go.Proofs.YtdjglbedimpldaaGreatDoor
open Go Go.RowKit Go.Proofs
abbrev evtA (e : Ev) : AV := .agg (evC e)
theorem evDo_sm {a b : St} {e : Ev} (ha : SmS a) (hb : SmS b) (hp : e.c.p.length < 4294967281) : SmS (evDo a b e).1 ∧ SmS (evDo a b e).2.1 := by
  by_cases h1 : e.k = 1
  · rw [evDo_1 h1]; exact ⟨siteDo_sm ha hp, hb⟩
  · by_cases h2 : e.k = 2
    · rw [evDo_2 h2]; exact ⟨ha, siteDo_sm hb hp⟩
    · cases hr : sRun a b with
      | none => rw [evDo_n h1 h2 hr]; exact ⟨ha, hb⟩
      | some xy =>
        obtain ⟨x, y⟩ := xy
        rw [evDo_s h1 h2 hr]
        exact ⟨siteV_sm (law_session hr).1, siteV_sm (law_session hr).2.1⟩
attribute [local irreducible] RWp AW run kPe pe Kt effA gd gu br retR RDp runD kPeD brW gW effD
set_option maxRecDepth 100000
theorem l43Do_d (a b : St) (e : Ev) (ha : SmS a) (hb : SmS b) (hp : e.c.p.length < 4294967281) : PC Tryz.prog 120 [stA' a, stA' b, evtA e] (vX (.tup [stA' (evDo a b e).1, stA' (evDo a b e).2.1, bA (evDo a b e).2.2])) := by
  have hS1 := specSiteDo_d a ha e.c hp
  have hS2 := specSiteDo_d b hb e.c hp
  have hR := specSessionRun_e a b ha hb
  unfold evtA evC
  unfold stA' stC at *
  unfold cmdA cmC at hS1 hS2
  refine pc_enter Tryz.func120 rfl rfl fun w0 fb => go_on ?_; (try simp only [Tryz.ntmps120, push_cast, simprocAttr])
  by_cases h1 : e.k = 1
  · have j1 : eqI e.k 1 = true := eqI_t h1
    rw [evDo_1 h1]
    (try simp only [j1, push_cast, simprocAttr])
    ((try simp only [push_cast, simprocAttr]); refine at_share2 (by simp [isC2, isC]) (by first | rfl | simp [ren]) (hS1) (go_on ?_); (try simp only [push_cast, simprocAttr]))
    refine at_draw rfl (by kernel_rfl) ?_; simp only [push_cast, simprocAttr]
    refine at_done (by kernel_rfl) (by kernel_rfl) (go_on ?_)
    (try simp only [push_cast, simprocAttr])
    refine at_ret ?_; simp only [Tryz.results120, push_cast, simprocAttr]
    simp [vX]
  · have j1 : eqI e.k 1 = false := eqI_f h1
    by_cases h2 : e.k = 2
    · have j2 : eqI e.k 2 = true := eqI_t h2
      rw [evDo_2 h2]
      (try simp only [j1, j2, push_cast, simprocAttr])
      ((try simp only [push_cast, simprocAttr]); refine at_share2 (by simp [isC2, isC]) (by first | rfl | simp [ren]) (hS2) (go_on ?_); (try simp only [push_cast, simprocAttr]))
      refine at_draw rfl (by kernel_rfl) ?_; simp only [push_cast, simprocAttr]
      refine at_done (by kernel_rfl) (by kernel_rfl) (go_on ?_)
      (try simp only [push_cast, simprocAttr])
      refine at_ret ?_; simp only [Tryz.results120, push_cast, simprocAttr]
      simp [vX]
    · have j2 : eqI e.k 2 = false := eqI_f h2
      (try simp only [j1, j2, push_cast, simprocAttr])
      ((try simp only [push_cast, simprocAttr]); refine at_share2 (by simp [isC2, isC]) (by first | rfl | simp [ren]) (hR) (go_on ?_); (try simp only [push_cast, simprocAttr]))
      cases hr : sRun a b with
      | none =>
        rw [evDo_n h1 h2 hr]
        (try simp only [hr, Option.isSome_none, Bool.not_false, push_cast, simprocAttr])
        refine at_draw rfl (by kernel_rfl) ?_; simp only [push_cast, simprocAttr]
        refine at_done (by kernel_rfl) (by kernel_rfl) (go_on ?_)
        (try simp only [push_cast, simprocAttr])
        refine at_ret ?_; simp only [Tryz.results120, push_cast, simprocAttr]
        simp [vX]
      | some xy =>
        obtain ⟨x, y⟩ := xy
        rw [evDo_s h1 h2 hr]
        (try simp only [hr, Option.isSome_some, rA_some hr, rB_some hr, Bool.not_true, push_cast, simprocAttr])
        refine at_draw rfl (by kernel_rfl) ?_; simp only [push_cast, simprocAttr]
        refine at_done (by kernel_rfl) (by kernel_rfl) (go_on ?_)
        (try simp only [push_cast, simprocAttr])
        refine at_ret ?_; simp only [Tryz.results120, push_cast, simprocAttr]
        simp [vX]
theorem l43Ok_pc (t : List Nd) (ht : SmT t) (l : List Ev) (hl : SmE l) : PC Tryz.prog 76 [ndA t, evsA l] (vB (rdV t l)) := by
  have hT := specTreeValid_pc t ht
  have hn := hl.n
  refine pc_enter Tryz.func76 rfl rfl fun w0 fb => go_on ?_; (try simp only [Tryz.ntmps76, push_cast, simprocAttr])
  refine at_loop (X := Nat) (fun k => [(5, iA k)]) (fun _ => []) (fun k => k ≤ l.length ∧ l.all evV = (l.drop k).all evV) (fun k => l.length - k) 0 ⟨Nat.zero_le _, rfl⟩ ?_ ?_
  · (refine wk_ok ?_ ?_ ?_ ?_ <;> simp [leL, leH, idsL, idsA, idsR, inH, hget, sameRow, upA, hvA, dsts, dstO, setA_0, setA_1, setA_8, List.append, List.cons_append, List.nil_append])
  · rintro k ⟨q1, q2⟩
    simp only [upA, hvA, dsts, dstO, setA_0, setA_1, setA_8, List.append, List.cons_append, List.nil_append]
    refine go_on ?_
    (try simp only [push_cast, simprocAttr])
    refine at_b (fun hg => ?_) (fun hg => ?_)
    · have hlt := lt_tt hg
      obtain ⟨e, he⟩ := get_of_lt hlt
      have i1 := ix_n he
      have i2 := map_get evC he
      simp only [evC] at i2
      have hp := hl.p e (List.mem_of_getElem? he)
      have hC := specCommandValid_pc e.c hp
      unfold cmdA cmC at hC
      have hI := l6In_pc e.k 1 3
      rw [drop_of_get he] at q2
      simp only [List.all_cons] at q2
      have w1 := wr ((k : Int) + 1) (by omega)
      (try simp only [hg, i1, i2, push_cast, simprocAttr])
      (refine at_call ?_; (try simp only [push_cast, simprocAttr]); refine rwc_v (hI) (go_on ?_); (try simp only [push_cast, simprocAttr]))
      by_cases h3 : e.k = 3
      · have d1 : inR e.k 1 3 = true := by simp [inR, h3]
        have j3 : eqI e.k 3 = true := eqI_t h3
        rw [evV_3 h3] at q2
        (try simp only [d1, j3, Bool.not_true, ctg, cth, cmg, cmh, push_cast, simprocAttr])
        have e0 : (decide (e.c.p = []) && ((eqI e.c.a.k 0 && eqI e.c.a.v 0) && (eqI e.c.b.k 0 && eqI e.c.b.v 0))) = decide (e.c = cm0) := cm_eq e.c cm0
        cases hv : decide (e.c = cm0) with
        | false =>
          (try simp only [e0, hv, Bool.not_false, push_cast, simprocAttr])
          refine at_ret ?_; simp only [Tryz.results76, push_cast, simprocAttr]
          simp only [hv, Bool.false_and] at q2
          simp [vX, rdV, q2]
        | true =>
          (try simp only [e0, hv, j3, Bool.not_true, w1, push_cast, simprocAttr])
          refine at_fin ⟨k + 1, ⟨by omega, by rw [q2, hv]; rfl⟩, by omega, ?_⟩
          (refine wk_ok ?_ ?_ ?_ ?_ <;> simp [leL, leH, idsL, idsA, idsR, inH, hget, sameRow, upA, hvA, dsts, dstO, setA_0, setA_1, setA_8, List.append, List.cons_append, List.nil_append])
      · have j3 : eqI e.k 3 = false := eqI_f h3
        by_cases h12 : e.k = 1 ∨ e.k = 2
        · have d1 : inR e.k 1 3 = true := by rcases h12 with h | h <;> simp [inR, h]
          have ev : evV e = cmV e.c := h12.elim evV_1 evV_2
          rw [ev] at q2
          (try simp only [d1, j3, Bool.not_true, Bool.not_false, push_cast, simprocAttr])
          (refine at_call ?_; (try simp only [push_cast, simprocAttr]); refine rwc_v (hC) (go_on ?_); (try simp only [push_cast, simprocAttr]))
          cases hv : cmV e.c with
          | false =>
            (try simp only [hv, Bool.not_false, push_cast, simprocAttr])
            refine at_ret ?_; simp only [Tryz.results76, push_cast, simprocAttr]
            simp [vX, rdV, q2, hv]
          | true =>
            (try simp only [hv, j3, Bool.not_true, w1, push_cast, simprocAttr])
            refine at_fin ⟨k + 1, ⟨by omega, by rw [q2, hv]; rfl⟩, by omega, ?_⟩
            (refine wk_ok ?_ ?_ ?_ ?_ <;> simp [leL, leH, idsL, idsA, idsR, inH, hget, sameRow, upA, hvA, dsts, dstO, setA_0, setA_1, setA_8, List.append, List.cons_append, List.nil_append])
        · have d1 : inR e.k 1 3 = false := by simp only [inR, Bool.and_eq_false_iff, decide_eq_false_iff_not]; omega
          rw [evV_n (fun h => h12 (.inl h)) (fun h => h12 (.inr h)) h3] at q2
          (try simp only [d1, Bool.not_false, push_cast, simprocAttr])
          refine at_ret ?_; simp only [Tryz.results76, push_cast, simprocAttr]
          simp [vX, rdV, q2]
    · have h3 := lt_ff hg
      rw [List.drop_of_length_le h3] at q2
      have e1 : rdV t l = (tV t && leI (l.length : Int) 24) := by
        unfold rdV leI
        rw [q2]
        cases tV t <;> simp <;> omega
      (try simp only [hg, push_cast, simprocAttr])
      (refine at_call ?_; (try simp only [push_cast, simprocAttr]); refine rwc_v (hT) (go_on ?_); (try simp only [push_cast, simprocAttr]))
      cases hv : tV t with
      | false =>
        (try simp only [hv, push_cast, simprocAttr])
        refine at_ret ?_; simp only [Tryz.results76, push_cast, simprocAttr]
        simp [vX, e1, hv]
      | true =>
        (try simp only [hv, push_cast, simprocAttr])
        refine at_ret ?_; simp only [Tryz.results76, push_cast, simprocAttr]
        simp [vX, e1, hv]
theorem l43Play_d (t : List Nd) (ht : SmT2 t) (l : List Ev) (hl : SmE l) : PC Tryz.prog 77 [ndA t, evsA l] (vX (.tup [stA' (pl t l).1, stA' (pl t l).2.1, .sl 1 ((pl t l).2.2.map inC)])) := by
  have htn := ht.n
  have hn := hl.n
  have hL := l41Copy_pc ⟨0, t, []⟩ (by simp only; omega) (by simp)
  unfold stA' stC stO at hL
  simp only [List.length_nil] at hL
  unfold stA' stC
  refine PC.toF ?_
  refine pc_enter Tryz.func77 rfl rfl fun w0 fb => go_on ?_; (try simp only [Tryz.ntmps77, push_cast, simprocAttr])
  refine at_chk (by omega) ?_
  (try simp only [push_cast, simprocAttr])
  refine at_call ?_
  (try simp only [Nat.zero_add, push_cast, simprocAttr])
  refine rwc_r hL (by simp [flatV, flatL]) (flat_nc _ _) (by simp [frB, baseOf]) ?_
  (try simp only [push_cast, simprocAttr])
  (refine at_frzS2 [15, 18, 22000, 22001] (by refine wk_frz ?_ ?_ ?_ ?_ <;> simp [rowN, rowC, frzS2, frzH, frzRow, frzT, hasN, delL, hdel, leF, leHF, rowF, frzB, idsL, idsA, idsR, inH, hget, sameRow, viewN, tk]) ?_; simp only [rowN, rowC, frzS2, frzH, frzRow, frzT, hasN, delL, hdel, idsA, idsL, viewN, hget, tk, isC, List.map_cons, List.map_nil, List.all_cons, List.all_nil, List.append_nil, List.drop, List.getElem?_cons_zero, List.getElem?_cons_succ, Bool.not_false, Bool.not_true, Bool.and_true, if_true, if_false, Nat.zero_add, List.length_map, simprocAttr])
  refine go_on ?_
  (try simp only [push_cast, simprocAttr])
  refine at_loop (X := Nat × St × St × List Int) (fun x => [(7, .o 14 x.2.2.2.length), (10, iA x.1), (14, .any)]) (fun x => [(4, ⟨26, 3, [[iA 0, .v (.slice none 0 0), .v (.slice none 0 0)]], true⟩), (5, ⟨26, 3, [[iA 0, .v (.slice none 0 0), .v (.slice none 0 0)]], true⟩), (6, ⟨3, 1, [], true⟩), (14, ⟨3, 1, x.2.2.2.map inC, true⟩), (8, ⟨26, 3, [[iA x.2.1.ep, ndA x.2.1.base, cmA x.2.1.log]], true⟩), (9, ⟨26, 3, [[iA x.2.2.1.ep, ndA x.2.2.1.base, cmA x.2.2.1.log]], true⟩)]) (fun x => PJ t l x.1 x.2.1 x.2.2.1 x.2.2.2) (fun x => l.length - x.1) (0, ⟨0, t, []⟩, ⟨0, t, []⟩, []) (PJ.init ht l) ?_ ?_
  · (refine wk_ok ?_ ?_ ?_ ?_ <;> simp [leL, leH, idsL, idsA, idsR, inH, hget, sameRow, upA, hvA, dsts, dstO, setA_0, setA_1, setA_8, List.append, List.cons_append, List.nil_append])
  · rintro ⟨k, a, b, ds⟩ hJ
    simp only [upA, hvA, dsts, dstO, setA_0, setA_1, setA_8, List.append, List.cons_append, List.nil_append]
    refine go_on ?_
    (try simp only [push_cast, simprocAttr])
    refine at_b (fun hg => ?_) (fun hg => ?_)
    · have hlt := lt_tt hg
      obtain ⟨e, he⟩ := get_of_lt hlt
      have i1 := ix_n he
      have i2 := map_get evC he
      simp only [evC] at i2
      have hp := hl.p e (List.mem_of_getElem? he)
      have w1 := wr ((k : Int) + 1) (by omega)
      have hdn : ds.length ≤ k := hJ.n
      have hmap : ds.map inC ++ [[iA (k : Int)]] = (ds ++ [(k : Int)]).map inC := by rw [List.map_append]; rfl
      have hD := l43Do_d a b e hJ.sa hJ.sb hp
      obtain ⟨a', b', ok, hr⟩ : ∃ a' b' ok, evDo a b e = (a', b', ok) := ⟨_, _, _, rfl⟩
      have hsm := evDo_sm hJ.sa hJ.sb hp (e := e)
      rw [hr] at hD hsm
      have hJ2 := hJ.step he hr hsm.1 hsm.2
      simp only at hD
      unfold stA' stC at hD
      unfold evtA evC at hD
      (try simp only [hg, push_cast, simprocAttr])
      refine at_draw rfl (by kernel_rfl) ?_; simp only [push_cast, simprocAttr]
      (try simp only [i1, i2, push_cast, simprocAttr])
      (refine at_shareD (by simp [isC2, isC]) (by first | rfl | simp [ren]) hD ?_; (try simp only [push_cast, simprocAttr]))
      refine at_done (by kernel_rfl) (by kernel_rfl) (go_on ?_)
      cases ok with
      | false =>
        (try simp only [w1, push_cast, simprocAttr])
        refine at_fin ⟨(k + 1, a', b', ds), hJ2, by dsimp only; omega, ?_⟩
        (refine wk_ok ?_ ?_ ?_ ?_ <;> simp [leL, leH, idsL, idsA, idsR, inH, hget, sameRow, upA, hvA, dsts, dstO, setA_0, setA_1, setA_8, List.append, List.cons_append, List.nil_append])
      | true =>
        (try simp only [w1, push_cast, simprocAttr])
        refine at_chk (by omega) ?_
        (try simp only [w1, hmap, push_cast, simprocAttr])
        refine at_fin ⟨(k + 1, a', b', ds ++ [(k : Int)]), hJ2, by dsimp only; omega, ?_⟩
        simp only [List.length_append, List.length_cons, List.length_nil]
        (refine wk_ok ?_ ?_ ?_ ?_ <;> simp [leL, leH, idsL, idsA, idsR, inH, hget, sameRow, upA, hvA, dsts, dstO, setA_0, setA_1, setA_8, List.append, List.cons_append, List.nil_append])
    · have h3 := lt_ff hg
      have hd := hJ.done h3
      (try simp only [hg, push_cast, simprocAttr])
      refine at_draw rfl (by kernel_rfl) ?_; simp only [push_cast, simprocAttr]
      refine at_done (by kernel_rfl) (by kernel_rfl) (go_on ?_)
      (try simp only [push_cast, simprocAttr])
      refine at_ret ?_; simp only [Tryz.results77, push_cast, simprocAttr]
      rw [hd]
      simp [vF, viewN, isC, hpOf, hget, tk, ixOf]
end Go.Proofs.YtdjglbedimpldaaGreatDoor
/-
  Walks: RoundPlay (impl, spec), impl.RoundDone, read as data.
-/
namespace Go.Proofs.YtdjglbedimpldaaGreatDoor
open Go Go.RowKit Go.Proofs
theorem rPlay_t {t : List Nd} {l : List Ev} (h : rdV t l = true) : rPlay t l = ((pl t l).1, (pl t l).2.1, (l.length : Int) - ((pl t l).2.2.length : Int)) := by simp [rPlay, h, pl]
theorem rPlay_f {t : List Nd} {l : List Ev} (h : rdV t l = false) : rPlay t l = (st0, st0, -1) := by simp [rPlay, h]
theorem rDone_t {t : List Nd} {l : List Ev} (h : rdV t l = true) : rDone t l = (pl t l).2.2 := by simp [rDone, h, pl]
theorem rDone_f {t : List Nd} {l : List Ev} (h : rdV t l = false) : rDone t l = [] := by simp [rDone, h]
theorem pl_len (t : List Nd) (l : List Ev) : (pl t l).2.2.length ≤ l.length := play_len l 0 _ _
theorem st2_e {P : Program} {f : FuncId} {args : List AV} {x : AV} (h : PC P f args (vX (.tup [st00, st00, x]))) : PC P f args (vX (.tup [stA' st0, stA' st0, x])) := by
  refine PC.less h fun h loc w v hg => hg.tup2 rfl fun j x y u h1 h2 h3 => ?_
  rcases j with _ | _ | _ | j
  · cases h1; cases h2; exact nil_st0 h3
  · cases h1; cases h2; exact nil_st0 h3
  · cases h1; cases h2; exact h3
  · cases h1
attribute [local irreducible] RWp AW run kPe pe Kt effA gd gu br retR RDp runD kPeD brW gW effD
set_option maxRecDepth 100000
theorem RoundPlay_0 (t : List Nd) (ht : SmT2 t) (l : List Ev) (hl : SmE l) (h : rdV t l = false) : PC Tryz.prog 26 [ndA t, evsA l] (vX (.tup [st00, st00, iA (-1)])) := by
  have hV := roundValid_pc t ht.s l hl
  rw [h] at hV
  refine pc_enter Tryz.func26 rfl rfl fun w0 fb => go_on ?_; (try simp only [Tryz.ntmps26, push_cast, simprocAttr])
  (refine at_call ?_; (try simp only [push_cast, simprocAttr]); refine rwc_v (hV) (go_on ?_); (try simp only [push_cast, simprocAttr]))
  (try simp only [Bool.not_false, push_cast, simprocAttr])
  refine at_ret ?_; simp only [Tryz.results26, push_cast, simprocAttr]
  simp [vX, st00]
theorem RoundPlay_1 (t : List Nd) (ht : SmT2 t) (l : List Ev) (hl : SmE l) (h : rdV t l = true) : PC Tryz.prog 26 [ndA t, evsA l] (vX (.tup [stA' (pl t l).1, stA' (pl t l).2.1, iA ((l.length : Int) - ((pl t l).2.2.length : Int))])) := by
  have hV := roundValid_pc t ht.s l hl
  have hP := play_d t ht l hl
  have hn := hl.n
  have hln := pl_len t l
  have w1 := wr ((l.length : Int) - ((pl t l).2.2.length : Int)) (by omega)
  rw [h] at hV
  unfold stA' stC at *
  refine pc_enter Tryz.func26 rfl rfl fun w0 fb => go_on ?_; (try simp only [Tryz.ntmps26, push_cast, simprocAttr])
  (refine at_call ?_; (try simp only [push_cast, simprocAttr]); refine rwc_v (hV) (go_on ?_); (try simp only [push_cast, simprocAttr]))
  (try simp only [Bool.not_true, push_cast, simprocAttr])
  ((try simp only [push_cast, simprocAttr]); refine at_share2 (by simp [isC2, isC]) (by first | rfl | simp [ren]) (hP) (go_on ?_); (try simp only [push_cast, simprocAttr]))
  refine at_draw rfl (by kernel_rfl) ?_; simp only [push_cast, simprocAttr]
  (try simp only [w1, List.length_map, push_cast, simprocAttr])
  refine at_done (by kernel_rfl) (by kernel_rfl) (go_on ?_)
  (try simp only [push_cast, simprocAttr])
  refine at_ret ?_; simp only [Tryz.results26, push_cast, simprocAttr]
  simp [vX]
theorem RoundPlay_d (t : List Nd) (ht : SmT2 t) (l : List Ev) (hl : SmE l) : PC Tryz.prog 26 [ndA t, evsA l] (vX (.tup [stA' (rPlay t l).1, stA' (rPlay t l).2.1, iA (rPlay t l).2.2])) := by
  cases h : rdV t l with
  | false => rw [rPlay_f h]; exact st2_e (RoundPlay_0 t ht l hl h)
  | true => rw [rPlay_t h]; exact RoundPlay_1 t ht l hl h
theorem specRoundPlay_0 (t : List Nd) (ht : SmT2 t) (l : List Ev) (hl : SmE l) (h : rdV t l = false) : PC Tryz.prog 27 [ndA t, evsA l] (vX (.tup [st00, st00, iA (-1)])) := by
  have hV := l43Ok_pc t ht.s l hl
  rw [h] at hV
  refine pc_enter Tryz.func27 rfl rfl fun w0 fb => go_on ?_; (try simp only [Tryz.ntmps27, push_cast, simprocAttr])
  (refine at_call ?_; (try simp only [push_cast, simprocAttr]); refine rwc_v (hV) (go_on ?_); (try simp only [push_cast, simprocAttr]))
  (try simp only [Bool.not_false, push_cast, simprocAttr])
  refine at_ret ?_; simp only [Tryz.results27, push_cast, simprocAttr]
  simp [vX, st00]
theorem specRoundPlay_1 (t : List Nd) (ht : SmT2 t) (l : List Ev) (hl : SmE l) (h : rdV t l = true) : PC Tryz.prog 27 [ndA t, evsA l] (vX (.tup [stA' (pl t l).1, stA' (pl t l).2.1, iA ((l.length : Int) - ((pl t l).2.2.length : Int))])) := by
  have hV := l43Ok_pc t ht.s l hl
  have hP := l43Play_d t ht l hl
  have hn := hl.n
  have hln := pl_len t l
  have w1 := wr ((l.length : Int) - ((pl t l).2.2.length : Int)) (by omega)
  rw [h] at hV
  unfold stA' stC at *
  refine pc_enter Tryz.func27 rfl rfl fun w0 fb => go_on ?_; (try simp only [Tryz.ntmps27, push_cast, simprocAttr])
  (refine at_call ?_; (try simp only [push_cast, simprocAttr]); refine rwc_v (hV) (go_on ?_); (try simp only [push_cast, simprocAttr]))
  (try simp only [Bool.not_true, push_cast, simprocAttr])
  ((try simp only [push_cast, simprocAttr]); refine at_share2 (by simp [isC2, isC]) (by first | rfl | simp [ren]) (hP) (go_on ?_); (try simp only [push_cast, simprocAttr]))
  refine at_draw rfl (by kernel_rfl) ?_; simp only [push_cast, simprocAttr]
  (try simp only [w1, List.length_map, push_cast, simprocAttr])
  refine at_done (by kernel_rfl) (by kernel_rfl) (go_on ?_)
  (try simp only [push_cast, simprocAttr])
  refine at_ret ?_; simp only [Tryz.results27, push_cast, simprocAttr]
  simp [vX]
theorem specRoundPlay_d (t : List Nd) (ht : SmT2 t) (l : List Ev) (hl : SmE l) : PC Tryz.prog 27 [ndA t, evsA l] (vX (.tup [stA' (rPlay t l).1, stA' (rPlay t l).2.1, iA (rPlay t l).2.2])) := by
  cases h : rdV t l with
  | false => rw [rPlay_f h]; exact st2_e (specRoundPlay_0 t ht l hl h)
  | true => rw [rPlay_t h]; exact specRoundPlay_1 t ht l hl h
theorem RoundDone_0 (t : List Nd) (ht : SmT2 t) (l : List Ev) (hl : SmE l) (h : rdV t l = false) : PC Tryz.prog 28 [ndA t, evsA l] (vX (.sl 1 [])) := by
  have hV := roundValid_pc t ht.s l hl
  rw [h] at hV
  · refine PC.toF ?_
    refine pc_enter Tryz.func28 rfl rfl fun w0 fb => go_on ?_; (try simp only [Tryz.ntmps28, push_cast, simprocAttr])
    refine at_call ?_
    (try simp only [push_cast, simprocAttr])
    refine rwc_v hV ?_
    (try simp only [push_cast, simprocAttr])
    (refine at_dropS [4] (by refine wk_ok ?_ ?_ ?_ ?_ <;> simp [dropS, dropT, hasN, delL, hdel, leL, leH, idsL, idsA, idsR, inH, hget, sameRow]) ?_; simp only [dropS, dropT, hasN, delL, hdel, idsA, idsL, hget, List.map_cons, List.map_nil, List.all_cons, List.all_nil, List.append_nil, Bool.not_false, Bool.not_true, Bool.and_true, if_true, if_false, simprocAttr])
    refine go_on ?_
    (try simp only [Bool.not_false, push_cast, simprocAttr])
    refine at_ret ?_; simp only [Tryz.results28, push_cast, simprocAttr]
    simp [vF, viewN, isC, hpOf, hget, tk, ixOf]
theorem RoundDone_1 (t : List Nd) (ht : SmT2 t) (l : List Ev) (hl : SmE l) (h : rdV t l = true) : PC Tryz.prog 28 [ndA t, evsA l] (vX (.sl 1 ((pl t l).2.2.map inC))) := by
  have hV := roundValid_pc t ht.s l hl
  have hP := play_d t ht l hl
  rw [h] at hV
  unfold stA' stC at *
  refine pc_enter Tryz.func28 rfl rfl fun w0 fb => go_on ?_; (try simp only [Tryz.ntmps28, push_cast, simprocAttr])
  (refine at_call ?_; (try simp only [push_cast, simprocAttr]); refine rwc_v (hV) (go_on ?_); (try simp only [push_cast, simprocAttr]))
  (try simp only [Bool.not_true, push_cast, simprocAttr])
  ((try simp only [push_cast, simprocAttr]); refine at_share2 (by simp [isC2, isC]) (by first | rfl | simp [ren]) (hP) (go_on ?_); (try simp only [push_cast, simprocAttr]))
  refine at_ret ?_; simp only [Tryz.results28, push_cast, simprocAttr]
  simp [vX]
theorem RoundDone_d (t : List Nd) (ht : SmT2 t) (l : List Ev) (hl : SmE l) : PC Tryz.prog 28 [ndA t, evsA l] (vX (.sl 1 ((rDone t l).map inC))) := by
  cases h : rdV t l with
  | false => rw [rDone_f h]; exact RoundDone_0 t ht l hl h
  | true => rw [rDone_t h]; exact RoundDone_1 t ht l hl h
end Go.Proofs.YtdjglbedimpldaaGreatDoor
