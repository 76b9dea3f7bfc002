/- A part of the proof of FnExactRoundPlay: texts X7 X8 X9 W4 W5 W6 W7 W8 W9 W10 W11 W12 W13 O1 D1 D2 D3 D4 D5 D6 D7 W14 W15 W16 M33 W17 W18 M31 M32 D7d W19 W20 W21 W22. -/
import Derived.Test.YthifgndjpjaddaaGreatDoorZx3
import Derived.Test.YthifgndjpjaddaaGreatDoorZxp
import Derived.ChangeArms
import Derived.ChangeSame
import Derived.OpenShut
import Derived.Test.YthifgndjpjaddaaGreatDoorZx1
set_option linter.unusedSimpArgs false
set_option linter.unusedVariables false
/-
  The abstract machine: a row is written anew; a row is cut; a slice's tail is cleared.
-/
namespace Go.Proofs.YthifgndjpjaddaaGreatDoor
open Go Go.RowKit Go.Proofs

section
variable {w0 : World} {lent : Lent} {s : AS} {loc : Loc} {a : Act} {w : World}
theorem Rel.setRow (hR : Rel w0 lent s loc a w) {r : Nat} {row : Row} {b c : Nat} {cur cur' : Array Value} {es' : List (List AV)} {cl' : Bool} (hrow : hget s.h r = some row) (hl : loc r = some (b, c)) (hh : w.heap[b]? = some (.cells cur row.E (0, 0)))
    (hs' : cur'.size = c * row.sz) (hlen' : ∀ (k : Nat) e, es'[k]? = some e → e.length = row.sz) (hge : row.es.length ≤ es'.length) (hle : es'.length ≤ c) (hm : c ≤ maxLen)
    (hcs : ∀ (k : Nat) e (j : Nat) x, es'[k]? = some e → e[j]? = some x → ∃ u, cur'[k * row.sz + j]? = some u ∧ u.oneCell' = true ∧ G s.h loc w x u ∧ (cl' = true → C (Live s.h loc) 0 w x u)) :
    Rel w0 lent ⟨s.t, hset s.h r ⟨row.E, row.sz, es', cl'⟩⟩ loc a (w.setRow b cur') := by
  have hset' : ∀ q row1, hget s.h q = some row1 → ∃ row2, hget (hset s.h r ⟨row.E, row.sz, es', cl'⟩) q = some row2 ∧ row2.sz = row1.sz ∧ row1.es.length ≤ row2.es.length := by
    intro q row1 hq
    rw [hget_hset]
    by_cases hrq : r = q
    · subst hrq
      rw [hrow] at hq
      cases hq
      rw [if_pos rfl]
      exact ⟨_, rfl, rfl, hge⟩
    · rw [if_neg hrq]
      exact ⟨row1, hq, rfl, Nat.le_refl _⟩
  have hlive : ∀ b', Live (hset s.h r ⟨row.E, row.sz, es', cl'⟩) loc b' ↔ Live s.h loc b' := by
    intro b'
    constructor
    · rintro (⟨q, row1, c1, h1, h2⟩ | hfb)
      · rw [hget_hset] at h1
        by_cases hrq : r = q
        · subst hrq; exact .inl ⟨r, row, c1, hrow, h2⟩
        · rw [if_neg hrq] at h1; exact .inl ⟨q, row1, c1, h1, h2⟩
      · exact .inr hfb
    · rintro (⟨q, row1, c1, h1, h2⟩ | hfb)
      · obtain ⟨row2, h3, _⟩ := hset' q row1 h1
        exact .inl ⟨q, row2, c1, h3, h2⟩
      · exact .inr hfb
  have hbl : Live s.h loc b := .inl ⟨r, row, c, hrow, hl⟩
  have hold : ∀ b', b' < w.heap.size → ¬ Live s.h loc b' → (w.setRow b cur').heap[b']? = w.heap[b']? := fun b' _ hnl => setRow_other (fun e => hnl (e ▸ hbl))
  have hC : ∀ x u, C (Live s.h loc) 0 w x u → C (Live (hset s.h r ⟨row.E, row.sz, es', cl'⟩) loc) 0 (w.setRow b cur') x u := fun x u hx =>
    hx.mono (Nat.le_refl _) (by simp) fun b' _ hlt hnl => ⟨fun h => hnl ((hlive b').1 h), hold b' hlt hnl⟩
  have hG : ∀ x u, G s.h loc w x u → G (hset s.h r ⟨row.E, row.sz, es', cl'⟩) loc (w.setRow b cur') x u := fun x u hx =>
    hx.mono (by simp) (fun q row1 hq => ⟨rfl, hset' q row1 hq⟩) fun b' hlt hnl => ⟨fun h => hnl ((hlive b').1 h), hold b' hlt hnl⟩
  refine ⟨hR.tsz, fun i x hx => hG _ _ (hR.tm i x hx), hR.df, fun q row1 hq => ?_, fun q q' row1 row2 b1 c1 c2 h1 h2 h3 h4 => ?_, fun q row1 b1 c1 h1 h2 => ?_, hR.os, hR.tape, hR.output, by simp; exact hR.size, fun b1 hlt hlb => ?_, hR.fbe, hR.fbl, hR.pn, hR.pl⟩
  · simp only at hq
    rw [hget_hset] at hq
    by_cases hrq : r = q
    · subst hrq
      rw [if_pos rfl] at hq
      cases hq
      refine RowOk.mk' hl hlen' hle hm (setRow_heap w b cur _ row.E (0, 0) hh) hs' fun k e j x he hx => ?_
      obtain ⟨u, q1, q2, q3, q4⟩ := hcs k e j x he hx
      exact ⟨u, q1, q2, hG _ _ q3, fun hc => hC _ _ (q4 hc)⟩
    · rw [if_neg hrq] at hq
      refine (hR.rw q row1 hq).mono rfl (fun b1 c1 hl1 => setRow_other (fun e => hrq ?_)) hG hC
      subst e
      exact hR.inj r q row row1 b1 c c1 hrow hq hl hl1
  · simp only at h1 h2
    rw [hget_hset] at h1 h2
    by_cases e1 : r = q <;> by_cases e2 : r = q'
    · rw [← e1, ← e2]
    · rw [if_neg e2] at h2
      subst e1
      exact hR.inj r q' row row2 b1 c1 c2 hrow h2 h3 h4
    · rw [if_neg e1] at h1
      subst e2
      exact hR.inj q r row1 row b1 c1 c2 h1 hrow h3 h4
    · rw [if_neg e1] at h1
      rw [if_neg e2] at h2
      exact hR.inj q q' row1 row2 b1 c1 c2 h1 h2 h3 h4
  · simp only at h1
    rw [hget_hset] at h1
    by_cases e1 : r = q
    · subst e1; exact hR.own r row b1 c1 hrow h2
    · rw [if_neg e1] at h1; exact hR.own q row1 b1 c1 h1 h2
  · rw [setRow_other (fun e => ?_)]
    · exact hR.keep b1 hlt hlb
    · subst e
      rcases hR.own r row b1 c hrow hl with h5 | h5
      · omega
      · exact hlb h5
end
mutual
/-- No name of the row beyond this length. -/
def okT (r k : Nat) : AV → Bool
  | .o q n => decide (q ≠ r) || decide (n ≤ k)
  | .fn _ l => okTL r k l
  | .agg l => okTL r k l
  | .tup l => okTL r k l
  | _ => true
def okTL (r k : Nat) : List AV → Bool
  | [] => true
  | x :: l => okT r k x && okTL r k l
end
theorem okTL_mem {r k : Nat} : ∀ {l : List AV}, okTL r k l = true → ∀ x ∈ l, okT r k x = true
  | [], _, x, hx => by cases hx
  | y :: l, h, x, hx => by
    simp only [okTL, Bool.and_eq_true] at h
    rcases List.mem_cons.1 hx with rfl | hx
    · exact h.1
    · exact okTL_mem h.2 x hx
theorem G.trunc {h : Hp} {loc : Loc} {w : World} {r k : Nat} {row row' : Row} {x : AV} {u : Value} (hg : G h loc w x u) (hr : hget h r = some row) (hz : row'.sz = row.sz) (hk : row'.es.length = k) (hok : okT r k x = true)
    (hC : ∀ x u, C (Live h loc) 0 w x u → C (Live (hset h r row') loc) 0 w x u) : G (hset h r row') loc w x u := by
  induction hg with
  | cl hc => exact .cl (hC _ _ hc)
  | @o q n row1 b c hr1 hl1 hn =>
    by_cases hq : q = r
    · subst hq
      simp only [okT, ne_eq, not_true_eq_false, decide_false, Bool.false_or, decide_eq_true_eq] at hok
      exact .o (row := row') (by rw [hget_hset, if_pos rfl]) hl1 (by omega)
    · exact .o (by rw [hget_hset, if_neg (fun e => hq e.symm)]; exact hr1) hl1 hn
  | @onil q row1 hr1 hl1 =>
    by_cases hq : q = r
    · subst hq
      exact .onil (row := row') (by rw [hget_hset, if_pos rfl]) hl1
    · exact .onil (by rw [hget_hset, if_neg (fun e => hq e.symm)]; exact hr1) hl1
  | @p q k1 off row1 b c hr1 hl1 =>
    by_cases hq : q = r
    · subst hq
      rw [hr] at hr1
      cases hr1
      rw [← hz]
      exact .p (row := row') (by rw [hget_hset, if_pos rfl]) hl1
    · exact .p (by rw [hget_hset, if_neg (fun e => hq e.symm)]; exact hr1) hl1
  | @q q lo z n row1 b c A c' hr1 hl1 hn =>
    by_cases hq : q = r
    · subst hq
      exact .q (row := row') (by rw [hget_hset, if_pos rfl]) hl1 hn
    · exact .q (by rw [hget_hset, if_neg (fun e => hq e.symm)]; exact hr1) hl1 hn
  | fn vs hs hg ih => exact .fn vs hs fun j a ha => ih j a ha (okTL_mem (by simpa [okT] using hok) a (List.mem_of_getElem? ha))
  | agg vs hs hg ih => exact .agg vs hs fun j a ha => ih j a ha (okTL_mem (by simpa [okT] using hok) a (List.mem_of_getElem? ha))
  | tup vs hs hg ih => exact .tup vs hs fun j a ha => ih j a ha (okTL_mem (by simpa [okT] using hok) a (List.mem_of_getElem? ha))
/-- A row cut to its beginning. -/
theorem wk_trunc {s : AS} (r k : Nat) {row : Row} (hr : hget s.h r = some row) (hk : k ≤ row.es.length) (hcl : (s.h.all fun x => x.2.cl) = true) : Wk s ⟨s.t.map (fun x => if okT r k x then x else .any), hset s.h r ⟨row.E, row.sz, row.es.take k, true⟩⟩ := by
  intro w0 lent loc a w hR
  have hclq : ∀ q row1, hget s.h q = some row1 → row1.cl = true := by
    intro q row1 hq
    have : ∀ (h : Hp), (h.all fun x => x.2.cl) = true → hget h q = some row1 → row1.cl = true := by
      intro h
      induction h with
      | nil => intro _ h2; cases h2
      | cons y l ih =>
        obtain ⟨k1, r1⟩ := y
        intro h1 h2
        simp only [List.all_cons, Bool.and_eq_true] at h1
        simp only [hget] at h2
        split at h2
        · cases h2; exact h1.1
        · exact ih h1.2 h2
    exact this s.h hcl hq
  have hlive : ∀ b', Live (hset s.h r ⟨row.E, row.sz, row.es.take k, true⟩) loc b' → Live s.h loc b' := by
    rintro b' (⟨q, row1, c1, h1, h2⟩ | hfb)
    · rw [hget_hset] at h1
      by_cases hrq : r = q
      · subst hrq; exact .inl ⟨r, row, c1, hr, h2⟩
      · rw [if_neg hrq] at h1; exact .inl ⟨q, row1, c1, h1, h2⟩
    · exact .inr hfb
  have hC : ∀ x u, C (Live s.h loc) 0 w x u → C (Live (hset s.h r ⟨row.E, row.sz, row.es.take k, true⟩) loc) 0 w x u := fun x u hx =>
    hx.mono (Nat.le_refl _) (Nat.le_refl _) fun b' _ _ hnl => ⟨fun h => hnl (hlive b' h), rfl⟩
  refine ⟨loc, by simpa using hR.tsz, fun i x hx => ?_, hR.df, fun q row1 hq => ?_, fun q q' row1 row2 b1 c1 c2 h1 h2 h3 h4 => ?_, fun q row1 b1 c1 h1 h2 => ?_, hR.os, hR.tape, hR.output, hR.size, hR.keep, hR.fbe, hR.fbl, hR.pn, hR.pl⟩
  · simp only [List.getElem?_map] at hx
    obtain ⟨y, hy, rfl⟩ := Option.map_eq_some_iff.1 hx
    by_cases ho : okT r k y = true
    · rw [if_pos ho]
      exact (hR.tm i y hy).trunc hr rfl (by simp; omega) ho hC
    · rw [if_neg ho]
      exact .cl .any
  · simp only at hq
    rw [hget_hset] at hq
    have key : ∀ q row1, hget s.h q = some row1 → ∀ m, m ≤ row1.es.length → RowOk (hset s.h r ⟨row.E, row.sz, row.es.take k, true⟩) loc w q ⟨row1.E, row1.sz, row1.es.take m, true⟩ := by
      intro q row1 hq m hm
      have hok := hR.rw q row1 hq
      have hc1 := hclq q row1 hq
      cases hl : loc q with
      | some p =>
        obtain ⟨b, c⟩ := p
        obtain ⟨h1, hn, hcm, cur, hh, hs, hcs⟩ := hok.open hl
        refine RowOk.mk' (b := b) (c := c) (cur := cur) hl (fun k' e he => ?_) (by simp; omega) hcm hh hs fun k' e j x he hx => ?_
        · simp only [List.getElem?_take] at he
          split at he
          · exact h1 k' e he
          · cases he
        · simp only [List.getElem?_take] at he
          split at he
          · obtain ⟨u, g1, g2, g3, g4⟩ := hcs k' e j x he hx
            exact ⟨u, g1, g2, .cl (hC _ _ (g4 hc1)), fun _ => hC _ _ (g4 hc1)⟩
          · cases he
      | none =>
        obtain ⟨h1, xs, hown, hcs⟩ := hok
        have h0 : row1.es.length = 0 := by
          simp only [rowVal, hl] at hown
          rcases hown.2 with h9 | ⟨g, cap, cur, e1, _⟩
          · exact h9.2
          · injection e1 with e2 _ _; cases e2
        have he : row1.es = [] := List.eq_nil_of_length_eq_zero h0
        refine ⟨by simp [he], xs, ?_, by simp [he]⟩
        simp only [rowVal, hl, he, List.take_nil, List.length_nil] at hown ⊢
        exact hown
    by_cases hrq : r = q
    · subst hrq
      rw [if_pos rfl] at hq
      cases hq
      exact key r row hr k hk
    · rw [if_neg hrq] at hq
      have := key q row1 hq row1.es.length (Nat.le_refl _)
      rw [List.take_length] at this
      have hc1 := hclq q row1 hq
      obtain ⟨E1, sz1, es1, cl1⟩ := row1
      simp only at hc1 this
      subst hc1
      exact this
  · simp only at h1 h2
    rw [hget_hset] at h1 h2
    by_cases e1 : r = q <;> by_cases e2 : r = q'
    · rw [← e1, ← e2]
    · rw [if_neg e2] at h2
      subst e1
      exact hR.inj r q' row row2 b1 c1 c2 hr h2 h3 h4
    · rw [if_neg e1] at h1
      subst e2
      exact hR.inj q r row1 row b1 c1 c2 h1 hr h3 h4
    · rw [if_neg e1] at h1
      rw [if_neg e2] at h2
      exact hR.inj q q' row1 row2 b1 c1 c2 h1 h2 h3 h4
  · simp only at h1
    rw [hget_hset] at h1
    by_cases e1 : r = q
    · subst e1; exact hR.own r row b1 c1 hr h2
    · rw [if_neg e1] at h1; exact hR.own q row1 b1 c1 h1 h2
end Go.Proofs.YthifgndjpjaddaaGreatDoor
/-
  The abstract machine: a slice's tail is cleared; slices.DeleteFunc at nodes.
-/
namespace Go.Proofs.YthifgndjpjaddaaGreatDoor
open Go Go.RowKit Go.Proofs

theorem run_clear_k {P : Program} (w : World) (t e ty : TypeId) (z : Value) (k : Nat) (ht : P.underlying t = some (.slice e)) (hv : (zeroValue e).run P w = .ok z w) (hz : z.cells.size = k) (h1 : ∀ v ∈ z.cells, v.oneCell' = true) (b o n c : Nat) (cur : Array Value) (E : TypeId)
    (hh : w.heap[b]? = some (.cells cur E (0, 0))) (hfit : o + n * k ≤ cur.size) :
    ∃ vs : List Value, vs.length = n * k ∧ (∀ v ∈ vs, v.oneCell' = true) ∧ (Builtin.clear_ #[t] ty #[.slice (some ⟨b, o, none⟩) n c]).run P w = .ok (.tuple #[]) (w.setRow b (cur.toList.take o ++ vs ++ cur.toList.drop (o + vs.length)).toArray) := by
  have hl : (Builtin.zeroCells z.cells n).toList.length = n * k := by simp [Builtin.zeroCells, hz]
  have h1' : ∀ v ∈ (Builtin.zeroCells z.cells n).toList, v.oneCell' = true := by
    intro v hv'
    simp only [Builtin.zeroCells, Array.toList_map, List.mem_map, Array.mem_toList_iff, Array.mem_range] at hv'
    obtain ⟨i, hi, rfl⟩ := hv'
    have hpos : 0 < z.cells.size := by
      rcases Nat.eq_zero_or_pos z.cells.size with h | h
      · rw [h] at hi; omega
      · exact h
    have hlt := Nat.mod_lt i hpos
    rw [getElem!_pos z.cells (i % z.cells.size) hlt]
    exact h1 _ (Array.getElem_mem hlt)
  refine ⟨(Builtin.zeroCells z.cells n).toList, hl, h1', ?_⟩
  have hst := run_storeCells_at P b o E (Builtin.zeroCells z.cells n).toList 0 cur w hh (by rw [hl]; omega) h1'
  simp only [Nat.add_zero] at hst
  cases n with
  | zero =>
    have h0 : (Builtin.zeroCells z.cells 0).toList = [] := List.eq_nil_of_length_eq_zero (by rw [hl]; omega)
    rw [h0]
    simp only [List.append_nil, List.length_nil, Nat.add_zero, List.take_append_drop, Array.toArray_toList]
    rw [setRow_self w b cur E (0, 0) hh]
    simp [Builtin.clear_, run_underlying ht]
  | succ n => simp [Builtin.clear_, run_underlying ht, hv, hst]
section
variable {P : Program} {w0 : World} {lent : Lent} {Q : Exit → Act → World → Prop}
theorem wp_clear_k (w : World) {o : Oper} {a : Act} {K : Act → World → Prop} {Q : Exit → Act → World → Prop} (d : Operand) (t : TypeId)
    (ho : o.op = .call { callee := .builtin .clear, args := #[d], argTypes := #[t] }) (v : Value) (hd : a.eval d = v) {v' : Value} {w' : World}
    (hr : (Builtin.clear_ #[t] o.type #[v]).run P w = .ok v' w') (h : K (a.put o.dst v') w') : o.wp P a w K Q := by
  unfold Oper.wp execOp
  simp only [ho, resolve, invoke, builtin, Sem.run_bind, Sem.run_pure, Result.andThen_ok, List.map_toArray, List.map_cons, List.map_nil, hd, hr]
  exact h
/-- The tail of a row is cleared. -/
theorem aw_slclear {k : List It} {s : AS} {d tS : Tmp} {t e ty ty2 : TypeId} {lo : Operand} {l : List SO} {r n i : Nat} {row : Row} {te tt : Ty} (hx : getA s.t tS = .o r n) (hlo : evA s.t lo = .v (.int .i64 i)) (hd : d < s.t.length) (hrow : hget s.h r = some row) (hn : n = row.es.length) (hi : i < n)
    (ht : tyOf P t = some tt) (htt : tt.desc = .slice e) (hte : tyOf P e = some te) (hz : te.zero.length = te.size) (hz1 : te.zero.all (·.oneCell') = true) (hsz : row.sz = te.size) (hcl : row.cl = true) (hzv : ∀ w, ∃ z, (zeroValue e).run P w = .ok z w ∧ z.cells.toList = te.zero)
    (h : AW P w0 lent Q (.ops l :: k) ⟨setA s.t d .any, hset s.h r ⟨row.E, row.sz, row.es.take i ++ List.replicate (n - i) (List.replicate row.sz .any), true⟩⟩) :
    AW P w0 lent Q (.ops (⟨some d, .slice t (.tmp tS) (some lo) none none, ty, none⟩ :: ⟨none, .call ⟨.builtin .clear, #[.tmp d], #[t]⟩, ty2, none⟩ :: l) :: k) s := by
  intro loc a w hR
  have gx := evA_ok hR (.tmp tS)
  rw [show evA s.t (.tmp tS) = .o r n from hx] at gx
  have gl := evA_ok hR lo
  rw [hlo] at gl
  have gl := gl.v_inv
  obtain ⟨_, dd, _, _, hud, _, _, _, hdd, _⟩ := tyOf_spec ht
  have hud := tdOf_slice (hdd.trans htt) ▸ hud
  obtain ⟨i2, d2, z2, hi2, _, _, hs2, _⟩ := tyOf_spec hte
  obtain ⟨row', b, c, hr', hl, hv⟩ := gx.o_inv (by omega)
  rw [hrow] at hr'
  cases hr'
  obtain ⟨hlen, hnc, hcm, cur, hh, hs, hcs⟩ := (hR.rw r row hrow).open hl
  have hci : ¬ (c = i) := by omega
  have hsv : (Instr.sliceAt t (.slice (some ⟨b, 0, none⟩) n c) (some (.int .i64 i)) none none).run P w = .ok (.slice (some ⟨b, i * i2.size, none⟩) (n - i) (c - i)) w := by
    have := bdA_ok (P := P) (h := s.h) (loc := loc) (w := w) (lo := some (.v (.int .i64 i))) (hi := none) (lo' := some (.int .i64 i)) (hi' := none) (len := n) (l := i) (r := n) (isS := true) (cap := c) (fun x hx => by cases hx; exact ⟨_, rfl, .cl .v⟩) (fun h => by cases h) (fun x hx => by cases hx) (fun _ => rfl) (by omega) (by
      show (if 0 ≤ (i : Int) ∧ (i : Int) ≤ n then some ((i : Int).toNat, n) else none) = some (i, n)
      rw [if_pos ⟨by omega, by omega⟩]
      simp)
    simp [Instr.sliceAt, Instr.slice, run_underlying hud, this, sizeOf, typeInfo, hi2, hci, Addr.add]
    intro h9
    exact h9.symm
  obtain ⟨z, hz0, hz2⟩ := hzv w
  have hzs : z.cells.size = row.sz := by rw [hsz, ← hz, ← hz2, Array.length_toList]
  have hz3 : ∀ v ∈ z.cells, v.oneCell' = true := fun v hv => by
    have : v ∈ te.zero := by rw [← hz2]; simpa using hv
    exact List.all_eq_true.1 hz1 v this
  have hmul : i * row.sz + (n - i) * row.sz ≤ c * row.sz := by
    rw [← Nat.add_mul]
    exact Nat.mul_le_mul_right _ (by omega)
  obtain ⟨vs, hvl, hv1, hclr⟩ := run_clear_k (P := P) w t e ty2 z row.sz hud hz0 hzs hz3 b (i * row.sz) (n - i) (c - i) cur row.E hh (by rw [hs]; exact hmul)
  have hR1 := hR.put (some d) (u := .slice (some ⟨b, i * i2.size, none⟩) (n - i) (c - i)) (x := .any) (.cl .any)
  have htd : d < a.tmps.size := by rw [hR.tsz]; exact hd
  show wpSO P (Kt P w0 lent Q k) _ a w
  unfold wpSO
  simp only
  unfold Oper.wp
  have hex : (execOp a.eval (SO.oper ⟨some d, .slice t (.tmp tS) (some lo) none none, ty, none⟩)).run P w = .ok (.value (.slice (some ⟨b, i * i2.size, none⟩) (n - i) (c - i))) w := by
    show ((do pure (.value (← Instr.sliceAt t (a.eval (.tmp tS)) (some (a.eval lo)) none none)) : Sem Next)).run P w = _
    rw [hv, gl]
    simp [hsv, Result.andThen]
  rw [hex]
  show wpSO P (Kt P w0 lent Q k) _ (a.put (some d) _) w
  unfold wpSO
  simp only
  refine wp_clear_k w (.tmp d) t rfl (.slice (some ⟨b, i * row.sz, none⟩) (n - i) (c - i)) (by rw [hsz, ← hs2]; simp [Act.eval, Act.put, htd]) hclr ?_
  refine h loc _ _ ?_
  show Rel w0 lent _ loc (a.put (some d) _) _
  refine (hR1.setRow (es' := row.es.take i ++ List.replicate (n - i) (List.replicate row.sz .any)) (cl' := true) hrow hl hh ?_ ?_ ?_ ?_ hcm ?_)
  · simp only [List.size_toArray, List.length_append, List.length_take, List.length_drop, Array.length_toList, hvl, hs]
    omega
  · intro k' e' he'
    rw [List.getElem?_append] at he'
    split at he'
    · rw [List.getElem?_take] at he'
      split at he'
      · exact hlen k' e' he'
      · cases he'
    · rw [List.getElem?_replicate] at he'
      split at he'
      · cases he'; simp
      · cases he'
  · simp; omega
  · simp; omega
  · intro k' e' j x he' hx'
    have hsp := spl_val cur (i * row.sz) vs (k' * row.sz + j) (by rw [hvl, hs]; exact hmul)
    simp only [hsp]
    rw [List.getElem?_append] at he'
    split at he'
    · rename_i hk'
      rw [List.length_take] at hk'
      rw [List.getElem?_take, if_pos (by omega)] at he'
      obtain ⟨u, q1, q2, q3, q4⟩ := hcs k' e' j x he' hx'
      have hj := lt_of_some hx'
      rw [hlen k' e' he'] at hj
      refine ⟨u, ?_, q2, q3, fun _ => q4 hcl⟩
      have := ix_lt (sz := row.sz) (show k' < i by omega) hj
      rw [if_neg (by omega)]
      exact q1
    · rename_i hk'
      rw [List.length_take] at hk'
      rw [List.getElem?_replicate] at he'
      split at he'
      · rename_i hk2
        rw [List.length_take] at hk2
        cases he'
        rw [List.getElem?_replicate] at hx'
        split at hx'
        · rename_i hj
          cases hx'
          have e1 : i * row.sz ≤ k' * row.sz := Nat.mul_le_mul_right _ (by omega)
          have e2 := ix_lt (sz := row.sz) (show k' < n by omega) hj
          have e3 : n * row.sz = i * row.sz + (n - i) * row.sz := by rw [← Nat.add_mul]; congr 1; omega
          have hlt : k' * row.sz + j - i * row.sz < vs.length := by rw [hvl]; omega
          refine ⟨vs[k' * row.sz + j - i * row.sz], ?_, hv1 _ (List.getElem_mem hlt), .cl .any, fun _ => .any⟩
          rw [if_pos ⟨by omega, by omega⟩, List.getElem?_eq_getElem hlt]
        · cases hx'
      · cases he'
end
end Go.Proofs.YthifgndjpjaddaaGreatDoor
/-
  Walks: slices.DeleteFunc at nodes.
-/
namespace Go.Proofs.YthifgndjpjaddaaGreatDoor
open Go Go.RowKit Go.Proofs
theorem run_0 {P : Program} {k : List It} {s : AS} : run P 0 k s = .more k s := rfl
attribute [local irreducible] RWp AW run kPe pe Kt effA gd gu br retR RDp runD kPeD brW gW effD
set_option maxRecDepth 100000

/-- Some rows, read as data from here on. -/
def hasN : List Nat → Nat → Bool
  | [], _ => false
  | a :: l, r => if a = r then true else hasN l r
def delL : Hp → List Nat → Hp
  | h, [] => h
  | h, r :: l => delL (hdel h r) l
def frzT (ids : List Nat) (h : Hp) (x : AV) : AV := if (idsA x).all (fun r => !hasN ids r) = true then x else viewN 3 h x
def frzS (ids : List Nat) (s : AS) : AS := ⟨s.t.map (frzT ids s.h), delL s.h ids⟩
theorem at_frzS {P : Program} {w0 : World} {lent : Lent} {Q : Exit → Act → World → Prop} {k : List It} {s : AS} (ids : List Nat) (h : Wk s (frzS ids s)) (h' : AW P w0 lent Q k (frzS ids s)) : AW P w0 lent Q k s := at_frz h h'
theorem go_on_n {P : Program} {w0 : World} {lent : Lent} {Q : Exit → Act → World → Prop} {k : List It} {s : AS} (m : Nat) (h : RWp P w0 lent Q (run P m k s)) : AW P w0 lent Q k s := run_sound m k s h
theorem closed_renL {mv : Nat → Bool} : ∀ {l : List AV}, l.all isC = true → l.map (renL mv) = l
  | [], _ => rfl
  | x :: l, hl => by
    simp only [List.all_cons, Bool.and_eq_true] at hl
    rw [List.map_cons, closed_renL hl.2]
    congr 1
    cases x <;> simp only [isC] at hl <;> first | exact absurd hl.1 Bool.false_ne_true | simp only [renL]
theorem idxF_take {α : Type} (p : α → Bool) : ∀ (l : List α) (k j : Nat), idxF p k l = ((k + j : Nat) : Int) → (l.take j).filter (fun n => !p n) = l.take j
  | [], k, j, h => by simp
  | a :: l, k, 0, h => by simp
  | a :: l, k, j + 1, h => by
    by_cases hp : p a = true
    · simp only [idxF, hp, if_true] at h
      omega
    · have hp : p a = false := by simpa using hp
      have h' : idxF p (k + 1) l = ((k + 1 + j : Nat) : Int) := by
        rw [show idxF p k (a :: l) = idxF p (k + 1) l by simp [idxF, hp]] at h
        rw [h]; congr 1; omega
      simp [hp, idxF_take p l (k + 1) j h']
def delD (f : List Nd) (rv : AV) (lr' rows : List Row) : Prop := rv = .o 0 f.length ∧ lr' = [rowN f] ∧ rows = []
theorem DeleteFunc_pcl (l : List Nd) (hl : l.length < 4294967281) (g : FuncId) (caps : List AV) (hc : caps.all isC = true) (p : Nd → Bool) (hp : ∀ n ∈ l, PC Tryz.prog g (nodeA n :: caps) (vB (p n))) :
    PCL Tryz.prog 177 [rowN l] (mvF (some 0)) [.o 0 l.length, .fn g caps] (delD (l.filter fun n => !p n)) := by
  refine pcl_enter Tryz.func177 rfl rfl (by simp) fun w0 fb loc => go_on ?_
  (try simp only [Tryz.ntmps177, hpL, nmL, mvF, renL, closed_renL hc, decide_true, decide_false, push_cast, simprocAttr])
  refine at_call ?_
  simp only [List.map_cons, List.map_nil, view_fn 2, closed_view hc]
  (try simp only [push_cast, simprocAttr])
  refine rwc_v (IndexFuncN_pc l hl g caps hc p hp) (go_on ?_)
  rcases idxF_spec p l 0 with ⟨h1, h2⟩ | ⟨j, n, h1, h2, h3⟩
  · rw [h1]
    (try simp only [push_cast, simprocAttr])
    refine at_retL ?_
    simp only [Tryz.results177, retL, push_cast, simprocAttr]
    have hf : l.filter (fun n => !p n) = l := by
      rw [List.filter_eq_self]
      intro a ha
      have := List.find?_eq_none.1 h2 a ha
      simpa using this
    simp [show List.range 1 = [0] from rfl, nmL, mvF, ndB, ixOf, rowsOf, hget, delD, hf]
  · rw [h1, Nat.zero_add]
    have i0 : eqI (j : Int) (-1) = false := eqI_f (by omega)
    have hj := lt_of_some h2
    have w1 := wr ((j : Int) + 1) (by omega)
    (try simp only [i0, w1, push_cast, simprocAttr])
    have hpn : p n = true := by have := List.find?_some h3; exact this
    obtain ⟨kp, hkp⟩ : ∃ kp : Nat → List Nd, kp = fun i => (l.take i).filter fun n => !p n := ⟨_, rfl⟩
    have k1 : ∀ i a, l[i]? = some a → kp (i + 1) = kp i ++ (if p a then [] else [a]) := by
      intro i a ha
      rw [hkp]
      simp only
      rw [List.take_add_one, ha, List.filter_append]
      cases hpa : p a <;> simp [hpa]
    have kl : ∀ i, (kp i).length ≤ i := fun i => by rw [hkp]; exact Nat.le_trans (List.length_filter_le _ _) (by rw [List.length_take]; omega)
    have kj : kp j = l.take j := by rw [hkp]; exact idxF_take p l 0 j h1
    have kj1 : kp (j + 1) = l.take j := by rw [k1 j n h2, hpn, kj]; simp
    have kn : kp l.length = l.filter fun n => !p n := by rw [hkp]; simp
    have e0 : kp (j + 1) ++ [n] ++ l.drop (j + 1) = l := by
      rw [kj1, List.append_assoc, List.singleton_append, ← drop_of_get h2, List.take_append_drop]
    have e1 : (kp (j + 1)).length = j := by rw [kj1, List.length_take]; omega
    refine at_loop (X := Nat × List Nd) (fun x => [(5, iA (kp x.1).length), (6, iA x.1)]) (fun x => [(600000, rowN (kp x.1 ++ x.2 ++ l.drop x.1)), (4, rowN [])])
      (fun x => x.1 ≤ l.length ∧ (kp x.1).length + x.2.length = x.1 ∧ 0 < x.2.length) (fun x => l.length - x.1) (j + 1, [n]) ⟨by dsimp only; omega, by dsimp only; rw [e1]; rfl, by simp⟩ ?_ ?_
    · simp only [e0, e1]
      (refine wk_ok ?_ ?_ ?_ ?_ <;> simp [closed_ids hc, leL, leH, idsL, idsA, idsR, inH, hget, sameRow, upA, hvA, dsts, dstO, setA_0, setA_1, setA_8, List.append, List.cons_append, List.nil_append])
    · rintro ⟨q, M⟩ ⟨q1, q2, q3⟩
      simp only at q1 q2 q3
      simp only [upA, hvA, dsts, dstO, setA_0, setA_1, setA_8, List.append, List.cons_append, List.nil_append]
      refine go_on_n 11 ?_
      (try simp only [run_0, push_cast, simprocAttr])
      obtain ⟨y, M1, rfl⟩ : ∃ y M1, M = y :: M1 := by
        cases M with
        | nil => simp at q3
        | cons y M1 => exact ⟨y, M1, rfl⟩
      simp only [List.length_cons] at q2
      refine at_b (fun hg => ?_) (fun hg => ?_)
      · have hlt := lt_tt hg
        obtain ⟨x, hx⟩ := get_of_lt hlt
        obtain ⟨R, hRR⟩ : ∃ R, R = kp q ++ y :: M1 ++ l.drop q := ⟨_, rfl⟩
        have hRq : R[q]? = some x := by
          rw [hRR, drop_of_get hx, List.getElem?_append_right (by simp; omega)]
          simp
          rw [show q - ((kp q).length + (M1.length + 1)) = 0 by omega]
          rfl
        have hRi : R[(kp q).length]? = some y := by
          rw [hRR, List.append_assoc, List.getElem?_append_right (Nat.le_refl _)]
          simp
        have hRl : R.length = l.length := by rw [hRR]; simp; omega
        have i1 := ix_n hx
        have i2 := map_get ndC hRq
        have i3 : toIx ((kp q).length : Int) l.length = some (kp q).length := by
          have := ix_n hRi
          rw [hRl] at this
          exact this
        have i4 := map_get ndC hRi
        simp only [ndC] at i2 i4
        have w2 := wr ((q : Int) + 1) (by omega)
        have w3 := wr (((kp q).length : Int) + 1) (by omega)
        rw [← hRR]
        (try simp only [hg, run_0, push_cast, simprocAttr])
        refine at_more (go_on ?_)
        (try simp only [hg, i1, i2, push_cast, simprocAttr])
        refine at_call ?_
        simp only [List.map_cons, List.map_nil, closed_view hc]
        (try simp only [push_cast, simprocAttr])
        refine rwc_v (hp x (mem_of_get hx)) (go_on ?_)
        (try simp only [push_cast, simprocAttr])
        refine at_b (fun hd => ?_) (fun hd => ?_)
        · have hpx := not_t hd
          have hk2 : kp (q + 1) = kp q ++ [x] := by rw [k1 q x hx, hpx]; simp
          have hset : R.set (kp q).length x = kp (q + 1) ++ (M1 ++ [x]) ++ l.drop (q + 1) := by
            rw [hRR, hk2, drop_of_get hx]
            simp
          (try simp only [hd, i3, i4, w2, w3, push_cast, simprocAttr])
          have hs : (List.map ndC R).set (kp q).length [sA x.p, iA x.c.k, iA x.c.v] = List.map ndC (kp (q + 1) ++ (M1 ++ [x]) ++ l.drop (q + 1)) := by rw [← hset, List.map_set]; rfl
          have hl2 : (((kp (q + 1)).length : Nat) : Int) = (kp q).length + 1 := by rw [hk2]; simp
          refine at_fin ⟨(q + 1, M1 ++ [x]), ⟨by dsimp only; omega, by rw [hk2]; simp; omega, by simp⟩, by dsimp only; omega, ?_⟩
          rw [hs]
          (refine wk_ok ?_ ?_ ?_ ?_ <;> simp [closed_ids hc, hl2, leL, leH, idsL, idsA, idsR, inH, hget, sameRow, upA, hvA, dsts, dstO, setA_0, setA_1, setA_8, List.append, List.cons_append, List.nil_append])
        · have hpx := not_f hd
          have hk2 : kp (q + 1) = kp q := by rw [k1 q x hx, hpx]; simp
          have hs : R = kp (q + 1) ++ (y :: M1 ++ [x]) ++ l.drop (q + 1) := by
            rw [hRR, hk2, drop_of_get hx]
            simp
          (try simp only [hd, w2, push_cast, simprocAttr])
          refine at_fin ⟨(q + 1, y :: M1 ++ [x]), ⟨by dsimp only; omega, by rw [hk2]; simp; omega, by simp⟩, by dsimp only; omega, ?_⟩
          simp only [← hs]
          (refine wk_ok ?_ ?_ ?_ ?_ <;> simp [closed_ids hc, hk2, leL, leH, idsL, idsA, idsR, inH, hget, sameRow, upA, hvA, dsts, dstO, setA_0, setA_1, setA_8, List.append, List.cons_append, List.nil_append])
      · have hq := lt_ff hg
        have hq1 : q = l.length := by omega
        subst hq1
        (try simp only [hg, run_0, push_cast, simprocAttr])
        refine at_more (go_on_n 3 ?_)
        (try simp only [run_0, push_cast, simprocAttr])
        refine at_more ?_
        have hRl : (kp l.length ++ y :: M1 ++ l.drop l.length).length = l.length := by simp; omega
        refine aw_slclear (row := rowN (kp l.length ++ y :: M1 ++ l.drop l.length)) (r := 600000) (n := l.length) (i := (kp l.length).length) rfl rfl (by simp) (by simp [hget]) (by simp only [List.length_map]; exact hRl.symm) (by omega) ty28 rfl ty65 rfl rfl rfl rfl (fun w => ⟨_, rfl, rfl⟩) (go_on ?_)
        have hki : ((kp l.length).length : Int) ≤ l.length := by have := kl l.length; omega
        (try simp only [hki, push_cast, simprocAttr])
        have hes : (List.take (kp l.length).length (List.map ndC (kp l.length ++ y :: M1 ++ l.drop l.length)) ++ List.replicate (l.length - (kp l.length).length) [AV.any, AV.any, AV.any]).take (kp l.length).length = (kp l.length).map ndC := by
          rw [List.append_assoc, List.map_append, List.take_append_of_le_length (by simp), List.take_take, Nat.min_self, List.take_append_of_le_length (by simp), take_map]
        refine ret_wk (wk_trunc 600000 (kp l.length).length (by simp only [hget]; rfl) (by simp) (by simp)) ?_
        refine at_retL ?_
        simp only [Tryz.results177, retL, hes, okT, Nat.le_refl, push_cast, decide_true, simprocAttr]
        simp [show List.range 1 = [0] from rfl, nmL, mvF, ndB, ixOf, rowsOf, hget, delD, kn]
end Go.Proofs.YthifgndjpjaddaaGreatDoor
/-
  Walks: impl.TreeValid.
-/
namespace Go.Proofs.YthifgndjpjaddaaGreatDoor
open Go Go.RowKit Go.Proofs
attribute [local irreducible] RWp AW run kPe pe Kt effA gd gu br retR RDp runD kPeD brW gW effD
set_option maxRecDepth 100000

/-- Short enough for any machine. -/
structure SmT (l : List Nd) : Prop where
  n : l.length < 4294967281
  p : ∀ n ∈ l, n.p.length < 4294967281
theorem ndV_2 {n : Nd} (h : ndV n = true) : 2 ≤ n.p.length := by
  simp only [ndV, Bool.and_eq_true, decide_eq_true_eq] at h
  exact (pV_len h.1.1.1 h.1.1.2).1
theorem ndV_eq (n : Nd) : ndV n = (pV n.p && !decide (n.p = [47]) && ctV n.c && !eqI n.c.k 0) := by
  unfold ndV root
  rw [eqI_d]
  simp
set_option maxHeartbeats 1000000 in
theorem TreeValid_pc (l : List Nd) (hs : SmT l) : PC Tryz.prog 57 [ndA l] (vB (tV l)) := by
  have hl := hs.n
  refine pc_enter Tryz.func57 rfl rfl fun w0 fb => go_on ?_; (try simp only [Tryz.ntmps57, push_cast, simprocAttr])
  refine at_loop (X := Nat) (fun k => [(7, iA k)]) (fun _ => [(1, ⟨28, 1, [[ndA l]], true⟩)]) (fun k => k ≤ l.length ∧ (∀ (j : Nat) n, j < k → l[j]? = some n → ndV n = true) ∧ (l.all ndV && sortP l) = tvL (prevN l k) (l.drop k)) (fun k => l.length - k) 0 ⟨Nat.zero_le _, fun j n h => (by omega), (tvL_none l).symm⟩ ?_ ?_
  · (refine wk_ok ?_ ?_ ?_ ?_ <;> simp [leL, leH, idsL, idsA, idsR, inH, hget, sameRow, upA, hvA, dsts, dstO, setA_0, setA_1, setA_8, List.append, List.cons_append, List.nil_append])
  · rintro k ⟨h1, h0, h2⟩
    simp only [upA, hvA, dsts, dstO, setA_0, setA_1, setA_8, List.append, List.cons_append, List.nil_append]
    refine go_on ?_
    (try simp only [push_cast, simprocAttr])
    refine at_b (fun hg => ?_) (fun hg => ?_)
    · have hlt := lt_tt hg
      obtain ⟨n, hk⟩ := get_of_lt hlt
      have i1 := ix_n hk
      have i2 := map_get ndC hk
      simp only [ndC] at i2
      rw [drop_of_get hk] at h2
      have hnp := hs.p n (mem_of_get hk)
      have w1 := wr ((k : Int) + 1) (by omega)
      (try simp only [hg, i1, i2, push_cast, simprocAttr])
      refine at_draw rfl (by kernel_rfl) ?_; simp only [push_cast, simprocAttr]
      have hV : tV l = (tvL (prevN l k) (n :: l.drop (k + 1)) && l.all (dirUp l) && decide (l.length ≤ 10)) := by unfold tV; rw [← h2]
      have hnd := ndV_eq n
      cases k with
      | zero =>
        have h2' : (l.all ndV && sortP l) = (ndV n && tvL (some n) (l.drop 1)) := h2
        have hV' : tV l = (ndV n && tvL (some n) (l.drop 1) && l.all (dirUp l) && decide (l.length ≤ 10)) := hV
        clear h2 hV
        have w3 : IntKind.i64.wrap 1 = 1 := wr 1 (by omega)
        repeat' first | (refine at_bWn (fun hb => ?_) (fun hb => ?_) <;> simp only [w1, hb, push_cast, simprocAttr]) | (refine at_bW (fun hb => ?_) (fun hb => ?_) <;> simp only [w1, hb, push_cast, simprocAttr]) | (refine at_callD (by simp [clB, idsL, idsA, hget]) ?_; (try simp only [push_cast, simprocAttr]); first | (refine rcd_v (PathValid_pc n.p hnp) ?_; simp only [w1, push_cast, simprocAttr]) | (refine rcd_d (PathValid_pc n.p hnp) (by simp [flatV, flatL, ctC, ndC, cmC]) (by simp [ren, ctC, ndC, cmC]) ?_; simp only [w1, push_cast, simprocAttr]) | (refine rcd_v (ContentValid_pc n.c) ?_; simp only [w1, push_cast, simprocAttr]) | (refine rcd_d (ContentValid_pc n.c) (by simp [flatV, flatL, ctC, ndC, cmC]) (by simp [ren, ctC, ndC, cmC]) ?_; simp only [w1, push_cast, simprocAttr])) | (refine at_done (by kernel_rfl) (by kernel_rfl) (go_on ?_); (try simp only [w1, push_cast, simprocAttr]))
        all_goals first
          | (refine at_ret ?_; simp only [Tryz.results57, push_cast, simprocAttr]; simp [vX, hV', hnd, *]; done)
          | (refine at_b (fun hz => ?_) (fun hz => ?_)
             · (try simp only [hz, push_cast, simprocAttr])
               refine at_ret ?_; simp only [Tryz.results57, push_cast, simprocAttr]
               simp [vX, hV', hnd, *]
             · (try simp only [hz, w1, w3, push_cast, simprocAttr])
               have hn1 : ndV n = true := by simp [hnd, *]
               refine at_fin ⟨1, ⟨by omega, ?_, ?_⟩, by omega, ?_⟩
               · intro j n' hj hn'
                 rcases Nat.lt_or_ge j (0) with hj2 | hj2
                 · exact h0 j n' hj2 hn'
                 · have : j = 0 := by omega
                   subst this
                   rw [hk] at hn'
                   cases hn'
                   exact hn1
               · rw [h2', hn1, prevN, hk]; simp [*]
               · (refine wk_ok ?_ ?_ ?_ ?_ <;> simp [leL, leH, idsL, idsA, idsR, inH, hget, sameRow, upA, hvA, dsts, dstO, setA_0, setA_1, setA_8, List.append, List.cons_append, List.nil_append]))
      | succ m =>
        obtain ⟨q, hm⟩ := get_of_lt (l := l) (k := m) (by omega)
        have h2' : (l.all ndV && sortP l) = (ndV n && slt q.p n.p && tvL (some n) (l.drop (m + 1 + 1))) := by rw [h2, prevN, hm]; rfl
        have hV' : tV l = (ndV n && slt q.p n.p && tvL (some n) (l.drop (m + 1 + 1)) && l.all (dirUp l) && decide (l.length ≤ 10)) := by rw [hV, prevN, hm]; rfl
        have i3 := ix_n hm
        have i4 := map_get ndC hm
        simp only [ndC] at i4
        have wm : IntKind.i64.wrap ((m : Int) + 1 - 1) = m := by rw [wr _ (by omega)]; omega
        have l0 : ltI 0 ((m : Int) + 1) = true := ltI_t (by omega)
        clear h2 hV
        have w2 : IntKind.i64.wrap ((m : Int) + 1 + 1) = (m : Int) + 1 + 1 := wr _ (by omega)
        repeat' first | (refine at_bWn (fun hb => ?_) (fun hb => ?_) <;> simp only [w2, i3, i4, wm, l0, slt_not_le, hb, push_cast, simprocAttr]) | (refine at_bW (fun hb => ?_) (fun hb => ?_) <;> simp only [w2, i3, i4, wm, l0, slt_not_le, hb, push_cast, simprocAttr]) | (refine at_callD (by simp [clB, idsL, idsA, hget]) ?_; (try simp only [push_cast, simprocAttr]); first | (refine rcd_v (PathValid_pc n.p hnp) ?_; simp only [w2, i3, i4, wm, l0, slt_not_le, push_cast, simprocAttr]) | (refine rcd_d (PathValid_pc n.p hnp) (by simp [flatV, flatL, ctC, ndC, cmC]) (by simp [ren, ctC, ndC, cmC]) ?_; simp only [w2, i3, i4, wm, l0, slt_not_le, push_cast, simprocAttr]) | (refine rcd_v (ContentValid_pc n.c) ?_; simp only [w2, i3, i4, wm, l0, slt_not_le, push_cast, simprocAttr]) | (refine rcd_d (ContentValid_pc n.c) (by simp [flatV, flatL, ctC, ndC, cmC]) (by simp [ren, ctC, ndC, cmC]) ?_; simp only [w2, i3, i4, wm, l0, slt_not_le, push_cast, simprocAttr])) | (refine at_done (by kernel_rfl) (by kernel_rfl) (go_on ?_); (try simp only [w2, i3, i4, wm, l0, slt_not_le, push_cast, simprocAttr]))
        all_goals first
          | (refine at_ret ?_; simp only [Tryz.results57, push_cast, simprocAttr]; simp [vX, hV', hnd, *]; done)
          | (refine at_b (fun hz => ?_) (fun hz => ?_)
             · (try simp only [hz, push_cast, simprocAttr])
               refine at_ret ?_; simp only [Tryz.results57, push_cast, simprocAttr]
               simp [vX, hV', hnd, *]
             · (try simp only [hz, w2, push_cast, simprocAttr])
               have hn1 : ndV n = true := by simp [hnd, *]
               refine at_fin ⟨m + 1 + 1, ⟨by omega, ?_, ?_⟩, by omega, ?_⟩
               · intro j n' hj hn'
                 rcases Nat.lt_or_ge j (m + 1) with hj2 | hj2
                 · exact h0 j n' hj2 hn'
                 · have : j = m + 1 := by omega
                   subst this
                   rw [hk] at hn'
                   cases hn'
                   exact hn1
               · rw [h2', hn1, prevN, hk]; simp [*]
               · (refine wk_ok ?_ ?_ ?_ ?_ <;> simp [leL, leH, idsL, idsA, idsR, inH, hget, sameRow, upA, hvA, dsts, dstO, setA_0, setA_1, setA_8, List.append, List.cons_append, List.nil_append]))
    · have h3 := lt_ff hg
      have hall : ∀ n ∈ l, ndV n = true := by
        intro n hn
        obtain ⟨j, hj, rfl⟩ := List.getElem_of_mem hn
        exact h0 j _ (by omega) (List.getElem?_eq_getElem hj)
      have hV : tV l = (l.all (dirUp l) && decide (l.length ≤ 10)) := by
        unfold tV
        rw [h2, List.drop_of_length_le h3]
        cases prevN l k <;> simp [tvL]
      have hC := ContainsFuncN_pc l hl 78 [.ip [ndA l]] rfl (fun n => !decide ((getC l (par n.p)).k = 1)) (fun n hn => TreeValid1_pc l hl n (ndV_2 (hall n hn)) (hs.p n hn))
      (try simp only [hg, push_cast, simprocAttr])
      refine at_b (fun hz => ?_) (fun hz => ?_)
      · (try simp only [hz, push_cast, simprocAttr])
        (refine at_call ?_; (try simp only [push_cast, simprocAttr]); refine rwc_v (hC) (go_on ?_); (try simp only [push_cast, simprocAttr]))
        refine at_ret ?_; simp only [Tryz.results57, push_cast, simprocAttr]
        have h5 := of_leI_t hz
        have h6 : decide (l.length ≤ 10) = true := by simp; omega
        have h7 : (!l.any fun n => !decide ((getC l (par n.p)).k = 1)) = l.all (dirUp l) := by
          rw [← List.all_eq_not_any_not]; rfl
        simp [vX, hV, h6, h7]
      · (try simp only [hz, push_cast, simprocAttr])
        refine at_ret ?_; simp only [Tryz.results57, push_cast, simprocAttr]
        have h5 := of_leI_f hz
        have h6 : decide (l.length ≤ 10) = false := by simp; omega
        simp [vX, hV, h6]
end Go.Proofs.YthifgndjpjaddaaGreatDoor
/-
  Walks: impl.put, impl.TreePut.
-/
namespace Go.Proofs.YthifgndjpjaddaaGreatDoor
open Go Go.RowKit Go.Proofs
attribute [local irreducible] RWp AW run kPe pe Kt effA gd gu br retR RDp runD kPeD brW gW effD
set_option maxRecDepth 100000

theorem put1_pc (n : Nd) (path : Str) : PC Tryz.prog 178 [nodeA n, .ip [sA path]] (vB (decide (n.p = path))) := by
  unfold nodeA ndC
  refine pc_enter Tryz.func178 rfl rfl fun w0 fb => go_on ?_; (try simp only [Tryz.ntmps178, push_cast, simprocAttr])
  repeat' first | (refine at_b (fun hb => ?_) (fun hb => ?_) <;> simp only [hb, push_cast, simprocAttr]) | (refine at_ret ?_; simp only [Tryz.results178, push_cast, simprocAttr]) | (show RWp _ _ _ _ _; simp only [push_cast, simprocAttr])
  simp [vX]
theorem put_pc (l : List Nd) (hl : l.length < 4294967280) (path : Str) (c : Ct) : PC Tryz.prog 154 [ndA l, sA path, ctA c] (rX (.o 0 (putC l path c).length) [rowN (putC l path c)]) := by
  unfold ctA ctC
  refine pc_enter Tryz.func154 rfl rfl fun w0 fb => go_on ?_; (try simp only [Tryz.ntmps154, push_cast, simprocAttr])
  refine at_call ?_
  (try simp only [push_cast, simprocAttr])
  refine rwc_r (cloneTree_pc l (by omega)) rfl (flat_n _) (by simp [frB, baseOf]) ?_
  (try simp only [push_cast, simprocAttr])
  (refine at_frzS [4, 5] (by refine wk_frz ?_ ?_ ?_ ?_ <;> simp [frzS, frzT, hasN, delL, hdel, leF, leHF, frzB, idsL, idsA, idsR, inH, hget, sameRow, viewN, tk]) ?_; simp only [frzS, frzT, hasN, delL, hdel, idsA, idsL, viewN, hget, List.map_cons, List.map_nil, List.all_cons, List.all_nil, List.append_nil, List.drop, List.getElem?_cons_zero, List.getElem?_cons_succ, Bool.not_false, Bool.not_true, Bool.and_true, if_true, if_false, simprocAttr])
  obtain ⟨f, hf⟩ : ∃ f, f = l.filter fun n => !decide (n.p = path) := ⟨_, rfl⟩
  have hfl : f.length ≤ l.length := by rw [hf]; exact List.length_filter_le _ _
  have hD := DeleteFunc_pcl l (by omega) 178 [.ip [sA path]] rfl (fun n => decide (n.p = path)) (fun n _ => put1_pc n path)
  rw [← hf] at hD
  refine go_on ?_
  (try simp only [push_cast, simprocAttr])
  refine call_lend [11000] (some 0) (lr := [rowN l]) (by simp [ndB]) (by simp [rowsOf, hget]) (by simp [idsL, idsA]) (by simp [mvN]) (by simpa [rnA, ixOf] using hD) ?_
  rintro rv lr' rows ⟨rfl, rfl, rfl⟩
  refine ⟨by simp [shB, mvF], by simp [frB], go_on ?_⟩
  (try simp only [killA, killH, killRow, push_cast, simprocAttr])
  refine at_b (fun hk => ?_) (fun hk => ?_)
  · have hk0 := of_eqI_f (not_t hk)
    have hput : putC l path c = insN ⟨path, c⟩ f := by unfold putC; rw [if_neg hk0, hf]; congr 1; apply List.filter_congr; intro n _; simp
    rw [hput]
    (try simp only [hk, push_cast, simprocAttr])
    refine at_loop (X := Nat) (fun k => [(8, iA k)]) (fun _ => [(6, rowN []), (11000, rowN f)]) (fun k => k ≤ f.length ∧ insN ⟨path, c⟩ f = f.take k ++ insN ⟨path, c⟩ (f.drop k)) (fun k => f.length - k) 0 ⟨Nat.zero_le _, by simp⟩ ?_ ?_
    · (refine wk_ok ?_ ?_ ?_ ?_ <;> simp [leL, leH, idsL, idsA, idsR, inH, hget, sameRow, upA, hvA, dsts, dstO, setA_0, setA_1, setA_8, List.append, List.cons_append, List.nil_append])
    · rintro k ⟨h1, h2⟩
      simp only [upA, hvA, dsts, dstO, setA_0, setA_1, setA_8, List.append, List.cons_append, List.nil_append]
      refine go_on ?_
      (try simp only [push_cast, simprocAttr])
      by_cases hlt : k < f.length
      · obtain ⟨x, hx⟩ := get_of_lt hlt
        have i0 : ltI (k : Int) f.length = true := ltI_t (by omega)
        have i1 := ix_n hx
        have i2 := map_get ndC hx
        simp only [ndC] at i2
        have w1 := wr ((k : Int) + 1) (by omega)
        refine at_draw rfl (by kernel_rfl) ?_
        (try simp only [i0, i1, i2, push_cast, simprocAttr])
        repeat' first | (refine at_bWn (fun hb => ?_) (fun hb => ?_) <;> simp only [i0, hb, push_cast, simprocAttr]) | (refine at_bW (fun hb => ?_) (fun hb => ?_) <;> simp only [i0, hb, push_cast, simprocAttr])  | (refine at_done (by kernel_rfl) (by kernel_rfl) (go_on ?_); (try simp only [i0, push_cast, simprocAttr]))
        refine at_b (fun hs => ?_) (fun hs => ?_)
        · (try simp only [hs, w1, push_cast, simprocAttr])
          refine at_fin ⟨k + 1, ⟨by omega, ?_⟩, by omega, ?_⟩
          · rw [h2, drop_of_get hx, insN, hs, if_pos rfl, List.take_add_one, hx]
            simp
          · (refine wk_ok ?_ ?_ ?_ ?_ <;> simp [leL, leH, idsL, idsA, idsR, inH, hget, sameRow, upA, hvA, dsts, dstO, setA_0, setA_1, setA_8, List.append, List.cons_append, List.nil_append])
        · (try simp only [hs, push_cast, simprocAttr])
          have hlen2 : (f.take k ++ (⟨path, c⟩ : Nd) :: f.drop k).length = f.length + 1 := by simp; omega
          refine call_lend [11000, 36] (some 0) (lr := [rowN f, rowN [⟨path, c⟩]]) (by simp [ndB]) (by simp [rowsOf, hget, ndC]) (by simp [idsL, idsA]) (by simp [mvN]) (by simpa [rnA, ixOf] using Insert_pcl f ⟨path, c⟩ k h1 (by omega)) ?_
          rintro rv lr' rows ⟨rfl, rfl, rfl⟩
          refine ⟨by simp [shB, mvF], by simp [frB], go_on ?_⟩
          (try simp only [killA, killH, killRow, push_cast, simprocAttr])
          refine at_call ?_
          (try simp only [hlen2, push_cast, simprocAttr])
          refine rwc_r (cloneTree_pc (f.take k ++ ⟨path, c⟩ :: f.drop k) (by rw [hlen2]; omega)) rfl (flat_n _) (by simp [frB, baseOf]) (go_on ?_)
          (try simp only [push_cast, simprocAttr])
          refine at_ret ?_; simp only [Tryz.results154, push_cast, simprocAttr]
          rw [drop_of_get hx, insN, hs, if_neg (by simp), ← drop_of_get hx] at h2
          simp [rX, ixOf, h2]
      · have i0 : ltI (k : Int) f.length = false := ltI_f (by omega)
        refine at_draw rfl (by kernel_rfl) ?_
        (try simp only [i0, push_cast, simprocAttr])
        repeat' first | (refine at_bWn (fun hb => ?_) (fun hb => ?_) <;> simp only [i0, hb, push_cast, simprocAttr]) | (refine at_bW (fun hb => ?_) (fun hb => ?_) <;> simp only [i0, hb, push_cast, simprocAttr])  | (refine at_done (by kernel_rfl) (by kernel_rfl) (go_on ?_); (try simp only [i0, push_cast, simprocAttr]))
        (try simp only [push_cast, simprocAttr])
        have hlen2 : (f.take k ++ (⟨path, c⟩ : Nd) :: f.drop k).length = f.length + 1 := by simp; omega
        refine call_lend [11000, 36] (some 0) (lr := [rowN f, rowN [⟨path, c⟩]]) (by simp [ndB]) (by simp [rowsOf, hget, ndC]) (by simp [idsL, idsA]) (by simp [mvN]) (by simpa [rnA, ixOf] using Insert_pcl f ⟨path, c⟩ k h1 (by omega)) ?_
        rintro rv lr' rows ⟨rfl, rfl, rfl⟩
        refine ⟨by simp [shB, mvF], by simp [frB], go_on ?_⟩
        (try simp only [killA, killH, killRow, push_cast, simprocAttr])
        refine at_call ?_
        (try simp only [hlen2, push_cast, simprocAttr])
        refine rwc_r (cloneTree_pc (f.take k ++ ⟨path, c⟩ :: f.drop k) (by rw [hlen2]; omega)) rfl (flat_n _) (by simp [frB, baseOf]) (go_on ?_)
        (try simp only [push_cast, simprocAttr])
        refine at_ret ?_; simp only [Tryz.results154, push_cast, simprocAttr]
        rw [List.drop_of_length_le (by omega), insN] at h2
        rw [List.drop_of_length_le (by omega)]
        simp [rX, ixOf, h2]
  · have hk0 := of_eqI_t (not_f hk)
    have hput : putC l path c = f := by unfold putC; rw [if_pos hk0, hf]; apply List.filter_congr; intro n _; simp
    rw [hput]
    (try simp only [hk, push_cast, simprocAttr])
    (refine at_call ?_; (try simp only [push_cast, simprocAttr]); refine rwc_r (cloneTree_pc f (by omega)) rfl (flat_n _) (by simp [frB, baseOf]) (go_on ?_); (try simp only [push_cast, simprocAttr]))
    refine at_ret ?_; simp only [Tryz.results154, push_cast, simprocAttr]
    simp [rX, ixOf]
end Go.Proofs.YthifgndjpjaddaaGreatDoor
/-
  Walks: impl.TreePut, commands.
-/
namespace Go.Proofs.YthifgndjpjaddaaGreatDoor
open Go Go.RowKit Go.Proofs
def dropT (ids : List Nat) (x : AV) : AV := if (idsA x).all (fun r => !hasN ids r) = true then x else .any
def dropS (ids : List Nat) (s : AS) : AS := ⟨s.t.map (dropT ids), delL s.h ids⟩
theorem at_dropS {P : Program} {w0 : World} {lent : Lent} {Q : Exit → Act → World → Prop} {k : List It} {s : AS} (ids : List Nat) (h : Wk s (dropS ids s)) (h' : AW P w0 lent Q k (dropS ids s)) : AW P w0 lent Q k s := AW.wk h h'
attribute [local irreducible] RWp AW run kPe pe Kt effA gd gu br retR RDp runD kPeD brW gW effD
set_option maxRecDepth 100000

theorem ctg : Tryz.prog.eqGuardType Tryz.prog.depth 63 = false := by kernel_rfl
theorem cth : Tryz.prog.stoodInHeld 63 = false := by kernel_rfl
theorem ct_eq (a b : Ct) : (eqI a.k b.k && eqI a.v b.v) = decide (a = b) := by
  obtain ⟨a1, a2⟩ := a
  obtain ⟨b1, b2⟩ := b
  simp [eqI_d]
theorem CommandValid_pc (c : Cm) (hp : c.p.length < 4294967281) : PC Tryz.prog 56 [cmdA c] (vB (cmV c)) := by
  unfold cmdA cmC
  have hc : cmV c = (pV c.p && !decide (c.p = [47]) && ctV c.a && ctV c.b && !decide (c.a = c.b)) := by unfold cmV root; simp
  refine pc_enter Tryz.func56 rfl rfl fun w0 fb => go_on ?_; (try simp only [Tryz.ntmps56, push_cast, simprocAttr])
  repeat' first | (refine at_b (fun hb => ?_) (fun hb => ?_) <;> simp only [ctg, cth, hb, push_cast, simprocAttr]) | (refine at_ret ?_; simp only [ctg, cth, Tryz.results56, push_cast, simprocAttr]) | (refine at_call ?_; (try simp only [push_cast, simprocAttr]); refine rwc_v (by first | exact PathValid_pc c.p hp | exact ContentValid_pc c.a | exact ContentValid_pc c.b) (go_on ?_); simp only [ctg, cth, push_cast, simprocAttr]) | (show RWp _ _ _ _ _; simp only [ctg, cth, push_cast, simprocAttr])
  all_goals simp [vX, hc, ct_eq, *]
  all_goals simp [*] at *
/-- A tree, perhaps. -/
def optN (r : Option (List Nd)) : AV → List Row → Prop := rX (.tup [.o 0 (r.getD []).length, bA r.isSome]) [rowN (r.getD [])]
theorem ctC_len (l : List Nd) (path : Str) (c : Ct) : (putC l path c).length ≤ l.length + 1 := by
  unfold putC
  split
  · exact Nat.le_succ_of_le (List.length_filter_le _ _)
  · rw [insN_len]
    exact Nat.succ_le_succ (List.length_filter_le _ _)
theorem sm_put {l : List Nd} (hs : SmT l) (hl : l.length < 4294967280) {path : Str} (hp : path.length < 4294967281) (c : Ct) : SmT (putC l path c) := by
  refine ⟨by have := ctC_len l path c; omega, fun n hn => ?_⟩
  rcases (mem_putC n).1 hn with ⟨_, rfl⟩ | ⟨h, _⟩
  · exact hp
  · exact hs.p n h
theorem TreePut_pc (l : List Nd) (hs : SmT l) (hl : l.length < 4294967280) (path : Str) (hp : path.length < 4294967281) (c : Ct) : PC Tryz.prog 130 [ndA l, sA path, ctA c] (optN (tPut l path c)) := by
  have hput := put_pc l hl path c
  have hsp := sm_put hs hl hp c
  have ht : tPut l path c = if (tV l && pV path && ctV c && !decide (path = [47])) = true then (if tV (putC l path c) = true then some (putC l path c) else none) else none := by
    unfold tPut root
    cases tV l <;> cases pV path <;> cases ctV c <;> by_cases h : path = [47] <;> cases tV (putC l path c) <;> simp [h]
  unfold ctA ctC at *
  refine pc_enter Tryz.func130 rfl rfl fun w0 fb => go_on ?_; (try simp only [Tryz.ntmps130, push_cast, simprocAttr])
  refine at_call ?_
  (try simp only [push_cast, simprocAttr])
  refine rwc_v (TreeValid_pc l hs) ?_
  (try simp only [push_cast, simprocAttr])
  (refine at_dropS [6] (by refine wk_ok ?_ ?_ ?_ ?_ <;> simp [dropS, dropT, hasN, delL, hdel, leL, leH, idsL, idsA, idsR, inH, hget, sameRow]) ?_; simp only [dropS, dropT, hasN, delL, hdel, idsA, idsL, hget, List.map_cons, List.map_nil, List.all_cons, List.all_nil, List.append_nil, Bool.not_false, Bool.not_true, Bool.and_true, if_true, if_false, simprocAttr])
  refine go_on ?_
  repeat' first | (refine at_b (fun hb => ?_) (fun hb => ?_) <;> simp only [hb, push_cast, simprocAttr]) | (refine at_ret ?_; simp only [Tryz.results130, push_cast, simprocAttr]) | (refine at_call ?_; (try simp only [push_cast, simprocAttr]); refine rwc_v (by first | exact PathValid_pc path hp | exact ContentValid_pc c) (go_on ?_); simp only [push_cast, simprocAttr]) | (show RWp _ _ _ _ _; simp only [push_cast, simprocAttr])
  all_goals first
    | (simp only [Bool.not_eq_true', Bool.not_eq_false'] at *; simp [optN, rX, ht, *]; done)
    | (simp [optN, rX, ht, *]; done)
    | ((refine at_call ?_; (try simp only [push_cast, simprocAttr]); refine rwc_r (hput) rfl (flat_n _) (by simp [frB, baseOf]) (go_on ?_); (try simp only [push_cast, simprocAttr]))
       (refine at_call ?_; (try simp only [push_cast, simprocAttr]); refine rwc_v (TreeValid_pc _ hsp) (go_on ?_); (try simp only [push_cast, simprocAttr]))
       refine at_b (fun hv => ?_) (fun hv => ?_)
       · (try simp only [hv, push_cast, simprocAttr])
         refine at_ret ?_; simp only [Tryz.results130, push_cast, simprocAttr]
         simp only [Bool.not_eq_true', Bool.not_eq_false'] at *
         simp [optN, rX, ht, ixOf, *]
       · (try simp only [hv, push_cast, simprocAttr])
         refine at_ret ?_; simp only [Tryz.results130, push_cast, simprocAttr]
         simp only [Bool.not_eq_true', Bool.not_eq_false'] at *
         simp [optN, rX, ht, ixOf, *])
/-- What a method leaves: a tree as data, and whether. -/
def shN (l : List Nd) (b : Bool) : AV → List Row → Prop := vX (.tup [ndA l, bA b])
def apB2 (l : List Nd) (c : Cm) : List Nd × Bool := match apC l c with | some t => (t, true) | none => (l, false)
theorem apply_pc (l : List Nd) (hs : SmT l) (hl : l.length < 4294967280) (c : Cm) (hp : c.p.length < 4294967281) : PC Tryz.prog 106 [cmdA c, ndA l] (shN (apB2 l c).1 (apB2 l c).2) := by
  have hput := TreePut_pc l hs hl c.p hp c.b
  unfold cmdA cmC
  refine pc_enter Tryz.func106 rfl rfl fun w0 fb => go_on ?_; (try simp only [Tryz.ntmps106, push_cast, simprocAttr])
  refine at_draw rfl (by kernel_rfl) ?_; simp only [push_cast, simprocAttr]
  repeat' first | (refine at_bWn (fun hb => ?_) (fun hb => ?_) <;> simp only [ctg, cth, ct_eq, hb, push_cast, simprocAttr]) | (refine at_bW (fun hb => ?_) (fun hb => ?_) <;> simp only [ctg, cth, ct_eq, hb, push_cast, simprocAttr]) | (refine at_callD (by simp [clB, idsL, idsA, hget]) ?_; (try simp only [push_cast, simprocAttr]); first | (refine rcd_v (get_pc l (by omega) c.p) ?_; simp only [ctg, cth, ct_eq, push_cast, simprocAttr]) | (refine rcd_d (get_pc l (by omega) c.p) (by simp [flatV, flatL, ctC, ndC, cmC]) (by simp [ren, ctC, ndC, cmC]) ?_; simp only [ctg, cth, ct_eq, push_cast, simprocAttr])) | (refine at_done (by kernel_rfl) (by kernel_rfl) (go_on ?_); (try simp only [ctg, cth, ct_eq, push_cast, simprocAttr]))
  have hN : flatV (.tup [.o 0 0, bA true]) = true := by simp [flatV, flatL]
  refine at_b (fun hb => ?_) (fun hb => ?_)
  · have h1 : apB2 l c = (l, false) := by
      have := not_t hb
      simp at this
      simp [apB2, apC, this]
    (try simp only [hb, push_cast, simprocAttr])
    refine at_retf ?_; simp only [Tryz.results106, push_cast, simprocAttr]
    simp [shN, vX, h1]
  · have h1 : getC l c.p = c.a := by simpa using not_f hb
    (try simp only [hb, push_cast, simprocAttr])
    cases hr : tPut l c.p c.b with
    | none =>
      have h2 : apB2 l c = (l, false) := by simp [apB2, apC, h1, hr]
      rw [hr] at hput
      unfold optN at hput
      simp only [Option.getD_none, Option.isSome_none, List.length_nil] at hput
      (refine at_call ?_; (try simp only [push_cast, simprocAttr]); refine rwc_r (hput) (by simp [flatV, flatL]) (flat_n []) (by simp [frB, baseOf]) (go_on ?_); (try simp only [push_cast, simprocAttr]))
      refine at_retf ?_; simp only [Tryz.results106, push_cast, simprocAttr]
      simp [shN, vX, h2]
    | some t =>
      have h2 : apB2 l c = (t, true) := by simp [apB2, apC, h1, hr]
      rw [hr] at hput
      unfold optN at hput
      simp only [Option.getD_some, Option.isSome_some] at hput
      (refine at_call ?_; (try simp only [push_cast, simprocAttr]); refine rwc_r (hput) (by simp [flatV, flatL]) (flat_n _) (by simp [frB, baseOf]) (go_on ?_); (try simp only [push_cast, simprocAttr]))
      refine at_retf ?_; simp only [Tryz.results106, push_cast, simprocAttr]
      simp [shN, vX, h2, ixOf]
end Go.Proofs.YthifgndjpjaddaaGreatDoor
/-
  Walks: logs; impl.SiteValid.
-/
namespace Go.Proofs.YthifgndjpjaddaaGreatDoor
open Go Go.RowKit Go.Proofs
theorem at_share2 {P : Program} {w0 : World} {lent : Lent} {Q : Exit → Act → World → Prop} {f : FuncId} {args : List AV} {dst : Option Tmp} {k : List It} {s : AS} {x : AV} (hc : args.all isC2 = true) (hx : ren (baseOf dst) x = x)
    (hpc : PC P f args (vX x)) (hk : AW P w0 lent Q k (s.put dst x)) : RWp P w0 lent Q (.call f args dst k s) := by
  intro loc a w hR vs hs hg
  refine ⟨hpc.1 vs w, (hpc.2 w (Live s.h loc) vs (fun b hb => ?_) hs fun j y hy => ?_).mono ?_⟩
  · rcases hb with hb | hb
    · exact Live.lt hR.rw hb
    · rw [hR.fbe] at hb
      exact Nat.lt_of_lt_of_le (hR.fbl b hb).1 hR.size
  · exact isC2_ok (hg j y hy) (List.all_eq_true.1 hc y (List.mem_of_getElem? hy))
  · rintro e w' ⟨rv, rows, v, ⟨rfl, rfl⟩, rfl, hb, hres⟩
    obtain ⟨loc', hR', hv⟩ := Rel.join true (baseOf dst) hR hb hres (frB_0 _ _) (fun _ q hq => hq) (.inl rfl)
    rw [hx] at hv
    simp only [hpOf, List.append_nil] at hR' hv
    exact ⟨v, rfl, hk loc' _ w' (hR'.put dst hv)⟩
attribute [local irreducible] RWp AW run kPe pe Kt effA gd gu br retR RDp runD kPeD brW gW effD
set_option maxRecDepth 100000

/-- Short enough for any machine. -/
structure SmL (l : List Cm) : Prop where
  n : l.length < 4294967280
  p : ∀ c ∈ l, c.p.length < 4294967281
structure SmT2 (l : List Nd) : Prop where
  s : SmT l
  n : l.length < 4294967280
theorem sm_tv {l : List Nd} (h : TV l) : SmT2 l := by
  have hl := h.le
  refine ⟨⟨by omega, fun n hn => ?_⟩, by omega⟩
  obtain ⟨h1, h2, _⟩ := h.nd n hn
  have := (pV_len h1 h2).2
  omega
theorem IndexFuncC_pc (l : List Cm) (hl : l.length < 4294967281) (g : FuncId) (caps : List AV) (hc : caps.all isC = true) (p : Cm → Bool) (hp : ∀ n ∈ l, PC Tryz.prog g (cmdA n :: caps) (vB (p n))) :
    PC Tryz.prog 131 [cmA l, .fn g caps] (vI (idxF p 0 l)) := by
  refine pc_enter Tryz.func131 rfl rfl fun w0 fb => go_on ?_; (try simp only [Tryz.ntmps131, push_cast, simprocAttr])
  refine at_loop (X := Nat) (fun k => [(8, iA k)]) (fun _ => []) (fun k => k ≤ l.length ∧ idxF p 0 l = idxF p k (l.drop k)) (fun k => l.length - k) 0 ⟨Nat.zero_le _, rfl⟩ ?_ ?_
  · (refine wk_ok ?_ ?_ ?_ ?_ <;> simp [closed_ids hc, leL, leH, idsL, idsA, idsR, inH, hget, sameRow, upA, hvA, dsts, dstO, setA_0, setA_1, setA_8, List.append, List.cons_append, List.nil_append])
  · rintro k ⟨h1, h2⟩
    simp only [upA, hvA, dsts, dstO, setA_0, setA_1, setA_8, List.append, List.cons_append, List.nil_append]
    refine go_on ?_
    (try simp only [push_cast, simprocAttr])
    refine at_b (fun hg => ?_) (fun hg => ?_)
    · have hlt := lt_tt hg
      obtain ⟨x, hk⟩ := get_of_lt hlt
      have i1 := ix_n hk
      have i2 := map_get cmC hk
      simp only [cmC] at i2
      rw [drop_of_get hk] at h2
      (try simp only [hg, i1, i2, push_cast, simprocAttr])
      have hx := hp x (mem_of_get hk)
      refine at_call ?_
      simp only [List.map_cons, closed_view hc]
      (try simp only [push_cast, simprocAttr])
      refine rwc_v hx (go_on ?_)
      (try simp only [push_cast, simprocAttr])
      refine at_b (fun hn => ?_) (fun hn => ?_)
      · (try simp only [hn, push_cast, simprocAttr])
        refine at_ret ?_; simp only [Tryz.results131, push_cast, simprocAttr]
        simp [vX, h2, idxF, hn]
      · have w1 := wr ((k : Int) + 1) (by omega)
        (try simp only [hn, w1, push_cast, simprocAttr])
        refine at_fin ⟨k + 1, ⟨by omega, ?_⟩, by omega, ?_⟩
        · rw [h2]; simp [idxF, hn]
        · (refine wk_ok ?_ ?_ ?_ ?_ <;> simp [closed_ids hc, leL, leH, idsL, idsA, idsR, inH, hget, sameRow, upA, hvA, dsts, dstO, setA_0, setA_1, setA_8, List.append, List.cons_append, List.nil_append])
    · have h3 := lt_ff hg
      (try simp only [hg, push_cast, simprocAttr])
      refine at_ret ?_; simp only [Tryz.results131, push_cast, simprocAttr]
      rw [List.drop_of_length_le h3] at h2
      simp [vX, h2, idxF]
theorem ContainsFuncC_pc (l : List Cm) (hl : l.length < 4294967281) (g : FuncId) (caps : List AV) (hc : caps.all isC = true) (p : Cm → Bool) (hp : ∀ n ∈ l, PC Tryz.prog g (cmdA n :: caps) (vB (p n))) :
    PC Tryz.prog 138 [cmA l, .fn g caps] (vB (l.any p)) := by
  refine pc_enter Tryz.func138 rfl rfl fun w0 fb => go_on ?_; (try simp only [Tryz.ntmps138, push_cast, simprocAttr])
  refine at_call ?_
  simp only [List.map_cons, List.map_nil, view_fn 2, closed_view hc]
  (try simp only [push_cast, simprocAttr])
  refine rwc_v (IndexFuncC_pc l hl g caps hc p hp) (go_on ?_)
  (try simp only [push_cast, simprocAttr])
  refine at_ret ?_; simp only [Tryz.results138, push_cast, simprocAttr]
  simp [vX, idxF_any]
theorem allValid1_pc (c : Cm) (hp : c.p.length < 4294967281) : PC Tryz.prog 145 [cmdA c] (vB (!cmV c)) := by
  have h := CommandValid_pc c hp
  unfold cmdA cmC at *
  refine pc_enter Tryz.func145 rfl rfl fun w0 fb => go_on ?_; (try simp only [Tryz.ntmps145, push_cast, simprocAttr])
  (refine at_call ?_; (try simp only [push_cast, simprocAttr]); refine rwc_v (h) (go_on ?_); (try simp only [push_cast, simprocAttr]))
  refine at_ret ?_; simp only [Tryz.results145, push_cast, simprocAttr]
  simp [vX]
theorem allValid_pc (l : List Cm) (hs : SmL l) : PC Tryz.prog 119 [cmA l] (vB (l.all cmV)) := by
  have hC := ContainsFuncC_pc l (by have := hs.n; omega) 145 [] rfl (fun c => !cmV c) (fun c hc => allValid1_pc c (hs.p c hc))
  refine pc_enter Tryz.func119 rfl rfl fun w0 fb => go_on ?_; (try simp only [Tryz.ntmps119, push_cast, simprocAttr])
  (refine at_call ?_; (try simp only [push_cast, simprocAttr]); refine rwc_v (hC) (go_on ?_); (try simp only [push_cast, simprocAttr]))
  refine at_ret ?_; simp only [Tryz.results119, push_cast, simprocAttr]
  have : (!l.any fun c => !cmV c) = l.all cmV := by rw [← List.all_eq_not_any_not]
  simp [vX, this]
theorem LogValid_pc (l : List Cm) (hs : SmL l) : PC Tryz.prog 93 [cmA l] (vB (lV l)) := by
  refine pc_enter Tryz.func93 rfl rfl fun w0 fb => go_on ?_; (try simp only [Tryz.ntmps93, push_cast, simprocAttr])
  repeat' first | (refine at_b (fun hb => ?_) (fun hb => ?_) <;> simp only [hb, push_cast, simprocAttr]) | (refine at_ret ?_; simp only [Tryz.results93, push_cast, simprocAttr]) | (refine at_call ?_; (try simp only [push_cast, simprocAttr]); refine rwc_v (by first | exact allValid_pc l hs) (go_on ?_); simp only [push_cast, simprocAttr]) | (show RWp _ _ _ _ _; simp only [push_cast, simprocAttr])
  · have h6 : decide (l.length ≤ 20) = true := by have := of_leI_t hb; simp; omega
    simp [vX, lV, h6]
  · have h6 : decide (l.length ≤ 20) = false := by have := of_leI_f hb; simp; omega
    simp [vX, lV, h6]
theorem apB2_sm {t : List Nd} (hs : SmT2 t) (c : Cm) : SmT2 (apB2 t c).1 := by
  unfold apB2
  cases h : apC t c with
  | none => exact hs
  | some t' => exact sm_tv (apC_some h).2.2.2.1
theorem applyAll_pc (l : List Cm) (hs : SmL l) (t : List Nd) (ht : SmT2 t) : PC Tryz.prog 94 [ndA t, cmA l] (vX (.tup [ndA (apAll t l).1, iA (apAll t l).2])) := by
  refine pc_enter Tryz.func94 rfl rfl fun w0 fb => go_on ?_; (try simp only [Tryz.ntmps94, push_cast, simprocAttr])
  refine at_loop (X := Nat × List Nd) (fun x => [(0, ndA x.2), (12, iA x.1)]) (fun _ => [(4, rowN [])]) (fun x => x.1 ≤ l.length ∧ SmT2 x.2 ∧ apAll t l = ((apAll x.2 (l.drop x.1)).1, (apAll x.2 (l.drop x.1)).2 + x.1)) (fun x => l.length - x.1) (0, t) ⟨Nat.zero_le _, ht, by simp⟩ ?_ ?_
  · (refine wk_ok ?_ ?_ ?_ ?_ <;> simp [leL, leH, idsL, idsA, idsR, inH, hget, sameRow, upA, hvA, dsts, dstO, setA_0, setA_1, setA_8, List.append, List.cons_append, List.nil_append])
  · rintro ⟨k, u⟩ ⟨h1, hu, h2⟩
    simp only at h1 hu h2
    simp only [upA, hvA, dsts, dstO, setA_0, setA_1, setA_8, List.append, List.cons_append, List.nil_append]
    refine go_on ?_
    (try simp only [push_cast, simprocAttr])
    refine at_b (fun hg => ?_) (fun hg => ?_)
    · have hlt := lt_tt hg
      obtain ⟨x, hk⟩ := get_of_lt hlt
      have i1 := ix_n hk
      have i2 := map_get cmC hk
      simp only [cmC] at i2
      rw [drop_of_get hk] at h2
      have w1 := wr ((k : Int) + 1) (by have := hs.n; omega)
      have hA := apply_pc u hu.s hu.n x (hs.p x (mem_of_get hk))
      unfold cmdA cmC at hA
      (try simp only [hg, i1, i2, push_cast, simprocAttr])
      unfold shN at hA
      cases hr : apC u x with
      | none =>
        have e : apB2 u x = (u, false) := by simp [apB2, hr]
        rw [e] at hA
        ((try simp only [push_cast, simprocAttr]); refine at_share2 (by simp [isC2, isC]) (by first | rfl | simp [ren]) (hA) (go_on ?_); (try simp only [push_cast, simprocAttr]))
        refine at_ret ?_; simp only [Tryz.results94, push_cast, simprocAttr]
        simp [vX, h2, apAll, hr]
      | some u' =>
        have e : apB2 u x = (u', true) := by simp [apB2, hr]
        have hu' : SmT2 u' := by have := apB2_sm hu x; rw [e] at this; exact this
        rw [e] at hA
        ((try simp only [push_cast, simprocAttr]); refine at_share2 (by simp [isC2, isC]) (by first | rfl | simp [ren]) (hA) (go_on ?_); (try simp only [w1, push_cast, simprocAttr]))
        refine at_fin ⟨(k + 1, u'), ⟨by dsimp only; omega, hu', ?_⟩, by dsimp only; omega, ?_⟩
        · dsimp only
          rw [h2]
          simp only [apAll, hr]
          congr 1
          omega
        · (refine wk_ok ?_ ?_ ?_ ?_ <;> simp [leL, leH, idsL, idsA, idsR, inH, hget, sameRow, upA, hvA, dsts, dstO, setA_0, setA_1, setA_8, List.append, List.cons_append, List.nil_append])
    · have h3 := lt_ff hg
      rw [List.drop_of_length_le h3] at h2
      have hk : k = l.length := by omega
      (try simp only [hg, push_cast, simprocAttr])
      refine at_ret ?_; simp only [Tryz.results94, push_cast, simprocAttr]
      simp [vX, h2, apAll, hk]
/-- What a log does. -/
def lap (t : List Nd) (l : List Cm) : List Nd × Int := if (tV t && lV l) = true then ((apAll t l).1, ((apAll t l).2 : Int)) else ([], -1)
theorem apAll_sm : ∀ (l : List Cm) (t : List Nd), SmT2 t → SmT2 (apAll t l).1
  | [], t, h => h
  | c :: l, t, h => by
    unfold apAll
    cases hr : apC t c with
    | none => exact h
    | some t' => exact apAll_sm l t' (sm_tv (apC_some hr).2.2.2.1)
theorem LogApply_pc (t : List Nd) (ht : SmT2 t) (l : List Cm) (hs : SmL l) : PC Tryz.prog 69 [ndA t, cmA l] (rX (.tup [.o 0 (lap t l).1.length, iA (lap t l).2]) [rowN (lap t l).1]) := by
  have hsm := apAll_sm l t ht
  have hA := applyAll_pc l hs t ht
  refine pc_enter Tryz.func69 rfl rfl fun w0 fb => go_on ?_; (try simp only [Tryz.ntmps69, push_cast, simprocAttr])
  refine at_call ?_
  (try simp only [push_cast, simprocAttr])
  refine rwc_v (TreeValid_pc t ht.s) ?_
  (try simp only [push_cast, simprocAttr])
  (refine at_dropS [4] (by refine wk_ok ?_ ?_ ?_ ?_ <;> simp [dropS, dropT, hasN, delL, hdel, leL, leH, idsL, idsA, idsR, inH, hget, sameRow]) ?_; simp only [dropS, dropT, hasN, delL, hdel, idsA, idsL, hget, List.map_cons, List.map_nil, List.all_cons, List.all_nil, List.append_nil, Bool.not_false, Bool.not_true, Bool.and_true, if_true, if_false, simprocAttr])
  refine go_on ?_
  repeat' first | (refine at_b (fun hb => ?_) (fun hb => ?_) <;> simp only [hb, push_cast, simprocAttr]) | (refine at_ret ?_; simp only [Tryz.results69, push_cast, simprocAttr]) | (refine at_call ?_; (try simp only [push_cast, simprocAttr]); refine rwc_v (by first | exact LogValid_pc l hs) (go_on ?_); simp only [push_cast, simprocAttr]) | (show RWp _ _ _ _ _; simp only [push_cast, simprocAttr])
  · have : tV t = false := not_t hb
    simp [rX, lap, this]
  · rename_i hb1
    have : lV l = false := not_t hb
    simp [rX, lap, this]
  · rename_i hb1
    have e : lap t l = ((apAll t l).1, ((apAll t l).2 : Int)) := by unfold lap; rw [if_pos (by simp [not_f hb1, not_f hb])]
    ((try simp only [push_cast, simprocAttr]); refine at_share2 (by simp [isC2, isC]) (by first | rfl | simp [ren]) (hA) (go_on ?_); (try simp only [push_cast, simprocAttr]))
    (refine at_call ?_; (try simp only [push_cast, simprocAttr]); refine rwc_r (cloneTree_pc _ hsm.s.n) rfl (flat_n _) (by simp [frB, baseOf]) (go_on ?_); (try simp only [push_cast, simprocAttr]))
    refine at_ret ?_; simp only [Tryz.results69, push_cast, simprocAttr]
    simp [rX, e, ixOf]
theorem lap_fits (t : List Nd) (l : List Cm) : eqI (lap t l).2 l.length = fits t l := by
  unfold fits lap
  cases tV t <;> cases lV l <;> simp [eqI_d]
  all_goals omega
theorem LogFits_pc (t : List Nd) (ht : SmT2 t) (l : List Cm) (hs : SmL l) : PC Tryz.prog 92 [ndA t, cmA l] (vB (fits t l)) := by
  have hA := LogApply_pc t ht l hs
  refine pc_enter Tryz.func92 rfl rfl fun w0 fb => go_on ?_; (try simp only [Tryz.ntmps92, push_cast, simprocAttr])
  (refine at_call ?_; (try simp only [push_cast, simprocAttr]); refine rwc_r (hA) (by simp [flatV, flatL]) (flat_n _) (by simp [frB, baseOf]) (go_on ?_); (try simp only [push_cast, simprocAttr]))
  refine at_ret ?_; simp only [Tryz.results92, push_cast, simprocAttr]
  simp [vX, lap_fits]
def stC (s : St) : List AV := [iA s.ep, ndA s.base, cmA s.log]
abbrev stA' (s : St) : AV := .agg (stC s)
structure SmS (s : St) : Prop where
  t : SmT2 s.base
  l : SmL s.log
theorem isEpoch_pc (n : Int) : PC Tryz.prog 91 [iA n] (vB (inR n 0 99)) := by
  refine pc_enter Tryz.func91 rfl rfl fun w0 fb => go_on ?_; (try simp only [Tryz.ntmps91, push_cast, simprocAttr])
  (refine at_call ?_; (try simp only [push_cast, simprocAttr]); refine rwc_v (in_pc _ _ _) (go_on ?_); (try simp only [push_cast, simprocAttr]))
  refine at_ret ?_; simp only [Tryz.results91, push_cast, simprocAttr]
  simp [vX]
theorem SiteValid_pc (s : St) (hs : SmS s) : PC Tryz.prog 68 [stA' s] (vB (siteV s)) := by
  unfold stA' stC
  have e : siteV s = (inR s.ep 0 99 && tV s.base && fits s.base s.log) := rfl
  refine pc_enter Tryz.func68 rfl rfl fun w0 fb => go_on ?_; (try simp only [Tryz.ntmps68, push_cast, simprocAttr])
  repeat' first | (refine at_b (fun hb => ?_) (fun hb => ?_) <;> simp only [hb, push_cast, simprocAttr]) | (refine at_ret ?_; simp only [Tryz.results68, push_cast, simprocAttr]) | (refine at_call ?_; (try simp only [push_cast, simprocAttr]); refine rwc_v (by first | exact isEpoch_pc s.ep | exact TreeValid_pc s.base hs.t.s | exact LogFits_pc s.base hs.t s.log hs.l) (go_on ?_); simp only [push_cast, simprocAttr]) | (show RWp _ _ _ _ _; simp only [push_cast, simprocAttr])
  all_goals simp [vX, e, *]
end Go.Proofs.YthifgndjpjaddaaGreatDoor
/-
  Walks: the reference's trees.
-/
namespace Go.Proofs.YthifgndjpjaddaaGreatDoor
open Go Go.RowKit Go.Proofs
attribute [local irreducible] RWp AW run kPe pe Kt effA gd gu br retR RDp runD kPeD brW gW effD
set_option maxRecDepth 100000

theorem take_snoc {α β : Type} (l : List α) (f : α → β) (e : β) : (l.map f ++ [e]).take (l.length + 1) = l.map f ++ [e] := by
  rw [List.take_of_length_le (by simp)]
set_option maxHeartbeats 1000000 in
theorem l3Put_pc (l : List Nd) (hl : l.length < 4294967280) (path : Str) (c : Ct) : PC Tryz.prog 144 [ndA l, sA path, ctA c] (rX (.o 0 (l3P path c (decide (c.k = 0)) l).length) [rowN (l3P path c (decide (c.k = 0)) l)]) := by
  unfold ctA ctC
  refine pc_enter Tryz.func144 rfl rfl fun w0 fb => go_on ?_; (try simp only [Tryz.ntmps144, push_cast, simprocAttr])
  obtain ⟨R, hR⟩ : ∃ R, R = l3P path c (decide (c.k = 0)) l := ⟨_, rfl⟩
  rw [← hR]
  refine at_loop (X := Nat × List Nd × Bool) (fun x => [(7, .o 10 x.2.1.length), (8, bA x.2.2), (9, iA x.1), (10, .any)]) (fun x => [(5, ⟨63, 2, [[iA c.k, iA c.v]], true⟩), (6, rowN []), (10, rowN x.2.1)])
    (fun x => x.1 ≤ l.length ∧ x.2.1.length ≤ 2 * x.1 ∧ R = x.2.1 ++ l3P path c x.2.2 (l.drop x.1)) (fun x => l.length - x.1) (0, [], decide (c.k = 0)) ⟨Nat.zero_le _, by simp, hR⟩ ?_ ?_
  · (refine wk_ok ?_ ?_ ?_ ?_ <;> simp [eqI_d, leL, leH, idsL, idsA, idsR, inH, hget, sameRow, upA, hvA, dsts, dstO, setA_0, setA_1, setA_8, List.append, List.cons_append, List.nil_append])
  · rintro ⟨k, out, d⟩ ⟨h1, h3, h2⟩
    simp only at h1 h2 h3
    simp only [upA, hvA, dsts, dstO, setA_0, setA_1, setA_8, List.append, List.cons_append, List.nil_append]
    refine go_on ?_
    (try simp only [push_cast, simprocAttr])
    refine at_b (fun hg => ?_) (fun hg => ?_)
    · have hlt := lt_tt hg
      obtain ⟨n, hk⟩ := get_of_lt hlt
      have i1 := ix_n hk
      have i2 := map_get ndC hk
      simp only [ndC] at i2
      rw [drop_of_get hk] at h2
      have w1 := wr ((k : Int) + 1) (by omega)
      have fin : ∀ (out' : List Nd) (d' : Bool), R = out' ++ l3P path c d' (l.drop (k + 1)) → out'.length ≤ 2 * (k + 1) → True := fun _ _ _ _ => trivial
      cases d with
      | true =>
        (try simp only [hg, i1, i2, push_cast, simprocAttr])
        refine at_b (fun he => ?_) (fun he => ?_)
        · (try simp only [he, w1, push_cast, simprocAttr])
          have he' : n.p = path := by simpa using he
          refine at_fin ⟨(k + 1, out, true), ⟨by dsimp only; omega, by dsimp only; omega, ?_⟩, by dsimp only; omega, ?_⟩
          · dsimp only
            rw [h2]; simp [l3P, he']
          · (refine wk_ok ?_ ?_ ?_ ?_ <;> simp [leL, leH, idsL, idsA, idsR, inH, hget, sameRow, upA, hvA, dsts, dstO, setA_0, setA_1, setA_8, List.append, List.cons_append, List.nil_append])
        · (try simp only [he, i1, i2, push_cast, simprocAttr])
          refine at_chk (by omega) ?_
          (try simp only [w1, push_cast, simprocAttr])
          have he' : ¬ n.p = path := by simpa using he
          refine at_fin ⟨(k + 1, out ++ [n], true), ⟨by dsimp only; omega, by simp; omega, ?_⟩, by dsimp only; omega, ?_⟩
          · dsimp only
            rw [h2]; simp [l3P, he']
          · (refine wk_ok ?_ ?_ ?_ ?_ <;> simp [ndC, leL, leH, idsL, idsA, idsR, inH, hget, sameRow, upA, hvA, dsts, dstO, setA_0, setA_1, setA_8, List.append, List.cons_append, List.nil_append])
      | false =>
        (try simp only [hg, i1, i2, push_cast, simprocAttr])
        refine at_b (fun hs => ?_) (fun hs => ?_)
        · (try simp only [hs, push_cast, simprocAttr])
          refine at_chk (by omega) ?_
          (try simp only [i1, i2, push_cast, simprocAttr])
          refine at_b (fun he => ?_) (fun he => ?_)
          · (try simp only [he, w1, push_cast, simprocAttr])
            have he' : n.p = path := by simpa using he
            refine at_fin ⟨(k + 1, out ++ [⟨path, c⟩], true), ⟨by dsimp only; omega, by simp; omega, ?_⟩, by dsimp only; omega, ?_⟩
            · dsimp only
              rw [h2]; rw [he'] at hs; simp [l3P, he', hs]
            · (refine wk_ok ?_ ?_ ?_ ?_ <;> simp [ndC, leL, leH, idsL, idsA, idsR, inH, hget, sameRow, upA, hvA, dsts, dstO, setA_0, setA_1, setA_8, List.append, List.cons_append, List.nil_append])
          · (try simp only [he, i1, i2, push_cast, simprocAttr])
            refine at_chk (by omega) ?_
            (try simp only [take_snoc, w1, push_cast, simprocAttr])
            have he' : ¬ n.p = path := by simpa using he
            refine at_fin ⟨(k + 1, out ++ [⟨path, c⟩, n], true), ⟨by dsimp only; omega, by simp; omega, ?_⟩, by dsimp only; omega, ?_⟩
            · dsimp only
              rw [h2]; simp [l3P, he', hs]
            · (refine wk_ok ?_ ?_ ?_ ?_ <;> simp [ndC, leL, leH, idsL, idsA, idsR, inH, hget, sameRow, upA, hvA, dsts, dstO, setA_0, setA_1, setA_8, List.append, List.cons_append, List.nil_append])
        · (try simp only [hs, i1, i2, push_cast, simprocAttr])
          refine at_b (fun he => ?_) (fun he => ?_)
          · (try simp only [he, push_cast, simprocAttr])
            refine at_chk (by omega) ?_
            (try simp only [w1, push_cast, simprocAttr])
            have he' : n.p = path := by simpa using he
            refine at_fin ⟨(k + 1, out ++ [⟨path, c⟩], true), ⟨by dsimp only; omega, by simp; omega, ?_⟩, by dsimp only; omega, ?_⟩
            · dsimp only
              rw [h2]; rw [he'] at hs; simp [l3P, he', hs]
            · (refine wk_ok ?_ ?_ ?_ ?_ <;> simp [ndC, leL, leH, idsL, idsA, idsR, inH, hget, sameRow, upA, hvA, dsts, dstO, setA_0, setA_1, setA_8, List.append, List.cons_append, List.nil_append])
          · (try simp only [he, i1, i2, push_cast, simprocAttr])
            refine at_chk (by omega) ?_
            (try simp only [w1, push_cast, simprocAttr])
            have he' : ¬ n.p = path := by simpa using he
            refine at_fin ⟨(k + 1, out ++ [n], false), ⟨by dsimp only; omega, by simp; omega, ?_⟩, by dsimp only; omega, ?_⟩
            · dsimp only
              rw [h2]; simp [l3P, he', hs]
            · (refine wk_ok ?_ ?_ ?_ ?_ <;> simp [ndC, leL, leH, idsL, idsA, idsR, inH, hget, sameRow, upA, hvA, dsts, dstO, setA_0, setA_1, setA_8, List.append, List.cons_append, List.nil_append])
    · have h4 := lt_ff hg
      rw [List.drop_of_length_le h4] at h2
      cases d with
      | true =>
        (try simp only [hg, push_cast, simprocAttr])
        refine at_ret ?_; simp only [Tryz.results144, push_cast, simprocAttr]
        simp [rX, h2, l3P, ixOf]
      | false =>
        (try simp only [hg, push_cast, simprocAttr])
        refine at_chk (by omega) ?_
        (try simp only [push_cast, simprocAttr])
        refine at_ret ?_; simp only [Tryz.results144, push_cast, simprocAttr]
        simp [rX, h2, l3P, ixOf, ndC]
end Go.Proofs.YthifgndjpjaddaaGreatDoor
/-
  Walks: the reference's TreeValid.
-/
namespace Go.Proofs.YthifgndjpjaddaaGreatDoor
open Go Go.RowKit Go.Proofs
def tvS (L : List Nd) : Option Nd → List Nd → Bool
  | _, [] => true
  | none, n :: r => ndV n && dirUp L n && tvS L (some n) r
  | some m, n :: r => ndV n && slt m.p n.p && dirUp L n && tvS L (some n) r
theorem tvS_eq (L : List Nd) : ∀ (l : List Nd) (o : Option Nd), tvS L o l = (tvL o l && l.all (dirUp L))
  | [], o => by cases o <;> simp [tvS, tvL]
  | n :: r, none => by
    rw [tvS, tvL, tvS_eq L r]
    simp only [List.all_cons]
    cases ndV n <;> cases dirUp L n <;> cases tvL (some n) r <;> simp
  | n :: r, some m => by
    rw [tvS, tvL, tvS_eq L r]
    simp only [List.all_cons]
    cases ndV n <;> cases dirUp L n <;> cases slt m.p n.p <;> cases tvL (some n) r <;> simp
theorem depth_lt (s : Str) : ltI (depth s) 1 = !(pV s && !decide (s = [47])) := by
  have h := depth_pos s
  unfold ltI
  have e : decide (depth s < 1) = !decide (0 < depth s) := by
    rw [Bool.eq_iff_iff]; simp; omega
  rw [e, h]
  by_cases hr : s = [47] <;> simp [hr, root]
attribute [local irreducible] RWp AW run kPe pe Kt effA gd gu br retR RDp runD kPeD brW gW effD
set_option maxRecDepth 100000
theorem ndV_eq2 (n : Nd) : ndV n = ((pV n.p && !decide (n.p = [47])) && ctV n.c && !eqI n.c.k 0) := ndV_eq n
theorem dirUp_eq (l : List Nd) (n : Nd) : dirUp l n = eqI (getC l (par n.p)).k 1 := by unfold dirUp; rw [eqI_d]
set_option maxHeartbeats 1000000 in
theorem specTreeValid_pc (l : List Nd) (hs : SmT l) : PC Tryz.prog 51 [ndA l] (vB (tV l)) := by
  have hl := hs.n
  have hT : tV l = (tvS l none l && decide (l.length ≤ 10)) := by rw [tvS_eq, tvL_none]; rfl
  refine pc_enter Tryz.func51 rfl rfl fun w0 fb => go_on ?_; (try simp only [Tryz.ntmps51, push_cast, simprocAttr])
  refine at_loop (X := Nat) (fun k => [(3, iA k)]) (fun _ => []) (fun k => k ≤ l.length ∧ tvS l none l = tvS l (prevN l k) (l.drop k)) (fun k => l.length - k) 0 ⟨Nat.zero_le _, rfl⟩ ?_ ?_
  · (refine wk_ok ?_ ?_ ?_ ?_ <;> simp [leL, leH, idsL, idsA, idsR, inH, hget, sameRow, upA, hvA, dsts, dstO, setA_0, setA_1, setA_8, List.append, List.cons_append, List.nil_append])
  · rintro k ⟨h1, h2⟩
    simp only [upA, hvA, dsts, dstO, setA_0, setA_1, setA_8, List.append, List.cons_append, List.nil_append]
    refine go_on ?_
    (try simp only [push_cast, simprocAttr])
    refine at_b (fun hg => ?_) (fun hg => ?_)
    · have hlt := lt_tt hg
      obtain ⟨n, hk⟩ := get_of_lt hlt
      have i1 := ix_n hk
      have i2 := map_get ndC hk
      simp only [ndC] at i2
      rw [drop_of_get hk] at h2
      have hnp := hs.p n (mem_of_get hk)
      have w1 := wr ((k : Int) + 1) (by omega)
      (try simp only [hg, i1, i2, push_cast, simprocAttr])
      refine at_draw rfl (by kernel_rfl) ?_; simp only [push_cast, simprocAttr]
      have hnd := ndV_eq2 n
      have hdu := dirUp_eq l n
      cases k with
      | zero =>
        have h2' : tvS l none l = (ndV n && dirUp l n && tvS l (some n) (l.drop 1)) := h2
        have w3 : IntKind.i64.wrap 1 = 1 := wr 1 (by omega)
        repeat' first | (refine at_bWn (fun hb => ?_) (fun hb => ?_) <;> simp only [depth_lt, hb, push_cast, simprocAttr]) | (refine at_bW (fun hb => ?_) (fun hb => ?_) <;> simp only [depth_lt, hb, push_cast, simprocAttr]) | (refine at_callD (by simp [clB, idsL, idsA, hget]) ?_; (try simp only [push_cast, simprocAttr]); first | (refine rcd_v (PathDepth_pc n.p hnp) ?_; simp only [depth_lt, push_cast, simprocAttr]) | (refine rcd_d (PathDepth_pc n.p hnp) (by simp [flatV, flatL, ctC, ndC, cmC]) (by simp [ren, ctC, ndC, cmC]) ?_; simp only [depth_lt, push_cast, simprocAttr]) | (refine rcd_v (specContentValid_pc n.c) ?_; simp only [depth_lt, push_cast, simprocAttr]) | (refine rcd_d (specContentValid_pc n.c) (by simp [flatV, flatL, ctC, ndC, cmC]) (by simp [ren, ctC, ndC, cmC]) ?_; simp only [depth_lt, push_cast, simprocAttr])) | (refine at_done (by kernel_rfl) (by kernel_rfl) (go_on ?_); (try simp only [depth_lt, push_cast, simprocAttr]))
        all_goals first
          | (refine at_ret ?_; simp only [Tryz.results51, push_cast, simprocAttr]; simp [vX, hT, h2', hnd, *]; done)
          | ((refine at_call ?_; (try simp only [push_cast, simprocAttr]); refine rwc_v (l1Parent_pc n.p hnp) (go_on ?_); (try simp only [push_cast, simprocAttr]))
             (refine at_call ?_; (try simp only [push_cast, simprocAttr]); refine rwc_d (l3Get_pc l hl (par n.p)) (by simp [flatV, flatL, ctC, ndC, cmC]) (by simp [ren, ctC, ndC, cmC]) (go_on ?_); (try simp only [push_cast, simprocAttr]))
             refine at_b (fun hy => ?_) (fun hy => ?_)
             · (try simp only [hy, push_cast, simprocAttr])
               refine at_ret ?_; simp only [Tryz.results51, push_cast, simprocAttr]
               have := not_t hy
               simp [vX, hT, h2', hdu, this]
             · (try simp only [hy, w1, w3, push_cast, simprocAttr])
               have hy' := not_f hy
               have hn1 : ndV n = true := by simp [hnd, *]
               refine at_fin ⟨1, ⟨by omega, ?_⟩, by omega, ?_⟩
               · rw [h2', hn1, hdu, hy', prevN, hk]; simp [*]
               · (refine wk_ok ?_ ?_ ?_ ?_ <;> simp [leL, leH, idsL, idsA, idsR, inH, hget, sameRow, upA, hvA, dsts, dstO, setA_0, setA_1, setA_8, List.append, List.cons_append, List.nil_append]))
      | succ m =>
        obtain ⟨q, hm⟩ := get_of_lt (l := l) (k := m) (by omega)
        have h2' : tvS l none l = (ndV n && slt q.p n.p && dirUp l n && tvS l (some n) (l.drop (m + 1 + 1))) := by rw [h2, prevN, hm]; rfl
        have i3 := ix_n hm
        have i4 := map_get ndC hm
        simp only [ndC] at i4
        have wm : IntKind.i64.wrap ((m : Int) + 1 - 1) = m := by rw [wr _ (by omega)]; omega
        have l0 : ltI 0 ((m : Int) + 1) = true := ltI_t (by omega)
        have w2 : IntKind.i64.wrap ((m : Int) + 1 + 1) = (m : Int) + 1 + 1 := wr _ (by omega)
        repeat' first | (refine at_bWn (fun hb => ?_) (fun hb => ?_) <;> simp only [depth_lt, i3, i4, wm, l0, hb, push_cast, simprocAttr]) | (refine at_bW (fun hb => ?_) (fun hb => ?_) <;> simp only [depth_lt, i3, i4, wm, l0, hb, push_cast, simprocAttr]) | (refine at_callD (by simp [clB, idsL, idsA, hget]) ?_; (try simp only [push_cast, simprocAttr]); first | (refine rcd_v (PathDepth_pc n.p hnp) ?_; simp only [depth_lt, i3, i4, wm, l0, push_cast, simprocAttr]) | (refine rcd_d (PathDepth_pc n.p hnp) (by simp [flatV, flatL, ctC, ndC, cmC]) (by simp [ren, ctC, ndC, cmC]) ?_; simp only [depth_lt, i3, i4, wm, l0, push_cast, simprocAttr]) | (refine rcd_v (specContentValid_pc n.c) ?_; simp only [depth_lt, i3, i4, wm, l0, push_cast, simprocAttr]) | (refine rcd_d (specContentValid_pc n.c) (by simp [flatV, flatL, ctC, ndC, cmC]) (by simp [ren, ctC, ndC, cmC]) ?_; simp only [depth_lt, i3, i4, wm, l0, push_cast, simprocAttr])) | (refine at_done (by kernel_rfl) (by kernel_rfl) (go_on ?_); (try simp only [depth_lt, i3, i4, wm, l0, push_cast, simprocAttr]))
        all_goals first
          | (refine at_ret ?_; simp only [Tryz.results51, push_cast, simprocAttr]; simp [vX, hT, h2', hnd, *]; done)
          | (refine at_b (fun hz => ?_) (fun hz => ?_)
             · (try simp only [hz, push_cast, simprocAttr])
               refine at_ret ?_; simp only [Tryz.results51, push_cast, simprocAttr]
               have := not_t hz
               simp [vX, hT, h2', hnd, *]
             · have hz' := not_f hz
               (try simp only [hz, push_cast, simprocAttr])
               (refine at_call ?_; (try simp only [push_cast, simprocAttr]); refine rwc_v (l1Parent_pc n.p hnp) (go_on ?_); (try simp only [push_cast, simprocAttr]))
               (refine at_call ?_; (try simp only [push_cast, simprocAttr]); refine rwc_d (l3Get_pc l hl (par n.p)) (by simp [flatV, flatL, ctC, ndC, cmC]) (by simp [ren, ctC, ndC, cmC]) (go_on ?_); (try simp only [push_cast, simprocAttr]))
               refine at_b (fun hy => ?_) (fun hy => ?_)
               · (try simp only [hy, push_cast, simprocAttr])
                 refine at_ret ?_; simp only [Tryz.results51, push_cast, simprocAttr]
                 have := not_t hy
                 simp [vX, hT, h2', hdu, this]
               · (try simp only [hy, w2, push_cast, simprocAttr])
                 have hy' := not_f hy
                 have hn1 : ndV n = true := by simp [hnd, *]
                 refine at_fin ⟨m + 1 + 1, ⟨by omega, ?_⟩, by omega, ?_⟩
                 · rw [h2', hn1, hdu, hy', prevN, hk]; simp [*]
                 · (refine wk_ok ?_ ?_ ?_ ?_ <;> simp [leL, leH, idsL, idsA, idsR, inH, hget, sameRow, upA, hvA, dsts, dstO, setA_0, setA_1, setA_8, List.append, List.cons_append, List.nil_append]))
    · have h3 := lt_ff hg
      rw [List.drop_of_length_le h3] at h2
      have h4 : tvS l none l = true := by rw [h2]; cases prevN l k <;> rfl
      (try simp only [hg, push_cast, simprocAttr])
      refine at_ret ?_; simp only [Tryz.results51, push_cast, simprocAttr]
      simp [vX, hT, h4, leI]
      omega
end Go.Proofs.YthifgndjpjaddaaGreatDoor
/-
  Walks: the reference's commands and logs.
-/
namespace Go.Proofs.YthifgndjpjaddaaGreatDoor
open Go Go.RowKit Go.Proofs
attribute [local irreducible] RWp AW run kPe pe Kt effA gd gu br retR RDp runD kPeD brW gW effD
set_option maxRecDepth 100000

theorem tV_sort {l : List Nd} (h : tV l = true) : sortP l = true := ((tV_iff l).1 h).so
theorem specTreePut_pc (l : List Nd) (hs : SmT l) (hl : l.length < 4294967280) (path : Str) (hp : path.length < 4294967281) (c : Ct) : PC Tryz.prog 117 [ndA l, sA path, ctA c] (optN (tPut l path c)) := by
  have hL := l3Put_pc l hl path c
  have hsp := sm_put hs hl hp c
  have ht : tPut l path c = if (tV l && (pV path && !decide (path = [47])) && ctV c) = true then (if tV (putC l path c) = true then some (putC l path c) else none) else none := by
    unfold tPut root
    cases tV l <;> cases pV path <;> cases ctV c <;> by_cases h : path = [47] <;> cases tV (putC l path c) <;> simp [h]
  unfold ctA ctC at *
  refine pc_enter Tryz.func117 rfl rfl fun w0 fb => go_on ?_; (try simp only [Tryz.ntmps117, push_cast, simprocAttr])
  repeat' first | (refine at_b (fun hb => ?_) (fun hb => ?_) <;> simp only [depth_lt, hb, push_cast, simprocAttr]) | (refine at_ret ?_; simp only [depth_lt, Tryz.results117, push_cast, simprocAttr]) | (refine at_call ?_; (try simp only [push_cast, simprocAttr]); refine rwc_v (by first | exact specTreeValid_pc l hs | exact PathDepth_pc path hp | exact specContentValid_pc c) (go_on ?_); simp only [depth_lt, push_cast, simprocAttr]) | (show RWp _ _ _ _ _; simp only [depth_lt, push_cast, simprocAttr])
  all_goals simp only [Bool.not_eq_true', Bool.not_eq_false'] at *
  all_goals first
    | (simp [optN, rX, ht, ixOf, *]; done)
    | skip
  rename_i h1 h2
  rw [l3P_put (tV_sort h1)] at hL
  (refine at_call ?_; (try simp only [push_cast, simprocAttr]); refine rwc_r (hL) rfl (flat_n _) (by simp [frB, baseOf]) (go_on ?_); (try simp only [push_cast, simprocAttr]))
  (refine at_call ?_; (try simp only [push_cast, simprocAttr]); refine rwc_v (specTreeValid_pc _ hsp) (go_on ?_); (try simp only [push_cast, simprocAttr]))
  refine at_b (fun hv => ?_) (fun hv => ?_)
  · (try simp only [hv, push_cast, simprocAttr])
    refine at_ret ?_; simp only [Tryz.results117, push_cast, simprocAttr]
    simp only [Bool.not_eq_true'] at hv
    simp [optN, rX, ht, ixOf, *]
  · (try simp only [hv, push_cast, simprocAttr])
    refine at_ret ?_; simp only [Tryz.results117, push_cast, simprocAttr]
    simp only [Bool.not_eq_false'] at hv
    simp [optN, rX, ht, ixOf, *]
theorem depth_gt (s : Str) : ltI 0 (depth s) = (pV s && !decide (s = [47])) := by
  have h := depth_pos s
  unfold ltI
  rw [h]
  by_cases hr : s = [47] <;> simp [hr, root]
theorem specCommandValid_pc (c : Cm) (hp : c.p.length < 4294967281) : PC Tryz.prog 50 [cmdA c] (vB (cmV c)) := by
  unfold cmdA cmC
  have hc : cmV c = ((pV c.p && !decide (c.p = [47])) && ctV c.a && ctV c.b && !decide (c.a = c.b)) := by unfold cmV root; simp
  refine pc_enter Tryz.func50 rfl rfl fun w0 fb => go_on ?_; (try simp only [Tryz.ntmps50, push_cast, simprocAttr])
  repeat' first | (refine at_b (fun hb => ?_) (fun hb => ?_) <;> simp only [ctg, cth, depth_gt, hb, push_cast, simprocAttr]) | (refine at_ret ?_; simp only [ctg, cth, depth_gt, Tryz.results50, push_cast, simprocAttr]) | (refine at_call ?_; (try simp only [push_cast, simprocAttr]); refine rwc_v (by first | exact PathDepth_pc c.p hp | exact specContentValid_pc c.a | exact specContentValid_pc c.b) (go_on ?_); simp only [ctg, cth, depth_gt, push_cast, simprocAttr]) | (show RWp _ _ _ _ _; simp only [ctg, cth, depth_gt, push_cast, simprocAttr])
  all_goals simp [vX, hc, ct_eq, *]
  all_goals simp [*] at *
end Go.Proofs.YthifgndjpjaddaaGreatDoor
/-
  Walks: the reference's logs and sides.
-/
namespace Go.Proofs.YthifgndjpjaddaaGreatDoor
open Go Go.RowKit Go.Proofs
attribute [local irreducible] RWp AW run kPe pe Kt effA gd gu br retR RDp runD kPeD brW gW effD
set_option maxRecDepth 100000

def cap2 (t : List Nd) (c : Cm) : List Nd × Bool := if (tV t && cmV c) = true then apB2 t c else ([], false)
theorem specCommandApply_pc (l : List Nd) (hs : SmT l) (hl : l.length < 4294967280) (c : Cm) (hp : c.p.length < 4294967281) : PC Tryz.prog 89 [ndA l, cmdA c] (rX (.tup [.o 0 (cap2 l c).1.length, bA (cap2 l c).2]) [rowN (cap2 l c).1]) := by
  have hput := specTreePut_pc l hs hl c.p hp c.b
  have hcv := specCommandValid_pc c hp
  unfold cmdA cmC at *
  refine pc_enter Tryz.func89 rfl rfl fun w0 fb => go_on ?_; (try simp only [Tryz.ntmps89, push_cast, simprocAttr])
  repeat' first | (refine at_b (fun hb => ?_) (fun hb => ?_) <;> simp only [hb, push_cast, simprocAttr]) | (refine at_ret ?_; simp only [Tryz.results89, push_cast, simprocAttr]) | (refine at_call ?_; (try simp only [push_cast, simprocAttr]); refine rwc_v (by first | exact specTreeValid_pc l hs | exact hcv) (go_on ?_); simp only [push_cast, simprocAttr]) | (show RWp _ _ _ _ _; simp only [push_cast, simprocAttr])
  all_goals simp only [Bool.not_eq_true', Bool.not_eq_false'] at *
  all_goals first
    | (simp [rX, cap2, ixOf, *]; done)
    | skip
  rename_i h1
  have e : cap2 l c = apB2 l c := by simp [cap2, h1, hb]
  rw [e]
  refine at_draw rfl (by kernel_rfl) ?_; simp only [push_cast, simprocAttr]
  repeat' first | (refine at_bWn (fun hb => ?_) (fun hb => ?_) <;> simp only [ctg, cth, ct_eq, hb, push_cast, simprocAttr]) | (refine at_bW (fun hb => ?_) (fun hb => ?_) <;> simp only [ctg, cth, ct_eq, hb, push_cast, simprocAttr]) | (refine at_callD (by simp [clB, idsL, idsA, hget]) ?_; (try simp only [push_cast, simprocAttr]); first | (refine rcd_v (l3Get_pc l (by omega) c.p) ?_; simp only [ctg, cth, ct_eq, push_cast, simprocAttr]) | (refine rcd_d (l3Get_pc l (by omega) c.p) (by simp [flatV, flatL, ctC, ndC, cmC]) (by simp [ren, ctC, ndC, cmC]) ?_; simp only [ctg, cth, ct_eq, push_cast, simprocAttr])) | (refine at_done (by kernel_rfl) (by kernel_rfl) (go_on ?_); (try simp only [ctg, cth, ct_eq, push_cast, simprocAttr]))
  refine at_b (fun hb => ?_) (fun hb => ?_)
  · have h3 : getC l c.p = c.a := by simpa using hb
    (try simp only [hb, push_cast, simprocAttr])
    cases hr : tPut l c.p c.b with
    | none =>
      have e2 : apB2 l c = (l, false) := by simp [apB2, apC, h3, hr]
      rw [hr] at hput
      unfold optN at hput
      simp only [Option.getD_none, Option.isSome_none, List.length_nil] at hput
      (refine at_call ?_; (try simp only [push_cast, simprocAttr]); refine rwc_r (hput) (by simp [flatV, flatL]) (flat_n []) (by simp [frB, baseOf]) (go_on ?_); (try simp only [push_cast, simprocAttr]))
      refine at_chk (by omega) ?_
      (try simp only [push_cast, simprocAttr])
      refine at_ret ?_; simp only [Tryz.results89, push_cast, simprocAttr]
      simp [rX, e2, ixOf]
    | some t =>
      have e2 : apB2 l c = (t, true) := by simp [apB2, apC, h3, hr]
      rw [hr] at hput
      unfold optN at hput
      simp only [Option.getD_some, Option.isSome_some] at hput
      (refine at_call ?_; (try simp only [push_cast, simprocAttr]); refine rwc_r (hput) (by simp [flatV, flatL]) (flat_n _) (by simp [frB, baseOf]) (go_on ?_); (try simp only [push_cast, simprocAttr]))
      refine at_ret ?_; simp only [Tryz.results89, push_cast, simprocAttr]
      simp [rX, e2, ixOf]
  · have h3 : ¬ getC l c.p = c.a := by simpa using hb
    have e2 : apB2 l c = (l, false) := by simp [apB2, apC, h3]
    (try simp only [hb, push_cast, simprocAttr])
    refine at_chk (by omega) ?_
    (try simp only [push_cast, simprocAttr])
    refine at_ret ?_; simp only [Tryz.results89, push_cast, simprocAttr]
    simp [rX, e2, ixOf]
theorem specLogValid_pc (l : List Cm) (hs : SmL l) : PC Tryz.prog 88 [cmA l] (vB (lV l)) := by
  refine pc_enter Tryz.func88 rfl rfl fun w0 fb => go_on ?_; (try simp only [Tryz.ntmps88, push_cast, simprocAttr])
  refine at_loop (X := Nat) (fun k => [(3, iA k)]) (fun _ => []) (fun k => k ≤ l.length ∧ l.all cmV = (l.drop k).all cmV) (fun k => l.length - k) 0 ⟨Nat.zero_le _, rfl⟩ ?_ ?_
  · (refine wk_ok ?_ ?_ ?_ ?_ <;> simp [leL, leH, idsL, idsA, idsR, inH, hget, sameRow, upA, hvA, dsts, dstO, setA_0, setA_1, setA_8, List.append, List.cons_append, List.nil_append])
  · rintro k ⟨h1, h2⟩
    simp only [upA, hvA, dsts, dstO, setA_0, setA_1, setA_8, List.append, List.cons_append, List.nil_append]
    refine go_on ?_
    (try simp only [push_cast, simprocAttr])
    refine at_b (fun hg => ?_) (fun hg => ?_)
    · have hlt := lt_tt hg
      obtain ⟨x, hk⟩ := get_of_lt hlt
      have i1 := ix_n hk
      have i2 := map_get cmC hk
      have hcv := specCommandValid_pc x (hs.p x (mem_of_get hk))
      simp only [cmC] at i2
      unfold cmdA cmC at hcv
      rw [drop_of_get hk] at h2
      (try simp only [hg, i1, i2, push_cast, simprocAttr])
      (refine at_call ?_; (try simp only [push_cast, simprocAttr]); refine rwc_v (hcv) (go_on ?_); (try simp only [push_cast, simprocAttr]))
      refine at_b (fun hn => ?_) (fun hn => ?_)
      · (try simp only [hn, push_cast, simprocAttr])
        refine at_ret ?_; simp only [Tryz.results88, push_cast, simprocAttr]
        simp [vX, lV, h2, not_t hn]
      · have w1 := wr ((k : Int) + 1) (by have := hs.n; omega)
        (try simp only [hn, w1, push_cast, simprocAttr])
        refine at_fin ⟨k + 1, ⟨by omega, ?_⟩, by omega, ?_⟩
        · rw [h2]; simp [not_f hn]
        · (refine wk_ok ?_ ?_ ?_ ?_ <;> simp [leL, leH, idsL, idsA, idsR, inH, hget, sameRow, upA, hvA, dsts, dstO, setA_0, setA_1, setA_8, List.append, List.cons_append, List.nil_append])
    · have h3 := lt_ff hg
      rw [List.drop_of_length_le h3] at h2
      (try simp only [hg, push_cast, simprocAttr])
      refine at_ret ?_; simp only [Tryz.results88, push_cast, simprocAttr]
      simp [vX, lV, h2, leI]
      omega
theorem apC_tv {t t' : List Nd} {c : Cm} (h : apC t c = some t') : tV t' = true := (tV_iff t').2 (apC_some h).2.2.2.1
/-- What is left reads so. -/
def vF (X : AV) (rv : AV) (rows : List Row) : Prop := viewN 3 (hpOf 0 rows) rv = X
theorem PC.toF {P : Program} {f : FuncId} {args : List AV} {X : AV} (h : PC P f args (vF X)) : PC P f args (vX X) := h.frz fun rv rows h => ⟨h, rfl⟩
theorem specLogApply_pc (t : List Nd) (ht : SmT2 t) (l : List Cm) (hs : SmL l) : PC Tryz.prog 66 [ndA t, cmA l] (vX (.tup [ndA (lap t l).1, iA (lap t l).2])) := by
  refine PC.toF ?_
  have htn := ht.n
  refine pc_enter Tryz.func66 rfl rfl fun w0 fb => go_on ?_; (try simp only [Tryz.ntmps66, push_cast, simprocAttr])
  repeat' first | (refine at_b (fun hb => ?_) (fun hb => ?_) <;> simp only [hb, push_cast, simprocAttr]) | (refine at_ret ?_; simp only [Tryz.results66, push_cast, simprocAttr]) | (refine at_call ?_; (try simp only [push_cast, simprocAttr]); refine rwc_v (by first | exact specTreeValid_pc t ht.s | exact specLogValid_pc l hs) (go_on ?_); simp only [push_cast, simprocAttr]) | (show RWp _ _ _ _ _; simp only [push_cast, simprocAttr])
  all_goals simp only [Bool.not_eq_true', Bool.not_eq_false'] at *
  all_goals first
    | (simp [vF, lap, viewN, hpOf, hget, tk, ixOf, *]; done)
    | skip
  rename_i h1
  have e : lap t l = ((apAll t l).1, ((apAll t l).2 : Int)) := by simp [lap, h1, hb]
  rw [e]
  have hcv : ∀ c ∈ l, cmV c = true := by
    simp only [lV, Bool.and_eq_true] at hb
    exact fun c hc => List.all_eq_true.1 hb.1 c hc
  refine at_chk (by omega) ?_
  refine at_loop (X := Nat × List Nd) (fun x => [(6, ndA x.2), (7, iA x.1), (21, .any)]) (fun _ => [(4, rowN [])]) (fun x => x.1 ≤ l.length ∧ SmT2 x.2 ∧ tV x.2 = true ∧ apAll t l = ((apAll x.2 (l.drop x.1)).1, (apAll x.2 (l.drop x.1)).2 + x.1)) (fun x => l.length - x.1) (0, t) ⟨Nat.zero_le _, ht, h1, by simp⟩ ?_ ?_
  · (refine wk_frz ?_ ?_ ?_ ?_ <;> simp [leF, leHF, frzB, idsL, idsA, idsR, inH, hget, sameRow, viewN, tk, upA, hvA, dsts, dstO, setA_0, setA_1, setA_8, List.append, List.cons_append, List.nil_append])
  · rintro ⟨k, u⟩ ⟨q1, hu, huv, h2⟩
    simp only at q1 hu huv h2
    simp only [upA, hvA, dsts, dstO, setA_0, setA_1, setA_8, List.append, List.cons_append, List.nil_append]
    refine go_on ?_
    (try simp only [push_cast, simprocAttr])
    refine at_b (fun hg => ?_) (fun hg => ?_)
    · have hlt := lt_tt hg
      obtain ⟨x, hk⟩ := get_of_lt hlt
      have i1 := ix_n hk
      have i2 := map_get cmC hk
      simp only [cmC] at i2
      rw [drop_of_get hk] at h2
      have w1 := wr ((k : Int) + 1) (by have := hs.n; omega)
      have hA := specCommandApply_pc u hu.s hu.n x (hs.p x (mem_of_get hk))
      unfold cmdA cmC at hA
      have hx := hcv x (mem_of_get hk)
      have e2 : cap2 u x = apB2 u x := by simp [cap2, huv, hx]
      rw [e2] at hA
      (try simp only [hg, i1, i2, push_cast, simprocAttr])
      cases hr : apC u x with
      | none =>
        have e3 : apB2 u x = (u, false) := by simp [apB2, hr]
        rw [e3] at hA
        (refine at_call ?_; (try simp only [push_cast, simprocAttr]); refine rwc_r (hA) (by simp [flatV, flatL]) (flat_n _) (by simp [frB, baseOf]) (go_on ?_); (try simp only [push_cast, simprocAttr]))
        refine at_ret ?_; simp only [Tryz.results66, push_cast, simprocAttr]
        simp [vF, viewN, h2, apAll, hr]
      | some u' =>
        have e3 : apB2 u x = (u', true) := by simp [apB2, hr]
        have hu' : SmT2 u' := by have := apB2_sm hu x; rw [e3] at this; exact this
        rw [e3] at hA
        (refine at_call ?_; (try simp only [push_cast, simprocAttr]); refine rwc_r (hA) (by simp [flatV, flatL]) (flat_n _) (by simp [frB, baseOf]) (go_on ?_); (try simp only [w1, push_cast, simprocAttr]))
        refine at_fin ⟨(k + 1, u'), ⟨by dsimp only; omega, hu', apC_tv hr, ?_⟩, by dsimp only; omega, ?_⟩
        · dsimp only
          rw [h2]
          simp only [apAll, hr]
          congr 1
          omega
        · (refine wk_frz ?_ ?_ ?_ ?_ <;> simp [leF, leHF, frzB, idsL, idsA, idsR, inH, hget, sameRow, viewN, tk, upA, hvA, dsts, dstO, setA_0, setA_1, setA_8, List.append, List.cons_append, List.nil_append])
    · have h3 := lt_ff hg
      rw [List.drop_of_length_le h3] at h2
      have hk : k = l.length := by omega
      (try simp only [hg, push_cast, simprocAttr])
      refine at_ret ?_; simp only [Tryz.results66, push_cast, simprocAttr]
      simp [vF, viewN, h2, apAll, hk]
theorem specLogFits_pc (t : List Nd) (ht : SmT2 t) (l : List Cm) (hs : SmL l) : PC Tryz.prog 87 [ndA t, cmA l] (vB (fits t l)) := by
  have hA := specLogApply_pc t ht l hs
  refine pc_enter Tryz.func87 rfl rfl fun w0 fb => go_on ?_; (try simp only [Tryz.ntmps87, push_cast, simprocAttr])
  ((try simp only [push_cast, simprocAttr]); refine at_share2 (by simp [isC2, isC]) (by first | rfl | simp [ren]) (hA) (go_on ?_); (try simp only [push_cast, simprocAttr]))
  refine at_ret ?_; simp only [Tryz.results87, push_cast, simprocAttr]
  simp [vX, lap_fits]
theorem fits_tv {t : List Nd} {l : List Cm} : (tV t && fits t l) = fits t l := by
  unfold fits
  cases tV t <;> simp
theorem specSiteValid_pc (s : St) (hs : SmS s) : PC Tryz.prog 65 [stA' s] (vB (siteV s)) := by
  unfold stA' stC
  have e : siteV s = (inR s.ep 0 99 && fits s.base s.log) := by unfold siteV; rw [Bool.and_assoc, fits_tv]
  refine pc_enter Tryz.func65 rfl rfl fun w0 fb => go_on ?_; (try simp only [Tryz.ntmps65, push_cast, simprocAttr])
  repeat' first | (refine at_b (fun hb => ?_) (fun hb => ?_) <;> simp only [hb, push_cast, simprocAttr]) | (refine at_ret ?_; simp only [Tryz.results65, push_cast, simprocAttr]) | (refine at_call ?_; (try simp only [push_cast, simprocAttr]); refine rwc_v (by first | exact l6In_pc _ _ _ | exact specLogFits_pc s.base hs.t s.log hs.l) (go_on ?_); simp only [push_cast, simprocAttr]) | (show RWp _ _ _ _ _; simp only [push_cast, simprocAttr])
  all_goals simp [vX, e, *]
end Go.Proofs.YthifgndjpjaddaaGreatDoor
/-
  Walks: the laws' own helpers: copies, equalities, sizes.
-/
namespace Go.Proofs.YthifgndjpjaddaaGreatDoor
open Go Go.RowKit Go.Proofs
def sz1 (left len : Int) : Int := if left - len < 0 then -1 else left - len
def szF : Int → List Nat → Int
  | r, [] => r
  | r, a :: l => if r - (a : Int) < 0 then -1 else szF (r - (a : Int)) l
def szS (left : Int) (ls : List Nat) : Int := if left - (ls.length : Int) < 0 then -1 else szF (left - (ls.length : Int)) ls
theorem szF_ge : ∀ (ls : List Nat) (r : Int), 0 ≤ r → -1 ≤ szF r ls ∧ szF r ls ≤ r
  | [], r, h => by simp [szF]; omega
  | a :: l, r, h => by
    unfold szF
    split
    · omega
    · have := szF_ge l (r - a) (by omega)
      omega
theorem szF_mem : ∀ (ls : List Nat) (r : Int), 0 ≤ r → 0 ≤ szF r ls → ∀ a ∈ ls, (a : Int) ≤ r
  | [], r, _, _, a, ha => by cases ha
  | b :: l, r, h, h2, a, ha => by
    unfold szF at h2
    split at h2
    · omega
    · rcases List.mem_cons.1 ha with rfl | ha
      · omega
      · have := szF_mem l (r - b) (by omega) h2 a ha
        omega
theorem szS_ok {left : Int} {ls : List Nat} (h0 : 0 ≤ left) (h : 0 ≤ szS left ls) : (ls.length : Int) ≤ left ∧ (∀ a ∈ ls, (a : Int) ≤ left) ∧ szS left ls ≤ left := by
  unfold szS at *
  split at h
  · omega
  · rename_i h1
    rw [if_neg h1]
    have h2 := szF_ge ls (left - ls.length) (by omega)
    refine ⟨by omega, fun a ha => ?_, by omega⟩
    have := szF_mem ls _ (by omega) h a ha
    omega
attribute [local irreducible] RWp AW run kPe pe Kt effA gd gu br retR RDp runD kPeD brW gW effD
set_option maxRecDepth 100000
theorem toContent_pc (c : Ct) : PC Tryz.prog 54 [ctA c] (vX (ctA c)) := by
  unfold ctA ctC
  refine pc_enter Tryz.func54 rfl rfl fun w0 fb => go_on ?_; (try simp only [Tryz.ntmps54, push_cast, simprocAttr])
  refine at_ret ?_; simp only [Tryz.results54, push_cast, simprocAttr]
  simp [vX]
theorem eqContent_pc (a b : Ct) : PC Tryz.prog 61 [ctA a, ctA b] (vB (decide (a = b))) := by
  obtain ⟨a1, a2⟩ := a
  obtain ⟨b1, b2⟩ := b
  unfold ctA ctC
  refine pc_enter Tryz.func61 rfl rfl fun w0 fb => go_on ?_; (try simp only [Tryz.ntmps61, push_cast, simprocAttr])
  repeat' first | (refine at_b (fun hb => ?_) (fun hb => ?_) <;> simp only [hb, push_cast, simprocAttr]) | (refine at_ret ?_; simp only [Tryz.results61, push_cast, simprocAttr]) | (show RWp _ _ _ _ _; simp only [push_cast, simprocAttr])
  all_goals simp only [Bool.not_eq_true', Bool.not_eq_false', eqI_d, decide_eq_true_eq, decide_eq_false_iff_not] at *
  all_goals simp [vX, *]
theorem nd_ext (a b : Nd) : a = b ↔ a.p = b.p ∧ a.c = b.c := by
  obtain ⟨a1, a2⟩ := a
  obtain ⟨b1, b2⟩ := b
  simp
theorem cm_ext (a b : Cm) : a = b ↔ a.p = b.p ∧ a.a = b.a ∧ a.b = b.b := by
  obtain ⟨a1, a2, a3⟩ := a
  obtain ⟨b1, b2, b3⟩ := b
  simp
theorem toNode_pc (n : Nd) : PC Tryz.prog 33 [.agg (ndC n)] (vX (.agg (ndC n))) := by
  have h1 := toContent_pc n.c
  unfold ctA ctC at h1
  unfold ndC
  refine pc_enter Tryz.func33 rfl rfl fun w0 fb => go_on ?_; (try simp only [Tryz.ntmps33, push_cast, simprocAttr])
  (refine at_call ?_; (try simp only [push_cast, simprocAttr]); refine rwc_d (h1) (by simp [flatV, flatL, ctC, ndC, cmC]) (by simp [ren, ctC, ndC, cmC]) (go_on ?_); (try simp only [push_cast, simprocAttr]))
  refine at_ret ?_; simp only [Tryz.results33, push_cast, simprocAttr]
  simp [vX]
theorem eqNode_pc (a b : Nd) : PC Tryz.prog 37 [.agg (ndC a), .agg (ndC b)] (vB (decide (a = b))) := by
  have h1 := eqContent_pc a.c b.c
  unfold ctA ctC at h1
  unfold ndC
  refine pc_enter Tryz.func37 rfl rfl fun w0 fb => go_on ?_; (try simp only [Tryz.ntmps37, push_cast, simprocAttr])
  repeat' first | (refine at_b (fun hb => ?_) (fun hb => ?_) <;> simp only [hb, push_cast, simprocAttr]) | (refine at_ret ?_; simp only [Tryz.results37, push_cast, simprocAttr]) | (refine at_call ?_; (try simp only [push_cast, simprocAttr]); refine rwc_v (by first | exact h1) (go_on ?_); simp only [push_cast, simprocAttr]) | (show RWp _ _ _ _ _; simp only [push_cast, simprocAttr])
  all_goals simp only [Bool.not_eq_true', Bool.not_eq_false', decide_eq_true_eq, decide_eq_false_iff_not] at *
  all_goals simp [vX, nd_ext a b, *]
theorem szNode_pc (n : Nd) (left : Int) (h0 : 0 ≤ left) (h1 : left ≤ 1048576) (hp : n.p.length ≤ 9223372036854775807) : PC Tryz.prog 29 [.agg (ndC n), iA left] (vI (sz1 left n.p.length)) := by
  have w1 := wr (left - (n.p.length : Int)) (by omega)
  unfold ndC
  refine pc_enter Tryz.func29 rfl rfl fun w0 fb => go_on ?_; (try simp only [Tryz.ntmps29, push_cast, simprocAttr])
  repeat' first | (refine at_b (fun hb => ?_) (fun hb => ?_) <;> simp only [w1, hb, push_cast, simprocAttr]) | (refine at_ret ?_; simp only [w1, Tryz.results29, push_cast, simprocAttr]) | (show RWp _ _ _ _ _; simp only [w1, push_cast, simprocAttr])
  · have := of_ltI_t hb; rw [w1] at this; simp [vX, sz1, this]
  · have := of_ltI_f hb; rw [w1] at this; simp [vX, sz1]; omega
theorem szNodeS_pc (l : List Nd) (left : Int) (h0 : 0 ≤ left) (h1 : left ≤ 1048576) (hl : l.length ≤ 9223372036854775807) (hp : ∀ n ∈ l, n.p.length ≤ 9223372036854775807) :
    PC Tryz.prog 6 [.sl 3 (l.map ndC), iA left] (vI (szS left (l.map fun n => n.p.length))) := by
  have w1 := wr (left - (l.length : Int)) (by omega)
  refine pc_enter Tryz.func6 rfl rfl fun w0 fb => go_on ?_; (try simp only [Tryz.ntmps6, push_cast, simprocAttr])
  (try simp only [w1, push_cast, simprocAttr])
  refine at_b (fun hb => ?_) (fun hb => ?_)
  · have := of_ltI_t hb
    (try simp only [hb, push_cast, simprocAttr])
    refine at_ret ?_; simp only [Tryz.results6, push_cast, simprocAttr]
    simp [vX, szS, this]
  · have h2 := of_ltI_f hb
    have e : szS left (l.map fun n => n.p.length) = szF (left - l.length) (l.map fun n => n.p.length) := by unfold szS; rw [if_neg (by simp; omega), List.length_map]
    rw [e]
    (try simp only [hb, push_cast, simprocAttr])
    refine at_loop (X := Nat × Int) (fun x => [(1, iA x.2), (5, iA x.1)]) (fun _ => []) (fun x => x.1 ≤ l.length ∧ 0 ≤ x.2 ∧ x.2 ≤ 1048576 ∧ szF (left - l.length) (l.map fun n => n.p.length) = szF x.2 ((l.drop x.1).map fun n => n.p.length)) (fun x => l.length - x.1) (0, left - l.length) ⟨Nat.zero_le _, h2, by dsimp only; omega, rfl⟩ ?_ ?_
    · (refine wk_ok ?_ ?_ ?_ ?_ <;> simp [leL, leH, idsL, idsA, idsR, inH, hget, sameRow, upA, hvA, dsts, dstO, setA_0, setA_1, setA_8, List.append, List.cons_append, List.nil_append])
    · rintro ⟨k, r⟩ ⟨q1, q2, q3, q4⟩
      simp only at q1 q2 q3 q4
      simp only [upA, hvA, dsts, dstO, setA_0, setA_1, setA_8, List.append, List.cons_append, List.nil_append]
      refine go_on ?_
      (try simp only [push_cast, simprocAttr])
      refine at_b (fun hg => ?_) (fun hg => ?_)
      · have hlt := lt_tt hg
        obtain ⟨x, hk⟩ := get_of_lt hlt
        have i1 := ix_n hk
        have i2 := map_get ndC hk
        have hS := szNode_pc x r q2 q3 (hp x (mem_of_get hk))
        simp only [ndC] at i2 hS
        rw [drop_of_get hk, List.map_cons, szF] at q4
        have w2 := wr ((k : Int) + 1) (by omega)
        (try simp only [hg, i1, i2, push_cast, simprocAttr])
        (refine at_call ?_; (try simp only [push_cast, simprocAttr]); refine rwc_v (hS) (go_on ?_); (try simp only [push_cast, simprocAttr]))
        by_cases hz : r - (x.p.length : Int) < 0
        · have e2 : sz1 r x.p.length = -1 := by unfold sz1; rw [if_pos hz]
          rw [e2]
          (try simp only [show ltI (-1) 0 = true from rfl, push_cast, simprocAttr])
          refine at_ret ?_; simp only [Tryz.results6, push_cast, simprocAttr]
          rw [if_pos hz] at q4
          simp [vX, q4]
        · have e2 : sz1 r x.p.length = r - x.p.length := by unfold sz1; rw [if_neg hz]
          have e3 : ltI (r - (x.p.length : Int)) 0 = false := ltI_f (by omega)
          rw [e2]
          (try simp only [e3, w2, push_cast, simprocAttr])
          rw [if_neg hz] at q4
          refine at_fin ⟨(k + 1, r - x.p.length), ⟨by dsimp only; omega, by dsimp only; omega, by dsimp only; omega, q4⟩, by dsimp only; omega, ?_⟩
          (refine wk_ok ?_ ?_ ?_ ?_ <;> simp [leL, leH, idsL, idsA, idsR, inH, hget, sameRow, upA, hvA, dsts, dstO, setA_0, setA_1, setA_8, List.append, List.cons_append, List.nil_append])
      · have h3 := lt_ff hg
        rw [List.drop_of_length_le h3] at q4
        (try simp only [hg, push_cast, simprocAttr])
        refine at_ret ?_; simp only [Tryz.results6, push_cast, simprocAttr]
        simp [vX, q4, szF]
theorem toNodeS_pc (l : List Nd) (hl : l.length ≤ 1048576) : PC Tryz.prog 9 [.sl 3 (l.map ndC)] (rX (.o 0 l.length) [rowN l]) := by
  refine pc_enter Tryz.func9 rfl rfl fun w0 fb => go_on ?_; (try simp only [Tryz.ntmps9, push_cast, simprocAttr])
  refine at_chk ⟨by omega, by omega⟩ ?_
  refine at_loop (X := Nat) (fun k => [(4, iA k)]) (fun k => [(2, rowN []), (7, ⟨65, 3, (l.take k).map ndC ++ List.replicate (l.length - k) [AV.v (Value.string ⟨#[]⟩), iA 0, iA 0], true⟩)]) (fun k => k ≤ l.length) (fun k => l.length - k) 0 (Nat.zero_le _) ?_ ?_
  · (refine wk_ok ?_ ?_ ?_ ?_ <;> simp [leL, leH, idsL, idsA, idsR, inH, hget, sameRow, upA, hvA, dsts, dstO, setA_0, setA_1, setA_8, List.append, List.cons_append, List.nil_append])
  · intro k h1
    simp only [upA, hvA, dsts, dstO, setA_0, setA_1, setA_8, List.append, List.cons_append, List.nil_append]
    refine go_on ?_
    (try simp only [push_cast, simprocAttr])
    refine at_b (fun hg => ?_) (fun hg => ?_)
    · have hlt := lt_tt hg
      obtain ⟨x, hk⟩ := get_of_lt hlt
      have i1 := ix_n hk
      have i2 := map_get ndC hk
      have hT := toNode_pc x
      simp only [ndC] at i2 hT
      have w2 := wr ((k : Int) + 1) (by omega)
      obtain ⟨es, hes⟩ : ∃ es, es = (l.take k).map ndC ++ List.replicate (l.length - k) [AV.v (Value.string ⟨#[]⟩), iA 0, iA 0] := ⟨_, rfl⟩
      have hlen : ((l.take k).map ndC).length = k := by rw [List.length_map, List.length_take]; omega
      have i3 : es[k]? = some [AV.v (Value.string ⟨#[]⟩), iA 0, iA 0] := by rw [hes, List.getElem?_append_right (by omega), hlen, Nat.sub_self, List.getElem?_replicate, if_pos (by omega)]
      have hset : es.set k [sA x.p, iA x.c.k, iA x.c.v] = (l.take (k + 1)).map ndC ++ List.replicate (l.length - (k + 1)) [AV.v (Value.string ⟨#[]⟩), iA 0, iA 0] := by
        rw [hes, List.set_append_right _ _ (by omega), hlen, Nat.sub_self, List.take_add_one, hk, show l.length - k = (l.length - (k + 1)) + 1 by omega, List.replicate_succ, List.set_cons_zero]
        simp [ndC]
      rw [← hes]
      (try simp only [hg, i1, i2, push_cast, simprocAttr])
      (refine at_call ?_; (try simp only [push_cast, simprocAttr]); refine rwc_d (hT) (by simp [flatV, flatL, ctC, ndC, cmC]) (by simp [ren, ctC, ndC, cmC]) (go_on ?_); (try simp only [push_cast, simprocAttr]))
      (try simp only [i1, i3, List.length_replicate, w2, push_cast, simprocAttr])
      refine at_fin ⟨k + 1, by omega, by omega, ?_⟩
      rw [hset]
      (refine wk_ok ?_ ?_ ?_ ?_ <;> simp [leL, leH, idsL, idsA, idsR, inH, hget, sameRow, upA, hvA, dsts, dstO, setA_0, setA_1, setA_8, List.append, List.cons_append, List.nil_append])
    · have h3 := lt_ff hg
      have hk : k = l.length := by omega
      subst hk
      (try simp only [hg, push_cast, simprocAttr])
      refine at_ret ?_; simp only [Tryz.results9, push_cast, simprocAttr]
      simp [rX, ixOf]
theorem eqNodeS_pc (a b : List Nd) (hl : a.length < 4294967281) : PC Tryz.prog 13 [.sl 3 (a.map ndC), .sl 3 (b.map ndC)] (vB (decide (a = b))) := by
  refine pc_enter Tryz.func13 rfl rfl fun w0 fb => go_on ?_; (try simp only [Tryz.ntmps13, push_cast, simprocAttr])
  refine at_b (fun hb => ?_) (fun hb => ?_)
  · have h1 := of_eqI_f (not_t hb)
    have h2 : a ≠ b := by rintro rfl; exact h1 rfl
    (try simp only [hb, push_cast, simprocAttr])
    refine at_ret ?_; simp only [Tryz.results13, push_cast, simprocAttr]
    simp [vX, h2]
  · have h1 : a.length = b.length := by have := of_eqI_t (not_f hb); omega
    (try simp only [hb, push_cast, simprocAttr])
    refine at_loop (X := Nat) (fun k => [(5, iA k)]) (fun _ => []) (fun k => k ≤ a.length ∧ decide (a = b) = decide (a.drop k = b.drop k)) (fun k => a.length - k) 0 ⟨Nat.zero_le _, rfl⟩ ?_ ?_
    · (refine wk_ok ?_ ?_ ?_ ?_ <;> simp [leL, leH, idsL, idsA, idsR, inH, hget, sameRow, upA, hvA, dsts, dstO, setA_0, setA_1, setA_8, List.append, List.cons_append, List.nil_append])
    · rintro k ⟨q1, q2⟩
      simp only [upA, hvA, dsts, dstO, setA_0, setA_1, setA_8, List.append, List.cons_append, List.nil_append]
      refine go_on ?_
      (try simp only [push_cast, simprocAttr])
      refine at_b (fun hg => ?_) (fun hg => ?_)
      · have hlt := lt_tt hg
        obtain ⟨x, hx⟩ := get_of_lt hlt
        obtain ⟨y, hy⟩ := get_of_lt (l := b) (k := k) (by omega)
        have i1 := ix_n hx
        have i3 := ix_n hy
        have i2 := map_get ndC hx
        have i4 := map_get ndC hy
        have hE := eqNode_pc x y
        simp only [ndC] at i2 i4 hE
        rw [drop_of_get hx, drop_of_get hy] at q2
        have w2 := wr ((k : Int) + 1) (by omega)
        (try simp only [hg, push_cast, simprocAttr])
        refine at_draw rfl (by kernel_rfl) ?_
        (try simp only [i1, i2, i3, i4, push_cast, simprocAttr])
        repeat' first | (refine at_bWn (fun hb => ?_) (fun hb => ?_) <;> simp only [i1, i2, i3, i4, hb, push_cast, simprocAttr]) | (refine at_bW (fun hb => ?_) (fun hb => ?_) <;> simp only [i1, i2, i3, i4, hb, push_cast, simprocAttr]) | (refine at_callD (by simp [clB, idsL, idsA, hget]) ?_; (try simp only [push_cast, simprocAttr]); first | (refine rcd_v (hE) ?_; simp only [i1, i2, i3, i4, push_cast, simprocAttr]) | (refine rcd_d (hE) (by simp [flatV, flatL, ctC, ndC, cmC]) (by simp [ren, ctC, ndC, cmC]) ?_; simp only [i1, i2, i3, i4, push_cast, simprocAttr])) | (refine at_done (by kernel_rfl) (by kernel_rfl) (go_on ?_); (try simp only [i1, i2, i3, i4, push_cast, simprocAttr]))
        refine at_b (fun hn => ?_) (fun hn => ?_)
        · (try simp only [hn, push_cast, simprocAttr])
          refine at_ret ?_; simp only [Tryz.results13, push_cast, simprocAttr]
          have := not_t hn
          simp only [decide_eq_false_iff_not] at this
          simp [vX, q2, this]
        · have hn' := not_f hn
          simp only [decide_eq_true_eq] at hn'
          (try simp only [hn, w2, push_cast, simprocAttr])
          refine at_fin ⟨k + 1, ⟨by omega, ?_⟩, by omega, ?_⟩
          · rw [q2]; simp [hn']
          · (refine wk_ok ?_ ?_ ?_ ?_ <;> simp [leL, leH, idsL, idsA, idsR, inH, hget, sameRow, upA, hvA, dsts, dstO, setA_0, setA_1, setA_8, List.append, List.cons_append, List.nil_append])
      · have h3 := lt_ff hg
        rw [List.drop_of_length_le h3, List.drop_of_length_le (by omega)] at q2
        (try simp only [hg, push_cast, simprocAttr])
        refine at_ret ?_; simp only [Tryz.results13, push_cast, simprocAttr]
        simp [vX, q2]
theorem toCommand_pc (n : Cm) : PC Tryz.prog 55 [.agg (cmC n)] (vX (.agg (cmC n))) := by
  have h1 := toContent_pc n.a
  have h2 := toContent_pc n.b
  unfold ctA ctC at h1 h2
  unfold cmC
  refine pc_enter Tryz.func55 rfl rfl fun w0 fb => go_on ?_; (try simp only [Tryz.ntmps55, push_cast, simprocAttr])
  (refine at_call ?_; (try simp only [push_cast, simprocAttr]); refine rwc_d (h1) (by simp [flatV, flatL, ctC, ndC, cmC]) (by simp [ren, ctC, ndC, cmC]) (go_on ?_); (try simp only [push_cast, simprocAttr]))
  (refine at_call ?_; (try simp only [push_cast, simprocAttr]); refine rwc_d (h2) (by simp [flatV, flatL, ctC, ndC, cmC]) (by simp [ren, ctC, ndC, cmC]) (go_on ?_); (try simp only [push_cast, simprocAttr]))
  refine at_ret ?_; simp only [Tryz.results55, push_cast, simprocAttr]
  simp [vX]
theorem eqCommand_pc (a b : Cm) : PC Tryz.prog 62 [.agg (cmC a), .agg (cmC b)] (vB (decide (a = b))) := by
  have h1 := eqContent_pc a.a b.a
  have h2 := eqContent_pc a.b b.b
  unfold ctA ctC at h1 h2
  unfold cmC
  refine pc_enter Tryz.func62 rfl rfl fun w0 fb => go_on ?_; (try simp only [Tryz.ntmps62, push_cast, simprocAttr])
  repeat' first | (refine at_b (fun hb => ?_) (fun hb => ?_) <;> simp only [hb, push_cast, simprocAttr]) | (refine at_ret ?_; simp only [Tryz.results62, push_cast, simprocAttr]) | (refine at_call ?_; (try simp only [push_cast, simprocAttr]); refine rwc_v (by first | exact h1 | exact h2) (go_on ?_); simp only [push_cast, simprocAttr]) | (show RWp _ _ _ _ _; simp only [push_cast, simprocAttr])
  all_goals simp only [Bool.not_eq_true', Bool.not_eq_false', decide_eq_true_eq, decide_eq_false_iff_not] at *
  all_goals simp [vX, cm_ext a b, *]
theorem szCommand_pc (n : Cm) (left : Int) (h0 : 0 ≤ left) (h1 : left ≤ 1048576) (hp : n.p.length ≤ 9223372036854775807) : PC Tryz.prog 48 [.agg (cmC n), iA left] (vI (sz1 left n.p.length)) := by
  have w1 := wr (left - (n.p.length : Int)) (by omega)
  unfold cmC
  refine pc_enter Tryz.func48 rfl rfl fun w0 fb => go_on ?_; (try simp only [Tryz.ntmps48, push_cast, simprocAttr])
  repeat' first | (refine at_b (fun hb => ?_) (fun hb => ?_) <;> simp only [w1, hb, push_cast, simprocAttr]) | (refine at_ret ?_; simp only [w1, Tryz.results48, push_cast, simprocAttr]) | (show RWp _ _ _ _ _; simp only [w1, push_cast, simprocAttr])
  · have := of_ltI_t hb; rw [w1] at this; simp [vX, sz1, this]
  · have := of_ltI_f hb; rw [w1] at this; simp [vX, sz1]; omega
theorem eqCommandS_pc (a b : List Cm) (hl : a.length < 4294967281) : PC Tryz.prog 44 [.sl 5 (a.map cmC), .sl 5 (b.map cmC)] (vB (decide (a = b))) := by
  refine pc_enter Tryz.func44 rfl rfl fun w0 fb => go_on ?_; (try simp only [Tryz.ntmps44, push_cast, simprocAttr])
  refine at_b (fun hb => ?_) (fun hb => ?_)
  · have h1 := of_eqI_f (not_t hb)
    have h2 : a ≠ b := by rintro rfl; exact h1 rfl
    (try simp only [hb, push_cast, simprocAttr])
    refine at_ret ?_; simp only [Tryz.results44, push_cast, simprocAttr]
    simp [vX, h2]
  · have h1 : a.length = b.length := by have := of_eqI_t (not_f hb); omega
    (try simp only [hb, push_cast, simprocAttr])
    refine at_loop (X := Nat) (fun k => [(5, iA k)]) (fun _ => []) (fun k => k ≤ a.length ∧ decide (a = b) = decide (a.drop k = b.drop k)) (fun k => a.length - k) 0 ⟨Nat.zero_le _, rfl⟩ ?_ ?_
    · (refine wk_ok ?_ ?_ ?_ ?_ <;> simp [leL, leH, idsL, idsA, idsR, inH, hget, sameRow, upA, hvA, dsts, dstO, setA_0, setA_1, setA_8, List.append, List.cons_append, List.nil_append])
    · rintro k ⟨q1, q2⟩
      simp only [upA, hvA, dsts, dstO, setA_0, setA_1, setA_8, List.append, List.cons_append, List.nil_append]
      refine go_on ?_
      (try simp only [push_cast, simprocAttr])
      refine at_b (fun hg => ?_) (fun hg => ?_)
      · have hlt := lt_tt hg
        obtain ⟨x, hx⟩ := get_of_lt hlt
        obtain ⟨y, hy⟩ := get_of_lt (l := b) (k := k) (by omega)
        have i1 := ix_n hx
        have i3 := ix_n hy
        have i2 := map_get cmC hx
        have i4 := map_get cmC hy
        have hE := eqCommand_pc x y
        simp only [cmC] at i2 i4 hE
        rw [drop_of_get hx, drop_of_get hy] at q2
        have w2 := wr ((k : Int) + 1) (by omega)
        (try simp only [hg, push_cast, simprocAttr])
        refine at_draw rfl (by kernel_rfl) ?_
        (try simp only [i1, i2, i3, i4, push_cast, simprocAttr])
        repeat' first | (refine at_bWn (fun hb => ?_) (fun hb => ?_) <;> simp only [i1, i2, i3, i4, hb, push_cast, simprocAttr]) | (refine at_bW (fun hb => ?_) (fun hb => ?_) <;> simp only [i1, i2, i3, i4, hb, push_cast, simprocAttr]) | (refine at_callD (by simp [clB, idsL, idsA, hget]) ?_; (try simp only [push_cast, simprocAttr]); first | (refine rcd_v (hE) ?_; simp only [i1, i2, i3, i4, push_cast, simprocAttr]) | (refine rcd_d (hE) (by simp [flatV, flatL, ctC, ndC, cmC]) (by simp [ren, ctC, ndC, cmC]) ?_; simp only [i1, i2, i3, i4, push_cast, simprocAttr])) | (refine at_done (by kernel_rfl) (by kernel_rfl) (go_on ?_); (try simp only [i1, i2, i3, i4, push_cast, simprocAttr]))
        refine at_b (fun hn => ?_) (fun hn => ?_)
        · (try simp only [hn, push_cast, simprocAttr])
          refine at_ret ?_; simp only [Tryz.results44, push_cast, simprocAttr]
          have := not_t hn
          simp only [decide_eq_false_iff_not] at this
          simp [vX, q2, this]
        · have hn' := not_f hn
          simp only [decide_eq_true_eq] at hn'
          (try simp only [hn, w2, push_cast, simprocAttr])
          refine at_fin ⟨k + 1, ⟨by omega, ?_⟩, by omega, ?_⟩
          · rw [q2]; simp [hn']
          · (refine wk_ok ?_ ?_ ?_ ?_ <;> simp [leL, leH, idsL, idsA, idsR, inH, hget, sameRow, upA, hvA, dsts, dstO, setA_0, setA_1, setA_8, List.append, List.cons_append, List.nil_append])
      · have h3 := lt_ff hg
        rw [List.drop_of_length_le h3, List.drop_of_length_le (by omega)] at q2
        (try simp only [hg, push_cast, simprocAttr])
        refine at_ret ?_; simp only [Tryz.results44, push_cast, simprocAttr]
        simp [vX, q2]
end Go.Proofs.YthifgndjpjaddaaGreatDoor
/-
  Walks: a side of the laws: its size, its copy, its equality.
-/
namespace Go.Proofs.YthifgndjpjaddaaGreatDoor
open Go Go.RowKit Go.Proofs
theorem flat_app {a b : List Row} (ha : FlatR a) (hb : FlatR b) : FlatR (a ++ b) := fun row h => by
  rcases List.mem_append.1 h with h | h
  · exact ha row h
  · exact hb row h
theorem flat_nc {E E' : TypeId} {sz sz' : Nat} {cl cl' : Bool} (l : List Nd) (m : List Cm) : FlatR [⟨E, sz, l.map ndC, cl⟩, ⟨E', sz', m.map cmC, cl'⟩] := flat_app (flat_n l) (flat_c m)
def stO (s : St) : AV := .agg [iA s.ep, .o 0 s.base.length, .o 1 s.log.length]
attribute [local irreducible] RWp AW run kPe pe Kt effA gd gu br retR RDp runD kPeD brW gW effD
set_option maxRecDepth 100000
theorem max63 : maxLen ≤ 9223372036854775807 := by decide
theorem st_ext (a b : St) : a = b ↔ a.ep = b.ep ∧ a.base = b.base ∧ a.log = b.log := by
  obtain ⟨a1, a2, a3⟩ := a
  obtain ⟨b1, b2, b3⟩ := b
  simp
theorem eqSite_pc (a b : St) (h1 : a.base.length < 4294967281) (h2 : a.log.length < 4294967281) : PC Tryz.prog 26 [stA' a, stA' b] (vB (decide (a = b))) := by
  have hN := eqNodeS_pc a.base b.base h1
  have hC := eqCommandS_pc a.log b.log h2
  unfold stA' stC
  refine pc_enter Tryz.func26 rfl rfl fun w0 fb => go_on ?_; (try simp only [Tryz.ntmps26, push_cast, simprocAttr])
  repeat' first | (refine at_b (fun hb => ?_) (fun hb => ?_) <;> simp only [hb, push_cast, simprocAttr]) | (refine at_ret ?_; simp only [Tryz.results26, push_cast, simprocAttr]) | (refine at_call ?_; (try simp only [push_cast, simprocAttr]); refine rwc_v (by first | exact hN | exact hC) (go_on ?_); simp only [push_cast, simprocAttr]) | (show RWp _ _ _ _ _; simp only [push_cast, simprocAttr])
  all_goals simp only [Bool.not_eq_true', Bool.not_eq_false', eqI_d, decide_eq_true_eq, decide_eq_false_iff_not] at *
  all_goals simp [vX, st_ext a b, *]
end Go.Proofs.YthifgndjpjaddaaGreatDoor
/-
  Opening a side that a law is handed: what it reads as, in the machine's words.
-/
namespace Go.Proofs.YthifgndjpjaddaaGreatDoor
open Go Go.RowKit Go.Proofs
set_option maxRecDepth 100000
section
variable {H : Type} {enc : TypeId × Value → H} {W : World} {base : Nat} {sp : Nat → Bool} {held : Bool} {fuel : Nat} {cs : List Value} {x : DataW H × List MemPlace}
theorem two_of {α : Type} {l : List α} (h : l.length = 2) : ∃ a b, l = [a, b] := by
  match l, h with
  | [a, b], _ => exact ⟨a, b, rfl⟩
theorem three_of {α : Type} {l : List α} (h : l.length = 3) : ∃ a b c, l = [a, b, c] := by
  match l, h with
  | [a, b, c], _ => exact ⟨a, b, c, rfl⟩
theorem five_of {α : Type} {l : List α} (h : l.length = 5) : ∃ a b c d e, l = [a, b, c, d, e] := by
  match l, h with
  | [a, b, c, d, e], _ => exact ⟨a, b, c, d, e, rfl⟩
theorem str_of (b : ByteArray) : ∃ s : Str, (⟨s.toArray⟩ : ByteArray) = b ∧ s.length = b.size := ⟨b.data.toList, by simp, by rw [Array.length_toList]; rfl⟩
theorem open_content (h : DataW.trod enc Tryz.prog W base sp held fuel 52 cs = some x) : ∃ c : Ct, cs = [.int .i64 c.k, .int .i64 c.v] := by
  obtain ⟨xs, n, rfl, rfl, hl, hlen, hf⟩ := DataW.trod_struct Tryz.underlying52 h
  rw [show Tryz.prog.cellsOf 52 = 2 by kernel_rfl] at hl
  obtain ⟨a, b, rfl⟩ := two_of hl
  obtain ⟨y0, y1, rfl⟩ := two_of hlen
  have h0 := hf 0 _ rfl
  have h1 := hf 1 _ rfl
  simp only [show Tryz.prog.cellsOf 3 = 1 by kernel_rfl, List.drop, List.take, List.getElem?_cons_zero, List.getElem?_cons_succ] at h0 h1
  obtain ⟨k, e1, _⟩ := DataW.trod_int Tryz.underlying3 h0
  obtain ⟨v, e2, _⟩ := DataW.trod_int Tryz.underlying3 h1
  cases e1
  cases e2
  exact ⟨⟨k, v⟩, rfl⟩
theorem open_node (h : DataW.trod enc Tryz.prog W base sp held fuel 54 cs = some x) : ∃ n : Nd, cs = [.string ⟨n.p.toArray⟩, .int .i64 n.c.k, .int .i64 n.c.v] ∧ n.p.length ≤ maxLen := by
  obtain ⟨xs, n, rfl, rfl, hl, hlen, hf⟩ := DataW.trod_struct Tryz.underlying54 h
  rw [show Tryz.prog.cellsOf 54 = 3 by kernel_rfl] at hl
  obtain ⟨a, b, c, rfl⟩ := three_of hl
  obtain ⟨y0, y1, rfl⟩ := two_of hlen
  have h0 := hf 0 _ rfl
  have h1 := hf 1 _ rfl
  simp only [show Tryz.prog.cellsOf 9 = 1 by kernel_rfl, show Tryz.prog.cellsOf 52 = 2 by kernel_rfl, List.drop, List.take, List.getElem?_cons_zero, List.getElem?_cons_succ] at h0 h1
  obtain ⟨s, e1, _, hs⟩ := DataW.trod_string Tryz.underlying9 h0
  obtain ⟨v, e2⟩ := open_content h1
  obtain ⟨q, rfl, hq⟩ := str_of s
  cases e1
  cases e2
  exact ⟨⟨q, v⟩, rfl, by simpa only [hq] using hs⟩
theorem open_command (h : DataW.trod enc Tryz.prog W base sp held fuel 57 cs = some x) : ∃ n : Cm, cs = [.string ⟨n.p.toArray⟩, .int .i64 n.a.k, .int .i64 n.a.v, .int .i64 n.b.k, .int .i64 n.b.v] ∧ n.p.length ≤ maxLen := by
  obtain ⟨xs, n, rfl, rfl, hl, hlen, hf⟩ := DataW.trod_struct Tryz.underlying57 h
  rw [show Tryz.prog.cellsOf 57 = 5 by kernel_rfl] at hl
  obtain ⟨a, b, c, d, e, rfl⟩ := five_of hl
  obtain ⟨y0, y1, y2, rfl⟩ := three_of hlen
  have h0 := hf 0 _ rfl
  have h1 := hf 1 _ rfl
  have h2 := hf 2 _ rfl
  simp only [show Tryz.prog.cellsOf 9 = 1 by kernel_rfl, show Tryz.prog.cellsOf 52 = 2 by kernel_rfl, List.drop, List.take, List.getElem?_cons_zero, List.getElem?_cons_succ] at h0 h1 h2
  obtain ⟨s, e1, _, hs⟩ := DataW.trod_string Tryz.underlying9 h0
  obtain ⟨v, e2⟩ := open_content h1
  obtain ⟨u, e3⟩ := open_content h2
  obtain ⟨q, rfl, hq⟩ := str_of s
  cases e1
  cases e2
  cases e3
  exact ⟨⟨q, v, u⟩, rfl, by simpa only [hq] using hs⟩
theorem choose_list {α : Type} {n : Nat} {p : Nat → α → Prop} (h : ∀ i, i < n → ∃ a, p i a) : ∃ l : List α, l.length = n ∧ ∀ (i : Nat) a, l[i]? = some a → p i a := by
  induction n with
  | zero => exact ⟨[], rfl, fun i a h => by simp at h⟩
  | succ n ih =>
    obtain ⟨l, h1, h2⟩ := ih fun i hi => h i (by omega)
    obtain ⟨a, ha⟩ := h n (by omega)
    refine ⟨l ++ [a], by simp [h1], fun i b hb => ?_⟩
    by_cases hi : i < l.length
    · rw [List.getElem?_append_left hi] at hb
      exact h2 i b hb
    · rw [List.getElem?_append_right (by omega)] at hb
      by_cases h0 : i - l.length = 0
      · rw [h0] at hb
        cases hb
        obtain rfl : i = n := by omega
        exact ha
      · have := (List.getElem?_eq_some_iff.1 hb).1
        simp at this
        omega
theorem cells_get {a : Addr} {n : Nat} {l : List Value} (h : W.cells? base a n = some l) : l.length = n ∧ ∀ j, j < n → W.cell? (a.add j) = l[j]? := by
  unfold World.cells? at h
  split at h
  · refine ⟨by have := mapM_some_length h; simpa using this, fun j hj => mapM_some_get h j j (by simp [hj])⟩
  · cases h
/-- A slice of structs of plain data. -/
theorem open_sl {α : Type} {K : α → List AV} {V : α → List Value} {Q : α → Prop} {t e sz : Nat} {lv : Nat → Prop} (ht : Tryz.prog.underlying t = some (.slice e)) (hz : Tryz.prog.cellsOf e = sz) (h0 : 0 < sz)
    (hel : ∀ (fuel : Nat) (cs : List Value) (x : DataW H × List MemPlace), DataW.trod enc Tryz.prog W 0 sp held fuel e cs = some x → ∃ a, cs = V a ∧ Q a)
    (hV : ∀ a, (V a).length = sz ∧ (V a).all Value.oneCell' = true ∧ K a = (V a).map AV.v) (hlv : ∀ b, b < W.heap.size → ¬ lv b)
    (h : DataW.trod enc Tryz.prog W 0 sp held fuel t cs = some x) :
    ∃ (l : List α) (v : Value), cs = [v] ∧ C lv 0 W (.sl sz (l.map K)) v ∧ l.length ≤ maxLen ∧ ∀ a ∈ l, Q a := by
  rcases DataW.trod_slice ht h with ⟨rfl, _⟩ | ⟨a, len, cap, elems, rest, n, rfl, rfl, _, _, hl, hm, hlen, hg, _, _⟩
  · refine ⟨[], _, rfl, C.sl [] (fun _ _ => undef) ⟨by simp, fun h => absurd h (by simp)⟩ (fun h => absurd h (by simp)) (by simp) (by omega) ?_ ?_ ?_, by simp, by simp⟩ <;> intro k e <;> simp
  · have hex : ∀ i, i < len → ∃ b, (∀ j, j < sz → W.cell? (a.add (i * sz + j)) = (V b)[j]?) ∧ Q b := by
      intro i hi
      have h1 := hg i hi
      rw [hz] at h1
      obtain ⟨y, hy⟩ : ∃ y, elems[i]? = some y := ⟨_, List.getElem?_eq_getElem (by omega)⟩
      rw [hy, Option.bind_eq_some_iff] at h1
      obtain ⟨cs', hcs, hy'⟩ := h1
      obtain ⟨b, rfl, hb⟩ := hel _ _ _ hy'
      refine ⟨b, fun j hj => ?_, hb⟩
      have h2 := (cells_get hcs).2 j hj
      rw [← h2]
      congr 1
      unfold Addr.add
      by_cases g1 : j = 0
      · subst g1; simp
      · by_cases g2 : i * sz = 0
        · simp [g2]
        · rw [if_neg (by omega), if_neg g1, if_neg g2]
          simp only [Nat.add_assoc]
    obtain ⟨l, hll, hlg⟩ := choose_list hex
    subst hll
    have hcell : ∀ (i : Nat) b j, l[i]? = some b → j < sz → W.cell? (a.add (i * sz + j)) = (V b)[j]? := fun i b j hb hj => (hlg i b hb).1 j hj
    have hQ : ∀ b ∈ l, Q b := fun b hb => by
      obtain ⟨i, hi⟩ := List.getElem?_of_mem hb
      exact (hlg i b hi).2
    have xget : ∀ (l : List α) (i : Nat) b j, l[i]? = some b → j < sz → (l.flatMap V)[i * sz + j]? = (V b)[j]? := by
      intro l
      induction l with
      | nil => intro i b j hb; simp at hb
      | cons c l ih =>
        intro i b j hb hj
        cases i with
        | zero =>
          cases hb
          rw [List.flatMap_cons, Nat.zero_mul, Nat.zero_add, List.getElem?_append_left (by rw [(hV c).1]; exact hj)]
        | succ i =>
          rw [List.flatMap_cons, List.getElem?_append_right (by rw [(hV c).1, Nat.succ_mul]; omega), (hV c).1, show (i + 1) * sz + j - sz = i * sz + j by rw [Nat.succ_mul]; omega]
          exact ih i b j hb hj
    have xlen : ∀ l : List α, (l.flatMap V).length = l.length * sz := by
      intro l
      induction l with
      | nil => simp
      | cons c l ih => rw [List.flatMap_cons, List.length_append, (hV c).1, ih, List.length_cons, Nat.succ_mul]; omega
    have hVj : ∀ b j, j < sz → ∃ u, (V b)[j]? = some u ∧ u.oneCell' = true ∧ (K b)[j]? = some (.v u) := by
      intro b j hj
      obtain ⟨u, hu⟩ : ∃ u, (V b)[j]? = some u := ⟨_, List.getElem?_eq_getElem (by rw [(hV b).1]; exact hj)⟩
      refine ⟨u, hu, ?_, ?_⟩
      · exact List.all_eq_true.1 (hV b).2.1 u (List.mem_of_getElem? hu)
      · rw [(hV b).2.2, List.getElem?_map, hu]; rfl
    have hKl : ∀ b, (K b).length = sz := fun b => by rw [(hV b).2.2, List.length_map, (hV b).1]
    refine ⟨l, _, rfl, ?_, by omega, hQ⟩
    rw [← List.length_map (f := K)]
    refine C.sl (l.flatMap V) (fun i j => ((l.flatMap V)[i * sz + j]?).getD undef) ⟨by rw [xlen, List.length_map], fun hp => ?_⟩ (fun hp ad had => ?_) (by rw [List.length_map]; exact hl) hm (fun k e he => ?_) (fun k e j he hj => ?_) (fun k e j c he hj => ?_)
    · rw [List.length_map] at hp
      obtain ⟨b0, hb0⟩ : ∃ b, l[0]? = some b := ⟨_, List.getElem?_eq_getElem hp⟩
      obtain ⟨u0, hu0, _⟩ := hVj b0 0 h0
      have hc0 := hcell 0 b0 0 hb0 h0
      rw [hu0, Nat.zero_mul, Nat.zero_add] at hc0
      have hs : a.spot = none := by simpa [Addr.add] using World.cell?_spot hc0
      obtain ⟨b, off, spt⟩ := a
      simp only at hs
      subst hs
      refine ⟨b, off, rfl, Nat.zero_le _, ?_, fun j u hj => ?_⟩
      · have hc1 := hc0
        rw [show (⟨b, off, none⟩ : Addr).add 0 = ⟨b, off, none⟩ from rfl] at hc1
        obtain ⟨e', m, hsh, _, _⟩ := World.shape?_of_cell? hc1
        by_cases hb : b < W.heap.size
        · exact hb
        · rw [World.shape?, Array.getElem?_eq_none (by simpa using hb)] at hsh
          cases hsh
      · have hj1 : j < l.length * sz := by have := (List.getElem?_eq_some_iff.1 hj).1; rw [xlen] at this; exact this
        have hq : j / sz < l.length := Nat.div_lt_of_lt_mul (by rw [Nat.mul_comm]; exact hj1)
        obtain ⟨b1, hb1⟩ : ∃ b, l[j / sz]? = some b := ⟨_, List.getElem?_eq_getElem hq⟩
        have hm1 : j % sz < sz := Nat.mod_lt _ h0
        have ej : j / sz * sz + j % sz = j := by rw [Nat.mul_comm]; exact Nat.div_add_mod j sz
        have h3 := hcell _ b1 _ hb1 hm1
        have h4 := xget l _ b1 _ hb1 hm1
        rw [ej] at h3 h4
        rw [← h4, hj] at h3
        rw [← Go.WideShapes.add_plain]
        exact h3
    · rw [List.length_map] at hp
      cases had
      obtain ⟨b0, hb0⟩ : ∃ b, l[0]? = some b := ⟨_, List.getElem?_eq_getElem hp⟩
      obtain ⟨u0, hu0, _⟩ := hVj b0 0 h0
      have hc0 := hcell 0 b0 0 hb0 h0
      rw [hu0, Nat.zero_mul, Nat.zero_add] at hc0
      obtain ⟨e', m, hsh, _, _⟩ := World.shape?_of_cell? hc0
      refine hlv _ ?_
      by_cases hb : a.block < W.heap.size
      · exact hb
      · rw [World.shape?, Array.getElem?_eq_none (by simpa [Addr.add] using hb)] at hsh
        cases hsh
    · rw [List.getElem?_map, Option.map_eq_some_iff] at he
      obtain ⟨b, _, rfl⟩ := he
      exact hKl b
    · rw [List.getElem?_map, Option.map_eq_some_iff] at he
      obtain ⟨b, hb, rfl⟩ := he
      rw [hKl] at hj
      obtain ⟨u, hu, ho, _⟩ := hVj b j hj
      rw [xget l k b j hb hj, hu]
      exact ⟨rfl, ho⟩
    · rw [List.getElem?_map, Option.map_eq_some_iff] at he
      obtain ⟨b, hb, rfl⟩ := he
      have hj2 : j < sz := by have := (List.getElem?_eq_some_iff.1 hj).1; rwa [hKl] at this
      obtain ⟨u, hu, ho, hk⟩ := hVj b j hj2
      rw [hk] at hj
      cases hj
      rw [xget l k b j hb hj2, hu]
      exact C.v
theorem open_nodes {lv : Nat → Prop} (hlv : ∀ b, b < W.heap.size → ¬ lv b) (h : DataW.trod enc Tryz.prog W 0 sp held fuel 22 cs = some x) :
    ∃ (l : List Nd) (v : Value), cs = [v] ∧ C lv 0 W (ndA l) v ∧ l.length ≤ maxLen ∧ ∀ n ∈ l, n.p.length ≤ maxLen :=
  open_sl (V := fun n : Nd => [.string ⟨n.p.toArray⟩, .int .i64 n.c.k, .int .i64 n.c.v]) Tryz.underlying22 (by kernel_rfl) (by omega) (fun _ _ _ h => open_node h) (fun a => ⟨rfl, rfl, rfl⟩) hlv h
theorem res_bool {fb : Nat → Prop} {b : Bool} {base : Nat} {w' : World} {rows : List Row} {rv : AV} {u : Value} (hd : vB b rv rows) (hr : Res fb base w' rows rv u) : u = .bool b := by
  obtain ⟨rfl, rfl⟩ := hd
  obtain ⟨loc, _, hG, _⟩ := hr
  cases hG with
  | cl hc => cases hc; rfl
end
end Go.Proofs.YthifgndjpjaddaaGreatDoor
/-
  Walks: the draws' reader: a number, a text out of a list.
-/
namespace Go.Proofs.YthifgndjpjaddaaGreatDoor
open Go Go.RowKit Go.Proofs
structure BytesOk (z : List Int) : Prop where
  len : z.length ≤ maxLen
  by_ : ∀ n ∈ z, 0 ≤ n ∧ n ≤ 255
structure RdOk (z : List Int) (p : Nat) : Prop where
  by_ : BytesOk z
  l : z.length ≤ 2000
  p : p ≤ 1000000
def rowS (l : List Str) : Row := ⟨9, 1, l.map sC, true⟩
theorem RdOk.le {z : List Int} {p q : Nat} (h : RdOk z q) (hp : p ≤ q) : RdOk z p := ⟨h.by_, h.l, Nat.le_trans hp h.p⟩
attribute [local irreducible] RWp AW run kPe pe Kt effA gd gu br retR RDp runD kPeD brW gW effD
set_option maxRecDepth 100000
end Go.Proofs.YthifgndjpjaddaaGreatDoor
/-
  Walks: the draws: a text, a content.
-/
namespace Go.Proofs.YthifgndjpjaddaaGreatDoor
open Go Go.RowKit Go.Proofs
attribute [local irreducible] RWp AW run kPe pe Kt effA gd gu br retR RDp runD kPeD brW gW effD
set_option maxRecDepth 100000
end Go.Proofs.YthifgndjpjaddaaGreatDoor
/-
  Walks: the draws: a tree, a path in a tree, a command.
-/
namespace Go.Proofs.YthifgndjpjaddaaGreatDoor
open Go Go.RowKit Go.Proofs
attribute [local irreducible] RWp AW run kPe pe Kt effA gd gu br retR RDp runD kPeD brW gW effD
set_option maxRecDepth 100000
end Go.Proofs.YthifgndjpjaddaaGreatDoor
/-
  Walks: the draws: a log, a broken log.
-/
namespace Go.Proofs.YthifgndjpjaddaaGreatDoor
open Go Go.RowKit Go.Proofs
structure LogS (l : List Cm) : Prop where
  n : l.length ≤ 21
  p : ∀ c ∈ l, c.p.length ≤ 10
attribute [local irreducible] RWp AW run kPe pe Kt effA gd gu br retR RDp runD kPeD brW gW effD
set_option maxRecDepth 100000
end Go.Proofs.YthifgndjpjaddaaGreatDoor
/-
  Walks: the draws: a broken log.
-/
namespace Go.Proofs.YthifgndjpjaddaaGreatDoor
open Go Go.RowKit Go.Proofs
theorem LogS.set {l : List Cm} (h : LogS l) (k : Nat) (x : Cm) (hx : x.p.length ≤ 10) : LogS (l.set k x) := by
  refine ⟨by simpa using h.n, fun c hc => ?_⟩
  rcases List.mem_or_eq_of_mem_set hc with hc | rfl
  · exact h.p c hc
  · exact hx
theorem effD_app2 {P : Program} {o : SO} {l : List SO} {evs : List E} {s : AS} {go : List E → AS → RD} (x y : Operand) (t : TypeId) :
    effD P o l evs s go (.call ⟨.builtin .append, ⟨[x, y]⟩, ⟨[t, t]⟩⟩) = apD o evs s go (apE P s o.dst t (evA s.t x) (evA s.t y)) := effD_app _ _ _ _ _ _ (.assign (.tmp 0)) x y t
theorem at_chkD {P : Program} {K : List E → AS → Prop} {φ : Prop} {r : RD} (hφ : φ) (h : RDp P K r) : RDp P K (.chk φ r) := ⟨hφ, h⟩
attribute [local irreducible] RWp AW run kPe pe Kt effA gd gu br retR RDp runD kPeD brW gW effD
set_option maxRecDepth 100000
end Go.Proofs.YthifgndjpjaddaaGreatDoor
/-
  Walks: the draws: a side.
-/
namespace Go.Proofs.YthifgndjpjaddaaGreatDoor
open Go Go.RowKit Go.Proofs
attribute [local irreducible] RWp AW run kPe pe Kt effA gd gu br retR RDp runD kPeD brW gW effD
set_option maxRecDepth 100000
end Go.Proofs.YthifgndjpjaddaaGreatDoor
/-
  Walks: the sides that the laws draw.
-/
namespace Go.Proofs.YthifgndjpjaddaaGreatDoor
open Go Go.RowKit Go.Proofs
theorem BytesOk.tk {z : List Int} (h : BytesOk z) : BytesOk (z.take 2000) := ⟨by have := h.len; rw [List.length_take]; omega, fun n hn => h.by_ n (List.mem_of_mem_take hn)⟩
end Go.Proofs.YthifgndjpjaddaaGreatDoor
/-
  Walks: a side's tree, twice; equality of trees and of logs by the laws' own loops.
-/
namespace Go.Proofs.YthifgndjpjaddaaGreatDoor
open Go Go.RowKit Go.Proofs
theorem lap_site {s : St} (h : siteV s = true) : lap s.base s.log = (siteT s, ((apAll s.base s.log).2 : Int)) := by
  unfold siteT
  rw [if_pos h]
  simp only [siteV, Bool.and_eq_true] at h
  have hf := h.2
  simp only [fits, Bool.and_eq_true] at hf
  unfold lap
  rw [if_pos (by simp_all)]
attribute [local irreducible] RWp AW run kPe pe Kt effA gd gu br retR RDp runD kPeD brW gW effD
set_option maxRecDepth 100000
theorem SiteTree_pc (s : St) (hs : SmS s) : PC Tryz.prog 43 [stA' s] (rX (.o 0 (siteT s).length) [rowN (siteT s)]) := by
  have hL := LogApply_pc s.base hs.t s.log hs.l
  have hV := SiteValid_pc s hs
  unfold stA' stC at hV ⊢
  refine pc_enter Tryz.func43 rfl rfl fun w0 fb => go_on ?_; (try simp only [Tryz.ntmps43, push_cast, simprocAttr])
  refine at_call ?_
  (try simp only [push_cast, simprocAttr])
  refine rwc_v hV ?_
  (try simp only [push_cast, simprocAttr])
  (refine at_dropS [2] (by refine wk_ok ?_ ?_ ?_ ?_ <;> simp [dropS, dropT, hasN, delL, hdel, leL, leH, idsL, idsA, idsR, inH, hget, sameRow]) ?_; simp only [dropS, dropT, hasN, delL, hdel, idsA, idsL, hget, List.map_cons, List.map_nil, List.all_cons, List.all_nil, List.append_nil, Bool.not_false, Bool.not_true, Bool.and_true, if_true, if_false, simprocAttr])
  refine go_on ?_
  (try simp only [push_cast, simprocAttr])
  refine at_b (fun hb => ?_) (fun hb => ?_)
  · have h : siteV s = false := not_t hb
    (try simp only [hb, push_cast, simprocAttr])
    refine at_ret ?_; simp only [Tryz.results43, push_cast, simprocAttr]
    simp [rX, siteT, h, ixOf]
  · have h : siteV s = true := not_f hb
    rw [lap_site h] at hL
    (try simp only [hb, push_cast, simprocAttr])
    (refine at_call ?_; (try simp only [push_cast, simprocAttr]); refine rwc_r (hL) (by simp [flatV, flatL]) (flat_n _) (by simp [frB, baseOf]) (go_on ?_); (try simp only [push_cast, simprocAttr]))
    refine at_ret ?_; simp only [Tryz.results43, push_cast, simprocAttr]
    simp [rX, ixOf]
theorem ct_ext (a b : Ct) : a = b ↔ a.k = b.k ∧ a.v = b.v := by
  obtain ⟨a1, a2⟩ := a
  obtain ⟨b1, b2⟩ := b
  simp
theorem ndg : Tryz.prog.eqGuardType Tryz.prog.depth 65 = false := by kernel_rfl
theorem ndh : Tryz.prog.stoodInHeld 65 = false := by kernel_rfl
end Go.Proofs.YthifgndjpjaddaaGreatDoor
/-
  Walks: what the drawn sides keep.
-/
namespace Go.Proofs.YthifgndjpjaddaaGreatDoor
open Go Go.RowKit Go.Proofs
theorem SmT2.n' {l : List Nd} (h : SmT2 l) : l.length < 4294967281 := by have := h.n; omega
theorem siteT_sm {s : St} (h : SmS s) : SmT2 (siteT s) := by
  unfold siteT
  split
  · exact apAll_sm _ _ h.t
  · exact ⟨⟨by simp, by simp⟩, by simp⟩
attribute [local irreducible] RWp AW run kPe pe Kt effA gd gu br retR RDp runD kPeD brW gW effD
set_option maxRecDepth 100000
end Go.Proofs.YthifgndjpjaddaaGreatDoor
/-
  Walks: copies of sides; impl.CommandApply; equality of sides by the laws' own loops.
-/
namespace Go.Proofs.YthifgndjpjaddaaGreatDoor
open Go Go.RowKit Go.Proofs
attribute [local irreducible] RWp AW run kPe pe Kt effA gd gu br retR RDp runD kPeD brW gW effD
set_option maxRecDepth 100000
theorem cloneLog_pc (l : List Cm) (hl : l.length < 4294967281) : PC Tryz.prog 105 [cmA l] (rX (.o 0 l.length) [rowC l]) := by
  refine pc_enter Tryz.func105 rfl rfl fun w0 fb => go_on ?_; (try simp only [Tryz.ntmps105, push_cast, simprocAttr])
  refine at_chk (by omega) ?_
  (try simp only [push_cast, simprocAttr])
  refine at_ret ?_; simp only [Tryz.results105, push_cast, simprocAttr]
  simp [rX, ixOf]
theorem clone_pc (s : St) (h1 : s.base.length < 4294967281) (h2 : s.log.length < 4294967281) : PC Tryz.prog 80 [stA' s] (rX (stO s) [rowN s.base, rowC s.log]) := by
  unfold stA' stC stO
  refine pc_enter Tryz.func80 rfl rfl fun w0 fb => go_on ?_; (try simp only [Tryz.ntmps80, push_cast, simprocAttr])
  refine at_draw rfl (by kernel_rfl) ?_; simp only [push_cast, simprocAttr]
  (refine at_callD (by simp [clB, idsL, idsA, hget]) ?_; (try simp only [push_cast, simprocAttr]); refine rcd_r (cloneTree_pc s.base h1) (by simp [flatV, flatL]) (flat_n _) (by simp [frB, baseOf]) ?_; (try simp only [push_cast, simprocAttr]))
  (refine at_callD (by simp [clB, idsL, idsA, hget]) ?_; (try simp only [push_cast, simprocAttr]); refine rcd_r (cloneLog_pc s.log h2) (by simp [flatV, flatL]) (flat_c _) (by simp [frB, baseOf]) ?_; (try simp only [push_cast, simprocAttr]))
  refine at_done (by kernel_rfl) (by kernel_rfl) (go_on ?_)
  (try simp only [push_cast, simprocAttr])
  refine at_ret ?_; simp only [Tryz.results80, push_cast, simprocAttr]
  simp [rX, ixOf]
theorem l41Copy_pc (s : St) (h1 : s.base.length < 4294967281) (h2 : s.log.length < 4294967281) : PC Tryz.prog 52 [stA' s] (rX (stO s) [rowN s.base, rowC s.log]) := by
  unfold stA' stC stO
  refine pc_enter Tryz.func52 rfl rfl fun w0 fb => go_on ?_; (try simp only [Tryz.ntmps52, push_cast, simprocAttr])
  refine at_draw rfl (by kernel_rfl) ?_; simp only [push_cast, simprocAttr]
  (try simp only [effD_app2, push_cast, simprocAttr])
  refine at_chkD (by omega) ?_
  (try simp only [effD_app2, push_cast, simprocAttr])
  refine at_chkD (by omega) ?_
  (try simp only [push_cast, simprocAttr])
  refine at_done (by kernel_rfl) (by kernel_rfl) (go_on ?_)
  (try simp only [push_cast, simprocAttr])
  refine at_ret ?_; simp only [Tryz.results52, push_cast, simprocAttr]
  simp [rX, ixOf]
theorem CommandApply_pc (l : List Nd) (hs : SmT2 l) (c : Cm) (hp : c.p.length < 4294967281) : PC Tryz.prog 81 [ndA l, cmdA c] (rX (.tup [.o 0 (cap2 l c).1.length, bA (cap2 l c).2]) [rowN (cap2 l c).1]) := by
  have hA := apply_pc l hs.s (by have := hs.n; omega) c hp
  have hC := CommandValid_pc c hp
  have hsm : (apB2 l c).1.length < 4294967281 := (apB2_sm hs c).n'
  unfold cmdA cmC at *
  refine pc_enter Tryz.func81 rfl rfl fun w0 fb => go_on ?_; (try simp only [Tryz.ntmps81, push_cast, simprocAttr])
  refine at_call ?_
  (try simp only [push_cast, simprocAttr])
  refine rwc_v (TreeValid_pc l hs.s) ?_
  (try simp only [push_cast, simprocAttr])
  (refine at_dropS [4] (by refine wk_ok ?_ ?_ ?_ ?_ <;> simp [dropS, dropT, hasN, delL, hdel, leL, leH, idsL, idsA, idsR, inH, hget, sameRow]) ?_; simp only [dropS, dropT, hasN, delL, hdel, idsA, idsL, hget, List.map_cons, List.map_nil, List.all_cons, List.all_nil, List.append_nil, Bool.not_false, Bool.not_true, Bool.and_true, if_true, if_false, simprocAttr])
  refine go_on ?_
  repeat' first | (refine at_b (fun hb => ?_) (fun hb => ?_) <;> simp only [hb, push_cast, simprocAttr]) | (refine at_ret ?_; simp only [Tryz.results81, push_cast, simprocAttr]) | (refine at_call ?_; (try simp only [push_cast, simprocAttr]); refine rwc_v (by first | exact hC) (go_on ?_); simp only [push_cast, simprocAttr]) | (show RWp _ _ _ _ _; simp only [push_cast, simprocAttr])
  · have h : tV l = false := not_t hb
    simp [rX, cap2, h]
  · have h : cmV c = false := not_t hb
    simp [rX, cap2, h]
  · rename_i h1
    have e : cap2 l c = apB2 l c := by unfold cap2; rw [if_pos (by simp [not_f hb, not_f h1])]
    rw [e]
    unfold shN at hA
    ((try simp only [push_cast, simprocAttr]); refine at_share2 (by simp [isC2, isC]) (by first | rfl | simp [ren]) (hA) (go_on ?_); (try simp only [push_cast, simprocAttr]))
    (refine at_call ?_; (try simp only [push_cast, simprocAttr]); refine rwc_r (cloneTree_pc _ hsm) rfl (flat_n _) (by simp [frB, baseOf]) (go_on ?_); (try simp only [push_cast, simprocAttr]))
    refine at_ret ?_; simp only [Tryz.results81, push_cast, simprocAttr]
    simp [rX, ixOf]
theorem cmg : Tryz.prog.eqGuardType Tryz.prog.depth 68 = false := by kernel_rfl
theorem cmh : Tryz.prog.stoodInHeld 68 = false := by kernel_rfl
end Go.Proofs.YthifgndjpjaddaaGreatDoor
/-
  The abstract machine: what a call leaves, read as data.
-/
namespace Go.Proofs.YthifgndjpjaddaaGreatDoor
open Go Go.RowKit
theorem PC.frzX {P : Program} {f : FuncId} {args : List AV} {x : AV} {rows : List Row} (h : PC P f args (rX x rows)) : PC P f args (vX (viewN 3 (hpOf 0 rows) x)) :=
  h.frz fun rv rs ⟨e1, e2⟩ => by subst e1; subst e2; exact ⟨rfl, rfl⟩
/-- What is known less. -/
theorem PC.less {P : Program} {f : FuncId} {args : List AV} {x y : AV} (h : PC P f args (vX x)) (hxy : ∀ h loc w v, G h loc w x v → G h loc w y v) : PC P f args (vX y) := by
  refine ⟨h.1, fun w fb vs h1 h2 h3 => (h.2 w fb vs h1 h2 h3).mono ?_⟩
  rintro e w' ⟨rv, rows', v, ⟨rfl, rfl⟩, rfl, hb, loc, hfb, hg, hrest⟩
  exact ⟨_, [], v, ⟨rfl, rfl⟩, rfl, hb, loc, hfb, hxy _ _ _ _ hg, hrest⟩
theorem G.nil2 {h : Hp} {loc : Loc} {w : World} {v : Value} {n : Nat} (hg : G h loc w (.v (.slice none 0 0)) v) : G h loc w (.sl n []) v := by
  rw [hg.v_inv]
  exact .cl (.nilsl _)
theorem G.agg2 {h : Hp} {loc : Loc} {w : World} {v : Value} {l l' : List AV} (hg : G h loc w (.agg l) v) (hl : l'.length = l.length) (hh : ∀ (j : Nat) x y u, l[j]? = some x → l'[j]? = some y → G h loc w x u → G h loc w y u) : G h loc w (.agg l') v := by
  obtain ⟨vs, rfl, hs, hgs⟩ := hg.agg_inv
  refine .agg vs (by omega) fun j a ha => ?_
  have hj := lt_of_some ha
  obtain ⟨x, hx⟩ : ∃ x, l[j]? = some x := ⟨_, List.getElem?_eq_getElem (show j < l.length by omega)⟩
  exact hh j x a _ hx ha (hgs j x hx)
theorem G.tup2 {h : Hp} {loc : Loc} {w : World} {v : Value} {l l' : List AV} (hg : G h loc w (.tup l) v) (hl : l'.length = l.length) (hh : ∀ (j : Nat) x y u, l[j]? = some x → l'[j]? = some y → G h loc w x u → G h loc w y u) : G h loc w (.tup l') v := by
  obtain ⟨vs, rfl, hs, hgs⟩ := hg.tup_inv
  refine .tup vs (by omega) fun j a ha => ?_
  have hj := lt_of_some ha
  obtain ⟨x, hx⟩ : ∃ x, l[j]? = some x := ⟨_, List.getElem?_eq_getElem (show j < l.length by omega)⟩
  exact hh j x a _ hx ha (hgs j x hx)
theorem PC.args {P : Program} {f : FuncId} {args args' : List AV} {D : AV → List Row → Prop} (h : PC P f args D) (hl : args'.length = args.length)
    (hc : ∀ (j : Nat) x y, args'[j]? = some x → args[j]? = some y → ∀ lv w u, C lv 0 w x u → C lv 0 w y u) : PC P f args' D :=
  ⟨h.1, fun w fb vs h1 h2 h3 => h.2 w fb vs h1 (by omega) fun j y hy => by
    have hj := lt_of_some hy
    exact hc j _ y (List.getElem?_eq_getElem (show j < args'.length by omega)) hy _ _ _ (h3 j _ (List.getElem?_eq_getElem (show j < args'.length by omega)))⟩
end Go.Proofs.YthifgndjpjaddaaGreatDoor
/-
  Walks: SiteDo, twice.
-/
namespace Go.Proofs.YthifgndjpjaddaaGreatDoor
open Go Go.RowKit Go.Proofs
/-- What SiteDo leaves where its arguments are valid. -/
def doR (s : St) (c : Cm) : AV → List Row → Prop := rX (.tup [stO (siteDo s c).1, bA (siteDo s c).2]) [rowN (siteDo s c).1.base, rowC (siteDo s c).1.log]
def st00 : AV := .agg [iA 0, .v (.slice none 0 0), .v (.slice none 0 0)]
theorem SiteDo_bad {s : St} {c : Cm} (h : (siteV s && cmV c) = false) : siteDo s c = (st0, false) := by unfold siteDo; rw [if_neg (by simp [h])]
theorem cap2_do {s : St} {c : Cm} (h : siteV s = true) (hc : cmV c = true) : (cap2 (siteT s) c).2 = (apC (siteT s) c).isSome := by
  have ht := (law_siteTree h).2.2
  unfold cap2
  rw [if_pos (by simp [ht, hc])]
  unfold apB2
  cases apC (siteT s) c <;> rfl
theorem do_ok {s : St} {c : Cm} (h : siteV s = true) (hc : cmV c = true) (h1 : (apC (siteT s) c).isSome = true) (h2 : s.log.length ≠ 20) : siteDo s c = (⟨s.ep, s.base, s.log ++ [c]⟩, true) := by
  unfold siteDo; rw [if_pos (by simp [h, hc]), if_pos (by simp [h1, h2])]
theorem do_no {s : St} {c : Cm} (h : siteV s = true) (hc : cmV c = true) (h1 : (apC (siteT s) c).isSome = false ∨ s.log.length = 20) : siteDo s c = (s, false) := by
  unfold siteDo; rw [if_pos (by simp [h, hc]), if_neg (by rcases h1 with h1 | h1 <;> simp [h1])]
attribute [local irreducible] RWp AW run kPe pe Kt effA gd gu br retR RDp runD kPeD brW gW effD
set_option maxRecDepth 100000
theorem SiteDo_pc0 (s : St) (hs : SmS s) (c : Cm) (hp : c.p.length < 4294967281) (h : (siteV s && cmV c) = false) : PC Tryz.prog 59 [stA' s, cmdA c] (vX (.tup [st00, bA false])) := by
  have hV := SiteValid_pc s hs
  have hC := CommandValid_pc c hp
  unfold stA' stC at hV ⊢
  unfold cmdA cmC at hC ⊢
  refine pc_enter Tryz.func59 rfl rfl fun w0 fb => go_on ?_; (try simp only [Tryz.ntmps59, push_cast, simprocAttr])
  (refine at_call ?_; (try simp only [push_cast, simprocAttr]); refine rwc_v (hV) (go_on ?_); (try simp only [push_cast, simprocAttr]))
  cases hv : siteV s with
  | false =>
    (try simp only [hv, Bool.not_false, push_cast, simprocAttr])
    refine at_ret ?_; simp only [Tryz.results59, push_cast, simprocAttr]
    simp [vX, st00]
  | true =>
    rw [hv] at h
    simp only [Bool.true_and] at h
    (try simp only [hv, Bool.not_true, push_cast, simprocAttr])
    (refine at_call ?_; (try simp only [push_cast, simprocAttr]); refine rwc_v (hC) (go_on ?_); (try simp only [push_cast, simprocAttr]))
    (try simp only [h, Bool.not_false, push_cast, simprocAttr])
    refine at_ret ?_; simp only [Tryz.results59, push_cast, simprocAttr]
    simp [vX, st00]
theorem SiteDo_pc1 (s : St) (hs : SmS s) (c : Cm) (hp : c.p.length < 4294967281) (hv : siteV s = true) (hc : cmV c = true) : PC Tryz.prog 59 [stA' s, cmdA c] (doR s c) := by
  have hV := SiteValid_pc s hs
  have hC := CommandValid_pc c hp
  have hb : s.base.length < 4294967281 := by have := hs.t.n; omega
  have hl : s.log.length < 4294967280 := hs.l.n
  have hK := clone_pc s hb (by omega)
  have hK2 := clone_pc ⟨s.ep, s.base, s.log ++ [c]⟩ hb (by simp; omega)
  have hT := SiteTree_pc s hs
  have hA := CommandApply_pc (siteT s) (siteT_sm hs) c hp
  rw [cap2_do hv hc] at hA
  unfold stA' stC at hV hK hK2 hT ⊢
  unfold cmdA cmC at hC hA ⊢
  unfold stO at hK hK2
  refine pc_enter Tryz.func59 rfl rfl fun w0 fb => go_on ?_; (try simp only [Tryz.ntmps59, push_cast, simprocAttr])
  (refine at_call ?_; (try simp only [push_cast, simprocAttr]); refine rwc_v (hV) (go_on ?_); (try simp only [push_cast, simprocAttr]))
  (try simp only [hv, Bool.not_true, push_cast, simprocAttr])
  (refine at_call ?_; (try simp only [push_cast, simprocAttr]); refine rwc_v (hC) (go_on ?_); (try simp only [push_cast, simprocAttr]))
  (try simp only [hc, Bool.not_true, push_cast, simprocAttr])
  (refine at_call ?_; (try simp only [push_cast, simprocAttr]); refine rwc_r (hK) (by simp [flatV, flatL]) (flat_nc _ _) (by simp [frB, baseOf]) (go_on ?_); (try simp only [push_cast, simprocAttr]))
  refine at_draw rfl (by kernel_rfl) ?_; simp only [push_cast, simprocAttr]
  (refine at_callD (by simp [clB, idsL, idsA, hget]) ?_; (try simp only [push_cast, simprocAttr]); refine rcd_r hT (by simp [flatV, flatL]) (flat_n _) (by simp [frB, baseOf]) ?_; (try simp only [push_cast, simprocAttr]))
  (refine at_callD (by simp [clB, idsL, idsA, hget]) ?_; (try simp only [push_cast, simprocAttr]); refine rcd_r hA (by simp [flatV, flatL]) (flat_n _) (by simp [frB, baseOf]) ?_; (try simp only [push_cast, simprocAttr]))
  refine at_done (by kernel_rfl) (by kernel_rfl) (go_on ?_)
  (try simp only [push_cast, simprocAttr])
  cases h1 : (apC (siteT s) c).isSome with
  | false =>
    have e := do_no hv hc (.inl h1)
    (try simp only [h1, Bool.not_false, push_cast, simprocAttr])
    refine at_ret ?_; simp only [Tryz.results59, push_cast, simprocAttr]
    simp [doR, rX, e, stO, ixOf]
  | true =>
    (try simp only [h1, Bool.not_true, push_cast, simprocAttr])
    refine at_b (fun h2 => ?_) (fun h2 => ?_)
    · have e := do_no hv hc (.inr (by have := of_eqI_t h2; omega))
      (try simp only [h2, push_cast, simprocAttr])
      refine at_ret ?_; simp only [Tryz.results59, push_cast, simprocAttr]
      simp [doR, rX, e, stO, ixOf]
    · have e := do_ok hv hc h1 (by have := of_eqI_f h2; omega)
      have happ : s.log.map cmC ++ [[sA c.p, iA c.a.k, iA c.a.v, iA c.b.k, iA c.b.v]] = (s.log ++ [c]).map cmC := by rw [List.map_append]; rfl
      (try simp only [h2, push_cast, simprocAttr])
      refine at_chk (by omega) ?_
      (try simp only [happ, push_cast, simprocAttr])
      simp only at hK2
      have ee : (s.log ++ [c]).length = s.log.length + 1 := by simp
      rw [ee] at hK2
      refine at_call ?_
      simp only [ee, push_cast, simprocAttr]
      refine rwc_r hK2 (by simp [flatV, flatL]) (flat_nc _ _) (by simp [frB, baseOf]) (go_on ?_)
      (try simp only [push_cast, simprocAttr])
      refine at_ret ?_; simp only [Tryz.results59, push_cast, simprocAttr]
      simp [doR, rX, e, stO, ixOf]
theorem nil_st0 {h : Hp} {loc : Loc} {w : World} {v : Value} (hg : G h loc w st00 v) : G h loc w (stA' st0) v := by
  refine hg.agg2 rfl fun j x y u h1 h2 h3 => ?_
  rcases j with _ | _ | _ | j
  · cases h1; cases h2; exact h3
  · cases h1; cases h2; exact h3.nil2
  · cases h1; cases h2; exact h3.nil2
  · cases h1
/-- SiteDo, read as data. -/
theorem SiteDo_d (s : St) (hs : SmS s) (c : Cm) (hp : c.p.length < 4294967281) : PC Tryz.prog 59 [stA' s, cmdA c] (vX (.tup [stA' (siteDo s c).1, bA (siteDo s c).2])) := by
  cases h : siteV s && cmV c with
  | false =>
    rw [SiteDo_bad h]
    refine (SiteDo_pc0 s hs c hp h).less fun h loc w v hg => hg.tup2 rfl fun j x y u h1 h2 h3 => ?_
    rcases j with _ | _ | j
    · cases h1; cases h2; exact nil_st0 h3
    · cases h1; cases h2; exact h3
    · cases h1
  | true =>
    simp only [Bool.and_eq_true] at h
    have := (SiteDo_pc1 s hs c hp h.1 h.2).frzX
    simpa [viewN, hpOf, hget, stO, stA', stC, isC, tk] using this
end Go.Proofs.YthifgndjpjaddaaGreatDoor
/-
  Walks: spec.SiteDo.
-/
namespace Go.Proofs.YthifgndjpjaddaaGreatDoor
open Go Go.RowKit Go.Proofs
theorem siteV_add {s : St} {c : Cm} (hv : siteV s = true) (hc : cmV c = true) : siteV ⟨s.ep, s.base, s.log ++ [c]⟩ = ((apC (siteT s) c).isSome && decide (s.log.length ≠ 20)) := by
  obtain ⟨t, L, hs⟩ := (siteV_iff s).1 hv
  rw [Bool.eq_iff_iff, Bool.and_eq_true, decide_eq_true_eq, hs.T]
  constructor
  · intro h
    obtain ⟨t', L', h'⟩ := (siteV_iff _).1 h
    have h1 := apAll_append_inv hs.ap h'.ap
    obtain ⟨t1, h2, _⟩ := apAll_cons h1
    have h3 := lV_len h'.lv
    simp only [List.length_append, List.length_singleton] at h3
    exact ⟨by rw [h2]; rfl, by omega⟩
  · rintro ⟨h1, h2⟩
    cases hx : apC t c with
    | none => rw [hx] at h1; cases h1
    | some x =>
      obtain ⟨L', h3⟩ := hs.add ((cmV_iff c).1 hc) hx h2
      exact h3.v
attribute [local irreducible] RWp AW run kPe pe Kt effA gd gu br retR RDp runD kPeD brW gW effD
set_option maxRecDepth 100000
theorem specSiteDo_pc0 (s : St) (hs : SmS s) (c : Cm) (hp : c.p.length < 4294967281) (h : (siteV s && cmV c) = false) : PC Tryz.prog 73 [stA' s, cmdA c] (vX (.tup [st00, bA false])) := by
  have hV := specSiteValid_pc s hs
  have hC := specCommandValid_pc c hp
  unfold stA' stC at hV ⊢
  unfold cmdA cmC at hC ⊢
  refine pc_enter Tryz.func73 rfl rfl fun w0 fb => go_on ?_; (try simp only [Tryz.ntmps73, push_cast, simprocAttr])
  (refine at_call ?_; (try simp only [push_cast, simprocAttr]); refine rwc_v (hV) (go_on ?_); (try simp only [push_cast, simprocAttr]))
  cases hv : siteV s with
  | false =>
    (try simp only [hv, Bool.not_false, push_cast, simprocAttr])
    refine at_ret ?_; simp only [Tryz.results73, push_cast, simprocAttr]
    simp [vX, st00]
  | true =>
    rw [hv] at h
    simp only [Bool.true_and] at h
    (try simp only [hv, Bool.not_true, push_cast, simprocAttr])
    (refine at_call ?_; (try simp only [push_cast, simprocAttr]); refine rwc_v (hC) (go_on ?_); (try simp only [push_cast, simprocAttr]))
    (try simp only [h, Bool.not_false, push_cast, simprocAttr])
    refine at_ret ?_; simp only [Tryz.results73, push_cast, simprocAttr]
    simp [vX, st00]
theorem specSiteDo_pc1 (s : St) (hs : SmS s) (c : Cm) (hp : c.p.length < 4294967281) (hv : siteV s = true) (hc : cmV c = true) : PC Tryz.prog 73 [stA' s, cmdA c] (doR s c) := by
  have hV := specSiteValid_pc s hs
  have hC := specCommandValid_pc c hp
  have hb : s.base.length < 4294967281 := by have := hs.t.n; omega
  have hl : s.log.length < 4294967280 := hs.l.n
  have hK := l41Copy_pc s hb (by omega)
  have hl20 : s.log.length ≤ 20 := by
    obtain ⟨t, L, h⟩ := (siteV_iff s).1 hv
    exact lV_len h.lv
  have hV2 := specSiteValid_pc ⟨s.ep, s.base, s.log ++ [c]⟩ ⟨hs.t, ⟨by simp; omega, fun d hd => by
    rcases List.mem_append.1 hd with hd | hd
    · exact hs.l.p d hd
    · simp only [List.mem_singleton] at hd
      subst hd
      exact hp⟩⟩
  rw [siteV_add hv hc] at hV2
  generalize hB : ((apC (siteT s) c).isSome && decide (s.log.length ≠ 20)) = B at hV2
  unfold stA' stC at hV hK hV2 ⊢
  unfold cmdA cmC at hC ⊢
  unfold stO at hK
  have ee : (s.log ++ [c]).length = s.log.length + 1 := by simp
  have happ : s.log.map cmC ++ [[sA c.p, iA c.a.k, iA c.a.v, iA c.b.k, iA c.b.v]] = (s.log ++ [c]).map cmC := by rw [List.map_append]; rfl
  refine pc_enter Tryz.func73 rfl rfl fun w0 fb => go_on ?_; (try simp only [Tryz.ntmps73, push_cast, simprocAttr])
  (refine at_call ?_; (try simp only [push_cast, simprocAttr]); refine rwc_v (hV) (go_on ?_); (try simp only [push_cast, simprocAttr]))
  (try simp only [hv, Bool.not_true, push_cast, simprocAttr])
  (refine at_call ?_; (try simp only [push_cast, simprocAttr]); refine rwc_v (hC) (go_on ?_); (try simp only [push_cast, simprocAttr]))
  (try simp only [hc, Bool.not_true, push_cast, simprocAttr])
  (refine at_call ?_; (try simp only [push_cast, simprocAttr]); refine rwc_r (hK) (by simp [flatV, flatL]) (flat_nc _ _) (by simp [frB, baseOf]) (go_on ?_); (try simp only [push_cast, simprocAttr]))
  refine at_chk (by omega) ?_
  (try simp only [happ, push_cast, simprocAttr])
  refine at_call ?_
  simp only [ee, push_cast, simprocAttr]
  refine rwc_v hV2 (go_on ?_)
  (try simp only [push_cast, simprocAttr])
  cases B with
  | false =>
    have e := do_no hv hc (c := c) (by
      rcases Bool.eq_false_or_eq_true (apC (siteT s) c).isSome with h1 | h1
      · rw [h1] at hB; simp at hB; exact .inr hB
      · exact .inl h1)
    (try simp only [Bool.not_false, push_cast, simprocAttr])
    (refine at_call ?_; (try simp only [push_cast, simprocAttr]); refine rwc_r (hK) (by simp [flatV, flatL]) (flat_nc _ _) (by simp [frB, baseOf]) (go_on ?_); (try simp only [push_cast, simprocAttr]))
    refine at_ret ?_; simp only [Tryz.results73, push_cast, simprocAttr]
    simp [doR, rX, e, stO, ixOf]
  | true =>
    simp only [Bool.and_eq_true, decide_eq_true_eq] at hB
    have e := do_ok hv hc hB.1 hB.2
    (try simp only [Bool.not_true, push_cast, simprocAttr])
    refine at_ret ?_; simp only [Tryz.results73, push_cast, simprocAttr]
    simp [doR, rX, e, stO, ixOf]
/-- spec.SiteDo, read as data. -/
theorem specSiteDo_d (s : St) (hs : SmS s) (c : Cm) (hp : c.p.length < 4294967281) : PC Tryz.prog 73 [stA' s, cmdA c] (vX (.tup [stA' (siteDo s c).1, bA (siteDo s c).2])) := by
  cases h : siteV s && cmV c with
  | false =>
    rw [SiteDo_bad h]
    refine (specSiteDo_pc0 s hs c hp h).less fun h loc w v hg => hg.tup2 rfl fun j x y u h1 h2 h3 => ?_
    rcases j with _ | _ | j
    · cases h1; cases h2; exact nil_st0 h3
    · cases h1; cases h2; exact h3
    · cases h1
  | true =>
    simp only [Bool.and_eq_true] at h
    have := (specSiteDo_pc1 s hs c hp h.1 h.2).frzX
    simpa [viewN, hpOf, hget, stO, stA', stC, isC, tk] using this
end Go.Proofs.YthifgndjpjaddaaGreatDoor
/-
  The abstract machine: a region that draws its order, one call within that borrows rows.
-/
namespace Go.Proofs.YthifgndjpjaddaaGreatDoor
open Go Go.RowKit

section
variable {P : Program}
variable {w0 : World} {lent : Lent} {Q : Exit → Act → World → Prop}
end

end Go.Proofs.YthifgndjpjaddaaGreatDoor
/-
  The abstract machine: a drawn region with one call that borrows a row, run as its text stands.
-/
namespace Go.Proofs.YthifgndjpjaddaaGreatDoor
open Go Go.RowKit

section
variable {P : Program} {w0 : World} {lent : Lent} {Q : Exit → Act → World → Prop}
end

end Go.Proofs.YthifgndjpjaddaaGreatDoor
/-
  Walks: the sides that the laws draw (DrawSiteDo).
-/
namespace Go.Proofs.YthifgndjpjaddaaGreatDoor
open Go Go.RowKit Go.Proofs
theorem at_shareD {P : Program} {K : List E → AS → Prop} {f : FuncId} {args : List AV} {o : SO} {l : List SO} {evs : List E} {s : AS} {x : AV} (hc : args.all isC2 = true) (hx : ren (baseOf o.dst) x = x) (hpc : PC P f args (vX x))
    (hk : RDp P K (runD P l (evs ++ [mkE o s x none []]) (s.put o.dst x))) : RDp P K (.call f args o l evs s) := by
  refine ⟨x, [], .inr ⟨hc, hpc⟩, frB_0 _ _, ?_⟩
  rw [hx]
  exact runD_sound _ _ _ (by simpa only [hpOf, hsets] using hk)
attribute [local irreducible] RWp AW run kPe pe Kt effA gd gu br retR RDp runD kPeD brW gW effD
set_option maxRecDepth 100000
end Go.Proofs.YthifgndjpjaddaaGreatDoor
/-
  Walks: what the functions of sides leave, read as data.
-/
namespace Go.Proofs.YthifgndjpjaddaaGreatDoor
open Go Go.RowKit Go.Proofs
theorem siteDo_sm {s : St} (hs : SmS s) {c : Cm} (hp : c.p.length < 4294967281) : SmS (siteDo s c).1 := by
  unfold siteDo
  split
  · rename_i h
    simp only [Bool.and_eq_true] at h
    obtain ⟨t, L, h3⟩ := (siteV_iff s).1 h.1
    have := lV_len h3.lv
    split
    · refine ⟨hs.t, ⟨by simp; omega, fun d hd => ?_⟩⟩
      rcases List.mem_append.1 hd with hd | hd
      · exact hs.l.p d hd
      · simp only [List.mem_singleton] at hd
        subst hd
        exact hp
    · exact hs
  · exact ⟨⟨⟨by simp [st0], by simp [st0]⟩, by simp [st0]⟩, ⟨by simp [st0], by simp [st0]⟩⟩
end Go.Proofs.YthifgndjpjaddaaGreatDoor
/-
  Walks: slices.DeleteFunc at commands.
-/
namespace Go.Proofs.YthifgndjpjaddaaGreatDoor
open Go Go.RowKit Go.Proofs
attribute [local irreducible] RWp AW run kPe pe Kt effA gd gu br retR RDp runD kPeD brW gW effD
set_option maxRecDepth 100000
def delC (f : List Cm) (rv : AV) (lr' rows : List Row) : Prop := rv = .o 0 f.length ∧ lr' = [rowC f] ∧ rows = []
theorem DeleteFuncC_pcl (l : List Cm) (hl : l.length < 4294967281) (g : FuncId) (caps : List AV) (hc : caps.all isC = true) (p : Cm → Bool) (hp : ∀ n ∈ l, PC Tryz.prog g (cmdA n :: caps) (vB (p n))) :
    PCL Tryz.prog 133 [rowC l] (mvF (some 0)) [.o 0 l.length, .fn g caps] (delC (l.filter fun n => !p n)) := by
  refine pcl_enter Tryz.func133 rfl rfl (by simp) fun w0 fb loc => go_on ?_
  (try simp only [Tryz.ntmps133, hpL, nmL, mvF, renL, closed_renL hc, decide_true, decide_false, push_cast, simprocAttr])
  refine at_call ?_
  simp only [List.map_cons, List.map_nil, view_fn 2, closed_view hc]
  (try simp only [push_cast, simprocAttr])
  refine rwc_v (IndexFuncC_pc l hl g caps hc p hp) (go_on ?_)
  rcases idxF_spec p l 0 with ⟨h1, h2⟩ | ⟨j, n, h1, h2, h3⟩
  · rw [h1]
    (try simp only [push_cast, simprocAttr])
    refine at_retL ?_
    simp only [Tryz.results133, retL, push_cast, simprocAttr]
    have hf : l.filter (fun n => !p n) = l := by
      rw [List.filter_eq_self]
      intro a ha
      have := List.find?_eq_none.1 h2 a ha
      simpa using this
    simp [show List.range 1 = [0] from rfl, nmL, mvF, ndB, ixOf, rowsOf, hget, delC, hf]
  · rw [h1, Nat.zero_add]
    have i0 : eqI (j : Int) (-1) = false := eqI_f (by omega)
    have hj := lt_of_some h2
    have w1 := wr ((j : Int) + 1) (by omega)
    (try simp only [i0, w1, push_cast, simprocAttr])
    have hpn : p n = true := by have := List.find?_some h3; exact this
    obtain ⟨kp, hkp⟩ : ∃ kp : Nat → List Cm, kp = fun i => (l.take i).filter fun n => !p n := ⟨_, rfl⟩
    have k1 : ∀ i a, l[i]? = some a → kp (i + 1) = kp i ++ (if p a then [] else [a]) := by
      intro i a ha
      rw [hkp]
      simp only
      rw [List.take_add_one, ha, List.filter_append]
      cases hpa : p a <;> simp [hpa]
    have kl : ∀ i, (kp i).length ≤ i := fun i => by rw [hkp]; exact Nat.le_trans (List.length_filter_le _ _) (by rw [List.length_take]; omega)
    have kj : kp j = l.take j := by rw [hkp]; exact idxF_take p l 0 j h1
    have kj1 : kp (j + 1) = l.take j := by rw [k1 j n h2, hpn, kj]; simp
    have kn : kp l.length = l.filter fun n => !p n := by rw [hkp]; simp
    have e0 : kp (j + 1) ++ [n] ++ l.drop (j + 1) = l := by
      rw [kj1, List.append_assoc, List.singleton_append, ← drop_of_get h2, List.take_append_drop]
    have e1 : (kp (j + 1)).length = j := by rw [kj1, List.length_take]; omega
    refine at_loop (X := Nat × List Cm) (fun x => [(5, iA (kp x.1).length), (6, iA x.1)]) (fun x => [(600000, rowC (kp x.1 ++ x.2 ++ l.drop x.1)), (4, rowC [])])
      (fun x => x.1 ≤ l.length ∧ (kp x.1).length + x.2.length = x.1 ∧ 0 < x.2.length) (fun x => l.length - x.1) (j + 1, [n]) ⟨by dsimp only; omega, by dsimp only; rw [e1]; rfl, by simp⟩ ?_ ?_
    · simp only [e0, e1]
      (refine wk_ok ?_ ?_ ?_ ?_ <;> simp [closed_ids hc, leL, leH, idsL, idsA, idsR, inH, hget, sameRow, upA, hvA, dsts, dstO, setA_0, setA_1, setA_8, List.append, List.cons_append, List.nil_append])
    · rintro ⟨q, M⟩ ⟨q1, q2, q3⟩
      simp only at q1 q2 q3
      simp only [upA, hvA, dsts, dstO, setA_0, setA_1, setA_8, List.append, List.cons_append, List.nil_append]
      refine go_on_n 11 ?_
      (try simp only [run_0, push_cast, simprocAttr])
      obtain ⟨y, M1, rfl⟩ : ∃ y M1, M = y :: M1 := by
        cases M with
        | nil => simp at q3
        | cons y M1 => exact ⟨y, M1, rfl⟩
      simp only [List.length_cons] at q2
      refine at_b (fun hg => ?_) (fun hg => ?_)
      · have hlt := lt_tt hg
        obtain ⟨x, hx⟩ := get_of_lt hlt
        obtain ⟨R, hRR⟩ : ∃ R, R = kp q ++ y :: M1 ++ l.drop q := ⟨_, rfl⟩
        have hRq : R[q]? = some x := by
          rw [hRR, drop_of_get hx, List.getElem?_append_right (by simp; omega)]
          simp
          rw [show q - ((kp q).length + (M1.length + 1)) = 0 by omega]
          rfl
        have hRi : R[(kp q).length]? = some y := by
          rw [hRR, List.append_assoc, List.getElem?_append_right (Nat.le_refl _)]
          simp
        have hRl : R.length = l.length := by rw [hRR]; simp; omega
        have i1 := ix_n hx
        have i2 := map_get cmC hRq
        have i3 : toIx ((kp q).length : Int) l.length = some (kp q).length := by
          have := ix_n hRi
          rw [hRl] at this
          exact this
        have i4 := map_get cmC hRi
        simp only [cmC] at i2 i4
        have w2 := wr ((q : Int) + 1) (by omega)
        have w3 := wr (((kp q).length : Int) + 1) (by omega)
        rw [← hRR]
        (try simp only [hg, run_0, push_cast, simprocAttr])
        refine at_more (go_on ?_)
        (try simp only [hg, i1, i2, push_cast, simprocAttr])
        refine at_call ?_
        simp only [List.map_cons, List.map_nil, closed_view hc]
        (try simp only [push_cast, simprocAttr])
        refine rwc_v (hp x (mem_of_get hx)) (go_on ?_)
        (try simp only [push_cast, simprocAttr])
        refine at_b (fun hd => ?_) (fun hd => ?_)
        · have hpx := not_t hd
          have hk2 : kp (q + 1) = kp q ++ [x] := by rw [k1 q x hx, hpx]; simp
          have hset : R.set (kp q).length x = kp (q + 1) ++ (M1 ++ [x]) ++ l.drop (q + 1) := by
            rw [hRR, hk2, drop_of_get hx]
            simp
          (try simp only [hd, i3, i4, w2, w3, push_cast, simprocAttr])
          have hs : (List.map cmC R).set (kp q).length [sA x.p, iA x.a.k, iA x.a.v, iA x.b.k, iA x.b.v] = List.map cmC (kp (q + 1) ++ (M1 ++ [x]) ++ l.drop (q + 1)) := by rw [← hset, List.map_set]; rfl
          have hl2 : (((kp (q + 1)).length : Nat) : Int) = (kp q).length + 1 := by rw [hk2]; simp
          refine at_fin ⟨(q + 1, M1 ++ [x]), ⟨by dsimp only; omega, by rw [hk2]; simp; omega, by simp⟩, by dsimp only; omega, ?_⟩
          rw [hs]
          (refine wk_ok ?_ ?_ ?_ ?_ <;> simp [closed_ids hc, hl2, leL, leH, idsL, idsA, idsR, inH, hget, sameRow, upA, hvA, dsts, dstO, setA_0, setA_1, setA_8, List.append, List.cons_append, List.nil_append])
        · have hpx := not_f hd
          have hk2 : kp (q + 1) = kp q := by rw [k1 q x hx, hpx]; simp
          have hs : R = kp (q + 1) ++ (y :: M1 ++ [x]) ++ l.drop (q + 1) := by
            rw [hRR, hk2, drop_of_get hx]
            simp
          (try simp only [hd, w2, push_cast, simprocAttr])
          refine at_fin ⟨(q + 1, y :: M1 ++ [x]), ⟨by dsimp only; omega, by rw [hk2]; simp; omega, by simp⟩, by dsimp only; omega, ?_⟩
          simp only [← hs]
          (refine wk_ok ?_ ?_ ?_ ?_ <;> simp [closed_ids hc, hk2, leL, leH, idsL, idsA, idsR, inH, hget, sameRow, upA, hvA, dsts, dstO, setA_0, setA_1, setA_8, List.append, List.cons_append, List.nil_append])
      · have hq := lt_ff hg
        have hq1 : q = l.length := by omega
        subst hq1
        (try simp only [hg, run_0, push_cast, simprocAttr])
        refine at_more (go_on_n 3 ?_)
        (try simp only [run_0, push_cast, simprocAttr])
        refine at_more ?_
        have hRl : (kp l.length ++ y :: M1 ++ l.drop l.length).length = l.length := by simp; omega
        refine aw_slclear (row := rowC (kp l.length ++ y :: M1 ++ l.drop l.length)) (r := 600000) (n := l.length) (i := (kp l.length).length) rfl rfl (by simp) (by simp [hget]) (by simp only [List.length_map]; exact hRl.symm) (by omega) ty43 rfl ty68 rfl rfl rfl rfl (fun w => ⟨_, rfl, rfl⟩) (go_on ?_)
        have hki : ((kp l.length).length : Int) ≤ l.length := by have := kl l.length; omega
        (try simp only [hki, push_cast, simprocAttr])
        have hes : (List.take (kp l.length).length (List.map cmC (kp l.length ++ y :: M1 ++ l.drop l.length)) ++ List.replicate (l.length - (kp l.length).length) [AV.any, AV.any, AV.any, AV.any, AV.any]).take (kp l.length).length = (kp l.length).map cmC := by
          rw [List.append_assoc, List.map_append, List.take_append_of_le_length (by simp), List.take_take, Nat.min_self, List.take_append_of_le_length (by simp), take_map]
        refine ret_wk (wk_trunc 600000 (kp l.length).length (by simp only [hget]; rfl) (by simp) (by simp)) ?_
        refine at_retL ?_
        simp only [Tryz.results133, retL, hes, okT, Nat.le_refl, push_cast, decide_true, simprocAttr]
        simp [show List.range 1 = [0] from rfl, nmL, mvF, ndB, ixOf, rowsOf, hget, delC, kn]
end Go.Proofs.YthifgndjpjaddaaGreatDoor
/-
  Walks: slices.SortFunc at commands.
-/
namespace Go.Proofs.YthifgndjpjaddaaGreatDoor
open Go Go.RowKit Go.Proofs
open Go.Sort (grow SWO PermIn SortedIn)
instance : Inhabited Cm := ⟨cm0⟩
def encC (c : Cm) : List Value := [sV c.p, .int .i64 c.a.k, .int .i64 c.a.v, .int .i64 c.b.k, .int .i64 c.b.v]
def cmpS (a b : Str) : Int := if slt a b then -1 else if slt b a then 1 else 0
def cfC (c d : Cm) : Int := if cEnds c && cEnds d then cmpS d.p c.p else if cEnds c then -1 else if cEnds d then 1 else cmpS c.p d.p
theorem cmpS_lt (a b : Str) : decide (cmpS a b < 0) = slt a b := by
  unfold cmpS
  cases slt a b <;> cases slt b a <;> rfl
theorem ltOf_cf (c d : Cm) : ltOf cfC c d = cLt c d := by
  unfold ltOf cfC cLt
  cases cEnds c <;> cases cEnds d <;> simp [cmpS_lt]
theorem cLt_trans {a b c : Cm} (h1 : cLt a b = true) (h2 : cLt b c = true) : cLt a c = true := by
  have h3 := cLt_asymm h2
  cases h : cLt a c with
  | true => rfl
  | false =>
    have := cLt_neg_trans (a := b) (b := c) (c := a) h3 h
    rw [h1] at this
    cases this
theorem swoC : SWO (ltOf cfC) where
  irrefl x := by rw [ltOf_cf]; exact cLt_irrefl x
  trans x y z h1 h2 := by rw [ltOf_cf] at *; exact cLt_trans h1 h2
  ntrans x y z h1 h2 := by rw [ltOf_cf] at *; exact cLt_neg_trans (a := z) (b := y) (c := x) h2 h1
theorem gtr_slt (a b : Str) : (!(Op.bytesLess a b || a == b)) = slt b a := by
  show (!(slt a b || a == b)) = slt b a
  by_cases h : a = b
  · subst h; simp [slt_irrefl]
  · cases h1 : slt a b with
    | true => simp [slt_asymm h1]
    | false => simp [slt_of_ne h h1, h]
set_option maxRecDepth 100000
set_option maxHeartbeats 1000000
theorem nan_c (a : Str) (W : World) : Calls Tryz.prog 169 #[sV a] W fun e w' => e = .returned (.bool false) ∧ w' = W := by
  go_enter Tryz.func169, Tryz.ntmps169
  go_wp2
  go_ret
  exact ⟨rfl, rfl⟩
theorem cmpS_c (a b : Str) (W : World) : Calls Tryz.prog 143 #[sV a, sV b] W fun e w' => e = .returned (.int .i64 (cmpS a b)) ∧ w' = W := by
  have h1 := nan_c a
  have h2 := nan_c b
  have hgt : ∀ W, (binOp .gtr 9 (sV a) (sV b)).run Tryz.prog W = .ok (.bool (slt b a)) W := fun W => by
    have : binOp .gtr 9 (sV a) (sV b) = pure (.bool !(Op.bytesLess a b || a == b)) := by simp [binOp, Op.stringOp, ba_list]
    rw [this, gtr_slt]
    rfl
  have hlt : Op.bytesLess a b = slt a b := rfl
  go_enter Tryz.func143, Tryz.ntmps143
  go_wp2_with (go_at_call 169; first | (refine (h1 _).mono ?_; rintro e w' ⟨rfl, rfl⟩) | (refine (h2 _).mono ?_; rintro e w' ⟨rfl, rfl⟩))
  all_goals go_ret
  all_goals refine ⟨?_, rfl⟩
  all_goals simp [cmpS, *]
theorem ends_c (c : Cm) (W : World) : Calls Tryz.prog 142 #[.agg #[sV c.p, .int .i64 c.a.k, .int .i64 c.a.v, .int .i64 c.b.k, .int .i64 c.b.v]] W fun e w' => e = .returned (.bool (cEnds c)) ∧ w' = W.alloc (.cells #[sV c.p, .int .i64 c.a.k, .int .i64 c.a.v, .int .i64 c.b.k, .int .i64 c.b.v] 68) := by
  have hc : cEnds c = (decide (c.b.k = 0) || decide (c.a.k = 1)) := rfl
  go_enter Tryz.func142, Tryz.ntmps142
  go_wp2
  all_goals go_ret
  · refine ⟨?_, by simp [*]⟩
    show Ending.returned (Value.bool true) = _
    simp [hc, *]
  · refine ⟨?_, rfl⟩
    show Ending.returned (Value.bool (c.b.k == 0 || c.a.k == 1)) = _
    rw [hc]
    congr 2
theorem canonOrder_c (c d : Cm) (W : World) : Calls Tryz.prog 113 #[.agg #[sV c.p, .int .i64 c.a.k, .int .i64 c.a.v, .int .i64 c.b.k, .int .i64 c.b.v], .agg #[sV d.p, .int .i64 d.a.k, .int .i64 d.a.v, .int .i64 d.b.k, .int .i64 d.b.v]] W fun e w' =>
    e = .returned (.int .i64 (cfC c d)) ∧ ∃ q os', w' = grow (W.drewN q) os' := by
  have h1 := ends_c c
  have h2 := ends_c d
  have h3 := cmpS_c c.p d.p
  have h4 := cmpS_c d.p c.p
  have hf : cfC c d = if cEnds c && cEnds d then cmpS d.p c.p else if cEnds c then -1 else if cEnds d then 1 else cmpS c.p d.p := rfl
  generalize cfC c d = r at hf ⊢
  generalize cmpS c.p d.p = x at h3 hf
  generalize cmpS d.p c.p = y at h4 hf
  generalize cEnds c = u at h1 hf
  generalize cEnds d = v at h2 hf
  subst hf
  go_enter Tryz.func113, Tryz.ntmps113
  go_wp2_with (first
    | (go_at_call 142; first | (with_reducible refine (h1 _).mono ?_; rintro e w' ⟨rfl, rfl⟩) | (with_reducible refine (h2 _).mono ?_; rintro e w' ⟨rfl, rfl⟩))
    | (go_at_call 143; first | (with_reducible refine (h3 _).mono ?_; rintro e w' ⟨rfl, rfl⟩) | (with_reducible refine (h4 _).mono ?_; rintro e w' ⟨rfl, rfl⟩)))
  all_goals go_ret
  all_goals exact ⟨rfl, 0, _, by simp only [Go.Sort.alloc_eq_grow, Go.Sort.grow_grow]; rfl⟩
theorem lays_c (blk off size : Nat) (w : World) : CmpLays Tryz.prog 113 #[] encC 5 cfC blk off size w := fun _ _ _ _ x y => canonOrder_c x y _
end Go.Proofs.YthifgndjpjaddaaGreatDoor
/-
  Walks: slices.SortFunc at commands: a contract with a lent row.
-/
namespace Go.Proofs.YthifgndjpjaddaaGreatDoor
open Go Go.RowKit Go.Proofs
open Go.Sort (grow SWO PermIn SortedIn)
theorem cOrd_of : ∀ {l : List Cm}, l.Pairwise (fun a b => cLt b a = false) → cOrd l = true
  | [], _ => rfl
  | a :: l, h => by
    rw [List.pairwise_cons] at h
    exact cOrd_mk (cOrd_of h.2) h.1
def sortD (l : List Cm) (rv : AV) (lr' rows : List Row) : Prop := ∃ l' : List Cm, l'.Perm l ∧ cOrd l' = true ∧ rv = .tup [] ∧ lr' = [rowC l'] ∧ rows = []
theorem encC_cm (c : Cm) (j : Nat) (x : AV) (h : (cmC c)[j]? = some x) : x = .v ((encC c)[j]!) ∧ ((encC c)[j]!).oneCell' = true ∧ j < 5 := by
  rcases j with _ | _ | _ | _ | _ | j
  · cases h; exact ⟨rfl, rfl, by omega⟩
  · cases h; exact ⟨rfl, rfl, by omega⟩
  · cases h; exact ⟨rfl, rfl, by omega⟩
  · cases h; exact ⟨rfl, rfl, by omega⟩
  · cases h; exact ⟨rfl, rfl, by omega⟩
  · simp [cmC] at h
theorem encC_get (c : Cm) (j : Nat) (h : j < 5) : (cmC c)[j]? = some (.v ((encC c)[j]!)) := by
  rcases j with _ | _ | _ | _ | _ | j
  · rfl
  · rfl
  · rfl
  · rfl
  · rfl
  · omega
set_option maxRecDepth 100000
set_option maxHeartbeats 1000000
theorem SortC_pcl (l : List Cm) (hl : l.length < 4294967281) : PCL Tryz.prog 112 [rowC l] (mvF none) [.o 0 l.length, .fn 113 []] (sortD l) := by
  refine ⟨fun vs W => enters_of Tryz.func112 (by kernel_rfl) rfl vs W, fun w fb loc vs hlw hs hg => ?_⟩
  have h0 := hg 0 _ rfl
  have h1 := hg 1 _ rfl
  obtain ⟨cs, hv1, hcs, _⟩ := h1.fn_inv
  obtain rfl : cs = #[] := Array.eq_empty_of_size_eq_zero hcs
  have hvs : vs = #[vs.getD 0 undef, vs.getD 1 undef] := by
    apply Array.ext
    · simpa using hs
    · intro i h1 h2
      have : i < 2 := by simpa using h2
      rcases i with _ | _ | i
      · simp [Array.getD, h1]
      · simp [Array.getD, h1]
      · omega
  rw [hv1] at hvs
  generalize vs.getD 0 undef = v0 at h0 hvs
  subst hvs
  clear hs hg hv1 h1 hcs
  have hrow : hget (hpOf 0 [rowC l]) 0 = some (rowC l) := rfl
  generalize hL : l.length = L at h0
  cases h0 with
  | cl hc => cases hc
  | @onil _ row hr hl' =>
    obtain rfl : l = [] := List.eq_nil_of_length_eq_zero hL
    have hcon := AnyF.slices_SortFunc_none Tryz.sortC none 0 (.func (.func 113) #[] #[]) w
    change Calls Tryz.prog 112 _ _ _ at hcon
    refine hcon.mono ?_
    rintro e w' ⟨rfl, rfl⟩
    refine ⟨.tup [], [rowC []], [], _, loc, ⟨[], List.Perm.refl _, rfl, rfl, rfl, rfl⟩, rfl, ⟨rfl, rfl, rfl, rfl, Nat.le_refl _, fun _ _ _ => rfl, hlw.fbe, fun _ _ _ => rfl, .tup #[] rfl (fun j a ha => by simp at ha), hlw.rw, hlw.inj, fun r row b c h1 h2 => .inr ⟨r, row, c, h1, h2⟩⟩⟩
  | @o _ _ row b c hr hl' hn =>
    subst hL
    rw [hrow] at hr
    cases hr
    obtain ⟨hlen, hn', hm, cur, hh, hsz, hcells⟩ := (hlw.rw 0 _ hrow).2.open hl'
    simp only [List.length_map] at hn hn'
    have hcm : ∀ (k : Nat) (hk : k < l.length) (j : Nat), j < 5 → cur[k * 5 + j]? = some ((encC l[k])[j]!) := fun k hk j hj => by
      obtain ⟨u, g1, _, g3, _⟩ := hcells k (cmC l[k]) j _ (by simp [List.getElem?_eq_getElem hk]) (encC_get _ j hj)
      rw [g1, g3.v_inv]
    have hH : Go.Sort.HoldsK encC 5 w b 0 l.toArray := by
      intro j hj
      rw [Go.Sort.size_flatK] at hj
      have hj' : j < l.length * 5 := by simpa using hj
      have hk : j / 5 < l.length := by omega
      rw [Nat.zero_add]
      refine ⟨?_, by simp [World.frozen?, hh]⟩
      have := hcm (j / 5) hk (j % 5) (by omega)
      rw [show j / 5 * 5 + j % 5 = j by omega] at this
      simp only [World.cell?, hh, Option.isSome_none, Bool.false_eq_true, if_false, id]
      rw [this, Go.Sort.get_flatK _ _ _ _ hj]
      congr 3
      simp [hk]
    have hblk : b < w.heap.size := by
      rcases Nat.lt_or_ge b w.heap.size with h | h
      · exact h
      · rw [Array.getElem?_eq_none h] at hh; cases hh
    have eg : ∀ args w, (callFunc 113 args).run Tryz.prog w = .ok (.enter 113 args) w := enters_of Tryz.func113 (by kernel_rfl) rfl
    have hcon := AnyQ.slices_SortFunc Tryz.sortC 5 Tryz.isAgg68 Tryz.sizeOf68 encC (fun _ => rfl) (fun x v hv => by simp [encC] at hv; rcases hv with rfl | rfl | rfl | rfl | rfl <;> rfl) cfC swoC 113 #[] b 0 c l.toArray w eg (lays_c b 0 _ w) hH hblk (by simp; omega)
    change Calls Tryz.prog 112 _ _ _ at hcon
    rw [show l.toArray.size = l.length from by simp] at hcon
    refine hcon.mono ?_
    rintro e w' ⟨rfl, d', n, os, hp, hsd, rfl⟩
    obtain ⟨hps, _, hpp⟩ := hp
    have hps' : d'.size = l.length := by simpa using hps
    have hperm : d'.toList.Perm l := by
      have e1 : d'.extract 0 l.length = d' := by rw [← hps']; simp
      have e2 : l.toArray.extract 0 l.length = l.toArray := by simp
      rw [e1, e2] at hpp
      simpa using hpp
    have hord : cOrd d'.toList = true := by
      apply cOrd_of
      rw [List.pairwise_iff_getElem]
      intro i j hi hj hij
      have := hsd i j (Nat.zero_le _) hij (by simpa [hps'] using hj)
      rw [ltOf_cf] at this
      simp only [Array.length_toList] at hi hj
      simpa [hi, hj] using this
    generalize hd : d'.toList = l' at hperm hord
    have hdl : l'.length = l.length := by rw [← hd, Array.length_toList, hps']
    refine ⟨.tup [], [rowC l'], [], _, loc, ⟨l', hperm, hord, rfl, rfl, rfl⟩, rfl, ?_⟩
    have hbh : (sortWorldK encC 5 w b 0 n d' os).heap[b]? = some (.cells (Go.Sort.putCells id 0 (Go.Sort.flatK encC 5 d') cur) 68 (0, 0)) := by
      unfold sortWorldK
      show ((Go.Sort.putRowK encC 5 (Go.Sort.ahead w n) b 0 d').heap ++ os)[b]? = _
      rw [Array.getElem?_append_left (by rw [Go.Sort.size_putRowK]; exact hblk)]
      unfold Go.Sort.putRowK Go.Sort.putRow Go.Sort.mapBlock
      simp only [Array.getElem?_modify, if_true]
      show Option.map _ w.heap[b]? = _
      rw [hh]
      rfl
    have hbk : ∀ k, k < w.heap.size → k ≠ b → (sortWorldK encC 5 w b 0 n d' os).heap[k]? = w.heap[k]? := fun k hk hne => by
      unfold sortWorldK
      show ((Go.Sort.putRowK encC 5 (Go.Sort.ahead w n) b 0 d').heap ++ os)[k]? = _
      rw [Array.getElem?_append_left (by rw [Go.Sort.size_putRowK]; exact hk)]
      unfold Go.Sort.putRowK Go.Sort.putRow Go.Sort.mapBlock
      simp only [Array.getElem?_modify]
      rw [if_neg (fun e => hne e.symm)]
      rfl
    have hcell : ∀ (k : Nat) (e : List AV) (j : Nat) (x : AV), (rowC l').es[k]? = some e → e[j]? = some x → ∃ u, (Go.Sort.putCells id 0 (Go.Sort.flatK encC 5 d') cur)[k * 5 + j]? = some u ∧ u.oneCell' = true ∧ x = .v u := fun k e j x he hx => by
      rw [List.getElem?_map, Option.map_eq_some_iff] at he
      obtain ⟨y, hy, rfl⟩ := he
      obtain ⟨g1, g2, g3⟩ := encC_cm y j x hx
      have hk := lt_of_some hy
      refine ⟨_, ?_, g2, g1⟩
      have hin : k * 5 + j < (Go.Sort.flatK encC 5 d').size := by rw [Go.Sort.size_flatK, hps']; omega
      have hcu : k * 5 + j < cur.size := by rw [hsz]; show _ < c * 5; omega
      unfold Go.Sort.putCells
      rw [Array.getElem?_mapIdx, Array.getElem?_eq_getElem hcu]
      simp only [Option.map_some, Option.some.injEq]
      rw [if_pos ⟨by omega, by omega⟩, Nat.sub_zero, Go.Sort.get_flatK _ _ _ _ (by rw [Go.Sort.size_flatK] at hin; exact hin)]
      rw [show (k * 5 + j) / 5 = k by omega, show (k * 5 + j) % 5 = j by omega]
      have : d'[k]! = y := by
        rw [← hd, Array.getElem?_toList] at hy
        rw [Array.getElem!_eq_getD, Array.getD_eq_getD_getElem?, hy]
        rfl
      rw [this]
      rfl
    have hc5 : (Go.Sort.putCells id 0 (Go.Sort.flatK encC 5 d') cur).size = c * 5 := by
      unfold Go.Sort.putCells
      rw [Array.size_mapIdx]
      exact hsz
    have hG : ∀ (x : AV) (u : Value), x = .v u → G (hpOf 0 [rowC l']) loc (sortWorldK encC 5 w b 0 n d' os) x u ∧ C (Live (hpOf 0 [rowC l']) loc) 0 (sortWorldK encC 5 w b 0 n d' os) x u := fun x u h => by
      subst h
      exact ⟨.cl .v, .v⟩
    have hone : ∀ r row, hget (hpOf 0 [rowC l']) r = some row → r = 0 ∧ row = rowC l' := fun r row h => by
      rcases r with _ | r
      · cases h; exact ⟨rfl, rfl⟩
      · simp [hpOf, hget] at h
    refine ⟨rfl, rfl, rfl, rfl, ?_, fun k hk hnl => hbk k hk fun e => hnl ⟨0, _, c, hrow, by rw [e]; exact hl'⟩, hlw.fbe, fun _ _ _ => rfl, .tup #[] rfl (fun j a ha => by simp at ha), fun r row h => ?_, fun r r' row row' _ _ _ h h' _ _ => ?_, fun r row b' c' h h' => ?_⟩
    · unfold sortWorldK
      show w.heap.size ≤ ((Go.Sort.putRowK encC 5 (Go.Sort.ahead w n) b 0 d').heap ++ os).size
      rw [Array.size_append, Go.Sort.size_putRowK]
      exact Nat.le_add_right _ _
    · obtain ⟨rfl, rfl⟩ := hone r row h
      refine ⟨rfl, RowOk.mk' hl' (fun k e he => ?_) (by rw [List.length_map, hdl]; exact hn') hm hbh hc5 fun k e j x he hx => ?_⟩
      · rw [List.getElem?_map, Option.map_eq_some_iff] at he
        obtain ⟨y, _, rfl⟩ := he
        rfl
      · obtain ⟨u, g1, g2, g3⟩ := hcell k e j x he hx
        exact ⟨u, g1, g2, (hG x u g3).1, fun _ => (hG x u g3).2⟩
    · rw [(hone r row h).1, (hone r' row' h').1]
    · obtain ⟨rfl, rfl⟩ := hone r row h
      rw [hl'] at h'
      cases h'
      exact .inr ⟨0, _, c, hrow, hl'⟩
end Go.Proofs.YthifgndjpjaddaaGreatDoor
