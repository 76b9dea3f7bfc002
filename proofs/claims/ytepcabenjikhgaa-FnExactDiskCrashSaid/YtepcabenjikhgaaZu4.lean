/- A part of the proof of FnExactDiskCrash: texts N22 Y1 N23 N24 N25 N26 J2 N27 N5 N6 N7 N8 N9 N10 N11 N12 M31 M32 M34 M35 N13 N14 N15 M36 M45 N16 N28 N29 J3 N30 N31 M41 M47 M48 N33. -/
import Derived.Test.YtepcabenjikhgaaZu3
import Derived.Test.YtepcabenjikhgaaZu1
set_option linter.unusedSimpArgs false
set_option linter.unusedVariables false
/-
  Trees of files set aside: into rows and back.
-/
namespace Go.Proofs.Ytepcabenjikhgaa
open Go Go.RowKit Go.Proofs
section
variable {w0 w1 : World} {lent1 : Lent} {s : AS} {loc : Loc} {a : Act} {w : World}

theorem G.o_val {h : Hp} {A n : Nat} {u : Value} (hg : G h loc w (.o A n) u) : u = rowVal loc A n := by
  generalize hx : AV.o A n = x at hg
  cases hg with
  | cl hc => subst hx; cases hc
  | o h1 h2 h3 => cases hx; simp only [rowVal, h2]
  | onil h1 h2 => cases hx; simp only [rowVal, h2]
  | _ => cases hx
/-- A list of numbers in a cell: a row of its own, or none. -/
inductive Lf (h : Hp) : AV → List Int → Prop
  | o {A : Nat} {zs : List Int} : hget h A = some (rowZ zs) → Lf h (.o A zs.length) zs
  | nil : Lf h (.v (.slice none 0 0)) []
theorem Lf.own {x : AV} {zs : List Int} (hR : Rel w1 lent1 s loc a w) (hf : Lf s.h x zs) : ∃ u, (∀ u', G s.h loc w x u' → u' = u) ∧ w.ownsRow 0 3 1 u zs.length (ints zs) ∧ (∀ g, u.ownBlock = some g → ∃ A row c, A ∈ idsA x ∧ hget s.h A = some row ∧ loc A = some (g, c)) ∧
    (∀ A n p, x = .o A n → lent1.pin A = some p → u = vOf p zs.length) := by
  cases hf with
  | @o A _ h =>
    refine ⟨rowVal loc A zs.length, fun u' hg => hg.o_val, rowZ_own (hR.rw A _ h), fun g hg => ?_, fun A' n p e hp => ?_⟩
    · obtain ⟨c, hc⟩ := vOf_blk (show (vOf (loc A) zs.length).ownBlock = some g from hg)
      exact ⟨A, _, c, by simp [idsA], h, hc⟩
    · cases e
      rw [show rowVal loc A zs.length = vOf (loc A) zs.length from rfl, hR.pn A p hp]
  | nil => exact ⟨.slice none 0 0, fun u' hg => hg.v_inv, World.ownsRow_nil _ _ _ _, fun g hg => (by cases hg), fun A n p e => (by cases e)⟩
theorem G.oR {h h2 : Hp} {loc2 : Loc} {R n : Nat} {u : Value} {row row2 : Row} (hg : G h loc w (.o R n) u) (h1 : hget h R = some row) (h2' : hget h2 R = some row2) (hl : loc2 R = loc R) (hn : row.es.length ≤ row2.es.length) : G h2 loc2 w (.o R n) u := by
  cases hg with
  | cl hc => cases hc
  | o g1 g2 g3 => rw [h1] at g1; cases g1; exact .o h2' (hl.trans g2) (by omega)
  | onil g1 g2 => exact .onil h2' (hl.trans g2)
/-- What stays of a slot where but one row stays. -/
def clS (R : Nat) (x : AV) : AV := match x with
  | .o r n => if r = R then .o r n else .any
  | y => if isC y = true then y else .any
theorem leQ_cls {R : Nat} : ∀ t : List AV, leQ (fun p q => ∃ n, p = .o R n ∧ q = .o R n) t (t.map (clS R))
  | [] => trivial
  | x :: l => by
    refine ⟨?_, leQ_cls l⟩
    unfold clS
    split
    · split
      · rename_i n e; subst e; exact .inr (.inr ⟨n, rfl, rfl⟩)
      · exact .inl rfl
    · split
      · rename_i h; exact .inr (.inl ⟨rfl, h⟩)
      · exact .inl rfl
/-- Two lists of a file are set aside. -/
theorem Rel.unlink (hR : Rel w1 lent1 s loc a w) {R : Nat} {row1 : Row} {x y : AV} {nm : Int} {xs ys : List Int} (hr : hget s.h R = some row1) (hE : row1.E = 55) (hz : row1.sz = 3) (hx : Lf s.h x xs) (hy : Lf s.h y ys) (hxy : ∀ q ∈ idsA x, q ∉ idsA y) (hxR : R ∉ idsA x) (hyR : R ∉ idsA y)
    (E2 : Value → Value → List (List AV)) (h2 : ∀ u1 u2, (E2 u1 u2).length = row1.es.length ∧ ∀ (k : Nat) e, (E2 u1 u2)[k]? = some e → (row1.es[k]? = some e ∧ e.all isC = true) ∨ (row1.es[k]? = some [iA nm, x, y] ∧ e = [iA nm, .v u1, .v u2])) :
    ∃ u1 u2 lent2 loc2, Rel w lent2 ⟨s.t.map (clS R), [(R, ⟨55, 3, E2 u1 u2, true⟩)]⟩ loc2 a w ∧ OwI w lent2.fb u1 xs ∧ OwI w lent2.fb u2 ys ∧ (∀ g, u1.ownBlock = some g → u2.ownBlock ≠ some g) ∧ (∀ g, u1.ownBlock = some g → ¬ lent1.fb g) ∧ (∀ g, u2.ownBlock = some g → ¬ lent1.fb g) ∧
      (∀ b, lent1.fb b → lent2.fb b) ∧ (∀ b, lent1.fb b → w.heap[b]? = w1.heap[b]?) ∧ (∀ X w0, ChX X w0 w1 lent1 → ChX X w0 w lent2) ∧ (∀ A n p, x = .o A n → lent1.pin A = some p → u1 = vOf p xs.length) ∧ (∀ A n p, y = .o A n → lent1.pin A = some p → u2 = vOf p ys.length) ∧ lent2.pin = (fun q => if q = R ∧ 500000 ≤ R ∧ R < 600000 then some (loc R) else none) ∧ (∀ p, lent1.pin R = some p → loc R = p) ∧ loc2 R = loc R := by
  obtain ⟨u1, v1, o1, b1, p1⟩ := hx.own hR
  obtain ⟨u2, v2, o2, b2, p2⟩ := hy.own hR
  obtain ⟨e0, e1⟩ := h2 u1 u2
  obtain ⟨t2, ht2⟩ : ∃ t2, t2 = s.t.map (clS R) := ⟨_, rfl⟩
  obtain ⟨g0, g1⟩ := leQ_get (leQ_cls (R := R) s.t)
  rw [← ht2] at g0 g1 ⊢
  let h3 : Hp := [(R, ⟨55, 3, E2 u1 u2, true⟩)]
  let loc2 : Loc := ⟨fun q => if q = R then loc R else none, fun b => lent1.fb b ∨ u1.ownBlock = some b ∨ u2.ownBlock = some b⟩
  have hl2 : ∀ b, LiveR h3 loc2 b → ∃ c, loc R = some (b, c) := by
    rintro b ⟨q, row, c, k1, k2⟩
    simp only [h3, hget] at k1
    split at k1
    · rename_i e; subst e
      exact ⟨c, by simpa [loc2] using k2⟩
    · cases k1
  have hlive : ∀ b, Live h3 loc2 b → Live s.h loc b := by
    rintro b (h | h | h | h)
    · obtain ⟨c, hc⟩ := hl2 b h
      exact .inl ⟨R, _, c, hr, hc⟩
    · exact .inr (by rw [hR.fbe]; exact h)
    · obtain ⟨A, row, c, _, k1, k2⟩ := b1 b h
      exact .inl ⟨A, row, c, k1, k2⟩
    · obtain ⟨A, row, c, _, k1, k2⟩ := b2 b h
      exact .inl ⟨A, row, c, k1, k2⟩
  have hg3 : hget h3 R = some ⟨55, 3, E2 u1 u2, true⟩ := by simp [h3, hget]
  have hnf1 : ∀ g, u1.ownBlock = some g → ¬ lent1.fb g := fun g h => by obtain ⟨A, row, c, _, k1, k2⟩ := b1 g h; exact hR.nfb k1 k2
  have hnf2 : ∀ g, u2.ownBlock = some g → ¬ lent1.fb g := fun g h => by obtain ⟨A, row, c, _, k1, k2⟩ := b2 g h; exact hR.nfb k1 k2
  have hap : ∀ g, u1.ownBlock = some g → u2.ownBlock ≠ some g := fun g k1 k2 => by
    obtain ⟨A, row, c, m1, k3, k4⟩ := b1 g k1
    obtain ⟨B, row', c', m2, k5, k6⟩ := b2 g k2
    have := hR.inj A B row row' g c c' k3 k5 k4 k6
    subst this
    exact hxy A m1 m2
  refine ⟨u1, u2, _, loc2, hR.re (s2 := ⟨t2, h3⟩) (loc2 := loc2) g0 hlive (fun i z hz => ?_) (fun r row hrr => ?_) (fun r r' row row' b c c' k1 k2 k3 k4 => ?_) (fun b hb hl => ?_) (fun q => if q = R ∧ 500000 ≤ R ∧ R < 600000 then some (loc R) else none) (fun r p hp => ?_), ⟨o1, fun g h => .inr (.inl h)⟩, ⟨o2, fun g h => .inr (.inr h)⟩, hap, hnf1, hnf2, fun b h => .inl h, fun b h => hR.fbk h, fun Y w0 h => ?_, p1, p2, rfl, fun p hp => hR.pn R p hp, by simp [loc2]⟩
  · rcases g1 i z hz with h | ⟨z0, k1, k2 | ⟨n, rfl, rfl⟩⟩
    · exact .inl h
    · exact .inr ⟨z0, k1, .inl k2⟩
    · exact .inr ⟨_, k1, .inr fun u hg => hg.oR hr hg3 (by simp [loc2]) (by show row1.es.length ≤ (E2 u1 u2).length; omega)⟩
  · simp only [h3, hget] at hrr
    split at hrr
    · rename_i e
      subst e
      cases hrr
      refine (hR.rw R row1 hr).re hE.symm hz.symm e0 (by simp [loc2]) fun k e2 he2 => ?_
      rcases e1 k e2 he2 with ⟨k1, k2⟩ | ⟨k1, rfl⟩
      · refine ⟨e2, k1, rfl, fun j y' hy' => ⟨y', hy', fun u hg _ => ?_⟩⟩
        have hcy := List.all_eq_true.1 k2 y' (List.mem_of_getElem? hy')
        have := (isC_ok hg hcy).mono (lv' := Live h3 loc2) (Nat.le_refl 0) (Nat.le_refl _) fun b _ _ hnl => ⟨fun hl => hnl (hlive b hl), rfl⟩
        exact ⟨.cl this, fun _ => this⟩
      · refine ⟨_, k1, rfl, fun j y' hy' => ?_⟩
        rcases j with _ | _ | _ | j
        · simp at hy'; subst hy'
          exact ⟨_, rfl, fun u hg _ => by rw [hg.v_inv]; exact ⟨.cl .v, fun _ => .v⟩⟩
        · simp at hy'; subst hy'
          exact ⟨_, rfl, fun u hg _ => by rw [v1 u hg]; exact ⟨.cl .v, fun _ => .v⟩⟩
        · simp at hy'; subst hy'
          exact ⟨_, rfl, fun u hg _ => by rw [v2 u hg]; exact ⟨.cl .v, fun _ => .v⟩⟩
        · simp at hy'
    · cases hrr
  · simp only [h3, hget] at k1 k2
    split at k1
    · split at k2
      · rename_i e1 e2; exact e1.symm.trans e2
      · cases k2
    · cases k1
  · obtain ⟨c, hc⟩ := hl2 b hl
    rcases hb with hb | hb | hb
    · exact hR.nfb hr hc hb
    · obtain ⟨A, row, c', m1, k3, k4⟩ := b1 b hb
      have := hR.inj A R row row1 b c' c k3 hr k4 hc
      subst this; exact hxR m1
    · obtain ⟨A, row, c', m1, k3, k4⟩ := b2 b hb
      have := hR.inj A R row row1 b c' c k3 hr k4 hc
      subst this; exact hyR m1
  · split at hp
    · rename_i e
      cases hp
      exact ⟨by simp [loc2, e.1], by omega⟩
    · cases hp
  · have h0 := h.mut hR
    refine ⟨h0.os, h0.tape, h0.output, h0.size, h0.keep, fun b hb => ?_, fun b hb => ?_⟩
    · obtain ⟨c, hc⟩ := hl2 b hb
      exact h.own hR hr hc
    · rcases hb with hb | hb | hb
      · exact h.fb b hb
      · obtain ⟨A, row, c, _, k1, k2⟩ := b1 b hb; exact h.own hR k1 k2
      · obtain ⟨A, row, c, _, k1, k2⟩ := b2 b hb; exact h.own hR k1 k2
/-- Two lists of a file, that were set aside, as rows. -/
theorem Rel.link (hR : Rel w1 lent1 s loc a w) {R : Nat} {E0 : List (List AV)} {k : Nat} {nm : Int} {u1 u2 : Value} {xs ys : List Int} (hr : hget s.h R = some ⟨55, 3, E0, true⟩) (hC0 : ∀ e ∈ E0, e.all isC = true) (hk : E0[k]? = some [iA nm, .v u1, .v u2]) (hRn : R ≠ 500001 ∧ R ≠ 500002)
    (h1 : OwI w lent1.fb u1 xs) (h2 : OwI w lent1.fb u2 ys) (hap : ∀ g, u1.ownBlock = some g → u2.ownBlock ≠ some g) :
    ∃ p1 p2 lent2 loc2, Rel w lent2 ⟨s.t.map (clS R), [(R, ⟨55, 3, E0.set k [iA nm, .o 500001 xs.length, .o 500002 ys.length], false⟩), (500001, rowZ xs), (500002, rowZ ys)]⟩ loc2 a w ∧ u1 = vOf p1 xs.length ∧ u2 = vOf p2 ys.length ∧
      lent2.fb = (fun b => lent1.fb b ∧ u1.ownBlock ≠ some b ∧ u2.ownBlock ≠ some b) ∧ (∀ b, lent1.fb b → w.heap[b]? = w1.heap[b]?) ∧ (∀ X w0, ChX X w0 w1 lent1 → ChX X w0 w lent2) ∧ lent2.pin 500001 = some p1 ∧ lent2.pin 500002 = some p2 ∧ (500000 ≤ R ∧ R < 600000 → lent2.pin R = some (loc R)) ∧ (∀ p, lent1.pin R = some p → loc R = p) := by
  obtain ⟨p1, rfl⟩ := own_vOf h1.1
  obtain ⟨p2, rfl⟩ := own_vOf h2.1
  obtain ⟨t2, ht2⟩ : ∃ t2, t2 = s.t.map (clS R) := ⟨_, rfl⟩
  obtain ⟨g0, g1⟩ := leQ_get (leQ_cls (R := R) s.t)
  rw [← ht2] at g0 g1 ⊢
  have hkl := lt_of_some hk
  let h3 : Hp := [(R, ⟨55, 3, E0.set k [iA nm, .o 500001 xs.length, .o 500002 ys.length], false⟩), (500001, rowZ xs), (500002, rowZ ys)]
  let loc2 : Loc := ⟨fun q => if q = R then loc R else if q = 500001 then p1 else if q = 500002 then p2 else none, fun b => lent1.fb b ∧ (vOf p1 xs.length).ownBlock ≠ some b ∧ (vOf p2 ys.length).ownBlock ≠ some b⟩
  have hb1 : ∀ b c, p1 = some (b, c) → lent1.fb b := fun b c e => h1.2 b (by rw [e]; rfl)
  have hb2 : ∀ b c, p2 = some (b, c) → lent1.fb b := fun b c e => h2.2 b (by rw [e]; rfl)
  have hcs : ∀ q row b c, hget h3 q = some row → loc2 q = some (b, c) → (q = R ∧ loc R = some (b, c)) ∨ (q = 500001 ∧ p1 = some (b, c)) ∨ (q = 500002 ∧ p2 = some (b, c)) := fun q row b c k1 k2 => by
    simp only [h3, hget] at k1
    simp only [loc2] at k2
    by_cases e1 : q = R
    · subst e1; rw [if_pos rfl] at k2; exact .inl ⟨rfl, k2⟩
    · rw [if_neg e1] at k2
      by_cases e2 : q = 500001
      · rw [if_pos e2] at k2; exact .inr (.inl ⟨e2, k2⟩)
      · rw [if_neg e2] at k2
        by_cases e3 : q = 500002
        · rw [if_pos e3] at k2; exact .inr (.inr ⟨e3, k2⟩)
        · rw [if_neg e3] at k2; cases k2
  have hlive : ∀ b, Live h3 loc2 b → Live s.h loc b := by
    rintro b (⟨q, row, c, k1, k2⟩ | h)
    · rcases hcs q row b c k1 k2 with ⟨_, h⟩ | ⟨_, h⟩ | ⟨_, h⟩
      · exact .inl ⟨R, _, c, hr, h⟩
      · exact .inr (by rw [hR.fbe]; exact hb1 b c h)
      · exact .inr (by rw [hR.fbe]; exact hb2 b c h)
    · exact .inr (by rw [hR.fbe]; exact h.1)
  have hg3 : hget h3 R = some ⟨55, 3, E0.set k [iA nm, .o 500001 xs.length, .o 500002 ys.length], false⟩ := by simp [h3, hget]
  have hg4 : hget h3 500001 = some (rowZ xs) := by simp [h3, hget, hRn.1]
  have hg5 : hget h3 500002 = some (rowZ ys) := by simp [h3, hget, hRn.2]
  have l4 : loc2 500001 = p1 := by simp [loc2, Ne.symm hRn.1]
  have l5 : loc2 500002 = p2 := by simp [loc2, Ne.symm hRn.2]
  have hoG : ∀ (A : Nat) (p : Option (Nat × Nat)) (zs : List Int) (u : Value), hget h3 A = some (rowZ zs) → loc2 A = p → w.ownsRow 0 3 1 (vOf p zs.length) zs.length (ints zs) → u = vOf p zs.length → G h3 loc2 w (.o A zs.length) u := fun A p zs u k1 k2 k3 k4 => by
    subst k4
    cases p with
    | none =>
      rcases k3.2 with ⟨_, h⟩ | ⟨g, cap, cur, e, _⟩
      · rw [h]; exact .onil k1 k2
      · cases e
    | some bc => obtain ⟨b, c⟩ := bc; exact .o k1 k2 (by simp)
  refine ⟨p1, p2, _, loc2, hR.re (s2 := ⟨t2, h3⟩) (loc2 := loc2) g0 hlive (fun i z hz => ?_) (fun r row hrr => ?_) (fun r r' row row' b c c' k1 k2 k3 k4 => ?_) (fun b hb hl => ?_) (fun q => if q = 500001 then some p1 else if q = 500002 then some p2 else if q = R ∧ 500000 ≤ R ∧ R < 600000 then some (loc R) else none) (fun r p hp => ?_), rfl, rfl, rfl, fun b h => hR.fbk h, fun Y w0 h => ?_, by simp, by simp, fun h => ?_, fun p hp => hR.pn R p hp⟩
  · rcases g1 i z hz with h | ⟨z0, k1, k2 | ⟨n, rfl, rfl⟩⟩
    · exact .inl h
    · exact .inr ⟨z0, k1, .inl k2⟩
    · exact .inr ⟨_, k1, .inr fun u hg => hg.oR hr hg3 (by simp [loc2]) (by simp)⟩
  · simp only [h3, hget] at hrr
    split at hrr
    · rename_i e
      subst e
      cases hrr
      refine (hR.rw R _ hr).re rfl rfl (by simp) (by simp [loc2]) fun i e2 he2 => ?_
      rw [List.getElem?_set] at he2
      split at he2
      · rename_i hik
        subst hik
        cases he2
        refine ⟨_, hk, rfl, fun j y' hy' => ?_⟩
        rcases j with _ | _ | _ | j
        · simp at hy'; subst hy'
          exact ⟨_, rfl, fun u hg _ => by rw [hg.v_inv]; exact ⟨.cl .v, fun h => by cases h⟩⟩
        · simp at hy'; subst hy'
          exact ⟨_, rfl, fun u hg _ => ⟨hoG 500001 p1 xs u hg4 l4 h1.1 hg.v_inv, fun h => by cases h⟩⟩
        · simp at hy'; subst hy'
          exact ⟨_, rfl, fun u hg _ => ⟨hoG 500002 p2 ys u hg5 l5 h2.1 hg.v_inv, fun h => by cases h⟩⟩
        · simp at hy'
      · refine ⟨e2, he2, rfl, fun j y' hy' => ⟨y', hy', fun u hg _ => ⟨?_, fun h => by cases h⟩⟩⟩
        have hcy := List.all_eq_true.1 (hC0 e2 (List.mem_of_getElem? he2)) y' (List.mem_of_getElem? hy')
        exact .cl ((isC_ok hg hcy).mono (Nat.le_refl 0) (Nat.le_refl _) fun b _ _ hnl => ⟨fun hl => hnl (hlive b hl), rfl⟩)
    · split at hrr
      · rename_i e
        subst e
        cases hrr
        exact own_rowZ (by rw [show rowVal loc2 500001 xs.length = vOf (loc2 500001) xs.length from rfl, l4]; exact h1.1)
      · split at hrr
        · rename_i e
          subst e
          cases hrr
          exact own_rowZ (by rw [show rowVal loc2 500002 ys.length = vOf (loc2 500002) ys.length from rfl, l5]; exact h2.1)
        · cases hrr
  · have hne : ∀ c c', p1 = some (b, c) → p2 = some (b, c') → False := fun c c' e1 e2 => hap b (by rw [e1]; rfl) (by rw [e2]; rfl)
    rcases hcs r row b c k1 k3 with ⟨rfl, m1⟩ | ⟨rfl, m1⟩ | ⟨rfl, m1⟩ <;> rcases hcs r' row' b c' k2 k4 with ⟨rfl, m2⟩ | ⟨rfl, m2⟩ | ⟨rfl, m2⟩
    · rfl
    · exact (hR.nfb hr m1 (hb1 _ _ m2)).elim
    · exact (hR.nfb hr m1 (hb2 _ _ m2)).elim
    · exact (hR.nfb hr m2 (hb1 _ _ m1)).elim
    · rfl
    · exact (hne _ _ m1 m2).elim
    · exact (hR.nfb hr m2 (hb2 _ _ m1)).elim
    · exact (hne _ _ m2 m1).elim
    · rfl
  · obtain ⟨q, row, c, k1, k2⟩ := hl
    rcases hcs q row b c k1 k2 with ⟨_, h⟩ | ⟨_, h⟩ | ⟨_, h⟩
    · exact hR.nfb hr h hb.1
    · exact hb.2.1 (by rw [h]; rfl)
    · exact hb.2.2 (by rw [h]; rfl)
  · split at hp
    · rename_i e; cases hp; exact ⟨by rw [e, l4], by omega⟩
    · split at hp
      · rename_i e; cases hp; exact ⟨by rw [e, l5], by omega⟩
      · split at hp
        · rename_i e; cases hp; exact ⟨by simp [loc2, e.1], by omega⟩
        · cases hp
  · have h0 := h.mut hR
    refine ⟨h0.os, h0.tape, h0.output, h0.size, h0.keep, fun b hb => ?_, fun b hb => h.fb b hb.1⟩
    obtain ⟨q, row, c, k1, k2⟩ := hb
    rcases hcs q row b c k1 k2 with ⟨_, m⟩ | ⟨_, m⟩ | ⟨_, m⟩
    · exact h.own hR hr m
    · exact h.fb b (hb1 b c m)
    · exact h.fb b (hb2 b c m)
  · simp [hRn.1, hRn.2, h]
/-- A tree that was set aside: its head as a row. -/
theorem Rel.adopt {t : List AV} (hR : Rel w1 lent1 ⟨t, []⟩ loc a w) {u : Value} {bs : List BD} {us : UU} {X : Nat → Prop} {t2 : List AV} (hO : OT w1 X u bs us) (hX : ∀ b, X b → lent1.fb b) (ht : leQ (fun p q => p = .v u ∧ q = .o 500000 bs.length) t t2) :
    ∃ lent2 loc2, Rel w lent2 ⟨t2, [(500000, rowT bs us)]⟩ loc2 a w ∧ Gh w lent2.fb bs us ∧ (∀ X w0, ChX X w0 w1 lent1 → ChX X w0 w lent2) ∧ (∀ b, lent2.fb b → lent1.fb b) ∧ (∀ b, lent1.fb b → w.heap[b]? = w1.heap[b]?) ∧ (∀ b, lent1.fb b → ¬ X b → lent2.fb b) := by
  have hO2 : OT w lent1.fb u bs us := hO.same (fun b hb => hR.fbk (hX b hb)) hX
  have hrow := hO2.row
  obtain ⟨p, rfl⟩ := own_vOf hrow
  obtain ⟨g0, g1⟩ := leQ_get ht
  let h3 : Hp := [(500000, rowT bs us)]
  let loc2 : Loc := ⟨fun q => if q = 500000 then p else none, fun b => lent1.fb b ∧ (vOf p bs.length).ownBlock ≠ some b⟩
  have hl2 : ∀ b, LiveR h3 loc2 b → ∃ c, p = some (b, c) := by
    rintro b ⟨q, row, c, k1, k2⟩
    simp only [h3, hget] at k1
    split at k1
    · rename_i e; subst e
      exact ⟨c, by simpa [loc2] using k2⟩
    · cases k1
  have hpb : ∀ b c, p = some (b, c) → lent1.fb b := fun b c e => hO2.blk b (by rw [e]; rfl)
  have hlive : ∀ b, Live h3 loc2 b → Live [] loc b := by
    rintro b (h | h)
    · obtain ⟨c, hc⟩ := hl2 b h
      exact .inr (by rw [hR.fbe]; exact hpb b c hc)
    · exact .inr (by rw [hR.fbe]; exact h.1)
  have hg3 : hget h3 500000 = some (rowT bs us) := rfl
  have hes : (rowT bs us).es.length = bs.length := by simp only [rowT, esT, List.length_map]; exact zip_len hO2.gh.len
  have hne : ∀ (k : Nat) d q, bs[k]? = some d → us[k]? = some q → ∀ v, (v = q.1 ∨ v = q.2) → ∀ g, v.ownBlock = some g → (vOf p bs.length).ownBlock ≠ some g := fun k d q hd hq v hv g hg hpg => by
    have hi := hO2.gh.inn k d q hd hq
    have h3 : ∃ n xs, w.ownsRow 0 3 1 v n xs := by
      rcases hv with rfl | rfl
      · exact ⟨_, _, hi.1.1⟩
      · exact ⟨_, _, hi.2.1⟩
    obtain ⟨n, xs, h4⟩ := h3
    rcases h4.2 with ⟨rfl, _⟩ | ⟨g1, cap, cur, rfl, _, e1, _⟩
    · cases hg
    · simp only [Value.ownBlock, Option.some.injEq] at hg
      subst hg
      rcases hrow.2 with ⟨e2, _⟩ | ⟨g2, cap2, cur2, e2, _, e3, _⟩
      · rw [e2] at hpg; cases hpg
      · rw [e2] at hpg
        simp only [Value.ownBlock, Option.some.injEq] at hpg
        subst hpg
        rw [e1] at e3
        cases e3
  refine ⟨_, loc2, hR.re (s2 := ⟨t2, h3⟩) (loc2 := loc2) g0 hlive (fun i z hz => ?_) (fun r row hrr => ?_) (fun r r' row row' b c c' k1 k2 k3 k4 => ?_) (fun b hb hl => ?_) (fun _ => none) (fun r p hp => by cases hp), ⟨hO2.gh.len, fun k d q hd hq => ?_, hO2.gh.apart⟩, fun Y w0 h => ?_, fun b hb => hb.1, fun b hb => hR.fbk hb, fun b hb hx => ⟨hb, fun e => hx (hO.blk b e)⟩⟩
  · rcases g1 i z hz with h | ⟨z0, k1, k2 | ⟨rfl, rfl⟩⟩
    · exact .inl h
    · exact .inr ⟨z0, k1, .inl k2⟩
    · refine .inr ⟨_, k1, .inr fun u hg => ?_⟩
      rw [hg.v_inv]
      cases p with
      | none =>
        rcases hrow.2 with ⟨_, h⟩ | ⟨g, cap, cur, e, _⟩
        · rw [h]; exact .onil hg3 (by simp [loc2])
        · cases e
      | some bc => obtain ⟨b, c⟩ := bc; exact .o hg3 (by simp [loc2]) (by omega)
  · simp only [h3, hget] at hrr
    split at hrr
    · rename_i e
      subst e
      cases hrr
      exact own_rowT hO2.gh hrow
    · cases hrr
  · simp only [h3, hget] at k1 k2
    split at k1
    · split at k2
      · rename_i e1 e2; exact e1.symm.trans e2
      · cases k2
    · cases k1
  · obtain ⟨c, hc⟩ := hl2 b hl
    exact hb.2 (by rw [hc]; rfl)
  · have hi := hO2.gh.inn k d q hd hq
    exact ⟨⟨hi.1.1, fun g hg => ⟨hi.1.2 g hg, hne k d q hd hq _ (.inl rfl) g hg⟩⟩, ⟨hi.2.1, fun g hg => ⟨hi.2.2 g hg, hne k d q hd hq _ (.inr rfl) g hg⟩⟩⟩
  · have h0 := h.mut hR
    refine ⟨h0.os, h0.tape, h0.output, h0.size, h0.keep, fun b hb => ?_, fun b hb => h.fb b hb.1⟩
    obtain ⟨c, hc⟩ := hl2 b hb
    exact h.fb b (hpb b c hc)
theorem G.tupOB {h : Hp} {R n : Nat} {ok : Bool} {v : Value} (hG : G h loc w (.tup [.o R n, .v (.bool ok)]) v) : ∃ v0, v0 = rowVal loc R n ∧ ∀ lv lo W, C lv lo W (.tup [.v v0, .v (.bool ok)]) v := by
  have key : ∀ vs : Array Value, vs.size = 2 → G h loc w (.o R n) (vs.getD 0 undef) → G h loc w (.v (.bool ok)) (vs.getD 1 undef) → ∃ v0, v0 = rowVal loc R n ∧ ∀ lv lo W, C lv lo W (.tup [.v v0, .v (.bool ok)]) (.tuple vs) := fun vs hs h0 h1 => by
    refine ⟨_, rfl, fun lv lo W => .tup vs (by simpa using hs) fun j a ha => ?_⟩
    rcases j with _ | _ | j
    · simp at ha; subst ha; rw [h0.o_val]; exact .v
    · simp at ha; subst ha; rw [h1.v_inv]; exact .v
    · simp at ha
  cases hG with
  | cl hc =>
    cases hc with
    | tup vs hs hg => cases hg 0 _ rfl
  | tup vs hs hg => exact key vs (by simpa using hs) (hg 0 _ rfl) (hg 1 _ rfl)
/-- What is returned: a tree. -/
theorem Rel.toOT (hR : Rel w1 lent1 s loc a w) (hch : Ch w0 w1 lent1) {R : Nat} {bs : List BD} {us : UU} (hr : hget s.h R = some (rowT bs us)) (hgh : Gh w1 lent1.fb bs us) {v : Value} (hv : v = rowVal loc R bs.length) : OT w (fun b => w0.heap.size ≤ b ∧ b < w.heap.size) v bs us := by
  subst hv
  refine ⟨hgh.same (fun b hb => hR.fbk hb) fun b hb => ⟨hch.fb' hb, Nat.lt_of_lt_of_le (hR.fbl b hb).1 hR.size⟩, rowT_own hgh.len (hR.rw R _ hr), fun g hg => ?_⟩
  obtain ⟨c, hc⟩ := vOf_blk (show (vOf (loc R) bs.length).ownBlock = some g from hg)
  refine ⟨?_, Live.lt hR.rw ⟨R, _, c, hr, hc⟩⟩
  rcases hR.own R _ g c hr hc with h4 | h4
  · exact Nat.le_trans hch.size h4
  · exact hch.bk' h4
end
end Go.Proofs.Ytepcabenjikhgaa
/-
  Walks: the marks that the laws write, and read again.
-/
namespace Go.Proofs.Ytepcabenjikhgaa
open Go Go.RowKit Go.Proofs
theorem up_get {α : Type} {m l : List α} {i : Nat} (h : i ≤ m.length) : (m.take i ++ l.drop i)[i]? = l[i]? := by
  rw [List.getElem?_append_right (by simp; omega), List.getElem?_drop, List.length_take, Nat.min_eq_left h]
  congr 1; omega
theorem up_set {α : Type} {m l : List α} {i : Nat} {y : α} (hm : m[i]? = some y) (hl : i < l.length) : (m.take i ++ l.drop i).set i y = m.take (i + 1) ++ l.drop (i + 1) := by
  have h := lt_of_some hm
  rw [List.set_append_right _ _ (by simp; omega), List.length_take, Nat.min_eq_left (by omega), Nat.sub_self, List.take_add_one, hm]
  obtain ⟨x, hx⟩ := get_of_lt hl
  rw [drop_of_get hx]
  simp
attribute [local irreducible] RWp AW run kPe pe Kt effA gd gu br retR RDp runD kPeD brW gW effD
set_option maxRecDepth 100000
end Go.Proofs.Ytepcabenjikhgaa
/-
  Walks: the laws' own helpers at disks: sizes, copies, equalities, what is marked.
-/
namespace Go.Proofs.Ytepcabenjikhgaa
open Go Go.RowKit Go.Proofs
/-- Numbers from k on. -/
def mkZ : Nat → List Int → List Int
  | _, [] => []
  | k, _ :: l => (k : Int) :: mkZ (k + 1) l
theorem mkZ_len : ∀ (l : List Int) (k : Nat), (mkZ k l).length = l.length
  | [], _ => rfl
  | _ :: l, k => by simp [mkZ, mkZ_len l]
theorem mkZ_get : ∀ (l : List Int) (k i : Nat), i < l.length → (mkZ k l)[i]? = some ((k + i : Nat) : Int)
  | [], _, _, h => by simp at h
  | x :: l, k, 0, _ => by simp [mkZ]
  | x :: l, k, i + 1, h => by
    rw [mkZ, List.getElem?_cons_succ, mkZ_get l (k + 1) i (by simpa using h), show k + 1 + i = k + (i + 1) from by omega]
def upZ (k : Nat) (l : List Int) (i : Nat) : List Int := (mkZ k l).take i ++ l.drop i
theorem upZ_len (k : Nat) (l : List Int) (i : Nat) (h : i ≤ l.length) : (upZ k l i).length = l.length := by simp [upZ, mkZ_len]; omega
def mkD1 (k : Nat) (d : BD) : BD := ⟨k, mkZ (k + 1) d.safe, mkZ (k + 1 + d.safe.length) d.fresh⟩
def tot1 (d : BD) : Nat := 1 + d.safe.length + d.fresh.length
/-- A marked disk. -/
def mkB : Nat → List BD → List BD
  | _, [] => []
  | k, d :: l => mkD1 k d :: mkB (k + tot1 d) l
def tot : List BD → Nat
  | [] => 0
  | d :: l => tot1 d + tot l
theorem mkB_len : ∀ (l : List BD) (k : Nat), (mkB k l).length = l.length
  | [], _ => rfl
  | _ :: l, k => by simp [mkB, mkB_len l]
theorem tot_take : ∀ (l : List BD) (i : Nat) (d : BD), l[i]? = some d → tot (l.take (i + 1)) = tot (l.take i) + tot1 d
  | [], i, d, h => by simp at h
  | x :: l, 0, d, h => by simp at h; subst h; simp [tot]
  | x :: l, i + 1, d, h => by
    have := tot_take l i d (by simpa using h)
    simp only [List.take_succ_cons, tot, this]
    omega
theorem tot_le : ∀ (l : List BD) (i : Nat), tot (l.take i) ≤ tot l
  | [], i => by simp
  | x :: l, 0 => by simp [tot]
  | x :: l, i + 1 => by have := tot_le l i; simp only [List.take_succ_cons, tot]; omega
theorem tot_ge : ∀ l : List BD, l.length ≤ tot l
  | [] => Nat.le_refl _
  | d :: l => by have := tot_ge l; simp only [tot, tot1, List.length_cons]; omega
theorem mkB_get : ∀ (l : List BD) (k i : Nat) (d : BD), l[i]? = some d → (mkB k l)[i]? = some (mkD1 (k + tot (l.take i)) d)
  | [], _, _, _, h => by simp at h
  | x :: l, k, 0, d, h => by simp at h; subst h; simp [mkB, tot]
  | x :: l, k, i + 1, d, h => by
    rw [mkB, List.getElem?_cons_succ, mkB_get l (k + tot1 x) i d (by simpa using h), List.take_succ_cons, tot]
    congr 2
    omega
theorem tot_of {l : List BD} {left : Int} (h0 : 0 ≤ left) (h : 0 ≤ szS left (l.map fun d => d.safe.length + d.fresh.length)) : (tot l : Int) ≤ left := by
  have key : ∀ (l : List BD) (r : Int), 0 ≤ r → 0 ≤ szF r (l.map fun d => d.safe.length + d.fresh.length) → (tot l : Int) - l.length ≤ r := fun l => by
    induction l with
    | nil => intro r h1 h2; simpa [tot] using h1
    | cons d l ih =>
      intro r h1 h2
      rw [List.map_cons, szF] at h2
      split at h2
      · omega
      · have := ih _ (by omega) h2
        simp only [tot, tot1, List.length_cons]
        omega
  unfold szS at h
  split at h
  · omega
  · rename_i h1
    rw [List.length_map] at h h1
    have := key l _ (by omega) h
    omega
attribute [local irreducible] RWp AW run kPe pe Kt effA gd gu br retR RDp runD kPeD brW gW effD
set_option maxRecDepth 100000
theorem szIntS_pc (l : List Int) (left : Int) (h0 : 0 ≤ left) (h1 : left ≤ 1048576) (hp : l.length ≤ 9223372036854775807) : PC Try.prog 58 [intsA l, iA left] (vI (sz1 left l.length)) := by
  have w1 := wr (left - (l.length : Int)) (by omega)
  refine pc_enter Try.func58 rfl rfl fun w0 fb => go_on ?_; (try simp only [Try.ntmps58, push_cast, simprocAttr])
  repeat' first | (refine at_b (fun hb => ?_) (fun hb => ?_) <;> simp only [w1, hb, push_cast, simprocAttr]) | (refine at_ret ?_; simp only [w1, Try.results58, push_cast, simprocAttr]) | (show RWp _ _ _ _ _; simp only [w1, push_cast, simprocAttr])
  · have := of_ltI_t hb; rw [w1] at this; simp [vX, sz1, this]
  · have := of_ltI_f hb; rw [w1] at this; simp [vX, sz1]; omega
theorem szBlob_pc (d : BD) (left : Int) (h0 : 0 ≤ left) (h1 : left ≤ 1048576) (hp : d.safe.length ≤ 9223372036854775807) (hq : d.fresh.length ≤ 9223372036854775807) : PC Try.prog 32 [blobA d, iA left] (vI (sz1 left (d.safe.length + d.fresh.length))) := by
  have hA := szIntS_pc d.safe left h0 h1 hp
  unfold blobA bC
  by_cases hz : left - (d.safe.length : Int) < 0
  · have e2 : sz1 left d.safe.length = -1 := by unfold sz1; rw [if_pos hz]
    rw [e2] at hA
    refine pc_enter Try.func32 rfl rfl fun w0 fb => go_on ?_; (try simp only [Try.ntmps32, push_cast, simprocAttr])
    (refine at_call ?_; (try simp only [push_cast, simprocAttr]); refine rwc_v (hA) (go_on ?_); (try simp only [push_cast, simprocAttr]))
    (try simp only [show ltI (-1) 0 = true from rfl, push_cast, simprocAttr])
    refine at_ret ?_; simp only [Try.results32, push_cast, simprocAttr]
    simp only [vX, sz1, and_true]
    rw [if_pos (by omega)]
  · have e2 : sz1 left d.safe.length = left - d.safe.length := by unfold sz1; rw [if_neg hz]
    have e3 : ltI (left - (d.safe.length : Int)) 0 = false := ltI_f (by omega)
    have hB := szIntS_pc d.fresh (left - d.safe.length) (by omega) (by omega) hq
    rw [e2] at hA
    by_cases hz2 : left - (d.safe.length : Int) - (d.fresh.length : Int) < 0
    · have e4 : sz1 (left - d.safe.length) d.fresh.length = -1 := by unfold sz1; rw [if_pos hz2]
      rw [e4] at hB
      refine pc_enter Try.func32 rfl rfl fun w0 fb => go_on ?_; (try simp only [Try.ntmps32, push_cast, simprocAttr])
      (refine at_call ?_; (try simp only [push_cast, simprocAttr]); refine rwc_v (hA) (go_on ?_); (try simp only [push_cast, simprocAttr]))
      (try simp only [e3, push_cast, simprocAttr])
      (refine at_call ?_; (try simp only [push_cast, simprocAttr]); refine rwc_v (hB) (go_on ?_); (try simp only [push_cast, simprocAttr]))
      (try simp only [show ltI (-1) 0 = true from rfl, push_cast, simprocAttr])
      refine at_ret ?_; simp only [Try.results32, push_cast, simprocAttr]
      simp only [vX, sz1, and_true]
      rw [if_pos (by omega)]
    · have e4 : sz1 (left - d.safe.length) d.fresh.length = left - d.safe.length - d.fresh.length := by unfold sz1; rw [if_neg hz2]
      have e5 : ltI (left - (d.safe.length : Int) - (d.fresh.length : Int)) 0 = false := ltI_f (by omega)
      have e6 : left - (d.safe.length : Int) - (d.fresh.length : Int) = left - ((d.safe.length : Int) + (d.fresh.length : Int)) := by omega
      rw [e4] at hB
      refine pc_enter Try.func32 rfl rfl fun w0 fb => go_on ?_; (try simp only [Try.ntmps32, push_cast, simprocAttr])
      (refine at_call ?_; (try simp only [push_cast, simprocAttr]); refine rwc_v (hA) (go_on ?_); (try simp only [push_cast, simprocAttr]))
      (try simp only [e3, push_cast, simprocAttr])
      (refine at_call ?_; (try simp only [push_cast, simprocAttr]); refine rwc_v (hB) (go_on ?_); (try simp only [push_cast, simprocAttr]))
      (try simp only [e5, push_cast, simprocAttr])
      refine at_ret ?_; simp only [Try.results32, push_cast, simprocAttr]
      simp only [vX, sz1, and_true]
      rw [if_neg (by omega), e6]
theorem szBlobS_pc (l : List BD) (left : Int) (h0 : 0 ≤ left) (h1 : left ≤ 1048576) (hl : l.length ≤ 9223372036854775807) (hp : ∀ d ∈ l, d.safe.length ≤ 9223372036854775807 ∧ d.fresh.length ≤ 9223372036854775807) :
    PC Try.prog 11 [blsA l, iA left] (vI (szS left (l.map fun d => d.safe.length + d.fresh.length))) := by
  have w1 := wr (left - (l.length : Int)) (by omega)
  refine pc_enter Try.func11 rfl rfl fun w0 fb => go_on ?_; (try simp only [Try.ntmps11, push_cast, simprocAttr])
  (try simp only [w1, push_cast, simprocAttr])
  refine at_b (fun hb => ?_) (fun hb => ?_)
  · have := of_ltI_t hb
    (try simp only [hb, push_cast, simprocAttr])
    refine at_ret ?_; simp only [Try.results11, push_cast, simprocAttr]
    simp [vX, szS, this]
  · have h2 := of_ltI_f hb
    have e : szS left (l.map fun d => d.safe.length + d.fresh.length) = szF (left - l.length) (l.map fun d => d.safe.length + d.fresh.length) := by unfold szS; rw [if_neg (by simp; omega), List.length_map]
    rw [e]
    (try simp only [hb, push_cast, simprocAttr])
    refine at_loop (X := Nat × Int) (fun x => [(1, iA x.2), (5, iA x.1)]) (fun _ => []) (fun x => x.1 ≤ l.length ∧ 0 ≤ x.2 ∧ x.2 ≤ 1048576 ∧ szF (left - l.length) (l.map fun d => d.safe.length + d.fresh.length) = szF x.2 ((l.drop x.1).map fun d => d.safe.length + d.fresh.length)) (fun x => l.length - x.1) (0, left - l.length) ⟨Nat.zero_le _, h2, by dsimp only; omega, rfl⟩ ?_ ?_
    · (refine wk_ok ?_ ?_ ?_ ?_ <;> simp [leL, leH, idsL, idsA, idsR, inH, hget, sameRow, upA, hvA, dsts, dstO, setA_0, setA_1, setA_8, List.append, List.cons_append, List.nil_append])
    · rintro ⟨k, r⟩ ⟨q1, q2, q3, q4⟩
      simp only at q1 q2 q3 q4
      simp only [upA, hvA, dsts, dstO, setA_0, setA_1, setA_8, List.append, List.cons_append, List.nil_append]
      refine go_on ?_
      (try simp only [push_cast, simprocAttr])
      refine at_b (fun hg => ?_) (fun hg => ?_)
      · have hlt := lt_tt hg
        obtain ⟨x, hk⟩ := get_of_lt hlt
        have i1 := ix_n hk
        have i2 := map_get bC hk
        have hS := szBlob_pc x r q2 q3 (hp x (mem_of_get hk)).1 (hp x (mem_of_get hk)).2
        unfold blobA at hS
        simp only [bC] at i2 hS
        rw [drop_of_get hk, List.map_cons, szF] at q4
        have w2 := wr ((k : Int) + 1) (by omega)
        (try simp only [hg, i1, i2, push_cast, simprocAttr])
        (refine at_call ?_; (try simp only [push_cast, simprocAttr]); refine rwc_v (hS) (go_on ?_); (try simp only [push_cast, simprocAttr]))
        by_cases hz : r - ((x.safe.length + x.fresh.length : Nat) : Int) < 0
        · have e2 : sz1 r ((x.safe.length : Int) + (x.fresh.length : Int)) = -1 := by unfold sz1; rw [if_pos (by push_cast at hz; omega)]
          rw [if_pos hz] at q4
          (try simp only [e2, show ltI (-1) 0 = true from rfl, push_cast, simprocAttr])
          refine at_ret ?_; simp only [Try.results11, push_cast, simprocAttr]
          simp [vX, q4]
        · have e2 : sz1 r ((x.safe.length : Int) + (x.fresh.length : Int)) = r - ((x.safe.length : Int) + (x.fresh.length : Int)) := by unfold sz1; rw [if_neg (by push_cast at hz; omega)]
          have e3 : ltI (r - ((x.safe.length + x.fresh.length : Nat) : Int)) 0 = false := ltI_f (by omega)
          rw [if_neg hz] at q4
          push_cast at e3
          (try simp only [e2, e3, w2, push_cast, simprocAttr])
          refine at_fin ⟨(k + 1, r - (x.safe.length + x.fresh.length : Nat)), ⟨by dsimp only; omega, by dsimp only; omega, by dsimp only; omega, q4⟩, by dsimp only; omega, ?_⟩
          push_cast
          (refine wk_ok ?_ ?_ ?_ ?_ <;> simp [leL, leH, idsL, idsA, idsR, inH, hget, sameRow, upA, hvA, dsts, dstO, setA_0, setA_1, setA_8, List.append, List.cons_append, List.nil_append])
      · have h3 := lt_ff hg
        (try simp only [hg, push_cast, simprocAttr])
        refine at_ret ?_; simp only [Try.results11, push_cast, simprocAttr]
        rw [List.drop_of_length_le (by omega)] at q4
        simp [vX, q4, szF]
theorem eqIntS_pc' (a b : List Int) (hl : a.length < 8589934590) : PC Try.prog 17 [intsA a, intsA b] (vB (decide (a = b))) := by
  refine pc_enter Try.func17 rfl rfl fun w0 fb => go_on ?_; (try simp only [Try.ntmps17, push_cast, simprocAttr])
  refine at_b (fun hb => ?_) (fun hb => ?_)
  · have h1 := of_eqI_f (not_t hb)
    have h2 : a ≠ b := by rintro rfl; exact h1 rfl
    (try simp only [hb, push_cast, simprocAttr])
    refine at_ret ?_; simp only [Try.results17, push_cast, simprocAttr]
    simp [vX, h2]
  · have h1 : a.length = b.length := by have := of_eqI_t (not_f hb); omega
    (try simp only [hb, push_cast, simprocAttr])
    refine at_loop (X := Nat) (fun k => [(5, iA k)]) (fun _ => []) (fun k => k ≤ a.length ∧ decide (a = b) = decide (a.drop k = b.drop k)) (fun k => a.length - k) 0 ⟨Nat.zero_le _, rfl⟩ ?_ ?_
    · (refine wk_ok ?_ ?_ ?_ ?_ <;> simp [leL, leH, idsL, idsA, idsR, inH, hget, sameRow, upA, hvA, dsts, dstO, setA_0, setA_1, setA_8, List.append, List.cons_append, List.nil_append])
    · rintro k ⟨q1, q2⟩
      simp only [upA, hvA, dsts, dstO, setA_0, setA_1, setA_8, List.append, List.cons_append, List.nil_append]
      refine go_on ?_
      (try simp only [push_cast, simprocAttr])
      refine at_b (fun hg => ?_) (fun hg => ?_)
      · have hlt := lt_tt hg
        obtain ⟨x, hx⟩ := get_of_lt hlt
        obtain ⟨y, hy⟩ := get_of_lt (l := b) (k := k) (by omega)
        have i1 := ix_n hx
        have i3 := ix_n hy
        have i2 := map_get inC hx
        have i4 := map_get inC hy
        simp only [inC] at i2 i4
        rw [drop_of_get hx, drop_of_get hy] at q2
        have w2 := wr ((k : Int) + 1) (by omega)
        (try simp only [hg, push_cast, simprocAttr])
        refine at_draw rfl (by kernel_rfl) ?_
        (try simp only [i1, i2, i3, i4, push_cast, simprocAttr])
        refine at_done (by kernel_rfl) (by kernel_rfl) (go_on ?_)
        (try simp only [push_cast, simprocAttr])
        refine at_b (fun hn => ?_) (fun hn => ?_)
        · have hxy : x ≠ y := of_eqI_f (not_t hn)
          (try simp only [hn, push_cast, simprocAttr])
          refine at_ret ?_; simp only [Try.results17, push_cast, simprocAttr]
          simp [vX, q2, hxy]
        · have hxy : x = y := of_eqI_t (not_f hn)
          (try simp only [hn, w2, push_cast, simprocAttr])
          refine at_fin ⟨k + 1, ⟨by omega, ?_⟩, by omega, ?_⟩
          · rw [q2]; simp [hxy]
          · (refine wk_ok ?_ ?_ ?_ ?_ <;> simp [leL, leH, idsL, idsA, idsR, inH, hget, sameRow, upA, hvA, dsts, dstO, setA_0, setA_1, setA_8, List.append, List.cons_append, List.nil_append])
      · have h3 := lt_ff hg
        (try simp only [hg, push_cast, simprocAttr])
        refine at_ret ?_; simp only [Try.results17, push_cast, simprocAttr]
        rw [List.drop_of_length_le (by omega), List.drop_of_length_le (by omega)] at q2
        simp [vX, q2]
theorem bd_ext (a b : BD) : a = b ↔ a.name = b.name ∧ a.safe = b.safe ∧ a.fresh = b.fresh := by
  obtain ⟨a1, a2, a3⟩ := a
  obtain ⟨b1, b2, b3⟩ := b
  simp
theorem eqBlob_pc (a b : BD) (h1 : a.safe.length < 8589934590) (h2 : a.fresh.length < 8589934590) : PC Try.prog 42 [blobA a, blobA b] (vB (decide (a = b))) := by
  have hA := eqIntS_pc' a.safe b.safe h1
  have hB := eqIntS_pc' a.fresh b.fresh h2
  unfold blobA bC
  refine pc_enter Try.func42 rfl rfl fun w0 fb => go_on ?_; (try simp only [Try.ntmps42, push_cast, simprocAttr])
  repeat' first | (refine at_b (fun hb => ?_) (fun hb => ?_) <;> simp only [hb, push_cast, simprocAttr]) | (refine at_ret ?_; simp only [Try.results42, push_cast, simprocAttr]) | (refine at_call ?_; (try simp only [push_cast, simprocAttr]); refine rwc_v (by first | exact hA | exact hB) (go_on ?_); simp only [push_cast, simprocAttr]) | (show RWp _ _ _ _ _; simp only [push_cast, simprocAttr])
  all_goals simp only [Bool.not_eq_true', Bool.not_eq_false', eqI_d, decide_eq_true_eq, decide_eq_false_iff_not] at *
  all_goals simp [vX, bd_ext a b, *]
theorem eqBlobS_pc (a b : List BD) (hl : a.length < 8589934590) (hd : ∀ d ∈ a, d.safe.length < 8589934590 ∧ d.fresh.length < 8589934590) : PC Try.prog 16 [blsA a, blsA b] (vB (decide (a = b))) := by
  refine pc_enter Try.func16 rfl rfl fun w0 fb => go_on ?_; (try simp only [Try.ntmps16, push_cast, simprocAttr])
  refine at_b (fun hb => ?_) (fun hb => ?_)
  · have h1 := of_eqI_f (not_t hb)
    have h2 : a ≠ b := by rintro rfl; exact h1 rfl
    (try simp only [hb, push_cast, simprocAttr])
    refine at_ret ?_; simp only [Try.results16, push_cast, simprocAttr]
    simp [vX, h2]
  · have h1 : a.length = b.length := by have := of_eqI_t (not_f hb); omega
    (try simp only [hb, push_cast, simprocAttr])
    refine at_loop (X := Nat) (fun k => [(5, iA k)]) (fun _ => []) (fun k => k ≤ a.length ∧ decide (a = b) = decide (a.drop k = b.drop k)) (fun k => a.length - k) 0 ⟨Nat.zero_le _, rfl⟩ ?_ ?_
    · (refine wk_ok ?_ ?_ ?_ ?_ <;> simp [leL, leH, idsL, idsA, idsR, inH, hget, sameRow, upA, hvA, dsts, dstO, setA_0, setA_1, setA_8, List.append, List.cons_append, List.nil_append])
    · rintro k ⟨q1, q2⟩
      simp only [upA, hvA, dsts, dstO, setA_0, setA_1, setA_8, List.append, List.cons_append, List.nil_append]
      refine go_on ?_
      (try simp only [push_cast, simprocAttr])
      refine at_b (fun hg => ?_) (fun hg => ?_)
      · have hlt := lt_tt hg
        obtain ⟨x, hx⟩ := get_of_lt hlt
        obtain ⟨y, hy⟩ := get_of_lt (l := b) (k := k) (by omega)
        have i1 := ix_n hx
        have i3 := ix_n hy
        have i2 := map_get bC hx
        have i4 := map_get bC hy
        have hm := hd x (mem_of_get hx)
        have hE := eqBlob_pc x y hm.1 hm.2
        unfold blobA at hE
        simp only [bC] at i2 i4 hE
        rw [drop_of_get hx, drop_of_get hy] at q2
        have w2 := wr ((k : Int) + 1) (by omega)
        (try simp only [hg, push_cast, simprocAttr])
        refine at_draw rfl (by kernel_rfl) ?_
        (try simp only [i1, i2, i3, i4, push_cast, simprocAttr])
        (refine at_callD (by simp [clB, idsL, idsA, hget]) ?_; (try simp only [push_cast, simprocAttr]); refine rcd_v hE ?_; (try simp only [push_cast, simprocAttr]))
        refine at_done (by kernel_rfl) (by kernel_rfl) (go_on ?_)
        (try simp only [push_cast, simprocAttr])
        by_cases hxy : x = y
        · have e1 : decide (x = y) = true := decide_eq_true hxy
          (try simp only [e1, Bool.not_true, w2, push_cast, simprocAttr])
          refine at_fin ⟨k + 1, ⟨by omega, ?_⟩, by omega, ?_⟩
          · rw [q2]; simp [hxy]
          · (refine wk_ok ?_ ?_ ?_ ?_ <;> simp [leL, leH, idsL, idsA, idsR, inH, hget, sameRow, upA, hvA, dsts, dstO, setA_0, setA_1, setA_8, List.append, List.cons_append, List.nil_append])
        · have e1 : decide (x = y) = false := decide_eq_false hxy
          (try simp only [e1, Bool.not_false, push_cast, simprocAttr])
          refine at_ret ?_; simp only [Try.results16, push_cast, simprocAttr]
          simp [vX, q2, hxy]
      · have h3 := lt_ff hg
        (try simp only [hg, push_cast, simprocAttr])
        refine at_ret ?_; simp only [Try.results16, push_cast, simprocAttr]
        rw [List.drop_of_length_le (by omega), List.drop_of_length_le (by omega)] at q2
        simp [vX, q2]
end Go.Proofs.Ytepcabenjikhgaa
/-
  Walks: copies of disks, set aside.
-/
namespace Go.Proofs.Ytepcabenjikhgaa
open Go Go.RowKit Go.Proofs
theorem esT_c {bs : List BD} {us : UU} : ∀ e ∈ esT bs us, e.all isC = true := fun e he => by
  obtain ⟨x, _, rfl⟩ := List.mem_map.1 he
  rfl
theorem esT_len {bs : List BD} {us : UU} (h : us.length = bs.length) : (esT bs us).length = bs.length := by simp only [esT, List.length_map]; exact zip_len h
theorem esT_snoc {bs : List BD} {us : UU} (h : us.length = bs.length) (d : BD) (p : Value × Value) : esT (bs ++ [d]) (us ++ [p]) = esT bs us ++ [[iA d.name, .v p.1, .v p.2]] := by
  unfold esT
  rw [List.zip_append h.symm, List.map_append]
  rfl
theorem set_rel {E0 : List (List AV)} {k : Nat} {z1 z2 : List AV} (hc : ∀ e ∈ E0, e.all isC = true) (hk : k < E0.length) : (E0.set k z2).length = (E0.set k z1).length ∧ ∀ (i : Nat) e, (E0.set k z2)[i]? = some e → ((E0.set k z1)[i]? = some e ∧ e.all isC = true) ∨ ((E0.set k z1)[i]? = some z1 ∧ e = z2) := by
  refine ⟨by simp, fun i e he => ?_⟩
  rw [List.getElem?_set] at he
  rw [List.getElem?_set]
  by_cases e1 : k = i
  · subst e1
    simp only [if_true, hk] at he ⊢
    exact .inr ⟨trivial, (Option.some.inj he).symm⟩
  · rw [if_neg e1] at he ⊢
    exact .inl ⟨he, hc e (List.mem_of_getElem? he)⟩
theorem app_rel {E0 : List (List AV)} {z1 z2 : List AV} (hc : ∀ e ∈ E0, e.all isC = true) : (E0 ++ [z2]).length = (E0 ++ [z1]).length ∧ ∀ (i : Nat) e, (E0 ++ [z2])[i]? = some e → ((E0 ++ [z1])[i]? = some e ∧ e.all isC = true) ∨ ((E0 ++ [z1])[i]? = some z1 ∧ e = z2) := by
  refine ⟨by simp, fun i e he => ?_⟩
  rcases Nat.lt_or_ge i E0.length with h | h
  · rw [List.getElem?_append_left h] at he ⊢
    exact .inl ⟨he, hc e (List.mem_of_getElem? he)⟩
  · rw [List.getElem?_append_right h] at he ⊢
    have : i - E0.length = 0 := by have := lt_of_some he; simp at this; omega
    rw [this] at he ⊢
    exact .inr ⟨rfl, by simp at he; exact he.symm⟩
theorem flU_snoc (us : UU) (p : Value × Value) : flU (us ++ [p]) = flU us ++ [p.1, p.2] := by unfold flU; simp
theorem Gh.mem {w : World} {X : Nat → Prop} {bs : List BD} {us : UU} (h : Gh w X bs us) {v : Value} (hv : v ∈ flU us) {g : Nat} (hg : v.ownBlock = some g) : X g := by
  obtain ⟨p, hp, hv⟩ := List.mem_flatMap.1 hv
  obtain ⟨k, hk, rfl⟩ := List.mem_iff_getElem.1 hp
  have hd := List.getElem?_eq_getElem (show k < bs.length by have := h.len; omega)
  have := h.inn k _ _ hd (List.getElem?_eq_getElem hk)
  simp only [List.mem_cons, List.not_mem_nil, or_false] at hv
  rcases hv with rfl | rfl
  · exact this.1.2 g hg
  · exact this.2.2 g hg
theorem Gh.nil {w : World} {X : Nat → Prop} : Gh w X [] [] := ⟨rfl, fun k d p h => by simp at h, List.Pairwise.nil⟩
theorem Gh.snoc {w1 w : World} {X X' : Nat → Prop} {bs : List BD} {us : UU} {d : BD} {u1 u2 : Value} (h : Gh w1 X bs us) (hs : ∀ b, X b → w.heap[b]? = w1.heap[b]?) (hx : ∀ b, X b → X' b) (o1 : OwI w X' u1 d.safe) (o2 : OwI w X' u2 d.fresh)
    (hap : ∀ g, u1.ownBlock = some g → u2.ownBlock ≠ some g) (n1 : ∀ g, u1.ownBlock = some g → ¬ X g) (n2 : ∀ g, u2.ownBlock = some g → ¬ X g) : Gh w X' (bs ++ [d]) (us ++ [(u1, u2)]) := by
  refine ⟨by simp [h.len], fun k e p h1 h2 => ?_, ?_⟩
  · rcases Nat.lt_or_ge k bs.length with hk | hk
    · rw [List.getElem?_append_left hk] at h1
      rw [List.getElem?_append_left (by have := h.len; omega)] at h2
      have := h.inn k e p h1 h2
      exact ⟨this.1.same hs hx, this.2.same hs hx⟩
    · rw [List.getElem?_append_right hk] at h1
      rw [List.getElem?_append_right (by have := h.len; omega), h.len] at h2
      have : k - bs.length = 0 := by have := lt_of_some h1; simp at this; omega
      rw [this] at h1 h2
      simp at h1 h2
      subst h1; subst h2
      exact ⟨o1, o2⟩
  · rw [flU_snoc, List.pairwise_append]
    refine ⟨h.apart, ?_, fun a ha b hb g hg => ?_⟩
    · simp only [List.pairwise_cons, List.mem_cons, List.not_mem_nil, or_false]
      exact ⟨fun a ha => by subst ha; exact hap, ⟨fun _ h => h.elim, List.Pairwise.nil⟩⟩
    · have hX := h.mem ha hg
      simp only [List.mem_cons, List.not_mem_nil, or_false] at hb
      rcases hb with rfl | rfl
      · exact fun e => n1 g e hX
      · exact fun e => n2 g e hX
def otD (bs : List BD) (w : World) (X : Nat → Prop) (x : AV) : Prop := ∃ u us, x = .v u ∧ OT w X u bs us
def otB (bs : List BD) (ok : Bool) (w : World) (X : Nat → Prop) (x : AV) : Prop := ∃ u us, x = .tup [.v u, bA ok] ∧ OT w X u bs us
theorem flat_z (a b : List Int) : FlatR [rowZ a, rowZ b] := fun row h e he x hx => by
  simp only [List.mem_cons, List.not_mem_nil, or_false] at h
  rcases h with rfl | rfl
  · obtain ⟨n, _, rfl⟩ := List.mem_map.1 he; simp [inC] at hx; subst hx; rfl
  · obtain ⟨n, _, rfl⟩ := List.mem_map.1 he; simp [inC] at hx; subst hx; rfl
attribute [local irreducible] RWp AW run kPe pe Kt effA gd gu br retR RDp runD kPeD brW gW effD
set_option maxRecDepth 100000
theorem toIntS_pc (l : List Int) (hl : l.length ≤ 1048576) : PC Try.prog 14 [intsA l] (rX (.o 0 l.length) [rowZ l]) := by
  refine pc_enter Try.func14 rfl rfl fun w0 fb => go_on ?_; (try simp only [Try.ntmps14, push_cast, simprocAttr])
  refine at_chk ⟨by omega, by omega⟩ ?_
  refine at_loop (X := Nat) (fun k => [(4, iA k)]) (fun k => [(2, rowZ []), (7, ⟨3, 1, (l.take k).map inC ++ List.replicate (l.length - k) [iA 0], true⟩)]) (fun k => k ≤ l.length) (fun k => l.length - k) 0 (Nat.zero_le _) ?_ ?_
  · (refine wk_ok ?_ ?_ ?_ ?_ <;> simp [leL, leH, idsL, idsA, idsR, inH, hget, sameRow, upA, hvA, dsts, dstO, setA_0, setA_1, setA_8, List.append, List.cons_append, List.nil_append])
  · intro k h1
    simp only [upA, hvA, dsts, dstO, setA_0, setA_1, setA_8, List.append, List.cons_append, List.nil_append]
    refine go_on ?_
    (try simp only [push_cast, simprocAttr])
    refine at_b (fun hg => ?_) (fun hg => ?_)
    · have hlt := lt_tt hg
      obtain ⟨x, hk⟩ := get_of_lt hlt
      have i1 := ix_n hk
      have i2 := map_get inC hk
      simp only [inC] at i2
      have w2 := wr ((k : Int) + 1) (by omega)
      obtain ⟨es, hes⟩ : ∃ es, es = (l.take k).map inC ++ List.replicate (l.length - k) [iA 0] := ⟨_, rfl⟩
      have hlen : ((l.take k).map inC).length = k := by rw [List.length_map, List.length_take]; omega
      have i3 : es[k]? = some [iA 0] := by rw [hes, List.getElem?_append_right (by omega), hlen, Nat.sub_self, List.getElem?_replicate, if_pos (by omega)]
      have hset : es.set k [iA x] = (l.take (k + 1)).map inC ++ List.replicate (l.length - (k + 1)) [iA 0] := by
        rw [hes, List.set_append_right _ _ (by omega), hlen, Nat.sub_self, List.take_add_one, hk, show l.length - k = (l.length - (k + 1)) + 1 by omega, List.replicate_succ, List.set_cons_zero]
        simp [inC]
      rw [← hes]
      (try simp only [hg, i1, i2, i3, List.length_replicate, w2, push_cast, simprocAttr])
      refine at_fin ⟨k + 1, by omega, by omega, ?_⟩
      rw [hset]
      (refine wk_ok ?_ ?_ ?_ ?_ <;> simp [leL, leH, idsL, idsA, idsR, inH, hget, sameRow, upA, hvA, dsts, dstO, setA_0, setA_1, setA_8, List.append, List.cons_append, List.nil_append])
    · have h3 := lt_ff hg
      have hk : k = l.length := by omega
      subst hk
      (try simp only [hg, push_cast, simprocAttr])
      refine at_ret ?_; simp only [Try.results14, push_cast, simprocAttr]
      simp [rX, ixOf]
theorem toBlob_pc (d : BD) (h1 : d.safe.length ≤ 1048576) (h2 : d.fresh.length ≤ 1048576) : PC Try.prog 35 [blobA d] (rX (.agg [iA d.name, .o 0 d.safe.length, .o 1 d.fresh.length]) [rowZ d.safe, rowZ d.fresh]) := by
  have hA := toIntS_pc d.safe h1
  have hB := toIntS_pc d.fresh h2
  unfold blobA bC
  refine pc_enter Try.func35 rfl rfl fun w0 fb => go_on ?_; (try simp only [Try.ntmps35, push_cast, simprocAttr])
  (refine at_call ?_; (try simp only [push_cast, simprocAttr]); refine rwc_r (hA) rfl (flat_i _) (by simp [frB, baseOf]) (go_on ?_); (try simp only [push_cast, simprocAttr]))
  (refine at_call ?_; (try simp only [push_cast, simprocAttr]); refine rwc_r (hB) rfl (flat_i _) (by simp [frB, baseOf]) (go_on ?_); (try simp only [push_cast, simprocAttr]))
  refine at_ret ?_; simp only [Try.results35, push_cast, simprocAttr]
  simp [rX, ixOf]
/-- Disks that are not too great. -/
structure SzB (bs : List BD) : Prop where
  n : bs.length ≤ 1048576
  d : ∀ d ∈ bs, d.safe.length ≤ 1048576 ∧ d.fresh.length ≤ 1048576
abbrev zBC : List AV := [iA 0, .v (.slice none 0 0), .v (.slice none 0 0)]
theorem toBlobS_o (bs : List BD) (hs : SzB bs) : PO Try.prog 13 [blsA bs] (otD bs) := by
  have hn := hs.n
  refine po_enter Try.func13 rfl rfl fun w0 => go_on ?_; (try simp only [Try.ntmps13, push_cast, simprocAttr])
  refine at_chk ⟨by omega, by omega⟩ ?_
  refine at_loopR (X := Nat × UU) (fun x => [(2, .any), (4, iA x.1)]) (fun x => [(7, ⟨55, 3, esT (bs.take x.1) x.2 ++ List.replicate (bs.length - x.1) zBC, true⟩)]) (fun x w lent => x.1 ≤ bs.length ∧ Ch w0 w lent ∧ Gh w lent.fb (bs.take x.1) x.2) (fun x => bs.length - x.1) rfl (from_wk (0, []) ⟨Nat.zero_le _, Ch.refl w0, by simpa using Gh.nil⟩ ?_) ?_
  · (refine wk_ok ?_ ?_ ?_ ?_ <;> simp [esT, leL, leH, idsL, idsA, idsR, inH, hget, sameRow, upA, hvA, dsts, dstO, setA_0, setA_1, setA_8, List.append, List.cons_append, List.nil_append])
  · rintro ⟨k, us⟩ w2 lent2 ⟨h1, hch, hgh⟩
    dsimp only at h1 hgh
    simp only [upA, hvA, dsts, dstO, setA_0, setA_1, setA_8, List.append, List.cons_append, List.nil_append]
    refine go_on ?_
    (try simp only [push_cast, simprocAttr])
    refine at_b (fun hg => ?_) (fun hg => ?_)
    · have hlt := lt_tt hg
      obtain ⟨x, hk⟩ := get_of_lt hlt
      have i1 := ix_n hk
      have i2 := map_get bC hk
      have hT := toBlob_pc x (hs.d x (mem_of_get hk)).1 (hs.d x (mem_of_get hk)).2
      unfold blobA at hT
      simp only [bC] at i2 hT
      have w2' := wr ((k : Int) + 1) (by omega)
      have htk : bs.take (k + 1) = bs.take k ++ [x] := by rw [List.take_add_one, hk]; rfl
      have hel := esT_len hgh.len
      rw [List.length_take, Nat.min_eq_left h1] at hel
      obtain ⟨es, hes⟩ : ∃ es, es = esT (bs.take k) us ++ List.replicate (bs.length - k) zBC := ⟨_, rfl⟩
      have i3 : es[k]? = some zBC := by rw [hes, List.getElem?_append_right (by omega), hel, Nat.sub_self, List.getElem?_replicate, if_pos (by omega)]
      have hce : ∀ e ∈ es, e.all isC = true := fun e he => by
        rw [hes, List.mem_append] at he
        rcases he with he | he
        · exact esT_c e he
        · rw [(List.mem_replicate.1 he).2]; rfl
      have hset : ∀ u1 u2, es.set k [iA x.name, .v u1, .v u2] = esT (bs.take (k + 1)) (us ++ [(u1, u2)]) ++ List.replicate (bs.length - (k + 1)) zBC := fun u1 u2 => by
        rw [htk, esT_snoc (by rw [hgh.len]), hes, List.set_append_right _ _ (by omega), hel, Nat.sub_self, show bs.length - k = (bs.length - (k + 1)) + 1 by omega, List.replicate_succ, List.set_cons_zero]
        simp
      rw [← hes]
      (try simp only [hg, i1, i2, push_cast, simprocAttr])
      (refine at_call ?_; (try simp only [push_cast, simprocAttr]); refine rwc_r (hT) (by simp [flatV, flatL]) (flat_z _ _) (by simp [frB, baseOf]) (go_on ?_); (try simp only [push_cast, simprocAttr]))
      (try simp only [List.length_replicate, i1, i3, w2', push_cast, simprocAttr])
      refine at_fin fun loc a w hR => ?_
      have hkl : k < es.length := lt_of_some i3
      obtain ⟨u1, u2, lent3, loc3, hR3, o1, o2, hap, n1, n2, hsub, hkp, hch3, _⟩ := hR.unlink (R := 7) (x := .o 21000 x.safe.length) (y := .o 21001 x.fresh.length) (nm := x.name) rfl rfl rfl (.o rfl) (.o rfl) (by simp [idsA]) (by simp [idsA]) (by simp [idsA])
        (fun u1 u2 => es.set k [iA x.name, .v u1, .v u2]) (fun u1 u2 => set_rel hce hkl)
      rw [hset] at hR3
      refine from_wk2 hR3 (k + 1, us ++ [(u1, u2)]) ⟨by dsimp only; omega, hch3 _ _ hch, ?_⟩ (by dsimp only; omega) ?_
      · dsimp only
        rw [htk]
        exact hgh.snoc hkp hsub o1 o2 hap n1 n2
      · (refine wk_ok ?_ ?_ ?_ ?_ <;> simp [clS, isC, leL, leH, idsL, idsA, idsR, inH, hget, sameRow, upA, hvA, dsts, dstO, setA_0, setA_1, setA_8, List.append, List.cons_append, List.nil_append])
    · have h3 := lt_ff hg
      have hk : k = bs.length := by omega
      subst hk
      rw [List.take_length] at hgh
      (try simp only [hg, List.take_length, Nat.sub_self, List.replicate_zero, List.append_nil, List.length_replicate, push_cast, simprocAttr])
      (refine at_retO hch (l := [.o 7 bs.length]) (by simp only [Try.results13, push_cast, simprocAttr]) ?_)
      exact fun loc a w v hR hG => ⟨.v v, fun _ _ _ => .v, v, us, rfl, hR.toOT hch rfl hgh hG.o_val⟩
end Go.Proofs.Ytepcabenjikhgaa
/-
  Walks: cloneDisk, set aside; marks read again.
-/
namespace Go.Proofs.Ytepcabenjikhgaa
open Go Go.RowKit Go.Proofs
theorem C.vEq {lv : Nat → Prop} {lo : Nat} {w : World} {x u : Value} (h : C lv lo w (.v x) u) : u = x := by
  cases h
  rfl
theorem esT_kill (r : Nat) (bs : List BD) (us : UU) : (esT bs us).map (fun x => x.map (killA r)) = esT bs us := by
  unfold esT
  rw [List.map_map]
  congr 1
  funext x
  simp [cellV, killA]
theorem PO.d {P : Program} {f : FuncId} {args : List AV} {bs : List BD} (h : PO P f args (otD bs)) : PC P f args (vX (blsA bs)) := by
  refine ⟨h.1, fun w fb vs h1 h2 h3 => (h.2 w vs h2 fun j x hx => (h3 j x hx).mono (Nat.le_refl _) (Nat.le_refl _) fun b _ _ _ => ⟨fun h => h, rfl⟩).mono ?_⟩
  rintro e w' ⟨x, v, rfl, hc, hb, u, us, rfl, hO⟩
  have hv : v = u := (hc (fun _ => False) 0 w').vEq
  subst hv
  exact ⟨_, [], v, ⟨rfl, rfl⟩, rfl, hb, ⟨fun _ => none, fb⟩, rfl, .cl (hO.c fun b hb' hl => by
    rcases hl with ⟨r, row, c, h, _⟩ | h
    · cases h
    · have := h1 b h; have := hb'.1; omega), fun r row hr => (by cases hr), fun r r' row row' b c c' hr => (by cases hr), fun r row b c hr => (by cases hr)⟩
theorem PO.db {P : Program} {f : FuncId} {args : List AV} {bs : List BD} {ok : Bool} (h : PO P f args (otB bs ok)) : PC P f args (vX (.tup [blsA bs, bA ok])) := by
  refine ⟨h.1, fun w fb vs h1 h2 h3 => (h.2 w vs h2 fun j x hx => (h3 j x hx).mono (Nat.le_refl _) (Nat.le_refl _) fun b _ _ _ => ⟨fun h => h, rfl⟩).mono ?_⟩
  rintro e w' ⟨x, v, rfl, hc, hb, u, us, rfl, hO⟩
  have hC := hc (fun b => fb b) 0 w'
  have hl : ∀ b, w.heap.size ≤ b ∧ b < w'.heap.size → ¬ Live [] ⟨fun _ => none, fb⟩ b := fun b hb' hl => by
    rcases hl with ⟨r, row, c, h, _⟩ | h
    · cases h
    · have := h1 b h; have := hb'.1; omega
  cases hC with
  | tup vs' hs hg =>
    refine ⟨_, [], _, ⟨rfl, rfl⟩, rfl, hb, ⟨fun _ => none, fb⟩, rfl, .cl (.tup vs' (by simpa using hs) fun j a ha => ?_), fun r row hr => (by cases hr), fun r r' row row' b c c' hr => (by cases hr), fun r row b c hr => (by cases hr)⟩
    rcases j with _ | _ | j
    · simp at ha; subst ha
      have := (hg 0 _ rfl).vEq
      rw [this]
      exact hO.c hl
    · simp at ha; subst ha
      have := (hg 1 _ rfl).vEq
      rw [this]
      exact .v
    · simp at ha
attribute [local irreducible] RWp AW run kPe pe Kt effA gd gu br retR RDp runD kPeD brW gW effD
set_option maxRecDepth 100000
theorem toBlobS_d (bs : List BD) (hs : SzB bs) : PC Try.prog 13 [blsA bs] (vX (blsA bs)) := (toBlobS_o bs hs).d
theorem cloneDisk_o (bs : List BD) (hs : SmB bs) : PO Try.prog 40 [blsA bs] (otD bs) := by
  have hn := hs.n
  refine po_enter Try.func40 rfl rfl fun w0 => go_on ?_; (try simp only [Try.ntmps40, push_cast, simprocAttr])
  refine at_loopR (X := Nat × UU) (fun x => [(2, .any), (3, .o 3 x.1), (8, iA x.1)]) (fun x => [(3, ⟨55, 3, esT (bs.take x.1) x.2, true⟩)]) (fun x w lent => x.1 ≤ bs.length ∧ Ch w0 w lent ∧ Gh w lent.fb (bs.take x.1) x.2) (fun x => bs.length - x.1) rfl (from_wk (0, []) ⟨Nat.zero_le _, Ch.refl w0, by simpa using Gh.nil⟩ ?_) ?_
  · (refine wk_ok ?_ ?_ ?_ ?_ <;> simp [esT, leL, leH, idsL, idsA, idsR, inH, hget, sameRow, upA, hvA, dsts, dstO, setA_0, setA_1, setA_8, List.append, List.cons_append, List.nil_append])
  · rintro ⟨k, us⟩ w2 lent2 ⟨h1, hch, hgh⟩
    dsimp only at h1 hgh
    simp only [upA, hvA, dsts, dstO, setA_0, setA_1, setA_8, List.append, List.cons_append, List.nil_append]
    refine go_on ?_
    (try simp only [push_cast, simprocAttr])
    refine at_b (fun hg => ?_) (fun hg => ?_)
    · have hlt := lt_tt hg
      obtain ⟨x, hk⟩ := get_of_lt hlt
      have i1 := ix_n hk
      have i2 := map_get bC hk
      have hT := blobClone_pc x (hs.d x (mem_of_get hk))
      unfold blobA at hT
      simp only [bC] at i2 hT
      have w2' := wr ((k : Int) + 1) (by omega)
      have htk : bs.take (k + 1) = bs.take k ++ [x] := by rw [List.take_add_one, hk]; rfl
      have hel := esT_len hgh.len
      rw [List.length_take, Nat.min_eq_left h1] at hel
      obtain ⟨es, hes⟩ : ∃ es, es = esT (bs.take k) us := ⟨_, rfl⟩
      rw [← hes] at hel
      have hce : ∀ e ∈ es, e.all isC = true := fun e he => by rw [hes] at he; exact esT_c e he
      have hset : ∀ u1 u2, es ++ [[iA x.name, .v u1, .v u2]] = esT (bs.take (k + 1)) (us ++ [(u1, u2)]) := fun u1 u2 => by
        rw [htk, esT_snoc (by rw [hgh.len]), hes]
      rw [← hes]
      (try simp only [hg, i1, i2, push_cast, simprocAttr])
      (refine at_call ?_; (try simp only [push_cast, simprocAttr]); refine rwc_r (hT) (by simp [flatV, flatL]) (flat_z _ _) (by simp [frB, baseOf]) (go_on ?_); (try simp only [push_cast, simprocAttr]))
      refine at_chk (by omega) ?_
      (try simp only [w2', List.take_of_length_le (Nat.le_of_eq hel), push_cast, simprocAttr])
      have hkill : List.map (fun x => List.map (killA 3) x) (es ++ [[iA x.name, .o 15000 x.safe.length, .o 15001 x.fresh.length]]) = es ++ [[iA x.name, .o 15000 x.safe.length, .o 15001 x.fresh.length]] := by
        rw [List.map_append, hes, esT_kill]
        simp [killA]
      rw [hkill]
      refine at_fin fun loc a w hR => ?_
      obtain ⟨u1, u2, lent3, loc3, hR3, o1, o2, hap, n1, n2, hsub, hkp, hch3, _⟩ := hR.unlink (R := 3) (x := .o 15000 x.safe.length) (y := .o 15001 x.fresh.length) (nm := x.name) rfl rfl rfl (.o rfl) (.o rfl) (by simp [idsA]) (by simp [idsA]) (by simp [idsA])
        (fun u1 u2 => es ++ [[iA x.name, .v u1, .v u2]]) (fun u1 u2 => app_rel hce)
      rw [hset] at hR3
      refine from_wk2 hR3 (k + 1, us ++ [(u1, u2)]) ⟨by dsimp only; omega, hch3 _ _ hch, ?_⟩ (by dsimp only; omega) ?_
      · dsimp only
        rw [htk]
        exact hgh.snoc hkp hsub o1 o2 hap n1 n2
      · (refine wk_ok ?_ ?_ ?_ ?_ <;> simp [clS, isC, leL, leH, idsL, idsA, idsR, inH, hget, sameRow, upA, hvA, dsts, dstO, setA_0, setA_1, setA_8, List.append, List.cons_append, List.nil_append])
    · have h3 := lt_ff hg
      have hk : k = bs.length := by omega
      subst hk
      rw [List.take_length] at hgh
      (try simp only [hg, List.take_length, push_cast, simprocAttr])
      (refine at_retO hch (l := [.o 3 bs.length]) (by simp only [Try.results40, push_cast, simprocAttr]) ?_)
      exact fun loc a w v hR hG => ⟨.v v, fun _ _ _ => .v, v, us, rfl, hR.toOT hch rfl hgh hG.o_val⟩
end Go.Proofs.Ytepcabenjikhgaa
/-
  Walks: marks of disks: written into what is set aside, and read again.
-/
namespace Go.Proofs.Ytepcabenjikhgaa
open Go Go.RowKit Go.Proofs
def markZD (n : Nat) (l' : Row) (rv : AV) (lr' rows : List Row) : Prop := rv = iA n ∧ lr' = [l'] ∧ rows = []
section
variable {P : Program} {w0 w1 : World} {lent1 : Lent} {s : AS} {loc : Loc} {a : Act} {w : World}
theorem at_retW {fn : Func} {Post : Ending → World → Prop} {l : List AV} (hl : resL P s fn.results.toList = some l) (h : ∀ loc a w v, Rel w1 lent1 s loc a w → G s.h loc w (retV l) v → Post (.returned v) w) : RWp P w1 lent1 (bodyPost P fn Post) (.ret s) := fun loc a w hR => by
  obtain ⟨v, h1, h2⟩ := retV_ok hR hl
  exact ⟨hR.df, v, h1, h loc a w v hR h2⟩
theorem Rel.cls (hR : Rel w1 lent1 s loc a w) (R : Nat) : Rel w1 lent1 ⟨s.t.map (clS R), s.h⟩ loc a w := by
  refine ⟨by simpa using hR.tsz, fun i y hy => ?_, hR.df, hR.rw, hR.inj, hR.own, hR.os, hR.tape, hR.output, hR.size, hR.keep, hR.fbe, hR.fbl, hR.pn, hR.pl⟩
  simp only [List.getElem?_map, Option.map_eq_some_iff] at hy
  obtain ⟨x, hx, rfl⟩ := hy
  have := hR.tm i x hx
  unfold clS
  split
  · split
    · exact this
    · exact .cl .any
  · split
    · exact this
    · exact .cl .any
theorem wk_t {h : Hp} {t t2 : List AV} (hl : leL t t2) : Wk ⟨t, h⟩ ⟨t2, h⟩ := fun w0 lent loc a w hR => by
  obtain ⟨g1, g2⟩ := leL_get hl
  refine ⟨loc, hR.tsz.trans g1, fun i y hy => ?_, hR.df, hR.rw, hR.inj, hR.own, hR.os, hR.tape, hR.output, hR.size, hR.keep, hR.fbe, hR.fbl, hR.pn, hR.pl⟩
  rcases g2 i y hy with rfl | h
  · exact .cl .any
  · exact hR.tm i y h
theorem apart_ne {us : UU} (h : (flU us).Pairwise fun a b => ∀ g, a.ownBlock = some g → b.ownBlock ≠ some g) {i j : Nat} {p q : Value × Value} (hi : us[i]? = some p) (hj : us[j]? = some q) (hne : i ≠ j) {v v' : Value} (hv : v = p.1 ∨ v = p.2) (hv' : v' = q.1 ∨ v' = q.2) : ∀ g, v.ownBlock = some g → v'.ownBlock ≠ some g := by
  have key : ∀ (i : Nat) (p : Value × Value), us[i]? = some p → ∀ v, (v = p.1 ∨ v = p.2) → ∃ c, c < 2 ∧ (flU us)[i * 2 + c]? = some v := fun i p hi v hv => by
    have f := fun c hc => flatMap_get (fun p : Value × Value => [p.1, p.2]) 2 (fun _ => rfl) us i c p hi hc
    rcases hv with rfl | rfl
    · exact ⟨0, by omega, f 0 (by omega)⟩
    · exact ⟨1, by omega, f 1 (by omega)⟩
  obtain ⟨c, hc, h1⟩ := key i p hi v hv
  obtain ⟨d, hd, h2⟩ := key j q hj v' hv'
  rw [List.pairwise_iff_getElem] at h
  have l1 := lt_of_some h1
  have l2 := lt_of_some h2
  rw [List.getElem?_eq_getElem l1] at h1
  rw [List.getElem?_eq_getElem l2] at h2
  cases h1
  cases h2
  intro g e1 e2
  rcases Nat.lt_or_ge (i * 2 + c) (j * 2 + d) with h3 | h3
  · exact h _ _ l1 l2 h3 g e1 e2
  · exact h _ _ l2 l1 (by omega) g e2 e1
/-- A function that is handed a tree set aside and writes it. -/
theorem pm_enter {f : FuncId} {fn : Func} {c : Code} {Post : Ending → World → Prop} {X : Nat → Prop} {u v2 : Value} {bs : List BD} {us : UU} (hf : P.funcs[f]? = some fn) (hb : fn.body = some c) (hO : OT w X u bs us)
    (h : ∀ lent1, ChX X w w lent1 → Gh w lent1.fb bs us → (∃ p, lent1.pin 500000 = some p ∧ u = vOf p bs.length) → AW P w lent1 (bodyPost P fn Post) [.code c] ⟨[.o 500000 bs.length, .v v2] ++ List.replicate (fn.ntmps - 2) .any, [(500000, rowT bs us)]⟩) : Calls P f #[u, v2] w Post := by
  obtain ⟨p, hp⟩ := own_vOf hO.row
  refine calls_of_wp hf hb ?_
  let fb : Nat → Prop := fun b => ∃ v ∈ flU us, v.ownBlock = some b
  let loc1 : Loc := ⟨fun q => if q = 500000 then p else none, fb⟩
  let lent1 : Lent := ⟨fun b => ∃ c, p = some (b, c), fb, fun q => if q = 500000 then some p else none⟩
  have hgh : Gh w fb bs us := ⟨hO.gh.len, fun k d q hd hq => by
    have := hO.gh.inn k d q hd hq
    have hm : q ∈ us := List.mem_of_getElem? hq
    exact ⟨⟨this.1.1, fun g hg => ⟨q.1, List.mem_flatMap.2 ⟨q, hm, by simp⟩, hg⟩⟩, ⟨this.2.1, fun g hg => ⟨q.2, List.mem_flatMap.2 ⟨q, hm, by simp⟩, hg⟩⟩⟩, hO.gh.apart⟩
  have hfbX : ∀ b, fb b → X b := fun b ⟨v, hv, hg⟩ => hO.gh.mem hv hg
  have hown : ∀ v ∈ flU us, ∃ n xs, w.ownsRow 0 3 1 v n xs := fun v hv => by
    obtain ⟨q, hq, hv⟩ := List.mem_flatMap.1 hv
    obtain ⟨k, hk, rfl⟩ := List.mem_iff_getElem.1 hq
    have := hO.gh.inn k _ _ (List.getElem?_eq_getElem (show k < bs.length by have := hO.gh.len; omega)) (List.getElem?_eq_getElem hk)
    simp only [List.mem_cons, List.not_mem_nil, or_false] at hv
    rcases hv with rfl | rfl
    · exact ⟨_, _, this.1.1⟩
    · exact ⟨_, _, this.2.1⟩
  have hpX : ∀ b c, p = some (b, c) → X b := fun b c e => hO.blk b (by rw [hp, e]; rfl)
  have hpf : ∀ b c, p = some (b, c) → ¬ fb b := fun b c e ⟨v, hv, hg⟩ => by
    obtain ⟨n, xs, h4⟩ := hown v hv
    rcases h4.2 with ⟨rfl, _⟩ | ⟨g1, cap, cur, rfl, _, e1, _⟩
    · cases hg
    · simp only [Value.ownBlock, Option.some.injEq] at hg
      subst hg
      rcases hO.row.2 with ⟨e2, _⟩ | ⟨g2, cap2, cur2, e2, _, e3, _⟩
      · rw [hp, e] at e2; cases e2
      · rw [hp, e] at e2
        cases e2
        rw [e1] at e3
        cases e3
  have hlt : ∀ b, fb b → b < w.heap.size := fun b ⟨v, hv, hg⟩ => by
    obtain ⟨n, xs, h4⟩ := hown v hv
    exact own_lt h4 hg
  have hg3 : hget [(500000, rowT bs us)] 500000 = some (rowT bs us) := rfl
  have hcs : ∀ q row, hget [(500000, rowT bs us)] q = some row → q = 500000 ∧ row = rowT bs us := fun q row k1 => by
    simp only [hget] at k1
    split at k1
    · rename_i e; cases k1; exact ⟨e.symm, rfl⟩
    · cases k1
  have hes : (rowT bs us).es.length = bs.length := by simp only [rowT, esT, List.length_map]; exact zip_len hO.gh.len
  refine h lent1 ⟨rfl, rfl, rfl, Nat.le_refl _, fun _ _ _ => rfl, fun b ⟨c, hc⟩ => .inl (hpX b c hc), fun b hb => .inl (hfbX b hb)⟩ hgh ⟨p, by simp [lent1], hp⟩ loc1 _ w ⟨?_, fun i x hx => ?_, rfl, fun r row hr => ?_, fun r r' row row' b c c' h1 h2 h3 h4 => ?_, fun r row b c h1 h2 => ?_, rfl, rfl, rfl, Nat.le_refl _, fun _ _ _ => rfl, rfl, fun b hb => ⟨hlt b hb, fun ⟨c, hc⟩ => hpf b c hc hb⟩, fun r q hq => ?_, fun r q hq => ?_⟩
  · simp
    omega
  · rcases i with _ | _ | i
    · simp at hx; subst hx
      have e : (#[u, v2] ++ Array.replicate (fn.ntmps - (#[u, v2] : Array Value).size) undef).getD 0 undef = u := by simp [Array.getD_eq_getD_getElem?, Array.getElem?_append]
      rw [e, hp]
      cases p with
      | none =>
        rcases hO.row.2 with ⟨_, h0⟩ | ⟨g, cap, cur, e, _⟩
        · rw [h0]; exact .onil hg3 (by simp [loc1])
        · rw [hp] at e; cases e
      | some bc => obtain ⟨b, c⟩ := bc; exact .o hg3 (by simp [loc1]) (by omega)
    · simp at hx; subst hx
      have e : (#[u, v2] ++ Array.replicate (fn.ntmps - (#[u, v2] : Array Value).size) undef).getD 1 undef = v2 := by simp [Array.getD_eq_getD_getElem?, Array.getElem?_append]
      rw [e]
      exact .cl .v
    · simp [List.getElem?_replicate] at hx
      rw [← hx.2]
      exact .cl .any
  · obtain ⟨rfl, rfl⟩ := hcs r row hr
    refine own_rowT hgh ?_
    have : rowVal loc1 500000 bs.length = u := by rw [hp]; show vOf (if 500000 = 500000 then p else none) bs.length = _; rw [if_pos rfl]
    rw [this]; exact hO.row
  · obtain ⟨rfl, rfl⟩ := hcs r row h1
    obtain ⟨rfl, rfl⟩ := hcs r' row' h2
    rfl
  · obtain ⟨rfl, rfl⟩ := hcs r row h1
    exact .inr ⟨c, by simpa [loc1] using h2⟩
  · simp only [lent1] at hq
    split at hq
    · rename_i e; cases hq; simp [loc1, e]
    · cases hq
  · simp only [lent1] at hq
    split at hq
    · rename_i e; omega
    · cases hq
end
def bsU (k : Nat) (bs : List BD) (i : Nat) : List BD := (mkB k bs).take i ++ bs.drop i
theorem bsU_len (k : Nat) (bs : List BD) (i : Nat) (h : i ≤ bs.length) : (bsU k bs i).length = bs.length := by simp [bsU, mkB_len]; omega
theorem bsU_at {k i : Nat} {bs : List BD} {d : BD} (hd : bs[i]? = some d) : (bsU k bs i)[i]? = some d := by
  have hi := lt_of_some hd
  unfold bsU
  rw [up_get (by rw [mkB_len]; omega)]; exact hd
theorem bsU_set {k i : Nat} {bs : List BD} {d : BD} (hd : bs[i]? = some d) : (bsU k bs i).set i (mkD1 (k + tot (bs.take i)) d) = bsU k bs (i + 1) := up_set (mkB_get bs k i d hd) (lt_of_some hd)
theorem bsU_0 (k : Nat) (bs : List BD) : bsU k bs 0 = bs := by simp [bsU]
theorem bsU_n (k : Nat) (bs : List BD) : bsU k bs bs.length = mkB k bs := by
  unfold bsU; rw [List.drop_length, List.append_nil, List.take_of_length_le (by rw [mkB_len]; exact Nat.le_refl _)]
theorem esT_at {bs : List BD} {us : UU} {i : Nat} {d : BD} {p : Value × Value} (hd : bs[i]? = some d) (hp : us[i]? = some p) : (esT bs us)[i]? = some [iA d.name, .v p.1, .v p.2] := by
  unfold esT
  rw [List.getElem?_map, show (bs.zip us)[i]? = some (d, p) from by rw [List.getElem?_zip_eq_some]; exact ⟨hd, hp⟩]
  rfl
theorem esT_set {bs : List BD} {us : UU} {i : Nat} {d : BD} {p : Value × Value} (hp : us[i]? = some p) (hi : i < bs.length) : (esT bs us).set i [iA d.name, .v p.1, .v p.2] = esT (bs.set i d) us := by
  unfold esT
  apply List.ext_getElem?
  intro j
  rw [List.getElem?_set, List.getElem?_map, List.getElem?_map]
  by_cases e : i = j
  · subst e
    have hl : i < (List.map (fun x => List.map AV.v (cellV x)) (bs.zip us)).length := by
      have := lt_of_some hp
      simp only [List.length_map, List.length_zip]; omega
    rw [if_pos rfl, if_pos hl]
    rw [show ((bs.set i d).zip us)[i]? = some (d, p) from by rw [List.getElem?_zip_eq_some]; exact ⟨by simp [hi], hp⟩]
    rfl
  · rw [if_neg e]
    congr 1
    rw [List.zip_eq_zipWith, List.zip_eq_zipWith, List.getElem?_zipWith, List.getElem?_zipWith, List.getElem?_set_ne e]
attribute [local irreducible] RWp AW run kPe pe Kt effA gd gu br retR RDp runD kPeD brW gW effD
set_option maxRecDepth 100000
theorem markZ_pcl (l : List Int) (k : Nat) (h0 : 0 < k) (hk : k + l.length ≤ 4611686018427387904) : PCL Try.prog 19 [rowZ l] (mvF none) [.o 0 l.length, iA k] (markZD (k + l.length) (rowZ (mkZ k l))) := by
  refine pcl_enter Try.func19 rfl rfl (by simp) fun w0 fb loc => go_on ?_; simp only [Try.ntmps19, hpL, nmL, mvF, renL, decide_true, decide_false, push_cast, simprocAttr]
  refine at_loop (X := Nat) (fun i => [(1, iA ((k + i : Nat) : Int)), (5, iA i)]) (fun i => [(500000, rowZ (upZ k l i))]) (fun i => i ≤ l.length) (fun i => l.length - i) 0 (Nat.zero_le _) ?_ ?_
  · (refine wk_frz ?_ ?_ ?_ ?_ <;> simp [upZ, leF, leHF, frzB, idsL, idsA, idsR, inH, hget, sameRow, viewN, tk, upA, hvA, dsts, dstO, setA_0, setA_1, setA_8, List.append, List.cons_append, List.nil_append])
  · rintro i hi
    simp only [upA, hvA, dsts, dstO, setA_0, setA_1, setA_8, List.append, List.cons_append, List.nil_append]
    refine go_on ?_
    (try simp only [push_cast, simprocAttr])
    by_cases hlt : i < l.length
    · have i0 : ltI (i : Int) l.length = true := ltI_t (by omega)
      have hlen := upZ_len k l i hi
      obtain ⟨x, hx⟩ := get_of_lt hlt
      have hux : (upZ k l i)[i]? = some x := by unfold upZ; rw [up_get (by rw [mkZ_len]; exact hi)]; exact hx
      have i1 := ix_n hx
      have i2 := map_get inC hux
      have hs : (List.map inC (upZ k l i)).set i [iA ((k + i : Nat) : Int)] = List.map inC (upZ k l (i + 1)) := by
        unfold upZ
        rw [← up_set (mkZ_get l k i hlt) hlt, List.map_set]
        rfl
      have w1 : IntKind.i64.wrap ((k : Int) + (i : Int) + 1) = (k : Int) + (i : Int) + 1 := wr _ (by omega)
      have w4 : IntKind.i64.wrap ((i : Int) + 1) = (i : Int) + 1 := wr _ (by omega)
      push_cast at hs
      simp only [inC] at i2
      (try simp only [i0, i1, i2, w1, w4, List.set_set, hs, push_cast, simprocAttr])
      have e5 : (k : Int) + ((i + 1 : Nat) : Int) = (k : Int) + (i : Int) + 1 := by omega
      refine at_fin ⟨i + 1, by omega, by omega, ?_⟩
      simp only [e5]
      (refine wk_frz ?_ ?_ ?_ ?_ <;> simp [leF, leHF, frzB, idsL, idsA, idsR, inH, hget, sameRow, viewN, tk, upA, hvA, dsts, dstO, setA_0, setA_1, setA_8, List.append, List.cons_append, List.nil_append])
    · have i0 : ltI (i : Int) l.length = false := ltI_f (by omega)
      obtain rfl : i = l.length := by omega
      have e : upZ k l l.length = mkZ k l := by unfold upZ; rw [List.drop_length, List.append_nil, List.take_of_length_le (by rw [mkZ_len]; exact Nat.le_refl _)]
      have hfin : markZD (k + l.length) (rowZ (mkZ k l)) (iA ((k + l.length : Nat) : Int)) [rowZ (mkZ k l)] [] := ⟨rfl, rfl, rfl⟩
      (try simp only [i0, e, push_cast, simprocAttr])
      (refine at_retL ?_; simp only [Try.results19, retL, push_cast, simprocAttr]; simpa [show List.range 1 = [0] from rfl, show List.range 2 = [0, 1] from rfl, show List.range 3 = [0, 1, 2] from rfl, nmL, mvF, ndB, ixOf, rowsOf, hget, rdR, rowS] using  hfin)
theorem heldZ_pc (l : List Int) (k : Nat) (h0 : 0 < k) (hk : k + l.length ≤ 4611686018427387904) : PC Try.prog 43 [intsA (mkZ k l), iA k] (vI ((k + l.length : Nat) : Int)) := by
  have hN := mkZ_len l k
  refine pc_enter Try.func43 rfl rfl fun w0 fb => go_on ?_; (try simp only [Try.ntmps43, push_cast, simprocAttr])
  refine at_loop (X := Nat) (fun i => [(1, iA ((k + i : Nat) : Int)), (5, iA i)]) (fun _ => []) (fun i => i ≤ l.length) (fun i => l.length - i) 0 (Nat.zero_le _) ?_ ?_
  · (refine wk_ok ?_ ?_ ?_ ?_ <;> simp [leL, leH, idsL, idsA, idsR, inH, hget, sameRow, upA, hvA, dsts, dstO, setA_0, setA_1, setA_8, List.append, List.cons_append, List.nil_append])
  · rintro i hi
    simp only [upA, hvA, dsts, dstO, setA_0, setA_1, setA_8, List.append, List.cons_append, List.nil_append]
    refine go_on ?_
    (try simp only [hN, push_cast, simprocAttr])
    by_cases hlt : i < l.length
    · have i0 : ltI (i : Int) l.length = true := ltI_t (by omega)
      have hx := mkZ_get l k i hlt
      have i1 := ix_n hx
      rw [hN] at i1
      have i2 := map_get inC hx
      simp only [inC] at i2
      have e4 : eqI ((k : Int) + (i : Int)) ((k : Int) + (i : Int)) = true := eqI_self _
      have w1 : IntKind.i64.wrap ((k : Int) + (i : Int) + 1) = (k : Int) + (i : Int) + 1 := wr _ (by omega)
      have w4 : IntKind.i64.wrap ((i : Int) + 1) = (i : Int) + 1 := wr _ (by omega)
      push_cast at i2
      have e5 : (k : Int) + ((i + 1 : Nat) : Int) = (k : Int) + (i : Int) + 1 := by omega
      (try simp only [i0, i1, i2, hN, e4, Bool.not_true, w1, w4, push_cast, simprocAttr])
      refine at_fin ⟨i + 1, by omega, by omega, ?_⟩
      simp only [e5]
      (refine wk_ok ?_ ?_ ?_ ?_ <;> simp [leL, leH, idsL, idsA, idsR, inH, hget, sameRow, upA, hvA, dsts, dstO, setA_0, setA_1, setA_8, List.append, List.cons_append, List.nil_append])
    · have i0 : ltI (i : Int) l.length = false := ltI_f (by omega)
      obtain rfl : i = l.length := by omega
      (try simp only [i0, push_cast, simprocAttr])
      refine at_ret ?_; simp only [Try.results43, push_cast, simprocAttr]
      simp [vX]
theorem heldBlobS_pc (l : List BD) (k : Nat) (h0 : 0 < k) (hk : k + tot l ≤ 4611686018427387904) : PC Try.prog 20 [blsA (mkB k l), iA k] (vI ((k + tot l : Nat) : Int)) := by
  have hN := mkB_len l k
  refine pc_enter Try.func20 rfl rfl fun w0 fb => go_on ?_; (try simp only [Try.ntmps20, push_cast, simprocAttr])
  refine at_loop (X := Nat) (fun i => [(1, iA ((k + tot (l.take i) : Nat) : Int)), (5, iA i)]) (fun _ => []) (fun i => i ≤ l.length) (fun i => l.length - i) 0 (Nat.zero_le _) ?_ ?_
  · (refine wk_ok ?_ ?_ ?_ ?_ <;> simp [tot, leL, leH, idsL, idsA, idsR, inH, hget, sameRow, upA, hvA, dsts, dstO, setA_0, setA_1, setA_8, List.append, List.cons_append, List.nil_append])
  · rintro i hi
    simp only [upA, hvA, dsts, dstO, setA_0, setA_1, setA_8, List.append, List.cons_append, List.nil_append]
    refine go_on ?_
    (try simp only [hN, push_cast, simprocAttr])
    by_cases hlt : i < l.length
    · have i0 : ltI (i : Int) l.length = true := ltI_t (by omega)
      obtain ⟨d, hd⟩ := get_of_lt hlt
      have hx := mkB_get l k i d hd
      have ht := tot_take l i d hd
      have hle := tot_le l (i + 1)
      have hge := tot_ge l
      have i1 := ix_n hx
      rw [hN] at i1
      have i2 := map_get bC hx
      obtain ⟨m, hm⟩ : ∃ m, m = k + tot (l.take i) := ⟨_, rfl⟩
      have ht1 : tot1 d = 1 + d.safe.length + d.fresh.length := rfl
      have hA := heldZ_pc d.safe (m + 1) (by omega) (by omega)
      have hB := heldZ_pc d.fresh (m + 1 + d.safe.length) (by omega) (by omega)
      rw [← hm] at i2
      have hm' : (k : Int) + (tot (List.take i l) : Int) = (m : Int) := by omega
      rw [hm']
      simp only [bC, mkD1] at i2
      have e4 : eqI (m : Int) (m : Int) = true := eqI_self _
      have w1 : IntKind.i64.wrap ((m : Int) + 1) = (m : Int) + 1 := wr _ (by omega)
      have w4 : IntKind.i64.wrap ((i : Int) + 1) = (i : Int) + 1 := wr _ (by omega)
      have l1 : ltI ((m : Int) + 1 + d.safe.length) 0 = false := ltI_f (by omega)
      have l2 : ltI ((m : Int) + 1 + d.safe.length + d.fresh.length) 0 = false := ltI_f (by omega)
      push_cast at hA hB
      (try simp only [i0, i1, i2, hN, e4, Bool.not_true, w1, push_cast, simprocAttr])
      (refine at_call ?_; (try simp only [push_cast, simprocAttr]); refine rwc_v (hA) (go_on ?_); (try simp only [push_cast, simprocAttr]))
      (try simp only [l1, i0, i1, i2, hN, push_cast, simprocAttr])
      (refine at_call ?_; (try simp only [push_cast, simprocAttr]); refine rwc_v (hB) (go_on ?_); (try simp only [push_cast, simprocAttr]))
      (try simp only [l2, w4, push_cast, simprocAttr])
      refine at_fin ⟨i + 1, by omega, by omega, ?_⟩
      rw [ht, ht1]
      have e5 : (k : Int) + ((tot (List.take i l) + (1 + d.safe.length + d.fresh.length) : Nat) : Int) = (m : Int) + 1 + d.safe.length + d.fresh.length := by omega
      simp only [e5]
      (refine wk_ok ?_ ?_ ?_ ?_ <;> simp [leL, leH, idsL, idsA, idsR, inH, hget, sameRow, upA, hvA, dsts, dstO, setA_0, setA_1, setA_8, List.append, List.cons_append, List.nil_append])
    · have i0 : ltI (i : Int) l.length = false := ltI_f (by omega)
      obtain rfl : i = l.length := by omega
      (try simp only [i0, List.take_length, push_cast, simprocAttr])
      refine at_ret ?_; simp only [Try.results20, push_cast, simprocAttr]
      simp [vX]
/-- Between two files: the state of the marking. -/
structure MJ (u : Value) (bs : List BD) (us : UU) (X : Nat → Prop) (w00 : World) (k0 x : Nat) (w2 : World) (lent2 : Lent) : Prop where
  le : x ≤ bs.length
  ch : ChX X w00 w2 lent2
  pin : ∃ p, lent2.pin 500000 = some p ∧ u = vOf p bs.length
  inn : ∀ (i : Nat) d q, (bsU k0 bs x)[i]? = some d → us[i]? = some q → i ≠ x → OwI w2 lent2.fb q.1 d.safe ∧ OwI w2 lent2.fb q.2 d.fresh
  at_ : ∀ d q, bs[x]? = some d → us[x]? = some q → ∃ p1 p2, lent2.pin 500001 = some p1 ∧ lent2.pin 500002 = some p2 ∧ q.1 = vOf p1 d.safe.length ∧ q.2 = vOf p2 d.fresh.length
def mjH (bs : List BD) (us : UU) (k0 x : Nat) : Hp := match bs[x]? with
  | some d => [(500000, ⟨55, 3, (esT (bsU k0 bs x) us).set x [iA d.name, .o 500001 d.safe.length, .o 500002 d.fresh.length], false⟩), (500001, rowZ d.safe), (500002, rowZ d.fresh)]
  | none => [(500000, rowT (bsU k0 bs x) us)]
theorem mark_link {u : Value} {bs : List BD} {us : UU} {X : Nat → Prop} {w00 w1 w : World} {lent1 : Lent} {t : List AV} {loc : Loc} {a : Act} {k0 x : Nat} (hlen : us.length = bs.length) (hap : (flU us).Pairwise fun a b => ∀ g, a.ownBlock = some g → b.ownBlock ≠ some g) (hx : x ≤ bs.length) (hR : Rel w1 lent1 ⟨t, [(500000, rowT (bsU k0 bs x) us)]⟩ loc a w)
    (hgh : ∀ (i : Nat) d q, (bsU k0 bs x)[i]? = some d → us[i]? = some q → OwI w lent1.fb q.1 d.safe ∧ OwI w lent1.fb q.2 d.fresh) (hch : ChX X w00 w1 lent1) (hpin : ∃ p, lent1.pin 500000 = some p ∧ u = vOf p bs.length) (hsame : ∀ b, lent1.fb b → w.heap[b]? = w1.heap[b]?) :
    ∃ w3 lent3 loc3, MJ u bs us X w00 k0 x w3 lent3 ∧ Rel w3 lent3 ⟨t.map (clS 500000), mjH bs us k0 x⟩ loc3 a w := by
  cases hb : bs[x]? with
  | none =>
    refine ⟨w1, lent1, loc, ⟨hx, hch, hpin, fun i d q h1 h2 _ => ?_, fun d q h => by rw [hb] at h; cases h⟩, ?_⟩
    · have := hgh i d q h1 h2
      exact ⟨this.1.same (fun b h => (hsame b h).symm) fun _ h => h, this.2.same (fun b h => (hsame b h).symm) fun _ h => h⟩
    · have := hR.cls 500000
      unfold mjH
      rw [hb]
      exact this
  | some d =>
    have hxl := lt_of_some hb
    obtain ⟨q, hq⟩ : ∃ q, us[x]? = some q := ⟨us[x]'(by omega), List.getElem?_eq_getElem _⟩
    have hd := bsU_at (k := k0) hb
    obtain ⟨o1, o2⟩ := hgh x d q hd hq
    have hqm : (flU us).Pairwise fun a b => ∀ g, a.ownBlock = some g → b.ownBlock ≠ some g := hap
    have hq12 : ∀ g, q.1.ownBlock = some g → q.2.ownBlock ≠ some g := by
      have f := fun c hc => flatMap_get (fun p : Value × Value => [p.1, p.2]) 2 (fun _ => rfl) us x c q hq hc
      have f0 : (flU us)[x * 2 + 0]? = some q.1 := f 0 (by omega)
      have f1 : (flU us)[x * 2 + 1]? = some q.2 := f 1 (by omega)
      have l0 := lt_of_some f0
      have l1 := lt_of_some f1
      rw [List.getElem?_eq_getElem l0] at f0
      rw [List.getElem?_eq_getElem l1] at f1
      have := (List.pairwise_iff_getElem.1 hap) _ _ l0 l1 (by omega)
      rw [Option.some.inj f0, Option.some.inj f1] at this
      exact this
    obtain ⟨p1, p2, lent2, loc2, k1, k2, k3, k4, k5, k6, k7, k8, k9, k10⟩ := hR.link (R := 500000) (E0 := esT (bsU k0 bs x) us) (k := x) (nm := d.name) (u1 := q.1) (u2 := q.2) rfl esT_c (esT_at hd hq) (by decide) o1 o2 hq12
    refine ⟨w, lent2, loc2, ⟨hx, k6 _ _ hch, ?_, fun i e r h1 h2 hne => ?_, fun e r h1 h2 => ?_⟩, ?_⟩
    · obtain ⟨p, h1, h2⟩ := hpin
      exact ⟨p, by rw [k9 (by omega), k10 p h1], h2⟩
    · have := hgh i e r h1 h2
      have hne1 := fun v (hv : v = r.1 ∨ v = r.2) => apart_ne hap h2 hq hne hv (v' := q.1) (.inl rfl)
      have hne2 := fun v (hv : v = r.1 ∨ v = r.2) => apart_ne hap h2 hq hne hv (v' := q.2) (.inr rfl)
      rw [k4]
      exact ⟨⟨this.1.1, fun g hg => ⟨this.1.2 g hg, hne1 _ (.inl rfl) g hg, hne2 _ (.inl rfl) g hg⟩⟩, ⟨this.2.1, fun g hg => ⟨this.2.2 g hg, hne1 _ (.inr rfl) g hg, hne2 _ (.inr rfl) g hg⟩⟩⟩
    · rw [hb] at h1
      rw [hq] at h2
      cases h1
      cases h2
      exact ⟨p1, p2, k7, k8, k2, k3⟩
    · unfold mjH
      rw [hb]
      exact k1
theorem markBlobS_m {w : World} {X : Nat → Prop} {u : Value} {bs : List BD} {us : UU} (hO : OT w X u bs us) (k0 : Nat) (h0 : 0 < k0) (hk : k0 + tot bs ≤ 4611686018427387904) :
    Calls Try.prog 18 #[u, .int .i64 k0] w fun e w' => e = .returned (.int .i64 ((k0 + tot bs : Nat) : Int)) ∧ Mut X w w' ∧ OT w' X u (mkB k0 bs) us := by
  have hlen := hO.gh.len
  have hge := tot_ge bs
  refine pm_enter Try.func18 rfl hO fun lent1 hch hgh hpin => go_on ?_
  (try simp only [Try.ntmps18, push_cast, simprocAttr])
  refine at_loopR (X := Nat) (fun x => [(1, iA ((k0 + tot (bs.take x) : Nat) : Int)), (5, iA x)]) (fun x => mjH bs us k0 x) (fun x w2 lent2 => MJ u bs us X w k0 x w2 lent2) (fun x => bs.length - x) rfl (fun loc a w1 hR => ?_) ?_
  · obtain ⟨w3, lent3, loc3, h1, h2⟩ := mark_link (k0 := k0) (x := 0) hlen hO.gh.apart (Nat.zero_le _) (by rw [bsU_0]; exact hR) (fun i d q h1 h2 => by
      rw [bsU_0] at h1
      have := hgh.inn i d q h1 h2
      exact ⟨this.1.same (fun b h => hR.fbk h) fun _ h => h, this.2.same (fun b h => hR.fbk h) fun _ h => h⟩) hch hpin (fun b h => hR.fbk h)
    refine from_wk 0 h1 (wk_t ?_) loc3 a w1 h2
    simp [leL, clS, isC, tot, upA, hvA, dsts, dstO, setA_0, setA_1, setA_8, List.append, List.cons_append, List.nil_append]
  · intro x w2 lent2 hJ
    have hx := hJ.le
    simp only [upA, hvA, dsts, dstO, setA_0, setA_1, setA_8, List.append, List.cons_append, List.nil_append]
    refine go_on ?_
    by_cases hlt : x < bs.length
    · obtain ⟨d, hd⟩ := get_of_lt hlt
      have hmj : mjH bs us k0 x = [(500000, ⟨55, 3, (esT (bsU k0 bs x) us).set x [iA d.name, .o 500001 d.safe.length, .o 500002 d.fresh.length], false⟩), (500001, rowZ d.safe), (500002, rowZ d.fresh)] := by unfold mjH; rw [hd]
      rw [hmj]
      obtain ⟨m, hm⟩ : ∃ m, m = k0 + tot (bs.take x) := ⟨_, rfl⟩
      have hm' : (k0 : Int) + (tot (List.take x bs) : Int) = (m : Int) := by omega
      have ht := tot_take bs x d hd
      have ht1 : tot1 d = 1 + d.safe.length + d.fresh.length := rfl
      have hle := tot_le bs (x + 1)
      have i0 : ltI (x : Int) bs.length = true := ltI_t (by omega)
      have i1 := ix_n hd
      have hel : (esT (bsU k0 bs x) us).length = bs.length := by rw [esT_len (by rw [hlen, bsU_len k0 bs x hx]), bsU_len k0 bs x hx]
      have hE : ∀ z, ((esT (bsU k0 bs x) us).set x z)[x]? = some z := fun z => by rw [List.getElem?_set_self (by omega)]
      have hM1 := markZ_pcl d.safe (m + 1) (by omega) (by omega)
      have hM2 := markZ_pcl d.fresh (m + 1 + d.safe.length) (by omega) (by omega)
      have w1 : IntKind.i64.wrap ((m : Int) + 1) = (m : Int) + 1 := wr _ (by omega)
      have w4 : IntKind.i64.wrap ((x : Int) + 1) = (x : Int) + 1 := wr _ (by omega)
      push_cast at hM1 hM2
      rw [← hm]
      (try simp only [i0, i1, hE, List.set_set, w1, push_cast, simprocAttr])
      (try simp only [push_cast, simprocAttr]); refine call_lend [500001] none (lr := [rowZ d.safe]) (by simp [ndB]) (by first | rfl | simp [rowsOf, hget, rdR, rowS, sC, ndC, cmC]) (by simp [idsL, idsA]) (by simp [mvN]) (by simpa [rnA, ixOf] using hM1) ?_
      rintro rv lr' rows ⟨rfl, rfl, rfl⟩
      (refine ⟨by simp [shB, mvF, rdR, rowS, mkZ_len], by simp [frB, baseOf], go_on ?_⟩; simp only [killA, killH, killRow, push_cast, simprocAttr])
      (try simp only [i1, hE, List.set_set, push_cast, simprocAttr])
      (try simp only [push_cast, simprocAttr]); refine call_lend [500002] none (lr := [rowZ d.fresh]) (by simp [ndB]) (by first | rfl | simp [rowsOf, hget, rdR, rowS, sC, ndC, cmC]) (by simp [idsL, idsA]) (by simp [mvN]) (by simpa [rnA, ixOf] using hM2) ?_
      rintro rv lr' rows ⟨rfl, rfl, rfl⟩
      (refine ⟨by simp [shB, mvF, rdR, rowS, mkZ_len], by simp [frB, baseOf], go_on ?_⟩; simp only [killA, killH, killRow, push_cast, simprocAttr])
      (try simp only [w4, push_cast, simprocAttr])
      refine at_fin fun loc a w3 hR => ?_
      obtain ⟨q, hq⟩ : ∃ q, us[x]? = some q := ⟨us[x]'(by omega), List.getElem?_eq_getElem _⟩
      obtain ⟨p1, p2, g1, g2, g3, g4⟩ := hJ.at_ d q hd hq
      have hl1 := mkZ_len d.safe (m + 1)
      have hl2 := mkZ_len d.fresh (m + 1 + d.safe.length)
      obtain ⟨u1, u2, lent3, loc3, hR3, o1, o2, hap, n1, n2, hsub, hkp, hch3, e1, e2, e3, e4, _⟩ := hR.unlink (R := 500000) (x := .o 500001 d.safe.length) (y := .o 500002 d.fresh.length) (nm := (m : Int)) (xs := mkZ (m + 1) d.safe) (ys := mkZ (m + 1 + d.safe.length) d.fresh) rfl rfl rfl (by rw [← hl1]; exact .o rfl) (by rw [← hl2]; exact .o rfl) (by simp [idsA]) (by simp [idsA]) (by simp [idsA])
        (fun u1 u2 => (esT (bsU k0 bs x) us).set x [iA (m : Int), .v u1, .v u2]) (fun u1 u2 => set_rel esT_c (by omega))
      have hu1 : u1 = q.1 := by rw [e1 _ _ _ rfl g1, g3, hl1]
      have hu2 : u2 = q.2 := by rw [e2 _ _ _ rfl g2, g4, hl2]
      subst hu1
      subst hu2
      have hset : (esT (bsU k0 bs x) us).set x [iA (m : Int), .v q.1, .v q.2] = esT (bsU k0 bs (x + 1)) us := by
        rw [← bsU_set hd, ← hm, ← esT_set hq (by rw [bsU_len k0 bs x hx]; exact hlt)]
        rfl
      rw [hset] at hR3
      obtain ⟨w4', lent4, loc4, hJ4, hR4⟩ := mark_link (X := X) (w00 := w) (u := u) (k0 := k0) (x := x + 1) hlen hO.gh.apart hlt hR3 (fun i d' q' h1 h2 => by
        by_cases hi : i = x
        · subst hi
          rw [← bsU_set hd, ← hm, List.getElem?_set_self (by rw [bsU_len k0 bs i hx]; exact hlt)] at h1
          rw [hq] at h2
          cases h1
          cases h2
          exact ⟨o1, o2⟩
        · rw [← bsU_set hd, List.getElem?_set_ne (Ne.symm hi)] at h1
          have := hJ.inn i d' q' h1 h2 hi
          exact ⟨this.1.same hkp hsub, this.2.same hkp hsub⟩) (hch3 _ _ hJ.ch) (by
        obtain ⟨p, h1, h2⟩ := hJ.pin
        exact ⟨p, by rw [e3]; simp [e4 p h1], h2⟩) (fun _ _ => rfl)
      refine from_wk2 hR4 (x + 1) hJ4 (by omega) (wk_t ?_)
      rw [ht, ht1]
      have e5 : ((k0 + (tot (List.take x bs) + (1 + d.safe.length + d.fresh.length)) : Nat) : Int) = (m : Int) + 1 + d.safe.length + d.fresh.length := by omega
      simp only [e5]
      simp [leL, clS, isC, upA, hvA, dsts, dstO, setA_0, setA_1, setA_8, List.append, List.cons_append, List.nil_append]
      omega
    · obtain rfl : x = bs.length := by omega
      have i0 : ltI (bs.length : Int) bs.length = false := ltI_f (by omega)
      have hmj : mjH bs us k0 bs.length = [(500000, rowT (mkB k0 bs) us)] := by
        unfold mjH
        rw [List.getElem?_eq_none (Nat.le_refl _), bsU_n]
      rw [hmj]
      (try simp only [i0, List.take_length, push_cast, simprocAttr])
      refine at_retW (l := [iA ((k0 + tot bs : Nat) : Int)]) (by simp only [Try.results18, push_cast, simprocAttr]) fun loc a w3 v hR hG => ?_
      have hm := hJ.ch.mut hR
      refine ⟨by rw [hG.v_inv]; push_cast; rfl, hm, ⟨⟨by rw [mkB_len]; exact hlen, fun k d q h1 h2 => ?_, hO.gh.apart⟩, ?_, hO.blk⟩⟩
      · rw [← bsU_n] at h1
        have hkl := lt_of_some h1
        rw [bsU_len k0 bs _ (Nat.le_refl _)] at hkl
        have h3 := hJ.inn k d q h1 h2 (by omega)
        obtain ⟨d0, h4⟩ := get_of_lt hkl
        have h5 := hO.gh.inn k d0 q h4 h2
        exact ⟨⟨own_same h3.1.1 fun g hg => hR.fbk (h3.1.2 g hg), h5.1.2⟩, ⟨own_same h3.2.1 fun g hg => hR.fbk (h3.2.2 g hg), h5.2.2⟩⟩
      · obtain ⟨p, h1, h2⟩ := hJ.pin
        have := rowT_own (by rw [mkB_len]; exact hlen) (hR.rw 500000 _ rfl)
        rw [show rowVal loc 500000 (mkB k0 bs).length = vOf (loc 500000) (mkB k0 bs).length from rfl, hR.pn _ p h1, mkB_len, ← h2] at this
        rw [mkB_len]
        exact this
end Go.Proofs.Ytepcabenjikhgaa
/-
  Plain: sorted files are a disk with a file in its place.
-/
namespace Go.Proofs.Ytepcabenjikhgaa
open Go Go.RowKit

/-! ### DiskRename -/
/-! ### DiskWrite -/
end Go.Proofs.Ytepcabenjikhgaa
/-
  Trees of files set aside: one file's lists read as data; another file in its place.
-/
namespace Go.Proofs.Ytepcabenjikhgaa
open Go Go.RowKit Go.Proofs
section
variable {w0 w1 : World} {lent1 : Lent} {s : AS} {loc : Loc} {a : Act} {w : World}
theorem leQ_set {q : AV → AV → Prop} : ∀ {t t2 : List AV} {i : Nat} {x y : AV}, leQ q t t2 → t[i]? = some x → q x y → leQ q t (t2.set i y)
  | [], [], i, x, y, _, h, _ => by simp at h
  | z :: l, z2 :: l2, 0, x, y, ⟨h1, h2⟩, h, hq => by
    simp at h; subst h
    exact ⟨.inr (.inr hq), h2⟩
  | z :: l, z2 :: l2, i + 1, x, y, ⟨h1, h2⟩, h, hq => ⟨h1, leQ_set h2 (by simpa using h) hq⟩
  | [], _ :: _, _, _, _, h, _, _ => h.elim
  | _ :: _, [], _, _, _, h, _, _ => h.elim
/-- Closed slots alone. -/
def cl0 (x : AV) : AV := if isC x = true then x else .any
theorem leQ_cl0 {q : AV → AV → Prop} : ∀ t : List AV, leQ q t (t.map cl0)
  | [] => trivial
  | x :: l => by
    refine ⟨?_, leQ_cl0 l⟩
    unfold cl0
    split
    · rename_i h; exact .inr (.inl ⟨rfl, h⟩)
    · exact .inl rfl
theorem Rel.adopt' {t : List AV} (hR : Rel w1 lent1 ⟨t, []⟩ loc a w) {u : Value} {bs : List BD} {us : UU} {X : Nat → Prop} (i : Nat) (ht : t[i]? = some (.v u)) (hO : OT w1 X u bs us) (hX : ∀ b, X b → lent1.fb b) :
    ∃ lent2 loc2, Rel w lent2 ⟨(t.map cl0).set i (.o 500000 bs.length), [(500000, rowT bs us)]⟩ loc2 a w ∧ Gh w lent2.fb bs us ∧ (∀ X w0, ChX X w0 w1 lent1 → ChX X w0 w lent2) ∧ (∀ b, lent2.fb b → lent1.fb b) ∧ (∀ b, lent1.fb b → w.heap[b]? = w1.heap[b]?) ∧ (∀ b, lent1.fb b → ¬ X b → lent2.fb b) :=
  hR.adopt hO hX (leQ_set (leQ_cl0 t) ht ⟨rfl, rfl⟩)
/-- Two lists of a file, that were set aside, as data; and a nil row. -/
theorem Rel.free (hR : Rel w1 lent1 s loc a w) {R : Nat} {E0 : List (List AV)} {k : Nat} {nm : Int} {u1 u2 : Value} {xs ys : List Int} (hr : hget s.h R = some ⟨55, 3, E0, true⟩) (hRn : R ≠ 500003) (hC0 : ∀ e ∈ E0, e.all isC = true) (hk : E0[k]? = some [iA nm, .v u1, .v u2])
    (h1 : OwI w lent1.fb u1 xs) (h2 : OwI w lent1.fb u2 ys) :
    ∃ lent2 loc2, Rel w lent2 ⟨s.t.map (clS R), [(R, ⟨55, 3, E0.set k [iA nm, intsA xs, intsA ys], true⟩), (500003, rowZ [])]⟩ loc2 a w ∧ lent2.fb = (fun b => lent1.fb b ∧ u1.ownBlock ≠ some b ∧ u2.ownBlock ≠ some b) ∧ (∀ b, lent1.fb b → w.heap[b]? = w1.heap[b]?) ∧ (∀ X w0, ChX X w0 w1 lent1 → ChX X w0 w lent2) ∧ lent2.pin 500003 = some none := by
  obtain ⟨t2, ht2⟩ : ∃ t2, t2 = s.t.map (clS R) := ⟨_, rfl⟩
  obtain ⟨g0, g1⟩ := leQ_get (leQ_cls (R := R) s.t)
  rw [← ht2] at g0 g1 ⊢
  have hkl := lt_of_some hk
  let h3 : Hp := [(R, ⟨55, 3, E0.set k [iA nm, intsA xs, intsA ys], true⟩), (500003, rowZ [])]
  let loc2 : Loc := ⟨fun q => if q = R then loc R else none, fun b => lent1.fb b ∧ u1.ownBlock ≠ some b ∧ u2.ownBlock ≠ some b⟩
  have hl0 : ∀ q b c, loc2 q = some (b, c) → q = R ∧ loc R = some (b, c) := fun q b c k2 => by
    simp only [loc2] at k2
    split at k2
    · rename_i e; exact ⟨e, k2⟩
    · cases k2
  have hl2 : ∀ b, LiveR h3 loc2 b → ∃ c, loc R = some (b, c) := by
    rintro b ⟨q, row, c, k1, k2⟩
    exact ⟨c, (hl0 q b c k2).2⟩
  have hlive : ∀ b, Live h3 loc2 b → Live s.h loc b := by
    rintro b (h | h)
    · obtain ⟨c, hc⟩ := hl2 b h
      exact .inl ⟨R, _, c, hr, hc⟩
    · exact .inr (by rw [hR.fbe]; exact h.1)
  have hg3 : hget h3 R = some ⟨55, 3, E0.set k [iA nm, intsA xs, intsA ys], true⟩ := by simp [h3, hget]
  have hc1 : C (Live h3 loc2) 0 w (intsA xs) u1 := by
    have h1' : OwI w (fun b => u1.ownBlock = some b) u1 xs := ⟨h1.1, fun g hg => hg⟩
    refine h1'.c fun b hb hl => ?_
    rcases hl with hl | hl
    · obtain ⟨c, hc⟩ := hl2 b hl
      exact hR.nfb hr hc (h1.2 b hb)
    · exact hl.2.1 hb
  have hc2 : C (Live h3 loc2) 0 w (intsA ys) u2 := by
    have h2' : OwI w (fun b => u2.ownBlock = some b) u2 ys := ⟨h2.1, fun g hg => hg⟩
    refine h2'.c fun b hb hl => ?_
    rcases hl with hl | hl
    · obtain ⟨c, hc⟩ := hl2 b hl
      exact hR.nfb hr hc (h2.2 b hb)
    · exact hl.2.2 hb
  refine ⟨_, loc2, hR.re (s2 := ⟨t2, h3⟩) (loc2 := loc2) g0 hlive (fun i z hz => ?_) (fun r row hrr => ?_) (fun r r' row row' b c c' k1 k2 k3 k4 => ?_) (fun b hb hl => ?_) (fun q => if q = 500003 then some none else none) (fun r p hp => ?_), rfl, fun b h => hR.fbk h, fun Y w0 h => ?_, by simp⟩
  · rcases g1 i z hz with h | ⟨z0, k1, k2 | ⟨n, rfl, rfl⟩⟩
    · exact .inl h
    · exact .inr ⟨z0, k1, .inl k2⟩
    · exact .inr ⟨_, k1, .inr fun u hg => hg.oR hr hg3 (by simp [loc2]) (by simp)⟩
  · simp only [h3, hget] at hrr
    split at hrr
    · rename_i e
      subst e
      cases hrr
      refine (hR.rw R _ hr).re rfl rfl (by simp) (by simp [loc2]) fun i e2 he2 => ?_
      rw [List.getElem?_set] at he2
      split at he2
      · rename_i hik
        subst hik
        first | rw [if_pos hkl] at he2 | skip
        cases he2
        refine ⟨_, hk, rfl, fun j y' hy' => ?_⟩
        rcases j with _ | _ | _ | j
        · simp at hy'; subst hy'
          exact ⟨_, rfl, fun u hg _ => by rw [hg.v_inv]; exact ⟨.cl .v, fun _ => .v⟩⟩
        · simp at hy'; subst hy'
          exact ⟨_, rfl, fun u hg _ => by rw [hg.v_inv]; exact ⟨.cl hc1, fun _ => hc1⟩⟩
        · simp at hy'; subst hy'
          exact ⟨_, rfl, fun u hg _ => by rw [hg.v_inv]; exact ⟨.cl hc2, fun _ => hc2⟩⟩
        · simp at hy'
      · refine ⟨e2, he2, rfl, fun j y' hy' => ⟨y', hy', fun u hg _ => ?_⟩⟩
        have hcy := List.all_eq_true.1 (hC0 e2 (List.mem_of_getElem? he2)) y' (List.mem_of_getElem? hy')
        have := (isC_ok hg hcy).mono (lv' := Live h3 loc2) (Nat.le_refl 0) (Nat.le_refl _) fun b _ _ hnl => ⟨fun hl => hnl (hlive b hl), rfl⟩
        exact ⟨.cl this, fun _ => this⟩
    · split at hrr
      · rename_i e
        subst e
        cases hrr
        refine own_rowZ ?_
        rw [show rowVal loc2 500003 ([] : List Int).length = .slice none 0 0 by simp [rowVal, loc2, Ne.symm hRn]]
        exact World.ownsRow_nil _ _ _ _
      · cases hrr
  · rw [(hl0 r b c k3).1, (hl0 r' b c' k4).1]
  · obtain ⟨c, hc⟩ := hl2 b hl
    exact hR.nfb hr hc hb.1
  · split at hp
    · rename_i e
      cases hp
      exact ⟨by simp [loc2, e, Ne.symm hRn], by omega⟩
    · cases hp
  · have h0 := h.mut hR
    refine ⟨h0.os, h0.tape, h0.output, h0.size, h0.keep, fun b hb => ?_, fun b hb => h.fb b hb.1⟩
    obtain ⟨c, hc⟩ := hl2 b hb
    exact h.own hR hr hc
theorem aw_storeN {P : Program} {Q : Exit → Act → World → Prop} {lent : Lent} {k : List It} {tD : Tmp} {t ty : TypeId} {l : List SO} (r0 : Nat) {row0 : Row} {h' : Hp} (hpin : lent.pin r0 = some none) (hrow : hget s.h r0 = some row0) (hst : stA P s.h t (getA s.t tD) (.o r0 0) = some h')
    (h : AW P w0 lent Q (.ops l :: k) ⟨s.t, h'⟩) : AW P w0 lent Q (.ops (⟨none, .store t (.tmp tD) (.const (.slice none 0 0)), ty, none⟩ :: l) :: k) s := by
  intro loc a w hR
  obtain ⟨w', hr, hR'⟩ := stA_ok hR (evA_ok hR (.tmp tD)) (.onil hrow (hR.pn r0 none hpin)) hst
  show wpSO P (Kt P w0 lent Q k) _ a w
  unfold wpSO
  simp only
  unfold Oper.wp
  have : (execOp a.eval (SO.oper ⟨none, .store t (.tmp tD) (.const (.slice none 0 0)), ty, none⟩)).run P w = .ok .skip w' := by
    simp only [Act.eval, Array.getD_eq_getD_getElem?] at hr
    simp [execOp, SO.oper, Act.eval, hr]
  rw [this]
  exact h loc _ w' hR'
end
theorem apart_mk : ∀ {us : UU}, (∀ (i : Nat) p, us[i]? = some p → ∀ g, p.1.ownBlock = some g → p.2.ownBlock ≠ some g) → (∀ (i j : Nat) p q, us[i]? = some p → us[j]? = some q → i < j → ∀ v v', (v = p.1 ∨ v = p.2) → (v' = q.1 ∨ v' = q.2) → ∀ g, v.ownBlock = some g → v'.ownBlock ≠ some g) → (flU us).Pairwise fun a b => ∀ g, a.ownBlock = some g → b.ownBlock ≠ some g
  | [], _, _ => List.Pairwise.nil
  | p :: l, h1, h2 => by
    have ih := apart_mk (us := l) (fun i p h => h1 (i + 1) p (by simpa using h)) (fun i j p q hi hj hij => h2 (i + 1) (j + 1) p q (by simpa using hi) (by simpa using hj) (by omega))
    have key : ∀ v ∈ flU l, ∀ v0, (v0 = p.1 ∨ v0 = p.2) → ∀ g, v0.ownBlock = some g → v.ownBlock ≠ some g := fun v hv v0 h0 => by
      obtain ⟨q, hq, hv⟩ := List.mem_flatMap.1 hv
      obtain ⟨j, hj, rfl⟩ := List.mem_iff_getElem.1 hq
      exact h2 0 (j + 1) p l[j] rfl (by rw [List.getElem?_cons_succ]; exact List.getElem?_eq_getElem hj) (by omega) v0 v h0 (by simpa using hv)
    show ([p.1, p.2] ++ flU l).Pairwise _
    rw [List.cons_append, List.cons_append, List.nil_append, List.pairwise_cons, List.pairwise_cons]
    refine ⟨fun v hv => ?_, fun v hv => key v hv _ (.inr rfl), ih⟩
    rcases List.mem_cons.1 hv with rfl | hv
    · exact h1 0 p rfl
    · exact key v hv _ (.inl rfl)
theorem apart_in {us : UU} (h : (flU us).Pairwise fun a b => ∀ g, a.ownBlock = some g → b.ownBlock ≠ some g) {x : Nat} {q : Value × Value} (hq : us[x]? = some q) : ∀ g, q.1.ownBlock = some g → q.2.ownBlock ≠ some g := by
  have f := fun c hc => flatMap_get (fun p : Value × Value => [p.1, p.2]) 2 (fun _ => rfl) us x c q hq hc
  have f0 : (flU us)[x * 2 + 0]? = some q.1 := f 0 (by omega)
  have f1 : (flU us)[x * 2 + 1]? = some q.2 := f 1 (by omega)
  have l0 := lt_of_some f0
  have l1 := lt_of_some f1
  rw [List.getElem?_eq_getElem l0] at f0
  rw [List.getElem?_eq_getElem l1] at f1
  have := (List.pairwise_iff_getElem.1 h) _ _ l0 l1 (by omega)
  rw [Option.some.inj f0, Option.some.inj f1] at this
  exact this
/-- Another file in the place of one. -/
theorem Gh.set {w1 w : World} {X X' : Nat → Prop} {bs : List BD} {us : UU} {j : Nat} {d : BD} {u1 u2 : Value} (hlen : us.length = bs.length) (hj : j < bs.length) (hin : ∀ (i : Nat) e q, bs[i]? = some e → us[i]? = some q → i ≠ j → OwI w1 X q.1 e.safe ∧ OwI w1 X q.2 e.fresh)
    (hap : (flU us).Pairwise fun a b => ∀ g, a.ownBlock = some g → b.ownBlock ≠ some g) (hs : ∀ b, X b → w.heap[b]? = w1.heap[b]?) (hx : ∀ b, X b → X' b) (o1 : OwI w X' u1 d.safe) (o2 : OwI w X' u2 d.fresh)
    (h12 : ∀ g, u1.ownBlock = some g → u2.ownBlock ≠ some g) (n1 : ∀ g, u1.ownBlock = some g → ¬ X g) (n2 : ∀ g, u2.ownBlock = some g → ¬ X g) : Gh w X' (bs.set j d) (us.set j (u1, u2)) := by
  have hju : j < us.length := by omega
  have cs : ∀ (i : Nat) q, (us.set j (u1, u2))[i]? = some q → (i = j ∧ q = (u1, u2)) ∨ (i ≠ j ∧ us[i]? = some q) := fun i q h => by
    by_cases e : i = j
    · subst e
      rw [List.getElem?_set_self hju] at h
      exact .inl ⟨rfl, (Option.some.inj h).symm⟩
    · rw [List.getElem?_set_ne (Ne.symm e)] at h
      exact .inr ⟨e, h⟩
  have inX : ∀ (i : Nat) q, us[i]? = some q → i ≠ j → ∀ v, (v = q.1 ∨ v = q.2) → ∀ g, v.ownBlock = some g → X g := fun i q h hne v hv g hg => by
    have hb := List.getElem?_eq_getElem (show i < bs.length by have := lt_of_some h; omega)
    have := hin i _ q hb h hne
    rcases hv with rfl | rfl
    · exact this.1.2 g hg
    · exact this.2.2 g hg
  refine ⟨by simp [hlen], fun i e q h1 h2 => ?_, apart_mk (fun i p hp => ?_) fun i i' p q hp hq hii v v' hv hv' g hg hg' => ?_⟩
  · rcases cs i q h2 with ⟨rfl, rfl⟩ | ⟨hne, h3⟩
    · rw [List.getElem?_set_self hj] at h1
      cases h1
      exact ⟨o1, o2⟩
    · rw [List.getElem?_set_ne (Ne.symm hne)] at h1
      have := hin i e q h1 h3 hne
      exact ⟨this.1.same hs hx, this.2.same hs hx⟩
  · rcases cs i p hp with ⟨rfl, rfl⟩ | ⟨hne, h3⟩
    · exact h12
    · exact apart_in hap h3
  · rcases cs i p hp with ⟨rfl, rfl⟩ | ⟨hne, h3⟩ <;> rcases cs i' q hq with ⟨e2, rfl⟩ | ⟨hne2, h4⟩
    · omega
    · have hX := inX i' q h4 hne2 v' hv' g hg'
      rcases hv with rfl | rfl
      · exact n1 g hg hX
      · exact n2 g hg hX
    · have hX := inX i p h3 hne v hv g hg
      rcases hv' with rfl | rfl
      · exact n1 g hg' hX
      · exact n2 g hg' hX
    · exact apart_ne hap h3 h4 (by omega) hv hv' g hg hg'
theorem esT_set2 {bs : List BD} {us : UU} {i : Nat} {d : BD} {p : Value × Value} (hlen : us.length = bs.length) (hi : i < bs.length) : (esT bs us).set i [iA d.name, .v p.1, .v p.2] = esT (bs.set i d) (us.set i p) := by
  unfold esT
  apply List.ext_getElem?
  intro j
  rw [List.getElem?_set, List.getElem?_map, List.getElem?_map]
  by_cases e : i = j
  · subst e
    have hl : i < (List.map (fun x => List.map AV.v (cellV x)) (bs.zip us)).length := by simp only [List.length_map, List.length_zip]; omega
    rw [if_pos rfl, if_pos hl]
    rw [show ((bs.set i d).zip (us.set i p))[i]? = some (d, p) from by rw [List.getElem?_zip_eq_some]; exact ⟨by simp [hi], by simp [hlen, hi]⟩]
    rfl
  · rw [if_neg e]
    congr 1
    rw [List.zip_eq_zipWith, List.zip_eq_zipWith, List.getElem?_zipWith, List.getElem?_zipWith, List.getElem?_set_ne e, List.getElem?_set_ne e]
/-! ### Plain: a file in its own place -/
theorem asc_names : ∀ {x y : List BD}, x.map BD.name = y.map BD.name → ascB x = ascB y
  | [], [], _ => rfl
  | [], _ :: _, h => by simp at h
  | _ :: _, [], h => by simp at h
  | d :: r, e :: s, h => by
    simp only [List.map_cons, List.cons.injEq] at h
    have ih := asc_names h.2
    have hall : ∀ (l m : List BD), l.map BD.name = m.map BD.name → (l.all fun x => decide (d.name < x.name)) = (m.all fun x => decide (d.name < x.name)) := fun l => by
      induction l with
      | nil => intro m hm; cases m with
        | nil => rfl
        | cons => simp at hm
      | cons a l ih2 => intro m hm; cases m with
        | nil => simp at hm
        | cons b m =>
          simp only [List.map_cons, List.cons.injEq] at hm
          simp only [List.all_cons, ih2 m hm.2, hm.1]
    unfold ascB
    rw [ih, ← h.1, hall r s h.2]
end Go.Proofs.Ytepcabenjikhgaa
/-
  Walks: slices.SortFunc at files: the order.
-/
namespace Go.Proofs.Ytepcabenjikhgaa
open Go Go.RowKit Go.Proofs
open Go.Sort (grow SWO PermIn SortedIn)
/-- A file and the values of its two lists. -/
def BV : Type := {x : BD × Value × Value // (0 ≤ x.1.name ∧ x.1.name ≤ 3) ∧ x.2.1.oneCell' = true ∧ x.2.2.oneCell' = true}
instance : Inhabited BV := ⟨⟨(⟨0, [], []⟩, .bool false, .bool false), ⟨by decide, by decide⟩, rfl, rfl⟩⟩
set_option maxRecDepth 100000
set_option maxHeartbeats 1000000
end Go.Proofs.Ytepcabenjikhgaa
/-
  Walks: slices.SortFunc at files: a contract with a lent row.
-/
namespace Go.Proofs.Ytepcabenjikhgaa
open Go Go.RowKit Go.Proofs
open Go.Sort (grow SWO PermIn SortedIn)
set_option maxRecDepth 100000
set_option maxHeartbeats 1000000
end Go.Proofs.Ytepcabenjikhgaa
/-
  Walks: disks: sorted.
-/
namespace Go.Proofs.Ytepcabenjikhgaa
open Go Go.RowKit Go.Proofs
attribute [local irreducible] RWp AW run kPe pe Kt effA gd gu br retR RDp runD kPeD brW gW effD
set_option maxRecDepth 100000
end Go.Proofs.Ytepcabenjikhgaa
/-
  Walks: disks: DiskRename.
-/
namespace Go.Proofs.Ytepcabenjikhgaa
open Go Go.RowKit Go.Proofs
theorem disk_le3 : ∀ {bs : List BD} {last : Int}, 0 ≤ last → diskFrom last bs = true → bs.length + last ≤ 3 ∨ bs = []
  | [], _, _, _ => .inr rfl
  | d :: r, last, h0, h => by
    simp only [diskFrom, blobB, inB, Bool.and_eq_true, decide_eq_true_eq] at h
    refine .inl ?_
    rcases disk_le3 (last := d.name) (by omega) h.2 with h1 | rfl
    · simp only [List.length_cons]; omega
    · simp; omega
theorem disk_len {bs : List BD} (h : diskB bs = true) : bs.length ≤ 3 := by
  rcases disk_le3 (last := 0) (by omega) h with h1 | rfl
  · omega
  · simp
theorem disk_sm {bs : List BD} (h : diskB bs = true) : SmB bs := by
  have := disk_len h
  refine ⟨by omega, fun d hd => ?_⟩
  have := disk_okF h hd
  simp only [okF, Bool.and_eq_true, decide_eq_true_eq] at this
  exact ⟨by omega, by omega⟩
attribute [local irreducible] RWp AW run kPe pe Kt effA gd gu br retR RDp runD kPeD brW gW effD
set_option maxRecDepth 100000
end Go.Proofs.Ytepcabenjikhgaa
/-
  Walks: disks: the reference's small functions; DiskValid.
-/
namespace Go.Proofs.Ytepcabenjikhgaa
open Go Go.RowKit Go.Proofs
attribute [local irreducible] RWp AW run kPe pe Kt effA gd gu br retR RDp runD kPeD brW gW effD
set_option maxRecDepth 100000
theorem l4Bytes_pc (l : List Int) (hl : l.length < 4294967281) : PC Try.prog 54 [intsA l] (vB (bytesB l)) := by
  refine pc_enter Try.func54 rfl rfl fun w0 fb => go_on ?_; (try simp only [Try.ntmps54, push_cast, simprocAttr])
  refine at_loop (X := Nat) (fun k => [(3, iA k)]) (fun _ => []) (fun k => k ≤ l.length ∧ bytesB l = bytesB (l.drop k)) (fun k => l.length - k) 0 ⟨Nat.zero_le _, rfl⟩ ?_ ?_
  · (refine wk_ok ?_ ?_ ?_ ?_ <;> simp [leL, leH, idsL, idsA, idsR, inH, hget, sameRow, upA, hvA, dsts, dstO, setA_0, setA_1, setA_8, List.append, List.cons_append, List.nil_append])
  · rintro k ⟨h1, h2⟩
    simp only [upA, hvA, dsts, dstO, setA_0, setA_1, setA_8, List.append, List.cons_append, List.nil_append]
    refine go_on ?_
    (try simp only [List.length_map, push_cast, simprocAttr])
    refine at_b (fun hg => ?_) (fun hg => ?_)
    · have hlt := lt_tt hg
      obtain ⟨x, hk⟩ := get_of_lt hlt
      have i1 := ix_n hk
      have i2 := map_get inC hk
      simp only [inC] at i2
      rw [drop_of_get hk] at h2
      have hI := l6In_pc x 0 255
      have w1 := wr ((k : Int) + 1) (by omega)
      have e0 : bytesB (x :: l.drop (k + 1)) = (inR x 0 255 && bytesB (l.drop (k + 1))) := rfl
      rw [e0] at h2
      (try simp only [hg, i1, i2, push_cast, simprocAttr])
      (refine at_call ?_; (try simp only [push_cast, simprocAttr]); refine rwc_v (hI) (go_on ?_); (try simp only [push_cast, simprocAttr]))
      cases e : inR x 0 255 with
      | false =>
        (try simp only [e, Bool.not_false, push_cast, simprocAttr])
        refine at_ret ?_; simp only [Try.results54, push_cast, simprocAttr]
        simp [vX, h2, e]
      | true =>
        (try simp only [e, Bool.not_true, w1, push_cast, simprocAttr])
        refine at_fin ⟨k + 1, ⟨by omega, by rw [h2, e]; rfl⟩, by omega, ?_⟩
        (refine wk_ok ?_ ?_ ?_ ?_ <;> simp [leL, leH, idsL, idsA, idsR, inH, hget, sameRow, upA, hvA, dsts, dstO, setA_0, setA_1, setA_8, List.append, List.cons_append, List.nil_append])
    · have h3 := lt_ff hg
      (try simp only [hg, push_cast, simprocAttr])
      refine at_ret ?_; simp only [Try.results54, push_cast, simprocAttr]
      rw [List.drop_of_length_le h3] at h2
      have h2' : bytesB l = true := by rw [h2]; rfl
      simp [vX, h2']
theorem specDiskValid_pc (bs : List BD) (hs : SmB bs) : PC Try.prog 33 [blsA bs] (vB (diskB bs)) := by
  have hn := hs.n
  refine pc_enter Try.func33 rfl rfl fun w0 fb => go_on ?_; (try simp only [Try.ntmps33, push_cast, simprocAttr])
  refine at_loop (X := Nat × Int) (fun x => [(3, iA x.1)]) (fun _ => []) (fun x => x.1 ≤ bs.length ∧ 0 ≤ x.2 ∧ x.2 ≤ 3 ∧ diskB bs = diskFrom x.2 (bs.drop x.1) ∧ (x.1 = 0 ∧ x.2 = 0 ∨ ∃ m d, x.1 = m + 1 ∧ bs[m]? = some d ∧ d.name = x.2)) (fun x => bs.length - x.1) (0, 0) ⟨Nat.zero_le _, by simp, by simp, rfl, .inl ⟨rfl, rfl⟩⟩ ?_ ?_
  · (refine wk_ok ?_ ?_ ?_ ?_ <;> simp [leL, leH, idsL, idsA, idsR, inH, hget, sameRow, upA, hvA, dsts, dstO, setA_0, setA_1, setA_8, List.append, List.cons_append, List.nil_append])
  · rintro ⟨k, last⟩ ⟨h1, h2, h3, h4, h5⟩
    simp only at h1 h2 h3 h4 h5
    simp only [upA, hvA, dsts, dstO, setA_0, setA_1, setA_8, List.append, List.cons_append, List.nil_append]
    refine go_on ?_
    (try simp only [List.length_map, push_cast, simprocAttr])
    refine at_b (fun hg => ?_) (fun hg => ?_)
    · have hlt := lt_tt hg
      obtain ⟨d, hk⟩ := get_of_lt hlt
      have i1 := ix_n hk
      have i2 := map_get bC hk
      simp only [bC] at i2
      obtain ⟨hds, hdf⟩ := hs.d d (mem_of_get hk)
      have hI := l6In_pc d.name 1 3
      have hS := l4Bytes_pc d.safe (by omega)
      have hF := l4Bytes_pc d.fresh (by omega)
      have w1 := wr ((k : Int) + 1) (by omega)
      have w3 := wr ((d.safe.length : Int) + d.fresh.length) (by omega)
      rw [drop_of_get hk] at h4
      simp only [diskFrom, blobB] at h4
      have eI : inB d.name (last + 1) 3 = (inR d.name 1 3 && decide (last < d.name)) := by
        unfold inB inR
        rw [Bool.eq_iff_iff]
        simp only [Bool.and_eq_true, decide_eq_true_eq]
        omega
      rw [eI] at h4
      (try simp only [hg, i1, i2, push_cast, simprocAttr])
      cases e1 : inR d.name 1 3 with
      | false =>
        refine at_draw rfl (by kernel_rfl) ?_; simp only [push_cast, simprocAttr]
        repeat' first | (refine at_bWn (fun hb => ?_) (fun hb => ?_) <;> simp only [e1, Bool.not_false, hb, push_cast, simprocAttr]) | (refine at_bW (fun hb => ?_) (fun hb => ?_) <;> simp only [e1, Bool.not_false, hb, push_cast, simprocAttr]) | (refine at_callD (by simp [clB, idsL, idsA, hget]) ?_; (try simp only [push_cast, simprocAttr]); first | (refine rcd_v (hI) ?_; simp only [e1, Bool.not_false, push_cast, simprocAttr]) | (refine rcd_d (hI) (by simp [flatV, flatL, ctC, ndC, cmC]) (by simp [ren, ctC, ndC, cmC]) ?_; simp only [e1, Bool.not_false, push_cast, simprocAttr])) | (refine at_done (by kernel_rfl) (by kernel_rfl) (go_on ?_); (try simp only [e1, Bool.not_false, push_cast, simprocAttr]))
        (try simp only [e1, Bool.not_false, push_cast, simprocAttr])
        refine at_ret ?_; simp only [Try.results33, push_cast, simprocAttr]
        simp [vX, h4, e1]
      | true =>
        have hnm : 1 ≤ d.name ∧ d.name ≤ 3 := by simp only [inR, Bool.and_eq_true, decide_eq_true_eq] at e1; omega
        cases e2 : bytesB d.safe with
        | false =>
          refine at_draw rfl (by kernel_rfl) ?_; simp only [push_cast, simprocAttr]
          repeat' first | (refine at_bWn (fun hb => ?_) (fun hb => ?_) <;> simp only [e1, e2, Bool.not_false, Bool.not_true, hb, push_cast, simprocAttr]) | (refine at_bW (fun hb => ?_) (fun hb => ?_) <;> simp only [e1, e2, Bool.not_false, Bool.not_true, hb, push_cast, simprocAttr]) | (refine at_callD (by simp [clB, idsL, idsA, hget]) ?_; (try simp only [push_cast, simprocAttr]); first | (refine rcd_v (hI) ?_; simp only [e1, e2, Bool.not_false, Bool.not_true, push_cast, simprocAttr]) | (refine rcd_d (hI) (by simp [flatV, flatL, ctC, ndC, cmC]) (by simp [ren, ctC, ndC, cmC]) ?_; simp only [e1, e2, Bool.not_false, Bool.not_true, push_cast, simprocAttr]) | (refine rcd_v (hS) ?_; simp only [e1, e2, Bool.not_false, Bool.not_true, push_cast, simprocAttr]) | (refine rcd_d (hS) (by simp [flatV, flatL, ctC, ndC, cmC]) (by simp [ren, ctC, ndC, cmC]) ?_; simp only [e1, e2, Bool.not_false, Bool.not_true, push_cast, simprocAttr])) | (refine at_done (by kernel_rfl) (by kernel_rfl) (go_on ?_); (try simp only [e1, e2, Bool.not_false, Bool.not_true, push_cast, simprocAttr]))
          (try simp only [Bool.not_false, push_cast, simprocAttr])
          refine at_ret ?_; simp only [Try.results33, push_cast, simprocAttr]
          simp [vX, h4, e2]
        | true =>
          cases e3 : bytesB d.fresh with
          | false =>
            refine at_draw rfl (by kernel_rfl) ?_; simp only [push_cast, simprocAttr]
            repeat' first | (refine at_bWn (fun hb => ?_) (fun hb => ?_) <;> simp only [e1, e2, e3, Bool.not_false, Bool.not_true, hb, push_cast, simprocAttr]) | (refine at_bW (fun hb => ?_) (fun hb => ?_) <;> simp only [e1, e2, e3, Bool.not_false, Bool.not_true, hb, push_cast, simprocAttr]) | (refine at_callD (by simp [clB, idsL, idsA, hget]) ?_; (try simp only [push_cast, simprocAttr]); first | (refine rcd_v (hI) ?_; simp only [e1, e2, e3, Bool.not_false, Bool.not_true, push_cast, simprocAttr]) | (refine rcd_d (hI) (by simp [flatV, flatL, ctC, ndC, cmC]) (by simp [ren, ctC, ndC, cmC]) ?_; simp only [e1, e2, e3, Bool.not_false, Bool.not_true, push_cast, simprocAttr]) | (refine rcd_v (hS) ?_; simp only [e1, e2, e3, Bool.not_false, Bool.not_true, push_cast, simprocAttr]) | (refine rcd_d (hS) (by simp [flatV, flatL, ctC, ndC, cmC]) (by simp [ren, ctC, ndC, cmC]) ?_; simp only [e1, e2, e3, Bool.not_false, Bool.not_true, push_cast, simprocAttr]) | (refine rcd_v (hF) ?_; simp only [e1, e2, e3, Bool.not_false, Bool.not_true, push_cast, simprocAttr]) | (refine rcd_d (hF) (by simp [flatV, flatL, ctC, ndC, cmC]) (by simp [ren, ctC, ndC, cmC]) ?_; simp only [e1, e2, e3, Bool.not_false, Bool.not_true, push_cast, simprocAttr])) | (refine at_done (by kernel_rfl) (by kernel_rfl) (go_on ?_); (try simp only [e1, e2, e3, Bool.not_false, Bool.not_true, push_cast, simprocAttr]))
            (try simp only [Bool.not_false, push_cast, simprocAttr])
            refine at_ret ?_; simp only [Try.results33, push_cast, simprocAttr]
            simp [vX, h4, e3]
          | true =>
            by_cases h400 : d.safe.length + d.fresh.length ≤ 400
            · have e4 : ltI 400 ((d.safe.length : Int) + d.fresh.length) = false := ltI_f (by omega)
              rcases h5 with ⟨rfl, rfl⟩ | ⟨m, p, hkm, hm, hpl⟩
              · have e5 : ltI 0 ((0 : Nat) : Int) = false := rfl
                refine at_draw rfl (by kernel_rfl) ?_; simp only [push_cast, simprocAttr]
                repeat' first | (refine at_bWn (fun hb => ?_) (fun hb => ?_) <;> simp only [e1, e2, e3, e4, e5, show ltI 0 0 = false from rfl, w3, List.length_map, Bool.not_false, Bool.not_true, hb, push_cast, simprocAttr]) | (refine at_bW (fun hb => ?_) (fun hb => ?_) <;> simp only [e1, e2, e3, e4, e5, show ltI 0 0 = false from rfl, w3, List.length_map, Bool.not_false, Bool.not_true, hb, push_cast, simprocAttr]) | (refine at_callD (by simp [clB, idsL, idsA, hget]) ?_; (try simp only [push_cast, simprocAttr]); first | (refine rcd_v (hI) ?_; simp only [e1, e2, e3, e4, e5, show ltI 0 0 = false from rfl, w3, List.length_map, Bool.not_false, Bool.not_true, push_cast, simprocAttr]) | (refine rcd_d (hI) (by simp [flatV, flatL, ctC, ndC, cmC]) (by simp [ren, ctC, ndC, cmC]) ?_; simp only [e1, e2, e3, e4, e5, show ltI 0 0 = false from rfl, w3, List.length_map, Bool.not_false, Bool.not_true, push_cast, simprocAttr]) | (refine rcd_v (hS) ?_; simp only [e1, e2, e3, e4, e5, show ltI 0 0 = false from rfl, w3, List.length_map, Bool.not_false, Bool.not_true, push_cast, simprocAttr]) | (refine rcd_d (hS) (by simp [flatV, flatL, ctC, ndC, cmC]) (by simp [ren, ctC, ndC, cmC]) ?_; simp only [e1, e2, e3, e4, e5, show ltI 0 0 = false from rfl, w3, List.length_map, Bool.not_false, Bool.not_true, push_cast, simprocAttr]) | (refine rcd_v (hF) ?_; simp only [e1, e2, e3, e4, e5, show ltI 0 0 = false from rfl, w3, List.length_map, Bool.not_false, Bool.not_true, push_cast, simprocAttr]) | (refine rcd_d (hF) (by simp [flatV, flatL, ctC, ndC, cmC]) (by simp [ren, ctC, ndC, cmC]) ?_; simp only [e1, e2, e3, e4, e5, show ltI 0 0 = false from rfl, w3, List.length_map, Bool.not_false, Bool.not_true, push_cast, simprocAttr])) | (refine at_done (by kernel_rfl) (by kernel_rfl) (go_on ?_); (try simp only [e1, e2, e3, e4, e5, show ltI 0 0 = false from rfl, w3, List.length_map, Bool.not_false, Bool.not_true, push_cast, simprocAttr]))
                (try simp only [w1, show IntKind.i64.wrap (0 + 1) = 1 from rfl, show IntKind.i64.wrap 1 = 1 from rfl, push_cast, simprocAttr])
                refine at_fin ⟨(0 + 1, d.name), ⟨by dsimp only; omega, by dsimp only; omega, by dsimp only; omega, ?_, .inr ⟨0, d, rfl, hk, rfl⟩⟩, by dsimp only; omega, ?_⟩
                · rw [h4]
                  have : decide ((0 : Int) < d.name) = true := by simp; omega
                  simp [e1, e2, e3, h400, this]
                · (refine wk_ok ?_ ?_ ?_ ?_ <;> simp [show IntKind.i64.wrap 1 = 1 from rfl, leL, leH, idsL, idsA, idsR, inH, hget, sameRow, upA, hvA, dsts, dstO, setA_0, setA_1, setA_8, List.append, List.cons_append, List.nil_append])
              · have e5 : ltI 0 (k : Int) = true := ltI_t (by omega)
                have w2 : IntKind.i64.wrap ((k : Int) - 1) = (m : Int) := by rw [wr _ (by omega)]; omega
                have j1 := ix_n hm
                have j2 := map_get bC hm
                simp only [bC] at j2
                by_cases hlt2 : last < d.name
                · have e6 : leI d.name p.name = false := leI_f (by omega)
                  refine at_draw rfl (by kernel_rfl) ?_; simp only [push_cast, simprocAttr]
                  repeat' first | (refine at_bWn (fun hb => ?_) (fun hb => ?_) <;> simp only [e1, e2, e3, e4, e5, e6, w2, w3, j1, j2, List.length_map, Bool.not_false, Bool.not_true, hb, push_cast, simprocAttr]) | (refine at_bW (fun hb => ?_) (fun hb => ?_) <;> simp only [e1, e2, e3, e4, e5, e6, w2, w3, j1, j2, List.length_map, Bool.not_false, Bool.not_true, hb, push_cast, simprocAttr]) | (refine at_callD (by simp [clB, idsL, idsA, hget]) ?_; (try simp only [push_cast, simprocAttr]); first | (refine rcd_v (hI) ?_; simp only [e1, e2, e3, e4, e5, e6, w2, w3, j1, j2, List.length_map, Bool.not_false, Bool.not_true, push_cast, simprocAttr]) | (refine rcd_d (hI) (by simp [flatV, flatL, ctC, ndC, cmC]) (by simp [ren, ctC, ndC, cmC]) ?_; simp only [e1, e2, e3, e4, e5, e6, w2, w3, j1, j2, List.length_map, Bool.not_false, Bool.not_true, push_cast, simprocAttr]) | (refine rcd_v (hS) ?_; simp only [e1, e2, e3, e4, e5, e6, w2, w3, j1, j2, List.length_map, Bool.not_false, Bool.not_true, push_cast, simprocAttr]) | (refine rcd_d (hS) (by simp [flatV, flatL, ctC, ndC, cmC]) (by simp [ren, ctC, ndC, cmC]) ?_; simp only [e1, e2, e3, e4, e5, e6, w2, w3, j1, j2, List.length_map, Bool.not_false, Bool.not_true, push_cast, simprocAttr]) | (refine rcd_v (hF) ?_; simp only [e1, e2, e3, e4, e5, e6, w2, w3, j1, j2, List.length_map, Bool.not_false, Bool.not_true, push_cast, simprocAttr]) | (refine rcd_d (hF) (by simp [flatV, flatL, ctC, ndC, cmC]) (by simp [ren, ctC, ndC, cmC]) ?_; simp only [e1, e2, e3, e4, e5, e6, w2, w3, j1, j2, List.length_map, Bool.not_false, Bool.not_true, push_cast, simprocAttr])) | (refine at_done (by kernel_rfl) (by kernel_rfl) (go_on ?_); (try simp only [e1, e2, e3, e4, e5, e6, w2, w3, j1, j2, List.length_map, Bool.not_false, Bool.not_true, push_cast, simprocAttr]))
                  (try simp only [w1, push_cast, simprocAttr])
                  refine at_fin ⟨(k + 1, d.name), ⟨by dsimp only; omega, by dsimp only; omega, by dsimp only; omega, ?_, .inr ⟨k, d, rfl, hk, rfl⟩⟩, by dsimp only; omega, ?_⟩
                  · rw [h4]; simp [e1, e2, e3, h400, hlt2]
                  · (refine wk_ok ?_ ?_ ?_ ?_ <;> simp [leL, leH, idsL, idsA, idsR, inH, hget, sameRow, upA, hvA, dsts, dstO, setA_0, setA_1, setA_8, List.append, List.cons_append, List.nil_append])
                · have e6 : leI d.name p.name = true := leI_t (by omega)
                  refine at_draw rfl (by kernel_rfl) ?_; simp only [push_cast, simprocAttr]
                  repeat' first | (refine at_bWn (fun hb => ?_) (fun hb => ?_) <;> simp only [e1, e2, e3, e4, e5, e6, w2, w3, j1, j2, List.length_map, Bool.not_false, Bool.not_true, hb, push_cast, simprocAttr]) | (refine at_bW (fun hb => ?_) (fun hb => ?_) <;> simp only [e1, e2, e3, e4, e5, e6, w2, w3, j1, j2, List.length_map, Bool.not_false, Bool.not_true, hb, push_cast, simprocAttr]) | (refine at_callD (by simp [clB, idsL, idsA, hget]) ?_; (try simp only [push_cast, simprocAttr]); first | (refine rcd_v (hI) ?_; simp only [e1, e2, e3, e4, e5, e6, w2, w3, j1, j2, List.length_map, Bool.not_false, Bool.not_true, push_cast, simprocAttr]) | (refine rcd_d (hI) (by simp [flatV, flatL, ctC, ndC, cmC]) (by simp [ren, ctC, ndC, cmC]) ?_; simp only [e1, e2, e3, e4, e5, e6, w2, w3, j1, j2, List.length_map, Bool.not_false, Bool.not_true, push_cast, simprocAttr]) | (refine rcd_v (hS) ?_; simp only [e1, e2, e3, e4, e5, e6, w2, w3, j1, j2, List.length_map, Bool.not_false, Bool.not_true, push_cast, simprocAttr]) | (refine rcd_d (hS) (by simp [flatV, flatL, ctC, ndC, cmC]) (by simp [ren, ctC, ndC, cmC]) ?_; simp only [e1, e2, e3, e4, e5, e6, w2, w3, j1, j2, List.length_map, Bool.not_false, Bool.not_true, push_cast, simprocAttr]) | (refine rcd_v (hF) ?_; simp only [e1, e2, e3, e4, e5, e6, w2, w3, j1, j2, List.length_map, Bool.not_false, Bool.not_true, push_cast, simprocAttr]) | (refine rcd_d (hF) (by simp [flatV, flatL, ctC, ndC, cmC]) (by simp [ren, ctC, ndC, cmC]) ?_; simp only [e1, e2, e3, e4, e5, e6, w2, w3, j1, j2, List.length_map, Bool.not_false, Bool.not_true, push_cast, simprocAttr])) | (refine at_done (by kernel_rfl) (by kernel_rfl) (go_on ?_); (try simp only [e1, e2, e3, e4, e5, e6, w2, w3, j1, j2, List.length_map, Bool.not_false, Bool.not_true, push_cast, simprocAttr]))
                  (try simp only [Bool.not_false, push_cast, simprocAttr])
                  refine at_ret ?_; simp only [Try.results33, push_cast, simprocAttr]
                  simp [vX, h4, hlt2]
            · have e4 : ltI 400 ((d.safe.length : Int) + d.fresh.length) = true := ltI_t (by omega)
              refine at_draw rfl (by kernel_rfl) ?_; simp only [push_cast, simprocAttr]
              repeat' first | (refine at_bWn (fun hb => ?_) (fun hb => ?_) <;> simp only [e1, e2, e3, e4, w3, List.length_map, Bool.not_false, Bool.not_true, hb, push_cast, simprocAttr]) | (refine at_bW (fun hb => ?_) (fun hb => ?_) <;> simp only [e1, e2, e3, e4, w3, List.length_map, Bool.not_false, Bool.not_true, hb, push_cast, simprocAttr]) | (refine at_callD (by simp [clB, idsL, idsA, hget]) ?_; (try simp only [push_cast, simprocAttr]); first | (refine rcd_v (hI) ?_; simp only [e1, e2, e3, e4, w3, List.length_map, Bool.not_false, Bool.not_true, push_cast, simprocAttr]) | (refine rcd_d (hI) (by simp [flatV, flatL, ctC, ndC, cmC]) (by simp [ren, ctC, ndC, cmC]) ?_; simp only [e1, e2, e3, e4, w3, List.length_map, Bool.not_false, Bool.not_true, push_cast, simprocAttr]) | (refine rcd_v (hS) ?_; simp only [e1, e2, e3, e4, w3, List.length_map, Bool.not_false, Bool.not_true, push_cast, simprocAttr]) | (refine rcd_d (hS) (by simp [flatV, flatL, ctC, ndC, cmC]) (by simp [ren, ctC, ndC, cmC]) ?_; simp only [e1, e2, e3, e4, w3, List.length_map, Bool.not_false, Bool.not_true, push_cast, simprocAttr]) | (refine rcd_v (hF) ?_; simp only [e1, e2, e3, e4, w3, List.length_map, Bool.not_false, Bool.not_true, push_cast, simprocAttr]) | (refine rcd_d (hF) (by simp [flatV, flatL, ctC, ndC, cmC]) (by simp [ren, ctC, ndC, cmC]) ?_; simp only [e1, e2, e3, e4, w3, List.length_map, Bool.not_false, Bool.not_true, push_cast, simprocAttr])) | (refine at_done (by kernel_rfl) (by kernel_rfl) (go_on ?_); (try simp only [e1, e2, e3, e4, w3, List.length_map, Bool.not_false, Bool.not_true, push_cast, simprocAttr]))
              (try simp only [Bool.not_false, push_cast, simprocAttr])
              refine at_ret ?_; simp only [Try.results33, push_cast, simprocAttr]
              simp [vX, h4, h400]
    · have h5 := lt_ff hg
      (try simp only [hg, push_cast, simprocAttr])
      refine at_ret ?_; simp only [Try.results33, push_cast, simprocAttr]
      rw [List.drop_of_length_le h5] at h4
      simp [vX, h4, diskFrom]
end Go.Proofs.Ytepcabenjikhgaa
/-
  Walks: disks: the reference's copies, l31Without, l31With.
-/
namespace Go.Proofs.Ytepcabenjikhgaa
open Go Go.RowKit Go.Proofs
attribute [local irreducible] RWp AW run kPe pe Kt effA gd gu br retR RDp runD kPeD brW gW effD
set_option maxRecDepth 100000
end Go.Proofs.Ytepcabenjikhgaa
/-
  Walks: disks: l31With; the reference's DiskRename, DiskWrite.
-/
namespace Go.Proofs.Ytepcabenjikhgaa
open Go Go.RowKit Go.Proofs
attribute [local irreducible] RWp AW run kPe pe Kt effA gd gu br retR RDp runD kPeD brW gW effD
set_option maxRecDepth 100000
end Go.Proofs.Ytepcabenjikhgaa
/-
  Walks: disks: the reference's DiskRename, DiskWrite.
-/
namespace Go.Proofs.Ytepcabenjikhgaa
open Go Go.RowKit Go.Proofs
attribute [local irreducible] RWp AW run kPe pe Kt effA gd gu br retR RDp runD kPeD brW gW effD
set_option maxRecDepth 100000
end Go.Proofs.Ytepcabenjikhgaa
/-
  The abstract machine: a region that draws its order, one call within that borrows rows.
-/
namespace Go.Proofs.Ytepcabenjikhgaa
open Go Go.RowKit

section
variable {P : Program}
theorem fo_none {V : Nat → Bool} : ∀ (l : List E) (k : Nat) (s : AS), (∀ j, k ≤ j → j < k + l.length → V j = false) → fo V k l s = s
  | [], _, _, _ => rfl
  | e :: l, k, s, h => by
    simp only [fo]
    rw [if_neg (by rw [h k (Nat.le_refl _) (by simp)]; simp)]
    exact fo_none l (k + 1) s fun j h1 h2 => h j (by omega) (by simp only [List.length_cons]; omega)
theorem anc_facts {ops : List Oper} (hbk : bkB ops 0 = true) : (∀ i j, Anc ops i j → j < i) ∧ (∀ (i : Nat) o, ops[i]? = some o → ∀ j, j ∈ waitsFor ops i → ∃ e ∈ o.after, Region.binds .any e = true ∧ e.on = j) := by
  have hback := bkB_spec ops 0 hbk
  have hwait : ∀ (i : Nat) o, ops[i]? = some o → ∀ j, j ∈ waitsFor ops i → ∃ e ∈ o.after, Region.binds .any e = true ∧ e.on = j := fun i o ho j hj => (waits_mem ho j).1 hj
  refine ⟨fun i j hA => ?_, hwait⟩
  have h1 : ∀ i k, k ∈ waitsFor ops i → k < i := fun i k hk => by
    unfold waitsFor at hk
    cases ho : ops[i]? with
    | none => rw [ho] at hk; cases hk
    | some o =>
      obtain ⟨e, he, hbe, rfl⟩ := hwait i o ho k (by unfold waitsFor; rw [ho]; rw [ho] at hk; exact hk)
      have := hback i o ho e he hbe
      omega
  induction hA with
  | dir h => exact h1 _ _ h
  | tr h _ ih => have := h1 _ _ h; omega
/-- An event that is to come: what it reads is as the text says, and it may stand in its place. -/
theorem hop_law {ops : List Oper} {s : AS} {evs : List E} (hlen : evs.length ≤ ops.length) (hbk : bkB ops 0 = true) (hpr : prB evs (mks ops []) evs 0 = true) (hkc : kcB ops s evs = true)
    (listed : Nat → Bool) (hclo : ∀ i j, listed i = true → Anc ops i j → listed j = true) {i : Nat} {e : E} (hei : evs[i]? = some e) (hli' : listed i = false) (hanc : ∀ j, Anc ops i j → listed j = true)
    (hvals : e.vals = e.rd.map (getA (fo (fun j => decide (j < i)) 0 evs s).t)) {V' : Nat → Bool} (hset : ∀ j, V' j = if j = i then true else listed j) :
    Sees e (fo (fun j => decide (j < i)) 0 evs s) (fo listed 0 evs s) ∧ Eqv (fo V' 0 evs s) (e.ap (fo listed 0 evs s)) := by
  obtain ⟨hlt, hwait⟩ := anc_facts hbk
  obtain ⟨hml, hmk⟩ := mks_spec ops ops [] (fun i o h => by simpa using h) (fun i k h => by simp at h)
  obtain ⟨evs', hsub, hfo, hcov, hkill⟩ := kc_cut hkc
  -- pairs that lie apart
  have hpair : ∀ (i j : Nat) e f, i < j → evs[i]? = some e → evs[j]? = some f → ¬ Anc ops j i → okE e f = true ∧ siB e f = true ∧ siB f e = true := fun i j e f hij hi hj hna => by
    have hjl : j < (mks ops []).length := by
      have := lt_of_some hj
      rw [hml, List.length_nil, Nat.zero_add]; omega
    rcases prB_spec evs (mks ops []) evs 0 hpr j i _ f e (List.getElem?_eq_getElem hjl) hj (by omega) hi with h1 | h1
    · exact absurd (hmk j i (by rw [List.getD_eq_getElem?_getD, List.getElem?_eq_getElem hjl]; exact h1)) hna
    · exact h1
  classical
  have hsees : Sees e (fo (fun j => decide (j < i)) 0 evs s) (fo listed 0 evs s) := by
    let A : Nat → Bool := fun j => decide (Anc ops i j)
    have hsplit : ∀ V : Nat → Bool, (∀ j, A j = true → V j = true) → Eqv (fo V 0 evs s) (fo (fun j => V j && !A j) 0 evs (fo A 0 evs s)) := fun V hV =>
      fo_split evs 0 s hV fun p q ep eq hp hq hpq _ h2 h3 => by
        simp only [Nat.zero_add, A, decide_eq_true_eq, decide_eq_false_iff_not] at h2 h3
        exact (hpair p q ep eq hpq hp hq fun hA => h2 (h3.trans hA)).1
    have hA0 : A (evs.length - 1) = false := by
      have hie : i < evs.length := lt_of_some hei
      refine decide_eq_false fun hA => ?_
      have := hlt i _ hA
      omega
    have hi0 : (fun j => decide (j < i) && !A j) (evs.length - 1) = false := by
      have hie : i < evs.length := lt_of_some hei
      simp only [Bool.and_eq_false_iff, decide_eq_false_iff_not]
      exact .inl (by omega)
    have hl0 : evs' = evs ∨ (fun j => listed j && !A j) (evs.length - 1) = false := by
      refine hcov.imp (fun h => h) fun hc => ?_
      have hie : i < evs.length := lt_of_some hei
      simp only [Bool.and_eq_false_iff]
      refine .inl ?_
      rcases Nat.lt_or_ge i (evs.length - 1) with h1 | h1
      · rw [← Bool.not_eq_true]
        intro hL
        have := hclo _ i hL (hc i h1)
        rw [hli'] at this
        cases this
      · rw [show evs.length - 1 = i from by omega]; exact hli'
    have hkA : (∀ f ∈ evs', f.kill = none) ∨ (clH (fo A 0 evs' s).h ∧ ∀ f ∈ evs', f.add.all (·.2.cl) = true) := by
      rcases hkill with h | ⟨h1, h2⟩
      · exact .inl h
      · refine .inr ⟨?_, h2⟩
        have : ∀ (l : List E) (k : Nat) (s : AS), clH s.h → (∀ f ∈ l, f.add.all (·.2.cl) = true) → clH (fo A k l s).h := by
          intro l
          induction l with
          | nil => intro k s h _; exact h
          | cons f l ih =>
            intro k s h hf
            simp only [fo]
            refine ih (k + 1) _ ?_ fun g hg => hf g (List.mem_cons_of_mem _ hg)
            split
            · exact clH_ap h (hf f List.mem_cons_self)
            · exact h
        exact this evs' 0 s h1 h2
    have e1 := hsplit (fun j => decide (j < i)) fun j hj => by simp only [A, decide_eq_true_eq] at hj ⊢; exact hlt i j hj
    have e2 := hsplit listed fun j hj => by simp only [A, decide_eq_true_eq] at hj; exact hanc j hj
    have s1 : Sees e (fo A 0 evs s) (fo (fun j => decide (j < i) && !A j) 0 evs (fo A 0 evs s)) := by
      rw [hfo (fun j => decide (j < i) && !A j) _ (.inr hi0), hfo A s (.inr hA0)]
      refine sees_bwd evs' 0 _ (by rw [← hfo A s (.inr hA0), ← hfo (fun j => decide (j < i) && !A j) _ (.inr hi0), ← e1.1]; exact hvals) (fun j f hf hj => ?_) hkA
      replace hf := hsub j f hf
      simp only [Nat.zero_add, A, Bool.and_eq_true, decide_eq_true_eq, Bool.not_eq_true', decide_eq_false_iff_not] at hj
      exact (hpair j i f e hj.1 hf hei hj.2).2.1
    have hvA : e.vals = e.rd.map (getA (fo A 0 evs s).t) := by
      rw [hvals, e1.1]
      exact List.map_congr_left fun q hq => (s1.1 q hq).symm
    have s2 : Sees e (fo A 0 evs s) (fo (fun j => listed j && !A j) 0 evs (fo A 0 evs s)) := by
      rw [hfo (fun j => listed j && !A j) _ hl0, hfo A s (.inr hA0)]
      refine sees_fwd evs' 0 _ (by rw [← hfo A s (.inr hA0)]; exact hvA) (fun j f hf hj => ?_) hkA
      replace hf := hsub j f hf
      simp only [Nat.zero_add, A, Bool.and_eq_true, Bool.not_eq_true', decide_eq_false_iff_not] at hj
      rcases Nat.lt_trichotomy j i with h1 | h1 | h1
      · exact (hpair j i f e h1 hf hei hj.2).2.1
      · subst h1; rw [hli'] at hj; cases hj.1
      · exact (hpair i j e f h1 hei hf fun hA => by have := hclo j i hj.1 hA; rw [hli'] at this; cases this).2.2
    exact ⟨fun q hq => by rw [e1.1, e2.1]; exact (s1.1 q hq).symm.trans (s2.1 q hq), fun r hr => by rw [e1.2, e2.2]; exact (s1.2 r hr).symm.trans (s2.2 r hr)⟩
  refine ⟨hsees, fo_ins evs 0 s (Nat.zero_le _) (by simpa using hei) hli' hset fun j f hf hj hsel => ?_⟩
  simp only [Nat.zero_add] at hj hsel
  exact (hpair i j e f hj hei hf fun hA => by have := hclo j i hsel hA; rw [hli'] at this; cases this).1

variable {w0 : World} {lent : Lent} {Q : Exit → Act → World → Prop}
end

end Go.Proofs.Ytepcabenjikhgaa
/-
  The abstract machine: a drawn region with one call that borrows a row, run as its text stands.
-/
namespace Go.Proofs.Ytepcabenjikhgaa
open Go Go.RowKit

section
variable {P : Program} {w0 : World} {lent : Lent} {Q : Exit → Act → World → Prop}
end

end Go.Proofs.Ytepcabenjikhgaa
/-
  The abstract machine: a region that draws its order, several calls within that borrow a row, and operations that wait for none of them.
-/
namespace Go.Proofs.Ytepcabenjikhgaa
open Go Go.RowKit

/-! ### Moves of slots that nothing writes: they see no row -/
section
variable {P : Program} {w0 : World} {lent : Lent} {Q : Exit → Act → World → Prop}
end

end Go.Proofs.Ytepcabenjikhgaa
/-
  The abstract machine: what a call that was lent rows leaves anew, read as data.
-/
namespace Go.Proofs.Ytepcabenjikhgaa
open Go Go.RowKit

end Go.Proofs.Ytepcabenjikhgaa
/-
  Walks: disks: the draws.
-/
namespace Go.Proofs.Ytepcabenjikhgaa
open Go Go.RowKit Go.Proofs
structure DrB (l : List BD) : Prop where
  n : l.length ≤ 4
  d : ∀ d ∈ l, d.safe.length ≤ 200 ∧ d.fresh.length ≤ 200
theorem DrB.sm {l : List BD} (h : DrB l) : SmB l := ⟨by have := h.n; omega, fun d hd => ⟨by have := h.d d hd; omega, by have := h.d d hd; omega⟩⟩
attribute [local irreducible] RWp AW run kPe pe Kt effA gd gu br retR RDp runD kPeD brW gW effD
set_option maxRecDepth 100000
end Go.Proofs.Ytepcabenjikhgaa
/-
  Walks: disks: the draws: a disk, a number; DrawDiskRename, DrawDiskWrite.
-/
namespace Go.Proofs.Ytepcabenjikhgaa
open Go Go.RowKit Go.Proofs
attribute [local irreducible] RWp AW run kPe pe Kt effA gd gu br retR RDp runD kPeD brW gW effD
set_option maxRecDepth 100000
end Go.Proofs.Ytepcabenjikhgaa
/-
  Walks: disks: laws.sameInts, laws.sameDisk at equal things.
-/
namespace Go.Proofs.Ytepcabenjikhgaa
open Go Go.RowKit Go.Proofs
attribute [local irreducible] RWp AW run kPe pe Kt effA gd gu br retR RDp runD kPeD brW gW effD
set_option maxRecDepth 100000
end Go.Proofs.Ytepcabenjikhgaa
/-
  The abstract machine: a slice that is nil, read as an empty one, within rows.
-/
namespace Go.Proofs.Ytepcabenjikhgaa
open Go Go.RowKit

end Go.Proofs.Ytepcabenjikhgaa
/-
  The abstract machine: own rows read as data, whatever rows stand beside them; at a call, too.
-/
namespace Go.Proofs.Ytepcabenjikhgaa
open Go Go.RowKit Go.Proofs
def frwRow (ids : List Nat) (h : Hp) (row : Row) : Row := if (row.es.all fun e => e.all fun x => (idsA x).all fun r => !hasN ids r) = true then row else ⟨row.E, row.sz, row.es.map (·.map (viewN 3 h)), true⟩
def frwH (ids : List Nat) (h : Hp) : Hp → Hp
  | [] => []
  | (r, row) :: l => (r, frwRow ids h row) :: frwH ids h l
def frwS (ids : List Nat) (s : AS) : AS := ⟨s.t.map (frzT ids s.h), frwH ids s.h (delL s.h ids)⟩
theorem at_frwS {P : Program} {w0 : World} {lent : Lent} {Q : Exit → Act → World → Prop} {k : List It} {s : AS} (ids : List Nat) (h : Wk s (frwS ids s)) (h' : AW P w0 lent Q k (frwS ids s)) : AW P w0 lent Q k s := at_frz h h'
end Go.Proofs.Ytepcabenjikhgaa
/-
  Walks: disks: the reference's DiskWrite.
-/
namespace Go.Proofs.Ytepcabenjikhgaa
open Go Go.RowKit Go.Proofs
attribute [local irreducible] RWp AW run kPe pe Kt effA gd gu br retR RDp runD kPeD brW gW effD
set_option maxRecDepth 100000
end Go.Proofs.Ytepcabenjikhgaa
/-
  Walks: DiskSync.
-/
namespace Go.Proofs.Ytepcabenjikhgaa
open Go Go.RowKit Go.Proofs
theorem ownNil {w0 w1 w : World} {lent1 : Lent} {s : AS} {loc : Loc} {a : Act} {R : Nat} {v : Value} (hch : Ch w0 w1 lent1) (hr : hget s.h R = some (rowB [])) (hR : Rel w1 lent1 s loc a w) (hG : G s.h loc w (.tup [.o R 0, bA false]) v) :
    ∃ x, (∀ lv lo W, C lv lo W x v) ∧ otB [] false w (fun b => w0.heap.size ≤ b ∧ b < w.heap.size) x := by
  obtain ⟨v0, h1, h2⟩ := hG.tupOB
  exact ⟨_, h2, v0, [], rfl, hR.toOT hch (bs := []) (us := []) hr Gh.nil h1⟩
attribute [local irreducible] RWp AW run kPe pe Kt effA gd gu br retR RDp runD kPeD brW gW effD
set_option maxRecDepth 100000
end Go.Proofs.Ytepcabenjikhgaa
/-
  Walks: the reference's DiskSync.
-/
namespace Go.Proofs.Ytepcabenjikhgaa
open Go Go.RowKit Go.Proofs
attribute [local irreducible] RWp AW run kPe pe Kt effA gd gu br retR RDp runD kPeD brW gW effD
set_option maxRecDepth 100000
end Go.Proofs.Ytepcabenjikhgaa
/-
  Plain laws of disks: a crash.
-/
namespace Go.Proofs.Ytepcabenjikhgaa
open Go Go.RowKit Go.Proofs
/-- How much of a file's fresh bytes is kept. -/
def keepN (keep : List Int) (d : BD) : Nat := if d.name ≤ keep.length then min ((keep[(d.name - 1).toNat]?).getD 0).toNat d.fresh.length else 0
def crF (keep : List Int) (d : BD) : BD := ⟨d.name, d.safe ++ d.fresh.take (keepN keep d), []⟩
def okK (keep : List Int) : Bool := decide (keep.length ≤ 3) && keep.all fun n => inR n 0 400
/-- What DiskCrash returns. -/
def crashP (bs : List BD) (keep : List Int) : List BD × Bool := if diskB bs && okK keep then (bs.map (crF keep), true) else ([], false)
theorem bytesB_take {l : List Int} (h : bytesB l = true) (n : Nat) : bytesB (l.take n) = true := by
  unfold bytesB at *
  rw [List.all_eq_true] at *
  exact fun x hx => h x (List.mem_of_mem_take hx)
theorem crF_ok {keep : List Int} {d : BD} (h : okF d = true) : okF (crF keep d) = true := by
  unfold crF
  simp only [okF, bytesB_app, Bool.and_eq_true, decide_eq_true_eq] at h ⊢
  obtain ⟨⟨⟨h1, h2⟩, h3⟩, h4⟩ := h
  refine ⟨⟨⟨h1, h2, bytesB_take h3 _⟩, rfl⟩, ?_⟩
  have : (d.fresh.take (keepN keep d)).length ≤ d.fresh.length := by rw [List.length_take]; omega
  simp only [List.length_append, List.length_nil]; omega
theorem crash_valid {bs : List BD} (keep : List Int) (h : diskB bs = true) : diskB (bs.map (crF keep)) = true := by
  rw [diskB_iff] at h ⊢
  refine ⟨?_, ?_⟩
  · rw [List.all_map, List.all_eq_true]
    exact fun d hd => crF_ok (List.all_eq_true.1 h.1 d hd)
  · refine (asc_names ?_).trans h.2
    rw [List.map_map]
    rfl
theorem crashP_disk {bs : List BD} {keep : List Int} {Y : List BD} {ok : Bool} (h : (Y, ok) = crashP bs keep) : diskB Y = true ∨ Y = [] := by
  unfold crashP at h
  split at h
  · rename_i hc
    cases h
    rw [Bool.and_eq_true] at hc
    exact .inl (crash_valid keep hc.1)
  · cases h; exact .inr rfl
theorem crashP_bad {bs : List BD} {keep : List Int} (h : (diskB bs && okK keep) = false) : crashP bs keep = ([], false) := by unfold crashP; rw [h]; rfl
theorem crashP_ok {bs : List BD} {keep : List Int} (h : (diskB bs && okK keep) = true) : crashP bs keep = (bs.map (crF keep), true) := by unfold crashP; rw [h]; rfl
end Go.Proofs.Ytepcabenjikhgaa
/-
  Walks: slices.SortFunc at files whose lists are set aside: contracts with a lent row.
-/
namespace Go.Proofs.Ytepcabenjikhgaa
open Go Go.RowKit Go.Proofs
open Go.Sort (grow SWO PermIn SortedIn)
set_option maxRecDepth 100000
set_option maxHeartbeats 1000000
attribute [local irreducible] RWp AW run kPe pe Kt effA gd gu br retR RDp runD kPeD brW gW effD
end Go.Proofs.Ytepcabenjikhgaa
/-
  Walks: memory set aside, handed to calls: read as data; marked.
-/
namespace Go.Proofs.Ytepcabenjikhgaa
open Go Go.RowKit Go.Proofs
section
variable {P : Program} {Q : Exit → Act → World → Prop} {w0 w1 : World} {lent1 : Lent} {s : AS} {loc : Loc} {a : Act} {w : World}
theorem OT.ga {u : Value} {bs : List BD} {us : UU} {X : Nat → Prop} (hO : OT w1 X u bs us) (hX : ∀ b, X b → lent1.fb b) : ∀ loc a w, Rel w1 lent1 s loc a w → ∀ v, G s.h loc w (.v u) v → C (fun _ => False) 0 w (blsA bs) v :=
  ga_g fun w h => (hO.same (fun b hb => h b (hX b hb)) (fun _ h => h)).c fun _ _ h => h
theorem call_gv {f : FuncId} {args : List AV} {dst : Option Tmp} {k : List It} {x : Value} (ga : List AV) (hga : gaOk w1 lent1 s ga args) (hpc : PC P f ga (vX (.v x)))
    (hk : AW P w1 lent1 Q k (AS.put s dst (.v x))) : RWp P w1 lent1 Q (.call f args dst k s) := by
  refine call_gh ga hga hpc ?_
  rintro rv rows ⟨rfl, rfl⟩
  refine ⟨rfl, fun row h => (by cases h), frB_0 _ _, ?_⟩
  unfold backTo
  simpa only [hpOf, List.append_nil, ren] using hk
theorem OT.nil_or {w : World} {X : Nat → Prop} {u : Value} {bs : List BD} {us : UU} (h : OT w X u bs us) : (u = .slice none 0 0 ∧ bs = []) ∨ ∃ g c, u = .slice (some ⟨g, 0, none⟩) bs.length c := by
  rcases h.row.2 with ⟨h1, h2⟩ | ⟨g, cap, cur, h1, _⟩
  · exact .inl ⟨h1, List.eq_nil_of_length_eq_zero h2⟩
  · exact .inr ⟨g, cap, h1⟩
theorem OT.some {w : World} {X : Nat → Prop} {u : Value} {bs : List BD} {us : UU} (h : OT w X u bs us) (hb : 0 < bs.length) : ∃ g c, u = .slice (some ⟨g, 0, none⟩) bs.length c := by
  rcases h.nil_or with ⟨_, rfl⟩ | h
  · simp at hb
  · exact h
theorem getD2 {vs : Array Value} {x y : Value} (hs : vs.size = 2) (h0 : vs.getD 0 undef = x) (h1 : vs.getD 1 undef = y) : vs = #[x, y] := by
  subst h0; subst h1
  apply Array.ext
  · simpa using hs
  · intro i h1 h2
    rcases i with _ | _ | i
    · simp [Array.getD, h1]
    · simp [Array.getD, h1]
    · omega
end
/-! ### Plain: disks are small -/
theorem tot_cap : ∀ {l : List BD} {c : Nat}, (∀ d ∈ l, tot1 d ≤ c) → tot l ≤ l.length * c
  | [], _, _ => by simp [tot]
  | d :: l, c, h => by
    have h1 := h d (by simp)
    have h2 := tot_cap (l := l) (c := c) fun x hx => h x (by simp [hx])
    simp only [tot, List.length_cons, Nat.add_mul, Nat.one_mul]; omega
theorem disk_tot {bs : List BD} (h : diskB bs = true ∨ bs = []) : SmB bs ∧ tot bs ≤ 1203 := by
  rcases h with h | rfl
  · refine ⟨disk_sm h, ?_⟩
    have h1 := disk_len h
    have h2 := tot_cap (l := bs) (c := 401) fun d hd => by
      have := disk_okF h hd
      simp only [okF, Bool.and_eq_true, decide_eq_true_eq] at this
      unfold tot1; omega
    have h3 : bs.length * 401 ≤ 3 * 401 := Nat.mul_le_mul_right _ h1
    omega
  · exact ⟨⟨by simp, fun d hd => by simp at hd⟩, by simp [tot]⟩
theorem tot_mem : ∀ {l : List BD} {d : BD}, d ∈ l → tot1 d ≤ tot l
  | [], _, h => by simp at h
  | x :: l, d, h => by
    rcases List.mem_cons.1 h with rfl | h
    · simp only [tot]; omega
    · have := tot_mem h; simp only [tot]; omega
theorem tot_sz {bs : List BD} {c : Int} (h : (tot bs : Int) ≤ c) (hc : c ≤ 1048576) : SzB bs := by
  have h1 := tot_ge bs
  refine ⟨by omega, fun d hd => ?_⟩
  have := tot_mem hd
  unfold tot1 at this
  exact ⟨by omega, by omega⟩
theorem SzB.sm {bs : List BD} (h : SzB bs) : SmB bs := ⟨by have := h.n; omega, fun d hd => ⟨by have := (h.d d hd).1; omega, by have := (h.d d hd).2; omega⟩⟩
theorem SmB.d8 {bs : List BD} (h : SmB bs) : ∀ d ∈ bs, d.safe.length < 8589934590 ∧ d.fresh.length < 8589934590 := fun d hd => ⟨by have := (h.d d hd).s; omega, by have := (h.d d hd).f; omega⟩
section
variable {Q : Exit → Act → World → Prop} {w0 w1 : World} {lent1 : Lent} {s : AS}
theorem at_markB {u : Value} {bs : List BD} {us : UU} {X : Nat → Prop} {k0 : Nat} {dst : Option Tmp} {k : List It} (hnf : nf k = true) (hO : OT w1 X u bs us) (hX : ∀ b, X b → lent1.fb b) (h0 : 0 < k0) (hk : k0 + tot bs ≤ 4611686018427387904)
    (h : ∀ w2 lent2, NxM w1 lent1 w2 lent2 X → OT w2 X u (mkB k0 bs) us → AW Try.prog w2 lent2 Q k (AS.put s dst (.v (.int .i64 ((k0 + tot bs : Nat) : Int))))) : RWp Try.prog w1 lent1 Q (.call 18 [.v u, .v (.int .i64 k0)] dst k s) :=
  call_mut X hnf hX (enters_of Try.func18 (by kernel_rfl) rfl)
    (Z := fun w x => x = .v (.int .i64 ((k0 + tot bs : Nat) : Int)) ∧ OT w X u (mkB k0 bs) us)
    (fun w vs hw hs hv => by
      obtain rfl := getD2 hs (hv 0 _ rfl) (hv 1 _ rfl)
      refine (markBlobS_m (hO.same (fun b hb => hw b (hX b hb)) fun _ h => h) k0 h0 hk).mono ?_
      rintro e w' ⟨rfl, h1, h2⟩
      exact ⟨_, _, rfl, fun _ _ _ => .v, h1, rfl, h2⟩)
    (fun w2 lent2 x h1 h2 => by
      obtain ⟨rfl, h2⟩ := h2
      exact h w2 lent2 h1 h2)
theorem poB {w : World} {s : AS} {loc : Loc} {b : Bool} {v : Value} (hG : G s.h loc w (.v (.bool b)) v) : ∃ x, (∀ lv lo W, C lv lo W x v) ∧ x = .v (.bool b) :=
  ⟨_, fun _ _ _ => by rw [hG.v_inv]; exact .v, rfl⟩
end
attribute [local irreducible] RWp AW run kPe pe Kt effA gd gu br retR RDp runD kPeD brW gW effD
set_option maxRecDepth 100000
theorem markBlobS_nil (k : Int) : PC Try.prog 18 [blsA [], iA k] (vI k) := by
  refine pc_enter Try.func18 rfl rfl fun w0 fb => go_on ?_; (try simp only [Try.ntmps18, push_cast, simprocAttr])
  refine at_loop (X := Unit) (fun _ => [(1, iA k), (5, iA 0)]) (fun _ => []) (fun _ => True) (fun _ => 0) () trivial ?_ ?_
  · (refine wk_ok ?_ ?_ ?_ ?_ <;> simp [leL, leH, idsL, idsA, idsR, inH, hget, sameRow, upA, hvA, dsts, dstO, setA_0, setA_1, setA_8, List.append, List.cons_append, List.nil_append])
  · rintro ⟨⟩ _
    simp only [upA, hvA, dsts, dstO, setA_0, setA_1, setA_8, List.append, List.cons_append, List.nil_append]
    refine go_on ?_
    (try simp only [show ltI 0 0 = false from rfl, push_cast, simprocAttr])
    refine at_ret ?_; simp only [Try.results18, push_cast, simprocAttr]
    simp [vX]
theorem heldBlobS_nil : PC Try.prog 20 [blsA [], iA 1] (vI 1) := by
  have := heldBlobS_pc [] 1 (by omega) (by simp [tot])
  simpa [mkB, tot] using this
end Go.Proofs.Ytepcabenjikhgaa
/-
  The abstract machine: a drawn region whose last operation waits for all others: the others in any order, then the last.
-/
namespace Go.Proofs.Ytepcabenjikhgaa
open Go Go.RowKit
section
variable {P : Program} {w0 : World} {lent : Lent} {Q : Exit → Act → World → Prop}
def lstB (c : Nat) (ms : List Nat) : Bool := match ms[c]? with | some m => (List.range c).all fun j => m.testBit j | none => false
end
end Go.Proofs.Ytepcabenjikhgaa
/-
  The abstract machine: a drawn region whose last two operations wait for all others: the others in any order, then the last two.
-/
namespace Go.Proofs.Ytepcabenjikhgaa
open Go Go.RowKit
theorem wanted_none {all : List Oper} {o : Oper} (h : (cmpO all o).g = none) (y : Nat → Option Bool) : Region.wanted o y = true := by
  obtain ⟨dst, op, type, pos, after, guard⟩ := o
  cases guard with
  | none => rfl
  | some jw => simp [cmpO] at h
section
variable {P : Program} {w0 : World} {lent : Lent} {Q : Exit → Act → World → Prop}
end
end Go.Proofs.Ytepcabenjikhgaa
/-
  The abstract machine: a drawn region whose last three operations wait for all others, but the third last for all but the first (a move).
-/
namespace Go.Proofs.Ytepcabenjikhgaa
open Go Go.RowKit
def lst1B (c : Nat) (ms : List Nat) : Bool := match ms[c]? with | some m => (List.range c).all fun j => decide (j = 0) || m.testBit j | none => false
section
variable {P : Program} {w0 : World} {lent : Lent} {Q : Exit → Act → World → Prop}
theorem Rel.drop1 {s : AS} {loc : Loc} {a : Act} {w : World} (hR : Rel w0 lent s loc a w) (d : Nat) : Rel w0 lent ⟨setA s.t d .any, s.h⟩ loc a w := by
  refine ⟨by rw [setA_eq, List.length_set]; exact hR.tsz, fun i y hy => ?_, hR.df, hR.rw, hR.inj, hR.own, hR.os, hR.tape, hR.output, hR.size, hR.keep, hR.fbe, hR.fbl, hR.pn, hR.pl⟩
  dsimp only at hy
  rw [setA_eq, List.getElem?_set] at hy
  split at hy
  · split at hy
    · cases hy; exact .cl .any
    · cases hy
  · exact hR.tm i y hy
/-- Between the operations of such a region. -/
def JX (P : Program) (w0 : World) (lent : Lent) (Q : Exit → Act → World → Prop) (ops : List Oper) (k : List It) (pre : List E) (s : AS) (c : Nat) (o0 od oe : Oper) (V : Nat → Bool) (a : Act) (w : World) : Prop :=
  (V c = false ∧ V (c + 1) = false ∧ V (c + 2) = false ∧ ∃ loc, Rel w0 lent (fo V 0 pre s) loc a w) ∨
  (V c = true ∧ V (c + 1) = false ∧ V (c + 2) = false ∧ V 0 = true ∧ wpSO P (Kt P w0 lent Q k) [cmpO ops od, cmpO ops oe] a w) ∨
  (V c = true ∧ V (c + 1) = false ∧ V (c + 2) = false ∧ V 0 = false ∧ wpSO P (Kt P w0 lent Q k) [cmpO ops o0, cmpO ops od, cmpO ops oe] a w) ∨
  (V (c + 1) = true ∧ V (c + 2) = false ∧ wpSO P (Kt P w0 lent Q k) [cmpO ops oe] a w) ∨
  (V (c + 2) = true ∧ Kt P w0 lent Q k .normal a w)
theorem drawX_sound (hm : P.follows .mixedOrders = true) {id : Nat} {ops : List Oper} {k : List It} {s : AS} (c : Nat) (hcl1 : ops.length = c + 3) (hc0 : 0 < c) {o0 oc od oe : Oper} (hz : ops[0]? = some o0) (hc : ops[c]? = some oc) (hd : ops[c + 1]? = some od) (he : ops[c + 2]? = some oe)
    (hg0 : (cmpO ops o0).g = none) (hg : (cmpO ops oc).g = none) (hg2 : (cmpO ops od).g = none) (hg3 : (cmpO ops oe).g = none) (hbk : bkB ops 0 = true) (hlst : lst1B c (mks ops []) = true) (hlst2 : lstB (c + 1) (mks ops []) = true) (hlst3 : lstB (c + 2) (mks ops []) = true)
    (h : DP P (fun evs s1 => prB evs (mks ops []) evs 0 = true ∧ kcB ops s evs = true ∧ AW P w0 lent Q (.ops [cmpO ops oc, cmpO ops od, cmpO ops oe] :: k) s1 ∧ (∃ d x rd vals, evs[0]? = some ⟨some d, x, none, [], rd, vals⟩ ∧ AW P w0 lent Q (.ops [cmpO ops oc, cmpO ops o0, cmpO ops od, cmpO ops oe] :: k) ⟨setA s1.t d .any, s1.h⟩)) ((ops.take c).map (cmpO ops)) [] s) :
    AW P w0 lent Q (.code (.region id ⟨ops⟩ true) :: k) s := by
  obtain ⟨pre, hlp, hsp, hpr0, hkc0, hpost, d0, x0, rd0, vals0, he0, hpost2⟩ := DP_ex _ _ _ h
  rw [List.nil_append] at hpr0 hkc0 he0
  have hcl : c < ops.length := by omega
  rw [List.length_map, List.length_take, Nat.min_eq_left (by omega)] at hlp
  obtain ⟨hlt, hwait⟩ := anc_facts hbk
  obtain ⟨hml, hmk⟩ := mks_spec ops ops [] (fun i o h => by simpa using h) (fun i k h => by simp at h)
  have hback := bkB_spec ops 0 hbk
  have hA : ∀ c, lstB c (mks ops []) = true → ∀ j, j < c → Anc ops c j := fun c hlst j hj => by
    unfold lstB at hlst
    split at hlst
    · rename_i m hm'
      have := List.all_eq_true.1 hlst j (List.mem_range.2 hj)
      exact hmk c j (by rw [List.getD_eq_getElem?_getD, hm']; exact this)
    · cases hlst
  have hAc : ∀ j, 0 < j → j < c → Anc ops c j := fun j h0 hj => by
    unfold lst1B at hlst
    split at hlst
    · rename_i m hm'
      have := List.all_eq_true.1 hlst j (List.mem_range.2 hj)
      rw [Bool.or_eq_true, decide_eq_true_eq] at this
      exact hmk c j (by rw [List.getD_eq_getElem?_getD, hm']; exact this.resolve_left (by omega))
    · cases hlst
  have hAd := hA (c + 1) hlst2
  have hAe := hA (c + 2) hlst3
  have hapc : fo (fun j => decide (j < c)) 0 pre s = apL pre s := by
    have := apL_fo pre 0 c s
    rw [List.take_of_length_le (by omega), Nat.zero_add] at this
    exact this.symm
  intro loc a w hR
  refine wp_region_any (ops := ops.toArray) hm (wpAny_inv (fun listed a w => (∀ i j, listed.getD i false = true → Anc ops i j → listed.getD j false = true) ∧ JX P w0 lent Q ops k pre s c o0 od oe (fun i => listed.getD i false) a w) (fun i o ho e he hbe => ?_)
    (fun listed a w i o hsz hJ ho hli hpre => ?_) (fun listed a w hsz hall hJ => ?_) _ _ _ _ (by simp) (by simp) ⟨fun i j hi _ => ?_, .inl ⟨?_, ?_, ?_, loc, ?_⟩⟩)
  · have := hback i o (by simpa using ho) e he hbe
    omega
  · obtain ⟨hclo, hJ⟩ := hJ
    have ho' : ops[i]? = some o := by simpa using ho
    have hil : i < ops.length := lt_of_some ho'
    have hil2 : i < listed.size := by rw [hsz]; simpa using hil
    have hli' : listed.getD i false = false := by
      rw [Array.getD_eq_getD_getElem?] at hli ⊢
      rw [Array.getElem?_eq_getElem hil2] at hli ⊢
      exact hli
    have hset : ∀ j, (listed.setIfInBounds i true).getD j false = if j = i then true else listed.getD j false := fun j => by
      rw [Array.getD_eq_getD_getElem?, Array.getElem?_setIfInBounds]
      by_cases hj : i = j
      · subst hj; simp [hil2]
      · rw [if_neg hj, if_neg (fun e => hj e.symm), Array.getD_eq_getD_getElem?]
    have hanc : ∀ j, Anc ops i j → listed.getD j false = true := fun j hA => by
      cases hA with
      | dir h => obtain ⟨e', he', hb, rfl⟩ := hwait i o ho' j h; exact hpre e' he' hb
      | tr h h2 => obtain ⟨e', he', hb, e2⟩ := hwait i o ho' _ h; exact hclo _ j (by rw [← e2]; exact hpre e' he' hb) h2
    have hclo' : ∀ p q, (listed.setIfInBounds i true).getD p false = true → Anc ops p q → (listed.setIfInBounds i true).getD q false = true := fun p q hp hA => by
      rw [hset] at hp ⊢
      split
      · rfl
      · split at hp
        · rename_i e'; subst e'; exact hanc q hA
        · exact hclo p q hp hA
    -- one operation of the tail runs
    have step : ∀ (rest : List SO), (cmpO ops o).g = none → wpSO P (Kt P w0 lent Q k) (cmpO ops o :: rest) a w → (∀ a' w', wpSO P (Kt P w0 lent Q k) rest a' w' → JX P w0 lent Q ops k pre s c o0 od oe (fun j => (listed.setIfInBounds i true).getD j false) a' w') →
        wpOp P ops.toArray (Kt P w0 lent Q k) i (fun a w => (∀ i_1 j, (listed.setIfInBounds i true).getD i_1 false = true → Anc ops i_1 j → (listed.setIfInBounds i true).getD j false = true) ∧ JX P w0 lent Q ops k pre s c o0 od oe (fun j => (listed.setIfInBounds i true).getD j false) a w) a w := fun rest hgo hw hj => by
      rw [wpSO] at hw
      simp only [hgo] at hw
      unfold wpOp
      rw [ho]
      simp only
      rw [if_pos (wanted_none hgo _)]
      left
      rw [← oper_wp o ops]
      exact Oper.wp_mono (fun a' w' hk => ⟨hclo', hj a' w' hk⟩) hw
    rcases hJ with ⟨hcf, hdf, hef, loc, hR⟩ | ⟨hct, hdf, hef, hz1, hw⟩ | ⟨hct, hdf, hef, hz1, hw⟩ | ⟨hdt, hef, hw⟩ | ⟨het, _⟩
    · dsimp only at hcf hdf hef
      rcases Nat.lt_or_ge i c with hic | hic
      · have hei : pre[i]? = some (pre[i]'(by omega)) := List.getElem?_eq_getElem (by omega)
        generalize pre[i]'(by omega) = e at hei
        have hSp : Sp P (apL (pre.take i) s) (cmpO ops o) e := hsp i _ e (by rw [List.getElem?_map, List.getElem?_take, if_pos hic, ho']; rfl) hei
        rw [apL_fo pre 0 i s, Nat.zero_add] at hSp
        obtain ⟨hs, hi⟩ := hop_law (by omega) hbk hpr0 hkc0 (fun j => listed.getD j false) hclo hei hli' hanc hSp.rv.2 hset
        have hN : ∀ loc' a' w', Rel w0 lent (e.ap (fo (fun j => listed.getD j false) 0 pre s)) loc' a' w' → (∀ i_1 j, (listed.setIfInBounds i true).getD i_1 false = true → Anc ops i_1 j → (listed.setIfInBounds i true).getD j false = true) ∧ JX P w0 lent Q ops k pre s c o0 od oe (fun j => (listed.setIfInBounds i true).getD j false) a' w' := fun loc' a' w' hR' => ⟨hclo', .inl ⟨by dsimp only; rw [hset, if_neg (by omega)]; exact hcf, by dsimp only; rw [hset, if_neg (by omega)]; exact hdf, by dsimp only; rw [hset, if_neg (by omega)]; exact hef, loc', hR'.eqv hi.symm⟩⟩
        have hSp := hSp.frame hs
        unfold wpOp
        rw [ho]
        simp only
        cases hSp with
        | run hg hex =>
          rw [if_pos (wanted_gV hR ops o true hg)]
          left
          rw [← oper_wp o ops]
          exact hex.sound hR fun loc' a' w' hR' => hN loc' a' w' hR'
        | skip hg =>
          rw [if_neg (by rw [wanted_gV hR ops o false hg]; simp)]
          exact hN loc _ _ (hR.put o.dst (u := undef) (.cl .v))
      · by_cases hid : i = c + 1
        · subst hid
          have := hanc c (hAd c (by omega))
          rw [hcf] at this; cases this
        by_cases hie : i = c + 2
        · subst hie
          have := hanc c (hAe c (by omega))
          rw [hcf] at this; cases this
        obtain rfl : i = c := by omega
        have hoc : o = oc := by rw [ho'] at hc; exact Option.some.inj hc
        subst hoc
        cases hl0 : listed.getD 0 false with
        | true =>
          have hst : fo (fun j => listed.getD j false) 0 pre s = apL pre s := by
            rw [← hapc]
            refine fo_congr _ 0 s fun j _ hj => ?_
            by_cases hj0 : j = 0
            · subst hj0; rw [hl0]; simp; omega
            · rw [hanc j (hAc j (by omega) (by omega))]
              simp; omega
          rw [hst] at hR
          exact step [cmpO ops od, cmpO ops oe] hg (hpost loc a w hR) fun a' w' hk => .inr (.inl ⟨by dsimp only; rw [hset, if_pos rfl], by dsimp only; rw [hset, if_neg (by omega)]; exact hdf, by dsimp only; rw [hset, if_neg (by omega)]; exact hef, by dsimp only; rw [hset, if_neg (by omega)]; exact hl0, hk⟩)
        | false =>
          -- the first move is still to come
          have hstA : fo (fun j => listed.getD j false) 0 pre s = fo (fun j => decide (0 < j ∧ j < i)) 0 pre s := by
            refine fo_congr _ 0 s fun j _ hj => ?_
            by_cases hj0 : j = 0
            · subst hj0; rw [hl0]; simp
            · rw [hanc j (hAc j (by omega) (by omega))]
              simp; omega
          have hins : Eqv (fo (fun j => decide (j < i)) 0 pre s) ((⟨some d0, x0, none, [], rd0, vals0⟩ : E).ap (fo (fun j => decide (0 < j ∧ j < i)) 0 pre s)) := by
            have hSp0 : Sp P (apL (pre.take 0) s) (cmpO ops o0) ⟨some d0, x0, none, [], rd0, vals0⟩ := hsp 0 _ _ (by rw [List.getElem?_map, List.getElem?_take, if_pos hc0, hz]; rfl) he0
            rw [apL_fo pre 0 0 s, Nat.zero_add] at hSp0
            have hlz : ∀ p q, (fun j => decide (0 < j ∧ j < i)) p = true → Anc ops p q → q ≠ 0 → (fun j => decide (0 < j ∧ j < i)) q = true := fun p q hp hA hq => by
              have := hlt p q hA
              simp only [decide_eq_true_eq] at hp ⊢
              omega
            refine (hop_law (V' := fun j => decide (j < i)) (by omega) hbk hpr0 hkc0 (fun j => listed.getD j false) hclo he0 hl0 (fun j hA => by have := hlt 0 j hA; omega) hSp0.rv.2 (fun j => ?_)).2.trans ?_
            · by_cases hj0 : j = 0
              · subst hj0; simp; omega
              · rw [if_neg hj0]
                by_cases hji : j < i
                · rw [hanc j (hAc j (by omega) hji)]; simp [hji]
                · have : listed.getD j false = false := by
                    rcases Nat.lt_or_ge j (i + 3) with h1 | h1
                    · obtain rfl | rfl | rfl : j = i ∨ j = i + 1 ∨ j = i + 2 := by omega
                      · exact hcf
                      · exact hdf
                      · exact hef
                    · rw [Array.getD_eq_getD_getElem?, Array.getElem?_eq_none (by rw [hsz]; simp; omega)]; rfl
                  rw [this]; simp [hji]
            · rw [hstA]; exact Eqv.refl _
          rw [hapc] at hins
          rw [hstA] at hR
          obtain ⟨h1, h2⟩ := hins
          have h1' : (apL pre s).t = setA (fo (fun j => decide (0 < j ∧ j < i)) 0 pre s).t d0 x0 := h1
          have h2' : ∀ r, hget (apL pre s).h r = hget (fo (fun j => decide (0 < j ∧ j < i)) 0 pre s).h r := h2
          have hR2 : Rel w0 lent ⟨setA (apL pre s).t d0 .any, (apL pre s).h⟩ loc a w := by
            have hEq : Eqv ⟨setA (fo (fun j => decide (0 < j ∧ j < i)) 0 pre s).t d0 .any, (fo (fun j => decide (0 < j ∧ j < i)) 0 pre s).h⟩ ⟨setA (apL pre s).t d0 .any, (apL pre s).h⟩ := ⟨by
              simp only [h1', setA_eq, List.set_set], fun r => (h2' r).symm⟩
            exact (hR.drop1 d0).eqv hEq
          exact step [cmpO ops o0, cmpO ops od, cmpO ops oe] hg (hpost2 loc a w hR2) fun a' w' hk => .inr (.inr (.inl ⟨by dsimp only; rw [hset, if_pos rfl], by dsimp only; rw [hset, if_neg (by omega)]; exact hdf, by dsimp only; rw [hset, if_neg (by omega)]; exact hef, by dsimp only; rw [hset, if_neg (by omega)]; exact hl0, hk⟩))
    · dsimp only at hct hdf hef hz1
      rcases Nat.lt_or_ge i (c + 1) with hic | hic
      · exfalso
        have hne : i ≠ c := by rintro rfl; rw [hct] at hli'; cases hli'
        by_cases hi0 : i = 0
        · subst hi0; rw [hz1] at hli'; cases hli'
        have := hclo c i hct (hAc i (by omega) (by omega))
        rw [hli'] at this; cases this
      · by_cases hie : i = c + 2
        · subst hie
          have := hanc (c + 1) (hAe (c + 1) (by omega))
          rw [hdf] at this; cases this
        obtain rfl : i = c + 1 := by omega
        have hod : o = od := by rw [ho'] at hd; exact Option.some.inj hd
        subst hod
        exact step [cmpO ops oe] hg2 hw fun a' w' hk => .inr (.inr (.inr (.inl ⟨by dsimp only; rw [hset, if_pos rfl], by dsimp only; rw [hset, if_neg (by omega)]; exact hef, hk⟩)))
    · dsimp only at hct hdf hef hz1
      by_cases hi0 : i = 0
      · subst hi0
        have hoz : o = o0 := by rw [ho'] at hz; exact Option.some.inj hz
        subst hoz
        exact step [cmpO ops od, cmpO ops oe] hg0 hw fun a' w' hk => .inr (.inl ⟨by dsimp only; rw [hset, if_neg (by omega)]; exact hct, by dsimp only; rw [hset, if_neg (by omega)]; exact hdf, by dsimp only; rw [hset, if_neg (by omega)]; exact hef, by dsimp only; rw [hset, if_pos rfl], hk⟩)
      · exfalso
        rcases Nat.lt_or_ge i c with hic | hic
        · have := hclo c i hct (hAc i (by omega) (by omega))
          rw [hli'] at this; cases this
        · have hne : i ≠ c := by rintro rfl; rw [hct] at hli'; cases hli'
          have : Anc ops i 0 := by
            obtain rfl | rfl : i = c + 1 ∨ i = c + 2 := by omega
            · exact hAd 0 (by omega)
            · exact hAe 0 (by omega)
          have := hanc 0 this
          rw [hz1] at this; cases this
    · dsimp only at hdt hef
      rcases Nat.lt_or_ge i (c + 2) with hic | hic
      · exfalso
        have hne : i ≠ c + 1 := by rintro rfl; rw [hdt] at hli'; cases hli'
        have := hclo (c + 1) i hdt (hAd i (by omega))
        rw [hli'] at this; cases this
      · obtain rfl : i = c + 2 := by omega
        have hoe : o = oe := by rw [ho'] at he; exact Option.some.inj he
        subst hoe
        exact step [] hg3 hw fun a' w' hk => .inr (.inr (.inr (.inr ⟨by dsimp only; rw [hset, if_pos rfl], hk⟩)))
    · exfalso
      dsimp only at het
      have hne : i ≠ c + 2 := by rintro rfl; rw [het] at hli'; cases hli'
      have := hclo (c + 2) i het (hAe i (by omega))
      rw [hli'] at this; cases this
  · obtain ⟨_, hJ⟩ := hJ
    rcases hJ with ⟨hcf, _⟩ | ⟨_, hdf, _⟩ | ⟨_, hdf, _⟩ | ⟨_, hef, _⟩ | ⟨_, hk⟩
    · have := hall c (by simpa using hcl)
      dsimp only at hcf
      rw [hcf] at this; cases this
    · have := hall (c + 1) (by simp; omega)
      dsimp only at hdf
      rw [hdf] at this; cases this
    · have := hall (c + 1) (by simp; omega)
      dsimp only at hdf
      rw [hdf] at this; cases this
    · have := hall (c + 2) (by simp; omega)
      dsimp only at hef
      rw [hef] at this; cases this
    · exact hk
  · simp [Array.getD_eq_getD_getElem?, Array.getElem?_replicate] at hi
    by_cases h : i < ops.length <;> simp [h] at hi
  · simp [Array.getD_eq_getD_getElem?, Array.getElem?_replicate, hcl]
  · simp [Array.getD_eq_getD_getElem?, Array.getElem?_replicate, show c + 1 < ops.length by omega]
  · simp [Array.getD_eq_getD_getElem?, Array.getElem?_replicate, show c + 2 < ops.length by omega]
  · have h0 : fo (fun i => (Array.replicate ops.toArray.size false).getD i false) 0 pre s = s := by
      refine fo_none _ _ _ fun j _ _ => ?_
      simp [Array.getD_eq_getD_getElem?, Array.getElem?_replicate]
      by_cases h : j < ops.length <;> simp [h]
    rw [h0]
    exact hR.grow (Below.refl _ _).drew
def KX (P : Program) (w0 : World) (lent : Lent) (Q : Exit → Act → World → Prop) (ops : List Oper) (o0 oc od oe : Oper) (k : List It) (s : AS) (evs : List E) (s1 : AS) : Prop :=
  prB evs (mks ops []) evs 0 = true ∧ kcB ops s evs = true ∧ AW P w0 lent Q (.ops [cmpO ops oc, cmpO ops od, cmpO ops oe] :: k) s1 ∧ (∃ d x rd vals, evs[0]? = some ⟨some d, x, none, [], rd, vals⟩ ∧ AW P w0 lent Q (.ops [cmpO ops oc, cmpO ops o0, cmpO ops od, cmpO ops oe] :: k) ⟨setA s1.t d .any, s1.h⟩)
theorem at_drawX {id : Nat} {ops : List Oper} {k : List It} {s : AS} (hm : P.follows .mixedOrders = true) (c : Nat) (hl : ops.length = c + 3) (hc0 : 0 < c) {o0 oc od oe : Oper} (hz : ops[0]? = some o0) (hc : ops[c]? = some oc) (hd : ops[c + 1]? = some od) (he : ops[c + 2]? = some oe)
    (hg0 : (cmpO ops o0).g = none) (hg : (cmpO ops oc).g = none) (hg2 : (cmpO ops od).g = none) (hg3 : (cmpO ops oe).g = none) (hbk : bkB ops 0 = true) (hlst : lst1B c (mks ops []) = true) (hlst2 : lstB (c + 1) (mks ops []) = true) (hlst3 : lstB (c + 2) (mks ops []) = true)
    (h : RDp P (KX P w0 lent Q ops o0 oc od oe k s) (runD P ((ops.take c).map (cmpO ops)) [] s)) : RWp P w0 lent Q (.draw id ⟨ops⟩ k s) :=
  drawX_sound hm c hl hc0 hz hc hd he hg0 hg hg2 hg3 hbk hlst hlst2 hlst3 (runD_sound _ _ _ h)
theorem at_doneX {ops : List Oper} {o0 oc od oe : Oper} {k : List It} {s s' : AS} {evs : List E} {d : Nat} {x : AV} {rd : List Nat} {vals : List AV} (h1 : prB evs (mks ops []) evs 0 = true) (h2 : kcB ops s evs = true) (h3 : evs[0]? = some ⟨some d, x, none, [], rd, vals⟩) (h4 : AW P w0 lent Q (.ops [cmpO ops oc, cmpO ops od, cmpO ops oe] :: k) s') (h5 : AW P w0 lent Q (.ops [cmpO ops oc, cmpO ops o0, cmpO ops od, cmpO ops oe] :: k) ⟨setA s'.t d .any, s'.h⟩) :
    RDp P (KX P w0 lent Q ops o0 oc od oe k s) (.done evs s') := ⟨h1, h2, h4, d, x, rd, vals, h3, h5⟩
end
end Go.Proofs.Ytepcabenjikhgaa
/-
  Walks: the reference's DiskCrash.
-/
namespace Go.Proofs.Ytepcabenjikhgaa
open Go Go.RowKit Go.Proofs
theorem frw_B {ids : List Nat} {h : Hp} {l : List BD} : frwRow ids h ⟨55, 3, l.map bC, true⟩ = ⟨55, 3, l.map bC, true⟩ := by
  unfold frwRow
  rw [if_pos]
  rw [List.all_map, List.all_eq_true]
  intro d _
  simp [bC, idsA]
attribute [local irreducible] RWp AW run kPe pe Kt effA gd gu br retR RDp runD kPeD brW gW effD
set_option maxRecDepth 100000
theorem specDiskCrash_bad (bs : List BD) (hs : SmB bs) (keep : List Int) (hk : keep.length ≤ 2000000) (h : (diskB bs && okK keep) = false) : PC Try.prog 12 [blsA bs, intsA keep] (rX (.tup [.o 0 0, bA false]) [rowB []]) := by
  have hV := specDiskValid_pc bs hs
  refine pc_enter Try.func12 rfl rfl fun w0 fb => go_on ?_; (try simp only [Try.ntmps12, push_cast, simprocAttr])
  (refine at_call ?_; (try simp only [push_cast, simprocAttr]); refine rwc_v (hV) (go_on ?_); (try simp only [push_cast, simprocAttr]))
  cases hv : diskB bs with
  | false =>
    (try simp only [hv, Bool.not_false, push_cast, simprocAttr])
    refine at_ret ?_; simp only [Try.results12, push_cast, simprocAttr]
    simp [rX, ixOf]
  | true =>
    by_cases h3 : keep.length ≤ 3
    · have e1 : ltI 3 (keep.length : Int) = false := ltI_f (by omega)
      have hall : (keep.all fun n => inR n 0 400) = false := by simpa [hv, okK, h3] using h
      (try simp only [hv, Bool.not_true, e1, push_cast, simprocAttr])
      refine at_loop (X := Nat) (fun k => [(4, .any), (6, iA k)]) (fun _ => []) (fun k => k ≤ keep.length ∧ ((keep.drop k).all fun n => inR n 0 400) = false) (fun k => keep.length - k) 0 ⟨Nat.zero_le _, hall⟩ ?_ ?_
      · (refine wk_ok ?_ ?_ ?_ ?_ <;> simp [leL, leH, idsL, idsA, idsR, inH, hget, sameRow, upA, hvA, dsts, dstO, setA_0, setA_1, setA_8, List.append, List.cons_append, List.nil_append])
      · rintro k ⟨q1, q2⟩
        simp only [upA, hvA, dsts, dstO, setA_0, setA_1, setA_8, List.append, List.cons_append, List.nil_append]
        refine go_on ?_
        (try simp only [List.length_map, push_cast, simprocAttr])
        refine at_b (fun hg => ?_) (fun hg => ?_)
        · have hlt := lt_tt hg
          obtain ⟨x, hx⟩ := get_of_lt hlt
          have i1 := ix_n hx
          have i2 := map_get inC hx
          simp only [inC] at i2
          rw [drop_of_get hx, List.all_cons] at q2
          have w1 := wr ((k : Int) + 1) (by omega)
          (try simp only [hg, i1, i2, push_cast, simprocAttr])
          (refine at_call ?_; (try simp only [push_cast, simprocAttr]); refine rwc_v (l6In_pc x 0 400) (go_on ?_); (try simp only [push_cast, simprocAttr]))
          cases e2 : inR x 0 400 with
          | false =>
            (try simp only [e2, Bool.not_false, push_cast, simprocAttr])
            refine at_ret ?_; simp only [Try.results12, push_cast, simprocAttr]
            simp [rX, ixOf]
          | true =>
            rw [e2, Bool.true_and] at q2
            (try simp only [e2, Bool.not_true, w1, push_cast, simprocAttr])
            refine at_fin ⟨k + 1, ⟨by omega, q2⟩, by omega, ?_⟩
            (refine wk_ok ?_ ?_ ?_ ?_ <;> simp [leL, leH, idsL, idsA, idsR, inH, hget, sameRow, upA, hvA, dsts, dstO, setA_0, setA_1, setA_8, List.append, List.cons_append, List.nil_append])
        · have h3 := lt_ff hg
          rw [List.drop_of_length_le h3] at q2
          cases q2
    · have e1 : ltI 3 (keep.length : Int) = true := ltI_t (by omega)
      (try simp only [hv, Bool.not_true, e1, push_cast, simprocAttr])
      refine at_ret ?_; simp only [Try.results12, push_cast, simprocAttr]
      simp [rX, ixOf]
theorem specDiskCrash_ok (bs : List BD) (hs : SmB bs) (keep : List Int) (h : (diskB bs && okK keep) = true) : PC Try.prog 12 [blsA bs, intsA keep] (rX (.tup [.o 0 bs.length, bA true]) [rowB (bs.map (crF keep))]) := by
  have hV := specDiskValid_pc bs hs
  rw [Bool.and_eq_true] at h
  obtain ⟨hv, hkk⟩ := h
  unfold okK at hkk
  rw [Bool.and_eq_true, decide_eq_true_eq] at hkk
  obtain ⟨h3, hall⟩ := hkk
  have hn3 := disk_len hv
  have e1 : ltI 3 (keep.length : Int) = false := ltI_f (by omega)
  refine pc_enter Try.func12 rfl rfl fun w0 fb => go_on ?_; (try simp only [Try.ntmps12, push_cast, simprocAttr])
  (refine at_call ?_; (try simp only [push_cast, simprocAttr]); refine rwc_v (hV) (go_on ?_); (try simp only [push_cast, simprocAttr]))
  (try simp only [hv, Bool.not_true, e1, push_cast, simprocAttr])
  refine at_loop (X := Nat) (fun k => [(4, .any), (6, iA k)]) (fun _ => []) (fun k => k ≤ keep.length) (fun k => keep.length - k) 0 (Nat.zero_le _) ?_ ?_
  · (refine wk_ok ?_ ?_ ?_ ?_ <;> simp [leL, leH, idsL, idsA, idsR, inH, hget, sameRow, upA, hvA, dsts, dstO, setA_0, setA_1, setA_8, List.append, List.cons_append, List.nil_append])
  · rintro k q1
    simp only [upA, hvA, dsts, dstO, setA_0, setA_1, setA_8, List.append, List.cons_append, List.nil_append]
    refine go_on ?_
    (try simp only [List.length_map, push_cast, simprocAttr])
    refine at_b (fun hg => ?_) (fun hg => ?_)
    · have hlt := lt_tt hg
      obtain ⟨x, hx⟩ := get_of_lt hlt
      have i1 := ix_n hx
      have i2 := map_get inC hx
      simp only [inC] at i2
      have e2 : inR x 0 400 = true := List.all_eq_true.1 hall x (mem_of_get hx)
      have w1 := wr ((k : Int) + 1) (by omega)
      (try simp only [hg, i1, i2, push_cast, simprocAttr])
      (refine at_call ?_; (try simp only [push_cast, simprocAttr]); refine rwc_v (l6In_pc x 0 400) (go_on ?_); (try simp only [push_cast, simprocAttr]))
      (try simp only [e2, Bool.not_true, w1, push_cast, simprocAttr])
      refine at_fin ⟨k + 1, by omega, by omega, ?_⟩
      (refine wk_ok ?_ ?_ ?_ ?_ <;> simp [leL, leH, idsL, idsA, idsR, inH, hget, sameRow, upA, hvA, dsts, dstO, setA_0, setA_1, setA_8, List.append, List.cons_append, List.nil_append])
    · (try simp only [hg, push_cast, simprocAttr])
      refine at_loop (X := Nat) (fun k => [(7, .o 32 k), (8, iA k), (32, .any)]) (fun k => [(32, rowB ((bs.take k).map (crF keep)))]) (fun k => k ≤ bs.length) (fun k => bs.length - k) 0 (Nat.zero_le _) ?_ ?_
      · (refine wk_ok ?_ ?_ ?_ ?_ <;> simp [leL, leH, idsL, idsA, idsR, inH, hget, sameRow, upA, hvA, dsts, dstO, setA_0, setA_1, setA_8, List.append, List.cons_append, List.nil_append])
      · rintro k q1
        simp only [upA, hvA, dsts, dstO, setA_0, setA_1, setA_8, List.append, List.cons_append, List.nil_append]
        refine go_on ?_
        (try simp only [List.length_map, push_cast, simprocAttr])
        refine at_b (fun hg => ?_) (fun hg => ?_)
        · have hlt := lt_tt hg
          obtain ⟨x, hx⟩ := get_of_lt hlt
          have i1 := ix_n hx
          have i2 := map_get bC hx
          simp only [bC] at i2
          have w1 := wr ((k : Int) + 1) (by omega)
          have hok := disk_okF hv (mem_of_get hx)
          have htk : (bs.take (k + 1)).map (crF keep) = (bs.take k).map (crF keep) ++ [crF keep x] := by rw [List.take_add_one, hx, List.map_append]; rfl
          simp only [okF, inB, Bool.and_eq_true, decide_eq_true_eq] at hok
          obtain ⟨K, hK⟩ : ∃ K, K = keepN keep x := ⟨_, rfl⟩
          (try simp only [hg, i1, i2, List.length_map, push_cast, simprocAttr])
          have hKl : (K : Int) ≤ x.fresh.length := by
            rw [hK]; unfold keepN
            split <;> omega
          by_cases hle : x.name ≤ keep.length
          · have e2 : leI x.name keep.length = true := by simpa [leI] using hle
            have w2 : IntKind.i64.wrap (x.name - 1) = x.name - 1 := wr _ (by omega)
            obtain ⟨kv, hkv⟩ : ∃ kv, keep[(x.name - 1).toNat]? = some kv := ⟨keep[(x.name - 1).toNat]'(by omega), List.getElem?_eq_getElem _⟩
            have i3 : toIx (x.name - 1) keep.length = some (x.name - 1).toNat := by unfold toIx; rw [if_pos (by omega)]
            have i4 := map_get inC hkv
            simp only [inC] at i4
            (try simp only [e2, push_cast, simprocAttr])
            refine at_draw rfl (by kernel_rfl) ?_; simp only [push_cast, simprocAttr]
            (try simp only [i1, i2, i3, i4, w2, push_cast, simprocAttr])
            have hmin : (if (x.fresh.length : Int) < kv then (x.fresh.length : Int) else kv) = (K : Int) := by
              have := List.all_eq_true.1 hall kv (mem_of_get hkv)
              simp only [inR, Bool.and_eq_true, decide_eq_true_eq] at this
              rw [hK, keepN, if_pos hle, hkv, Option.getD_some]
              split <;> omega
            rw [hmin]
            refine at_done (by kernel_rfl) (by kernel_rfl) (go_on ?_)
            (try simp only [push_cast, simprocAttr])
            refine at_drawX rfl 23 rfl (by omega) rfl rfl rfl rfl (by rfl) (by rfl) (by rfl) (by rfl) (by kernel_rfl) (by kernel_rfl) (by kernel_rfl) (by kernel_rfl) ?_
            (try simp only [i1, i2, effD_app2, hKl, if_true, push_cast, simprocAttr])
            refine at_chkD (by omega) ?_
            refine at_chkD (by simp; omega) ?_
            refine at_doneX (by kernel_rfl) (by kernel_rfl) rfl ?_ ?_
            · (refine at_frwS [69, 84] (by refine wk_frz ?_ ?_ ?_ ?_ <;> simp [frw_B, frwS, frwH, frzT, hasN, delL, hdel, leF, leHF, rowF, frzB, idsL, idsA, idsR, inH, hget, sameRow, viewN, tk]) ?_; simp only [frw_B, frwS, frwH, frzT, hasN, delL, hdel, idsA, idsL, viewN, hget, tk, isC, List.map_cons, List.map_nil, List.all_cons, List.all_nil, List.append_nil, List.drop, List.getElem?_cons_zero, List.getElem?_cons_succ, Bool.not_false, Bool.not_true, Bool.and_true, if_true, if_false, Nat.zero_add, List.length_map, simprocAttr])
              refine go_on ?_
              (try simp only [push_cast, simprocAttr])
              refine at_chk (by omega) ?_
              (try simp only [w1, push_cast, simprocAttr])
              refine at_fin ⟨k + 1, by omega, by omega, ?_⟩
              rw [htk]
              (refine wk_ok ?_ ?_ ?_ ?_ <;> simp [bC, crF, ← hK, List.take_take, leL, leH, idsL, idsA, idsR, inH, hget, sameRow, upA, hvA, dsts, dstO, setA_0, setA_1, setA_8, List.append, List.cons_append, List.nil_append])
            · simp only [setA_0, setA_1, setA_8, simprocAttr]
              (refine at_frwS [69, 84] (by refine wk_frz ?_ ?_ ?_ ?_ <;> simp [frw_B, frwS, frwH, frzT, hasN, delL, hdel, leF, leHF, rowF, frzB, idsL, idsA, idsR, inH, hget, sameRow, viewN, tk]) ?_; simp only [frw_B, frwS, frwH, frzT, hasN, delL, hdel, idsA, idsL, viewN, hget, tk, isC, List.map_cons, List.map_nil, List.all_cons, List.all_nil, List.append_nil, List.drop, List.getElem?_cons_zero, List.getElem?_cons_succ, Bool.not_false, Bool.not_true, Bool.and_true, if_true, if_false, Nat.zero_add, List.length_map, simprocAttr])
              refine go_on ?_
              (try simp only [push_cast, simprocAttr])
              refine at_chk (by omega) ?_
              (try simp only [w1, push_cast, simprocAttr])
              refine at_fin ⟨k + 1, by omega, by omega, ?_⟩
              rw [htk]
              (refine wk_ok ?_ ?_ ?_ ?_ <;> simp [bC, crF, ← hK, List.take_take, leL, leH, idsL, idsA, idsR, inH, hget, sameRow, upA, hvA, dsts, dstO, setA_0, setA_1, setA_8, List.append, List.cons_append, List.nil_append])
          · have e2 : leI x.name keep.length = false := by simpa [leI] using hle
            have hK0 : K = 0 := by rw [hK]; unfold keepN; rw [if_neg hle]
            have hKl0 : (0 : Int) ≤ x.fresh.length := by omega
            (try simp only [e2, push_cast, simprocAttr])
            refine at_drawX rfl 23 rfl (by omega) rfl rfl rfl rfl (by rfl) (by rfl) (by rfl) (by rfl) (by kernel_rfl) (by kernel_rfl) (by kernel_rfl) (by kernel_rfl) ?_
            (try simp only [i1, i2, effD_app2, hKl0, if_true, push_cast, simprocAttr])
            refine at_chkD (by omega) ?_
            refine at_chkD (by simp; omega) ?_
            refine at_doneX (by kernel_rfl) (by kernel_rfl) rfl ?_ ?_
            · (refine at_frwS [69, 84] (by refine wk_frz ?_ ?_ ?_ ?_ <;> simp [frw_B, frwS, frwH, frzT, hasN, delL, hdel, leF, leHF, rowF, frzB, idsL, idsA, idsR, inH, hget, sameRow, viewN, tk]) ?_; simp only [frw_B, frwS, frwH, frzT, hasN, delL, hdel, idsA, idsL, viewN, hget, tk, isC, List.map_cons, List.map_nil, List.all_cons, List.all_nil, List.append_nil, List.drop, List.getElem?_cons_zero, List.getElem?_cons_succ, Bool.not_false, Bool.not_true, Bool.and_true, if_true, if_false, Nat.zero_add, List.length_map, simprocAttr])
              refine go_on ?_
              (try simp only [push_cast, simprocAttr])
              refine at_chk (by omega) ?_
              (try simp only [w1, push_cast, simprocAttr])
              refine at_fin ⟨k + 1, by omega, by omega, ?_⟩
              rw [htk]
              (refine wk_ok ?_ ?_ ?_ ?_ <;> simp [bC, crF, ← hK, hK0, List.take_take, leL, leH, idsL, idsA, idsR, inH, hget, sameRow, upA, hvA, dsts, dstO, setA_0, setA_1, setA_8, List.append, List.cons_append, List.nil_append])
            · simp only [setA_0, setA_1, setA_8, simprocAttr]
              (refine at_frwS [69, 84] (by refine wk_frz ?_ ?_ ?_ ?_ <;> simp [frw_B, frwS, frwH, frzT, hasN, delL, hdel, leF, leHF, rowF, frzB, idsL, idsA, idsR, inH, hget, sameRow, viewN, tk]) ?_; simp only [frw_B, frwS, frwH, frzT, hasN, delL, hdel, idsA, idsL, viewN, hget, tk, isC, List.map_cons, List.map_nil, List.all_cons, List.all_nil, List.append_nil, List.drop, List.getElem?_cons_zero, List.getElem?_cons_succ, Bool.not_false, Bool.not_true, Bool.and_true, if_true, if_false, Nat.zero_add, List.length_map, simprocAttr])
              refine go_on ?_
              (try simp only [push_cast, simprocAttr])
              refine at_chk (by omega) ?_
              (try simp only [w1, push_cast, simprocAttr])
              refine at_fin ⟨k + 1, by omega, by omega, ?_⟩
              rw [htk]
              (refine wk_ok ?_ ?_ ?_ ?_ <;> simp [bC, crF, ← hK, hK0, List.take_take, leL, leH, idsL, idsA, idsR, inH, hget, sameRow, upA, hvA, dsts, dstO, setA_0, setA_1, setA_8, List.append, List.cons_append, List.nil_append])
        · have h3 := lt_ff hg
          obtain rfl : k = bs.length := by omega
          rw [List.take_length]
          (try simp only [hg, push_cast, simprocAttr])
          refine at_ret ?_; simp only [Try.results12, push_cast, simprocAttr]
          simp [rX, ixOf]
theorem specDiskCrash_d (bs : List BD) (hs : SmB bs) (keep : List Int) (hk : keep.length ≤ 2000000) : PC Try.prog 12 [blsA bs, intsA keep] (vX (.tup [blsA (crashP bs keep).1, bA (crashP bs keep).2])) := by
  cases h : (diskB bs && okK keep) with
  | false =>
    rw [crashP_bad h]
    have := (specDiskCrash_bad bs hs keep hk h).frzX
    simp [viewN, hpOf, hget, isC, tk] at this
    exact this
  | true =>
    rw [crashP_ok h]
    have := (specDiskCrash_ok bs hs keep h).frzX
    simp [viewN, hpOf, hget, isC, tk, -List.map_map] at this
    exact this
end Go.Proofs.Ytepcabenjikhgaa
