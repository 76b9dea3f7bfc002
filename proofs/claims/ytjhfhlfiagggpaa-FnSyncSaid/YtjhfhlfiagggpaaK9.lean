/-
  Blobs of the call's own: one of them written over.
-/
import Derived.Test.YtjhfhlfiagggpaaD7
namespace Go.Proofs.Ytjhfhlfiagggpaa
open Go Go.RowKit

theorem setCell_grown (w : World) (p : Addr) (u : Value) : w.grownBy (w.setCell p u) (some p.block) :=
  ⟨rfl, rfl, rfl, by simp [World.setCell], fun k _ hne => Below.heap_setCell w p u k (fun e => hne (by rw [e]))⟩
theorem own_set {w : World} {base : Nat} {e : TypeId} {size n cap g j : Nat} {xs : List Value} (h : w.ownsRow base e size (.slice (some ⟨g, 0, none⟩) n cap) n xs) (hj : j < n * size) (u : Value) :
    (w.setCell ⟨g, j, none⟩ u).ownsRow base e size (.slice (some ⟨g, 0, none⟩) n cap) n (xs.set j u) := by
  obtain ⟨h1, h2⟩ := h
  refine ⟨by simpa using h1, ?_⟩
  rcases h2 with ⟨h3, _⟩ | ⟨g', cap', cur, h3, h4, h5, h6, h7, h8, h9⟩
  · cases h3
  · injection h3 with ha hb hc
    injection ha with ha
    injection ha with ha
    subst ha
    subst hc
    refine .inr ⟨g, cap, cur.setIfInBounds j u, rfl, h4, ?_, h6, h7, by simpa using h8, ?_⟩
    · simp [World.setCell, Array.getElem?_modify, h5]
    · rw [Array.toList_setIfInBounds, List.take_set, h9]
theorem own_cell {w : World} {base : Nat} {e : TypeId} {size n cap g j : Nat} {xs : List Value} {u : Value} (h : w.ownsRow base e size (.slice (some ⟨g, 0, none⟩) n cap) n xs) (hj : xs[j]? = some u) : w.cell? ⟨g, j, none⟩ = some u := by
  have := h.cells (g := g) rfl j u hj
  rwa [Addr.add_lit, Nat.zero_add] at this
theorem own_frozen {w : World} {base : Nat} {e : TypeId} {size n cap g : Nat} {xs : List Value} (h : w.ownsRow base e size (.slice (some ⟨g, 0, none⟩) n cap) n xs) (j : Nat) : w.frozen? ⟨g, j, none⟩ = false := by
  rcases h.2 with ⟨h3, _⟩ | ⟨g', cap', cur, h3, h4, h5, _⟩
  · cases h3
  · injection h3 with ha hb hc
    injection ha with ha
    injection ha with ha
    subst ha
    simp [World.frozen?, h5]
/-- A row of the call's own that has an element lies at the head of a block. -/
theorem own_some {w : World} {base : Nat} {e : TypeId} {size n : Nat} {v : Value} {xs : List Value} (h : w.ownsRow base e size v n xs) (hn : 0 < n) : ∃ g cap, v = .slice (some ⟨g, 0, none⟩) n cap ∧ base ≤ g ∧ g < w.heap.size := by
  rcases h.2 with ⟨_, h3⟩ | ⟨g, cap, cur, h3, h4, h5, _⟩
  · omega
  · refine ⟨g, cap, h3, h4, ?_⟩
    rcases Nat.lt_or_ge g w.heap.size with h | h
    · exact h
    · rw [Array.getElem?_eq_none h] at h5; cases h5

theorem flatMap_set {α : Type} (f : α → List Value) (E : Nat) (hf : ∀ x, (f x).length = E) : ∀ (l : List α) (k : Nat) (x y : α), l[k]? = some x →
    (l.set k y).flatMap f = (l.flatMap f).take (k * E) ++ f y ++ (l.flatMap f).drop (k * E + E)
  | [], k, x, y, h => by simp at h
  | z :: l, 0, x, y, h => by
    simp only [List.set_cons_zero, List.flatMap_cons, Nat.zero_mul, List.take_zero, List.nil_append, Nat.zero_add]
    rw [List.drop_append_of_le_length (by rw [hf]; omega), List.drop_of_length_le (by rw [hf]; omega), List.nil_append]
  | z :: l, k + 1, x, y, h => by
    simp only [List.set_cons_succ, List.flatMap_cons]
    rw [flatMap_set f E hf l k x y (by simpa using h)]
    rw [show (k + 1) * E = E + k * E from by rw [Nat.succ_mul]; omega, ← hf z, List.take_length_add_append, Nat.add_assoc, List.drop_length_add_append]
    simp

theorem zip_get {α β : Type} {l : List α} {m : List β} {k : Nat} {x : α} {y : β} (h1 : l[k]? = some x) (h2 : m[k]? = some y) : (l.zip m)[k]? = some (x, y) := by
  simp [List.getElem?_zip_eq_some, h1, h2]
theorem zip_set {α β : Type} : ∀ (l : List α) (m : List β) (k : Nat) (x : α) (y : β), (l.set k x).zip (m.set k y) = (l.zip m).set k (x, y)
  | [], m, k, x, y => by simp
  | a :: l, [], k, x, y => by simp
  | a :: l, b :: m, 0, x, y => by simp
  | a :: l, b :: m, k + 1, x, y => by simp [zip_set l m k x y]

theorem bcells_set {bs : List BD} {ivs : List (Value × Value)} {k : Nat} {d : BD} {iv : Value × Value} (hd : bs[k]? = some d) (hi : ivs[k]? = some iv) (u1 u2 : Value) (d' : BD) (hn : d'.name = d.name) :
    (((bs.zip ivs).flatMap bcells).set (k * 3 + 1) u1).set (k * 3 + 2) u2 = ((bs.set k d').zip (ivs.set k (u1, u2))).flatMap bcells := by
  have hz := zip_get hd hi
  rw [zip_set, flatMap_set bcells 3 (fun _ => rfl) _ k _ _ hz]
  have hlen := flatMap_len bcells 3 (fun _ => rfl) (bs.zip ivs)
  have hk := lt_of_get hz
  refine List.ext_getElem? fun j => ?_
  have hg := fun m hm => flatMap_get bcells 3 (fun _ => rfl) _ k m _ hz hm
  have hlt : k * 3 + 3 ≤ ((bs.zip ivs).flatMap bcells).length := by rw [hlen]; omega
  generalize (bs.zip ivs).flatMap bcells = cells at *
  rcases Nat.lt_or_ge j (k * 3) with h1 | h1
  · rw [List.getElem?_set_ne (by omega), List.getElem?_set_ne (by omega), List.getElem?_append_left (by simp; omega), List.getElem?_append_left (by rw [List.length_take]; omega), List.getElem?_take_of_lt h1]
  · rcases Nat.lt_or_ge j (k * 3 + 3) with h2 | h2
    · rw [List.getElem?_append_left (by simp [bcells]; omega), List.getElem?_append_right (by rw [List.length_take]; omega)]
      have hm : (cells.take (k * 3)).length = k * 3 := by rw [List.length_take]; omega
      rw [hm]
      have hj : j = k * 3 ∨ j = k * 3 + 1 ∨ j = k * 3 + 2 := by omega
      rcases hj with rfl | rfl | rfl
      · rw [List.getElem?_set_ne (by omega), List.getElem?_set_ne (by omega)]
        have := hg 0 (by omega)
        simpa [bcells, hn] using this
      · rw [List.getElem?_set_ne (by omega), List.getElem?_set_self (by omega)]
        simp [bcells]
      · rw [List.getElem?_set_self (by simp; omega)]
        simp [bcells]
    · rw [List.getElem?_set_ne (by omega), List.getElem?_set_ne (by omega), List.getElem?_append_right (by simp [bcells]; omega)]
      rw [List.getElem?_drop]
      congr 1
      simp [bcells]
      omega

/-- One blob's two slices are others now. -/
theorem OB.set {w : World} {L g n cap k : Nat} {bs : List BD} {ivs : List (Value × Value)} {d d' : BD} {u1 u2 : Value} (h : OB w L (.slice (some ⟨g, 0, none⟩) n cap) bs ivs) (hnn : n = bs.length) (hd : bs[k]? = some d) (hn : d'.name = d.name)
    (h1 : w.ownsRow L 3 1 u1 d'.safe.length (ints d'.safe)) (h2 : w.ownsRow L 3 1 u2 d'.fresh.length (ints d'.fresh)) (ap : ApartV (flatV (ivs.set k (u1, u2)))) :
    OB ((w.setCell ⟨g, k * 3 + 1, none⟩ u1).setCell ⟨g, k * 3 + 2, none⟩ u2) L (.slice (some ⟨g, 0, none⟩) n cap) (bs.set k d') (ivs.set k (u1, u2)) := by
  have hk := lt_of_get hd
  subst hnn
  obtain ⟨iv, hi⟩ := get_of_lt (show k < ivs.length by have := h.len; omega)
  have hrow := h.row
  have keep : ∀ {s n' : Nat} {v' : Value} {xs : List Value}, w.ownsRow L 3 s v' n' xs → ((w.setCell ⟨g, k * 3 + 1, none⟩ u1).setCell ⟨g, k * 3 + 2, none⟩ u2).ownsRow L 3 s v' n' xs := by
    intro s n' v' xs hv
    have hne := own_own_ne hv hrow (by decide)
    refine World.ownsRow.kept (row := some g) (World.ownsRow.kept (row := some g) hv (setCell_grown _ _ _) ?_) (setCell_grown _ _ _) ?_ <;>
      (rcases hne with h0 | h0
       · exact .inl h0
       · exact .inr (by simpa [Value.ownBlock] using h0))
  refine ⟨by simp [h.len], ?_, ?_, ?_, ap⟩
  · have := own_set (own_set hrow (j := k * 3 + 1) (by omega) u1) (j := k * 3 + 2) (by omega) u2
    rw [List.length_set, ← bcells_set hd hi u1 u2 d' hn]
    exact this
  · intro j x jv hx hjv
    by_cases hjk : k = j
    · subst hjk
      rw [List.getElem?_set_self hk] at hx
      rw [List.getElem?_set_self (by have := h.len; omega)] at hjv
      injection hx with hx
      injection hjv with hjv
      subst hx
      subst hjv
      exact keep h1
    · rw [List.getElem?_set_ne hjk] at hx hjv
      exact keep (h.safe j x jv hx hjv)
  · intro j x jv hx hjv
    by_cases hjk : k = j
    · subst hjk
      rw [List.getElem?_set_self hk] at hx
      rw [List.getElem?_set_self (by have := h.len; omega)] at hjv
      injection hx with hx
      injection hjv with hjv
      subst hx
      subst hjv
      exact keep h2
    · rw [List.getElem?_set_ne hjk] at hx hjv
      exact keep (h.fresh j x jv hx hjv)

/-- A new block and nil in the places of two old ones: still apart. -/
theorem apart_set_new {B : Nat} : ∀ (ivs : List (Value × Value)) (k : Nat) (u : Value), ApartV (flatV ivs) → (∀ v ∈ flatV ivs, ∀ g, v.ownBlock = some g → g < B) → (∀ g, u.ownBlock = some g → B ≤ g) → ApartV (flatV (ivs.set k (u, .slice none 0 0)))
  | [], k, u, h, _, _ => by simpa using h
  | p :: ivs, 0, u, h, hlt, hu => by
    simp only [List.set_cons_zero, flatV, List.flatMap_cons, ApartV, List.cons_append, List.nil_append, List.pairwise_cons, List.mem_cons] at h hlt ⊢
    refine ⟨?_, ?_, h.2.2⟩
    · rintro v (rfl | hv) g hg
      · simp [Value.ownBlock]
      · intro hg'
        have := hlt v (.inr (.inr hv)) g hg'
        have := hu g hg
        omega
    · intro v _ g hg
      simp [Value.ownBlock] at hg
  | p :: ivs, k + 1, u, h, hlt, hu => by
    simp only [List.set_cons_succ, flatV, List.flatMap_cons, ApartV, List.cons_append, List.nil_append, List.pairwise_cons, List.mem_cons] at h hlt ⊢
    have ih := apart_set_new ivs k u h.2.2 (fun v hv => hlt v (.inr (.inr hv))) hu
    have hmem : ∀ v ∈ (ivs.set k (u, .slice none 0 0)).flatMap (fun p => [p.1, p.2]), v ∈ flatV ivs ∨ v = u ∨ v = .slice none 0 0 := by
      intro v hv
      obtain ⟨q, hq, hvq⟩ := List.mem_flatMap.1 hv
      rcases List.mem_or_eq_of_mem_set hq with h1 | h1
      · exact .inl (List.mem_flatMap.2 ⟨q, h1, hvq⟩)
      · subst h1
        simp only [List.mem_cons, List.not_mem_nil, or_false] at hvq
        exact .inr hvq
    have far : ∀ x : Value, (∀ g, x.ownBlock = some g → g < B) → (∀ v ∈ flatV ivs, ∀ g, x.ownBlock = some g → v.ownBlock ≠ some g) → ∀ v ∈ (ivs.set k (u, .slice none 0 0)).flatMap (fun p => [p.1, p.2]), ∀ g, x.ownBlock = some g → v.ownBlock ≠ some g := by
      intro x hx h0 v hv g hg
      rcases hmem v hv with h1 | rfl | rfl
      · exact h0 v h1 g hg
      · intro hg'
        have := hx g hg
        have := hu g hg'
        omega
      · simp [Value.ownBlock]
    refine ⟨?_, ?_, ih⟩
    · rintro v (rfl | hv) g hg
      · exact h.1 _ (.inl rfl) g hg
      · exact far p.1 (fun g hg => hlt _ (.inl rfl) g hg) (fun v hv g hg => h.1 v (.inr hv) g hg) v hv g hg
    · exact far p.2 (fun g hg => hlt _ (.inr (.inl rfl)) g hg) (fun v hv g hg => h.2.1 v hv g hg)

theorem OB.less {w : World} {L L' : Nat} {v : Value} {bs : List BD} {ivs : List (Value × Value)} (h : OB w L v bs ivs) (hL : L' ≤ L) : OB w L' v bs ivs :=
  ⟨h.len, own_less h.row hL, fun k d iv h1 h2 => own_less (h.safe k d iv h1 h2) hL, fun k d iv h1 h2 => own_less (h.fresh k d iv h1 h2) hL, h.apart⟩

theorem diskFrom_get : ∀ (bs : List BD) (last : Int) (k : Nat) (d : BD), diskFrom last bs = true → bs[k]? = some d → last + 1 ≤ d.name ∧ d.name ≤ 3 ∧ d.safe.length + d.fresh.length ≤ 400 ∧ bytesB d.safe = true ∧ bytesB d.fresh = true
  | [], last, k, d, _, h => by simp at h
  | x :: bs, last, 0, d, hv, h => by
    simp at h
    subst h
    simp only [diskFrom, blobB, inB, Bool.and_eq_true, decide_eq_true_eq] at hv
    exact ⟨hv.1.1.1.1.1, hv.1.1.1.1.2, hv.1.2, hv.1.1.1.2, hv.1.1.2⟩
  | x :: bs, last, k + 1, d, hv, h => by
    simp only [diskFrom, blobB, inB, Bool.and_eq_true, decide_eq_true_eq] at hv
    have := diskFrom_get bs x.name k d hv.2 (by simpa using h)
    exact ⟨by omega, this.2⟩
theorem diskB_get {bs : List BD} {k : Nat} {d : BD} (h : diskB bs = true) (hd : bs[k]? = some d) : 1 ≤ d.name ∧ d.name ≤ 3 ∧ d.safe.length + d.fresh.length ≤ 400 ∧ bytesB d.safe = true ∧ bytesB d.fresh = true :=
  diskFrom_get bs 0 k d h hd

end Go.Proofs.Ytjhfhlfiagggpaa
