/-
  Blobs whose slices are rows of the call's own (shared or not).
-/
import Derived.Test.YtjhfhlfiagggpaaE1
namespace Go.Proofs.Ytjhfhlfiagggpaa
open Go Go.RowKit

structure SB (w : World) (L : Nat) (v : Value) (bs : List BD) (ivs : List (Value × Value)) : Prop where
  len : ivs.length = bs.length
  row : w.ownsRow L 72 3 v bs.length ((bs.zip ivs).flatMap bcells)
  safe : ∀ (k : Nat) (d : BD) (iv : Value × Value), bs[k]? = some d → ivs[k]? = some iv → w.ownsRow L 3 1 iv.1 d.safe.length (ints d.safe)
  fresh : ∀ (k : Nat) (d : BD) (iv : Value × Value), bs[k]? = some d → ivs[k]? = some iv → w.ownsRow L 3 1 iv.2 d.fresh.length (ints d.fresh)
def SBlobs (w : World) (L : Nat) (v : Value) (bs : List BD) : Prop := ∃ ivs, SB w L v bs ivs

theorem SB.noRoom {w : World} {L : Nat} {v : Value} (h : NoRoom w L 72 v) : SB w L v [] [] :=
  ⟨rfl, h.own, fun k d iv h => by simp at h, fun k d iv h => by simp at h⟩
theorem SB.below {w w' : World} {L : Nat} {v : Value} {bs : List BD} {ivs : List (Value × Value)} (h : SB w L v bs ivs) (hb : Below w.heap.size w w') : SB w' L v bs ivs :=
  ⟨h.len, own_below h.row hb, fun k d iv h1 h2 => own_below (h.safe k d iv h1 h2) hb, fun k d iv h1 h2 => own_below (h.fresh k d iv h1 h2) hb⟩
theorem SB.blobs {w : World} {L : Nat} {v : Value} {bs : List BD} {ivs : List (Value × Value)} (h : SB w L v bs ivs) : Blobs w L v bs :=
  ⟨ivs, h.len, Sl.of_own h.row, fun k d iv h1 h2 => ⟨Sl.of_own (h.safe k d iv h1 h2), Sl.of_own (h.fresh k d iv h1 h2)⟩⟩
theorem SB.less {w : World} {L L' : Nat} {v : Value} {bs : List BD} {ivs : List (Value × Value)} (h : SB w L v bs ivs) (hL : L' ≤ L) : SB w L' v bs ivs :=
  ⟨h.len, own_less h.row hL, fun k d iv h1 h2 => own_less (h.safe k d iv h1 h2) hL, fun k d iv h1 h2 => own_less (h.fresh k d iv h1 h2) hL⟩
/-- Another row of blobs, where a row of blobs grows. -/
theorem SB.grown {w w' : World} {L L' n : Nat} {v u : Value} {bs : List BD} {ivs : List (Value × Value)} {xs : List Value} (h : SB w L v bs ivs) (hu : w.ownsRow L' 72 3 u n xs) (hg : w.grownBy w' u.ownBlock) (hne : v.ownBlock = none ∨ v.ownBlock ≠ u.ownBlock) : SB w' L v bs ivs :=
  ⟨h.len, h.row.kept hg hne, fun k d iv h1 h2 => (h.safe k d iv h1 h2).kept hg (own_own_ne (h.safe k d iv h1 h2) hu (by decide)), fun k d iv h1 h2 => (h.fresh k d iv h1 h2).kept hg (own_own_ne (h.fresh k d iv h1 h2) hu (by decide))⟩
theorem SB.snoc {w1 w2 : World} {L : Nat} {v v' u1 u2 : Value} {bs : List BD} {ivs : List (Value × Value)} {d : BD} (h : SB w1 L v bs ivs)
    (h1 : w1.ownsRow L 3 1 u1 d.safe.length (ints d.safe)) (h2 : w1.ownsRow L 3 1 u2 d.fresh.length (ints d.fresh))
    (hown : w2.ownsRow L 72 3 v' (bs.length + 1) ((bs.zip ivs).flatMap bcells ++ [.int .i64 d.name, u1, u2])) (hg : w1.grownBy w2 v.ownBlock) : SB w2 L v' (bs ++ [d]) (ivs ++ [(u1, u2)]) := by
  have hrow := h.row
  have keep : ∀ (k : Nat) (x : BD) (iv : Value × Value), (bs ++ [d])[k]? = some x → (ivs ++ [(u1, u2)])[k]? = some iv →
      (k < bs.length ∧ bs[k]? = some x ∧ ivs[k]? = some iv) ∨ (x = d ∧ iv = (u1, u2)) := by
    intro k x iv hx hiv
    rcases Nat.lt_or_ge k bs.length with hk | hk
    · rw [List.getElem?_append_left hk] at hx
      rw [List.getElem?_append_left (by have := h.len; omega)] at hiv
      exact .inl ⟨hk, hx, hiv⟩
    · rw [List.getElem?_append_right hk] at hx
      rw [List.getElem?_append_right (by have := h.len; omega), h.len] at hiv
      have hk0 : k - bs.length = 0 := by
        have := lt_of_get hx
        simp at this
        omega
      rw [hk0] at hx hiv
      simp at hx hiv
      exact .inr ⟨hx.symm, hiv.symm⟩
  refine ⟨by simp [h.len], ?_, ?_, ?_⟩
  · rw [List.zip_append (by exact h.len.symm)]
    simpa [bcells] using hown
  · intro k x iv hx hiv
    rcases keep k x iv hx hiv with ⟨_, h3, h4⟩ | ⟨rfl, rfl⟩
    · exact (h.safe k x iv h3 h4).kept hg (own_own_ne (h.safe k x iv h3 h4) hrow (by decide))
    · exact h1.kept hg (own_own_ne h1 hrow (by decide))
  · intro k x iv hx hiv
    rcases keep k x iv hx hiv with ⟨_, h3, h4⟩ | ⟨rfl, rfl⟩
    · exact (h.fresh k x iv h3 h4).kept hg (own_own_ne (h.fresh k x iv h3 h4) hrow (by decide))
    · exact h2.kept hg (own_own_ne h2 hrow (by decide))
theorem SB.at_ {w : World} {L n c k : Nat} {A : Option Addr} {bs : List BD} {ivs : List (Value × Value)} {d : BD} (h : SB w L (.slice A n c) bs ivs) (hd : bs[k]? = some d) :
    ∃ g u1 u2, A = some ⟨g, 0, none⟩ ∧ L ≤ g ∧ g < w.heap.size ∧ w.cell? ⟨g, k * 3, none⟩ = some (.int .i64 d.name) ∧ w.cell? ⟨g, k * 3 + 1, none⟩ = some u1 ∧ w.cell? ⟨g, k * 3 + 2, none⟩ = some u2 ∧
      w.ownsRow L 3 1 u1 d.safe.length (ints d.safe) ∧ w.ownsRow L 3 1 u2 d.fresh.length (ints d.fresh) := by
  have hk := lt_of_get hd
  obtain ⟨iv, hi⟩ := get_of_lt (show k < ivs.length by have := h.len; omega)
  obtain ⟨g, cap, he, h1, h2⟩ := own_some h.row (by omega)
  injection he with he1 he2 he3
  subst he1
  subst he2
  subst he3
  have hz := zip_get hd hi
  have hgc := fun m hm => flatMap_get bcells 3 (fun _ => rfl) _ k m _ hz hm
  refine ⟨g, iv.1, iv.2, rfl, h1, h2, ?_, ?_, ?_, h.safe k d iv hd hi, h.fresh k d iv hd hi⟩
  · exact own_cell h.row (by simpa [bcells] using hgc 0 (by omega))
  · exact own_cell h.row (by simpa [bcells] using hgc 1 (by omega))
  · exact own_cell h.row (by simpa [bcells] using hgc 2 (by omega))

def filterD (bs : List BD) (nm : Int) : List BD := bs.filter fun d => !eqB d.name nm
def insD (b : BD) : List BD → List BD
  | [] => [b]
  | d :: r => if b.name < d.name then b :: d :: r else d :: insD b r

theorem filterD_skip {bs : List BD} {nm : Int} {k : Nat} {d : BD} (hd : bs[k]? = some d) (hn : d.name = nm) : filterD (bs.take (k + 1)) nm = filterD (bs.take k) nm := by
  rw [take_succ_get hd]
  simp [filterD, List.filter_append, eqB, hn]
theorem filterD_take {bs : List BD} {nm : Int} {k : Nat} {d : BD} (hd : bs[k]? = some d) (hn : ¬ d.name = nm) : filterD (bs.take (k + 1)) nm = filterD (bs.take k) nm ++ [d] := by
  rw [take_succ_get hd]
  simp [filterD, List.filter_append, eqB, hn]
theorem filterD_len (bs : List BD) (nm : Int) (k : Nat) : (filterD (bs.take k) nm).length ≤ k :=
  Nat.le_trans (List.length_filter_le _ _) (List.length_take_le _ _)

theorem own_cap {w : World} {base : Nat} {e : TypeId} {size n c : Nat} {A : Option Addr} {xs : List Value} (h : w.ownsRow base e size (.slice A n c) n xs) : n ≤ c ∧ c ≤ maxLen := by
  rcases h.2 with ⟨h1, h2⟩ | ⟨g, cap, cur, h1, _, _, h2, h3, _⟩
  · injection h1 with _ _ h1
    subst h1
    subst h2
    exact ⟨Nat.le_refl _, Nat.zero_le _⟩
  · injection h1 with _ _ h1
    subst h1
    exact ⟨h2, h3⟩

theorem SB.drewN {w : World} {L : Nat} {v : Value} {bs : List BD} {ivs : List (Value × Value)} (h : SB w L v bs ivs) (n : Nat) : SB (w.drewN n) L v bs ivs := ⟨h.len, h.row, h.safe, h.fresh⟩
theorem SB.at0 {w : World} {L n c k g : Nat} {bs : List BD} {ivs : List (Value × Value)} {d : BD} (h : SB w L (.slice (some ⟨g, 0, none⟩) n c) bs ivs) (hd : bs[k]? = some d) :
    ∃ u1 u2, L ≤ g ∧ g < w.heap.size ∧ w.cell? ⟨g, k * 3, none⟩ = some (.int .i64 d.name) ∧ w.cell? ⟨g, k * 3 + 1, none⟩ = some u1 ∧ w.cell? ⟨g, k * 3 + 2, none⟩ = some u2 ∧
      w.ownsRow L 3 1 u1 d.safe.length (ints d.safe) ∧ w.ownsRow L 3 1 u2 d.fresh.length (ints d.fresh) := by
  obtain ⟨g', u1, u2, he, h1, h2⟩ := h.at_ hd
  injection he with he
  injection he with he
  subst he
  exact ⟨u1, u2, h1, h2⟩

end Go.Proofs.Ytjhfhlfiagggpaa
