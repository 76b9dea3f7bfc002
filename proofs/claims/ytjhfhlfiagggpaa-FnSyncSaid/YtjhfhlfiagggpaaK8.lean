/-
  Blobs that the call itself made: every slice in a block of its own.
-/
import Derived.Test.YtjhfhlfiagggpaaD5
namespace Go.Proofs.Ytjhfhlfiagggpaa
open Go Go.RowKit

def ApartV (vs : List Value) : Prop := vs.Pairwise fun u v => ∀ g, u.ownBlock = some g → v.ownBlock ≠ some g
def flatV (ivs : List (Value × Value)) : List Value := ivs.flatMap fun p => [p.1, p.2]
structure OB (w : World) (L : Nat) (v : Value) (bs : List BD) (ivs : List (Value × Value)) : Prop where
  len : ivs.length = bs.length
  row : w.ownsRow L 72 3 v bs.length ((bs.zip ivs).flatMap bcells)
  safe : ∀ (k : Nat) (d : BD) (iv : Value × Value), bs[k]? = some d → ivs[k]? = some iv → w.ownsRow L 3 1 iv.1 d.safe.length (ints d.safe)
  fresh : ∀ (k : Nat) (d : BD) (iv : Value × Value), bs[k]? = some d → ivs[k]? = some iv → w.ownsRow L 3 1 iv.2 d.fresh.length (ints d.fresh)
  apart : ApartV (flatV ivs)
def OBlobs (w : World) (L : Nat) (v : Value) (bs : List BD) : Prop := ∃ ivs, OB w L v bs ivs

theorem own_own_ne {w : World} {b1 b2 s1 s2 n1 n2 : Nat} {e1 e2 : TypeId} {v1 v2 : Value} {x1 x2 : List Value} (h1 : w.ownsRow b1 e1 s1 v1 n1 x1) (h2 : w.ownsRow b2 e2 s2 v2 n2 x2) (hne : e1 ≠ e2) : v1.ownBlock = none ∨ v1.ownBlock ≠ v2.ownBlock := by
  rcases h2.2 with ⟨rfl, _⟩ | ⟨g, cap, cur, rfl, _, hh, _⟩
  · cases h : v1.ownBlock with
    | none => exact .inl rfl
    | some k => exact .inr (by simp [Value.ownBlock])
  · exact .inr (own_blk_ne h1 hh hne)
theorem grown_of_below {w w' : World} (h : Below w.heap.size w w') (row : Option Nat) : w.grownBy w' row := ⟨h.os, h.tape, h.output, h.size, fun k hk _ => h.block k hk⟩

theorem OB.nil {w : World} {L : Nat} : OB w L (.slice none 0 0) [] [] :=
  ⟨rfl, World.ownsRow_nil _ _ _ _, fun k d iv h => by simp at h, fun k d iv h => by simp at h, List.Pairwise.nil⟩
theorem OB.below {w w' : World} {L : Nat} {v : Value} {bs : List BD} {ivs : List (Value × Value)} (h : OB w L v bs ivs) (hb : Below w.heap.size w w') : OB w' L v bs ivs :=
  ⟨h.len, own_below h.row hb, fun k d iv h1 h2 => own_below (h.safe k d iv h1 h2) hb, fun k d iv h1 h2 => own_below (h.fresh k d iv h1 h2) hb, h.apart⟩
theorem OB.blobs {w : World} {L : Nat} {v : Value} {bs : List BD} {ivs : List (Value × Value)} (h : OB w L v bs ivs) : Blobs w L v bs :=
  ⟨ivs, h.len, Sl.of_own h.row, fun k d iv h1 h2 => ⟨Sl.of_own (h.safe k d iv h1 h2), Sl.of_own (h.fresh k d iv h1 h2)⟩⟩
theorem OB.own_lt {w : World} {L : Nat} {v : Value} {bs : List BD} {ivs : List (Value × Value)} (h : OB w L v bs ivs) : ∀ u ∈ flatV ivs, ∀ g, u.ownBlock = some g → g < w.heap.size := by
  intro u hu g hg
  obtain ⟨p, hp, hu⟩ := List.mem_flatMap.1 hu
  obtain ⟨k, hk, rfl⟩ := List.getElem_of_mem hp
  have hd := List.getElem?_eq_getElem (show k < bs.length by have := h.len; omega)
  have hi := List.getElem?_eq_getElem hk
  simp only [List.mem_cons, List.not_mem_nil, or_false] at hu
  rcases hu with rfl | rfl
  · exact (World.ownsRow.lt (h.safe k _ _ hd hi) g hg).2
  · exact (World.ownsRow.lt (h.fresh k _ _ hd hi) g hg).2

/-- One more: the new blob's slices were made behind w (in w1); the row grew from w1 to w2. -/
theorem OB.snoc {w w1 w2 : World} {L : Nat} {v v' u1 u2 : Value} {bs : List BD} {ivs : List (Value × Value)} {d : BD} (h : OB w L v bs ivs) (hb : Below w.heap.size w w1) (hL : L ≤ w.heap.size)
    (h1 : w1.ownsRow w.heap.size 3 1 u1 d.safe.length (ints d.safe)) (h2 : w1.ownsRow w.heap.size 3 1 u2 d.fresh.length (ints d.fresh)) (ap : ∀ g, u1.ownBlock = some g → u2.ownBlock ≠ some g)
    (hown : w2.ownsRow L 72 3 v' (bs.length + 1) ((bs.zip ivs).flatMap bcells ++ [.int .i64 d.name, u1, u2])) (hg : w1.grownBy w2 v.ownBlock) : OB w2 L v' (bs ++ [d]) (ivs ++ [(u1, u2)]) := by
  have hrow := own_below h.row hb
  have keep : ∀ (k : Nat) (x : BD) (iv : Value × Value), (bs ++ [d])[k]? = some x → (ivs ++ [(u1, u2)])[k]? = some iv →
      (k < bs.length ∧ bs[k]? = some x ∧ ivs[k]? = some iv) ∨ (x = d ∧ iv = (u1, u2)) := by
    intro k x iv hx hiv
    rcases Nat.lt_or_ge k bs.length with hk | hk
    · rw [List.getElem?_append_left hk] at hx
      rw [List.getElem?_append_left (by have := h.len; omega)] at hiv
      exact .inl ⟨hk, hx, hiv⟩
    · rw [List.getElem?_append_right hk] at hx
      rw [List.getElem?_append_right (by have := h.len; omega), h.len] at hiv
      have hk0 : k - bs.length = 0 := by
        have := lt_of_get hx
        simp at this
        omega
      rw [hk0] at hx hiv
      simp at hx hiv
      exact .inr ⟨hx.symm, hiv.symm⟩
  refine ⟨by simp [h.len], ?_, ?_, ?_, ?_⟩
  · rw [List.zip_append (by exact h.len.symm)]
    simpa [bcells] using hown
  · intro k x iv hx hiv
    rcases keep k x iv hx hiv with ⟨_, h3, h4⟩ | ⟨rfl, rfl⟩
    · have := own_below (h.safe k x iv h3 h4) hb
      exact this.kept hg (own_own_ne this hrow (by decide))
    · exact own_less (h1.kept hg (own_own_ne h1 hrow (by decide))) hL
  · intro k x iv hx hiv
    rcases keep k x iv hx hiv with ⟨_, h3, h4⟩ | ⟨rfl, rfl⟩
    · have := own_below (h.fresh k x iv h3 h4) hb
      exact this.kept hg (own_own_ne this hrow (by decide))
    · exact own_less (h2.kept hg (own_own_ne h2 hrow (by decide))) hL
  · unfold ApartV flatV
    rw [List.flatMap_append, List.pairwise_append]
    refine ⟨h.apart, ?_, ?_⟩
    · simp only [List.flatMap_cons, List.flatMap_nil, List.append_nil, List.pairwise_cons, List.mem_cons, List.not_mem_nil, or_false]
      exact ⟨fun a ha => by subst ha; exact ap, ⟨fun _ h => h.elim, List.Pairwise.nil⟩⟩
    · intro a ha b hb' g hga hgb
      have hlt := h.own_lt a ha g hga
      simp only [List.flatMap_cons, List.flatMap_nil, List.append_nil, List.mem_cons, List.not_mem_nil, or_false] at hb'
      rcases hb' with rfl | rfl
      · have := (World.ownsRow.lt h1 g hgb).1; omega
      · have := (World.ownsRow.lt h2 g hgb).1; omega

theorem Rd.new1 (w : World) (cs : List Value) (t : TypeId) (L size : Nat) (hL : L ≤ w.heap.size) (hs : cs.length = size) : Rd (w.alloc (.cells cs.toArray t)) L size (some ⟨w.heap.size, 0, none⟩) 1 cs :=
  ⟨by omega, fun _ => ⟨w.heap.size, 0, rfl, hL, by simp, fun j u hu => by rw [Nat.zero_add, World.cell?_alloc_at _ _ _ _ rfl]; simpa using hu⟩⟩
theorem take_succ_get {α : Type} {l : List α} {k : Nat} {x : α} (h : l[k]? = some x) : l.take (k + 1) = l.take k ++ [x] := by
  have hk := lt_of_get h
  rw [List.take_succ_eq_append_getElem hk]
  rw [List.getElem?_eq_getElem hk] at h
  injection h with h
  rw [h]
theorem info_Blob : (Try.prog.info? 72).map (fun i => (i.zero, i.size, i.bytes)) = some (some (.agg #[.int .i64 0, .slice none 0 0, .slice none 0 0]), 3, 56) := by kernel_rfl
theorem und_Blobs : Try.prog.underlying 23 = some (.slice 72) := by kernel_rfl

theorem wpList_append_run {P : Program} (w : World) {ops : Array Oper} {rest : List Oper} {o : Oper} {a : Act} {Q : Exit → Act → World → Prop} (hgd : o.guard = none) (s x : Operand) (ats : Array TypeId)
    (ho : o.op = .call { callee := .builtin .append, args := #[s, x], argTypes := ats }) (u v v' : Value) (w' : World) (hs : a.eval s = u) (hx : a.eval x = v)
    (hrun : (Builtin.append_ ats o.type #[u, v]).run P w = .ok v' w') (h : wpList P ops Q rest (a.put o.dst v') w') : wpList P ops Q (o :: rest) a w :=
  wpList_plain hgd fun _ hK => by
    unfold Oper.wp execOp
    simp only [ho, resolve, invoke, builtin, Sem.run_bind, Sem.run_pure, Result.andThen_ok, List.map_toArray, List.map_cons, List.map_nil, hs, hx, hrun]
    exact hK _ _ h

end Go.Proofs.Ytjhfhlfiagggpaa
