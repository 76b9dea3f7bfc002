/-
  The data: contents, nodes, commands; slices of them.
-/
import Derived.Test.YtjhfhlfiagggpaaK4
import Derived.Lib.SlicesS
namespace Go.Proofs.Ytjhfhlfiagggpaa
open Go Go.RowKit

structure CN where
  kind : Int
  val : Int
deriving DecidableEq
structure ND where
  path : ByteArray
  c : CN
deriving DecidableEq
structure CD where
  path : ByteArray
  fr : CN
  to : CN
deriving DecidableEq

def CN.cells (c : CN) : List Value := [.int .i64 c.kind, .int .i64 c.val]
def ND.cells (n : ND) : List Value := [.string n.path, .int .i64 n.c.kind, .int .i64 n.c.val]
def CD.cells (c : CD) : List Value := [.string c.path, .int .i64 c.fr.kind, .int .i64 c.fr.val, .int .i64 c.to.kind, .int .i64 c.to.val]

theorem flatMap_get {α : Type} (f : α → List Value) (E : Nat) (hf : ∀ x, (f x).length = E) : ∀ (l : List α) (k j : Nat) (x : α), l[k]? = some x → j < E → (l.flatMap f)[k * E + j]? = (f x)[j]?
  | [], k, j, x, h, _ => by simp at h
  | y :: l, 0, j, x, h, hj => by
    simp at h
    subst h
    rw [List.flatMap_cons, Nat.zero_mul, Nat.zero_add, List.getElem?_append_left (by rw [hf]; exact hj)]
  | y :: l, k + 1, j, x, h, hj => by
    rw [List.flatMap_cons, List.getElem?_append_right (by rw [hf, Nat.succ_mul]; omega), hf]
    rw [show (k + 1) * E + j - E = k * E + j from by rw [Nat.succ_mul]; omega]
    exact flatMap_get f E hf l k j x (by simpa using h) hj
theorem flatMap_len {α : Type} (f : α → List Value) (E : Nat) (hf : ∀ x, (f x).length = E) : ∀ (l : List α), (l.flatMap f).length = l.length * E
  | [] => by simp
  | y :: l => by rw [List.flatMap_cons, List.length_append, hf, flatMap_len f E hf l, List.length_cons, Nat.succ_mul]; omega

def Ints (w : World) (L : Nat) (v : Value) (xs : List Int) : Prop := Sl w L 1 v xs.length (ints xs)
def Nodes (w : World) (L : Nat) (v : Value) (ns : List ND) : Prop := Sl w L 3 v ns.length (ns.flatMap ND.cells)
def Cmds (w : World) (L : Nat) (v : Value) (cs : List CD) : Prop := Sl w L 5 v cs.length (cs.flatMap CD.cells)

section
variable {w w' : World} {L L' : Nat} {A : Option Addr}
theorem Rd.int {xs : List Int} {n k : Nat} {x : Int} (h : Rd w L 1 A n (ints xs)) (hx : xs[k]? = some x) :
    ∃ b off, A = some ⟨b, off, none⟩ ∧ L ≤ b ∧ b < w.heap.size ∧ w.cell? ⟨b, off + k, none⟩ = some (.int .i64 x) := by
  have hk : k < xs.length := by
    rcases Nat.lt_or_ge k xs.length with h1 | h1
    · exact h1
    · rw [List.getElem?_eq_none h1] at hx; cases hx
  obtain ⟨b, off, e, h1, h2, h3⟩ := h.2 (by have := h.1; simp [ints] at this; omega)
  exact ⟨b, off, e, h1, h2, h3 k _ (ints_get hx)⟩
theorem lt_of_get {α : Type} {l : List α} {k : Nat} {x : α} (hx : l[k]? = some x) : k < l.length := by
  rcases Nat.lt_or_ge k l.length with h1 | h1
  · exact h1
  · rw [List.getElem?_eq_none h1] at hx; cases hx
theorem Rd.node {ns : List ND} {n k : Nat} {x : ND} (h : Rd w L 3 A n (ns.flatMap ND.cells)) (hx : ns[k]? = some x) :
    ∃ b off, A = some ⟨b, off, none⟩ ∧ L ≤ b ∧ b < w.heap.size ∧ w.cell? ⟨b, off + k * 3, none⟩ = some (.string x.path) ∧ w.cell? ⟨b, off + k * 3 + 1, none⟩ = some (.int .i64 x.c.kind) ∧
      w.cell? ⟨b, off + k * 3 + 2, none⟩ = some (.int .i64 x.c.val) := by
  have hk := lt_of_get hx
  have hg := fun j hj => flatMap_get ND.cells 3 (fun _ => rfl) ns k j x hx hj
  obtain ⟨b, off, e, h1, h2, h3⟩ := h.2 (by have := h.1; rw [flatMap_len ND.cells 3 (fun _ => rfl)] at this; omega)
  refine ⟨b, off, e, h1, h2, ?_, ?_, ?_⟩
  · exact h3 (k * 3) _ (by simpa [ND.cells] using hg 0 (by omega))
  · rw [Nat.add_assoc]; exact h3 (k * 3 + 1) _ (by simpa [ND.cells] using hg 1 (by omega))
  · rw [Nat.add_assoc]; exact h3 (k * 3 + 2) _ (by simpa [ND.cells] using hg 2 (by omega))
theorem Rd.cmd {cs : List CD} {n k : Nat} {x : CD} (h : Rd w L 5 A n (cs.flatMap CD.cells)) (hx : cs[k]? = some x) :
    ∃ b off, A = some ⟨b, off, none⟩ ∧ L ≤ b ∧ b < w.heap.size ∧ w.cell? ⟨b, off + k * 5, none⟩ = some (.string x.path) ∧ w.cell? ⟨b, off + k * 5 + 1, none⟩ = some (.int .i64 x.fr.kind) ∧
      w.cell? ⟨b, off + k * 5 + 2, none⟩ = some (.int .i64 x.fr.val) ∧ w.cell? ⟨b, off + k * 5 + 3, none⟩ = some (.int .i64 x.to.kind) ∧ w.cell? ⟨b, off + k * 5 + 4, none⟩ = some (.int .i64 x.to.val) := by
  have hk := lt_of_get hx
  have hg := fun j hj => flatMap_get CD.cells 5 (fun _ => rfl) cs k j x hx hj
  obtain ⟨b, off, e, h1, h2, h3⟩ := h.2 (by have := h.1; rw [flatMap_len CD.cells 5 (fun _ => rfl)] at this; omega)
  refine ⟨b, off, e, h1, h2, ?_, ?_, ?_, ?_, ?_⟩
  · exact h3 (k * 5) _ (by simpa [CD.cells] using hg 0 (by omega))
  · rw [Nat.add_assoc]; exact h3 (k * 5 + 1) _ (by simpa [CD.cells] using hg 1 (by omega))
  · rw [Nat.add_assoc]; exact h3 (k * 5 + 2) _ (by simpa [CD.cells] using hg 2 (by omega))
  · rw [Nat.add_assoc]; exact h3 (k * 5 + 3) _ (by simpa [CD.cells] using hg 3 (by omega))
  · rw [Nat.add_assoc]; exact h3 (k * 5 + 4) _ (by simpa [CD.cells] using hg 4 (by omega))
end

/-- Old cells and marks read as before: rules for the walk. -/
theorem bcell {W w1 : World} (hb : Below W.heap.size W w1) : (∀ b o, b < W.heap.size → w1.cell? ⟨b, o, none⟩ = W.cell? ⟨b, o, none⟩) ∧ (∀ b o, b < W.heap.size → w1.frozen? ⟨b, o, none⟩ = W.frozen? ⟨b, o, none⟩) :=
  ⟨fun b o h => hb.cell (p := ⟨b, o, none⟩) h, fun b o h => hb.frozen (p := ⟨b, o, none⟩) h⟩

theorem eq_of_prefix {α : Type} [DecidableEq α] {xs ys : List α} (hl : xs.length = ys.length) (h : ∀ j, j < xs.length → xs[j]? = ys[j]?) : xs = ys := by
  refine List.ext_getElem? fun j => ?_
  rcases Nat.lt_or_ge j xs.length with h1 | h1
  · exact h j h1
  · rw [List.getElem?_eq_none h1, List.getElem?_eq_none (by omega)]

theorem str_eq (a b : ByteArray) : (a.toList == b.toList) = decide (a = b) := by
  by_cases h : a = b
  · subst h; simp
  · rw [(Lib.bytes_beq_false_iff a b).2 h]; simp [h]
theorem str_tt {a b : ByteArray} (h : a = b) : (a.toList == b.toList) = true := by rw [str_eq]; simpa using h
theorem str_ff {a b : ByteArray} (h : ¬ a = b) : (a.toList == b.toList) = false := by rw [str_eq]; simpa using h
theorem get_of_lt {α : Type} {l : List α} {k : Nat} (h : k < l.length) : ∃ x, l[k]? = some x := ⟨l[k], List.getElem?_eq_getElem h⟩
theorem below2 (w : World) (o o' : Obj) : Below w.heap.size w ((w.alloc o).alloc o') := ((Below.refl _ _).alloc (Nat.le_refl _) o).alloc (by simp) o'
theorem below1 (w : World) (o : Obj) : Below w.heap.size w (w.alloc o) := (Below.refl _ _).alloc (Nat.le_refl _) o
theorem Below.drewN {B : Nat} {a w : World} (h : Below B a w) (n : Nat) : Below B a (w.drewN n) := ⟨h.os, h.tape, h.output, h.size, h.block⟩

theorem Below.of_drew {B : Nat} {w w' : World} (h : Below B w.drew w') : Below B w w' := ⟨h.os, h.tape, h.output, h.size, h.block⟩
theorem Below.of_drewN {B n : Nat} {w w' : World} (h : Below B (w.drewN n) w') : Below B w w' := ⟨h.os, h.tape, h.output, h.size, h.block⟩

/-- Equality as a Bool that the walk does not look into. -/
def eqB {α : Type} [DecidableEq α] (a b : α) : Bool := decide (a = b)
theorem eqB_tt {α : Type} [DecidableEq α] {a b : α} (h : a = b) : eqB a b = true := by simpa [eqB] using h
theorem eqB_ff {α : Type} [DecidableEq α] {a b : α} (h : ¬ a = b) : eqB a b = false := by simpa [eqB] using h
theorem ret_bool {a b : Bool} (h : a = b) : Ending.returned (.bool a) = .returned (.bool b) := by rw [h]
theorem ret_int {k : IntKind} {a b : Int} (h : a = b) : Ending.returned (.int k a) = .returned (.int k b) := by rw [h]
theorem prefix_step {α : Type} {xs ys : List α} {k : Nat} {x y : α} (hx : xs[k]? = some x) (hy : ys[k]? = some y) (h : ∀ j, j < k → xs[j]? = ys[j]?) (he : x = y) : ∀ j, j < k + 1 → xs[j]? = ys[j]? := fun j hj => by
  rcases Nat.lt_or_ge j k with h1 | h1
  · exact h j h1
  · rw [show j = k by omega, hx, hy, he]
theorem ne_of_get {α : Type} {xs ys : List α} {k : Nat} {x y : α} (hx : xs[k]? = some x) (hy : ys[k]? = some y) (he : ¬ x = y) : ¬ xs = ys := fun h => he (by
  rw [h, hy] at hx
  injection hx with hx
  exact hx.symm)

theorem eqB_nt {α : Type} [DecidableEq α] {a b : α} (h : a = b) : (!eqB a b) = false := by rw [eqB_tt h]; rfl
theorem eqB_nf {α : Type} [DecidableEq α] {a b : α} (h : ¬ a = b) : (!eqB a b) = true := by rw [eqB_ff h]; rfl

theorem eqB_of {α : Type} [DecidableEq α] {a b : α} (h : eqB a b = true) : Hid (a = b) := by
  have : a = b := by simpa [eqB] using h
  exact this
theorem eqB_nof {α : Type} [DecidableEq α] {a b : α} (h : eqB a b = false) : Hid (¬ a = b) := by
  have : ¬ a = b := by simpa [eqB] using h
  exact this

end Go.Proofs.Ytjhfhlfiagggpaa
