/-
  Words for memory: a slice that reads as a list of cells (Rd), and how that is carried from world to world.
-/
import Derived.WalkKit
import Derived.Below
import Derived.Laws.OwnMore
import Derived.Deep.Draws
import Derived.Maps.AppendAt
import Derived.Deep.AppendLies
import Derived.RegionTactic
import Derived.OwnWalk
import Derived.Lib.Hide
import Derived.KernelRfl
namespace Go.Proofs.Ytjhfhlfiagggpaa
open Go Go.RowKit

/-- The slice value with address A reads n elements of 'size' cells each: the cells xs; its block lies from L on. -/
def Rd (w : World) (L size : Nat) (A : Option Addr) (n : Nat) (xs : List Value) : Prop :=
  xs.length = n * size ∧ (0 < n → ∃ b off, A = some ⟨b, off, none⟩ ∧ L ≤ b ∧ b < w.heap.size ∧ ∀ j u, xs[j]? = some u → w.cell? ⟨b, off + j, none⟩ = some u)

section
variable {w w' : World} {L L' B size n : Nat} {A : Option Addr} {xs : List Value}

theorem Rd.keep (h : Rd w L size A n xs) (hs : w.heap.size ≤ w'.heap.size) (hk : ∀ b, L ≤ b → b < w.heap.size → w'.heap[b]? = w.heap[b]?) : Rd w' L size A n xs :=
  ⟨h.1, fun hn => by
    obtain ⟨b, off, e, hl, hb, hc⟩ := h.2 hn
    exact ⟨b, off, e, hl, by omega, fun j u hu => (World.cell?_of_block (hk b hl hb)).trans (hc j u hu)⟩⟩
theorem Rd.below (h : Rd w L size A n xs) (hb : Below w.heap.size w w') : Rd w' L size A n xs := h.keep hb.size fun _ _ h2 => hb.block _ h2
theorem Rd.less (h : Rd w L size A n xs) (hL : L' ≤ L) : Rd w L' size A n xs :=
  ⟨h.1, fun hn => by
    obtain ⟨b, off, e, hl, hb, hc⟩ := h.2 hn
    exact ⟨b, off, e, by omega, hb, hc⟩⟩
theorem Rd.alloc (h : Rd w L size A n xs) (o : Obj) : Rd (w.alloc o) L size A n xs := h.below ((Below.refl _ _).alloc (Nat.le_refl _) o)
theorem Rd.drew (h : Rd w L size A n xs) : Rd w.drew L size A n xs := h
theorem Rd.drewN (h : Rd w L size A n xs) (k : Nat) : Rd (w.drewN k) L size A n xs := h
theorem Rd.grown (h : Rd w L size A n xs) {row : Option Nat} (hg : w.grownBy w' row) (hr : ∀ g, row = some g → g < L) : Rd w' L size A n xs :=
  h.keep hg.size fun b h1 h2 => hg.block b h2 (fun e => by have := hr b e.symm; omega)
theorem Rd.setCell (h : Rd w L size A n xs) {p : Addr} (hp : p.block < L ∨ w.heap.size ≤ p.block) (u : Value) : Rd (w.setCell p u) L size A n xs :=
  h.keep (by simp [World.setCell]) fun b h1 h2 => Below.heap_setCell w p u b (by omega)
theorem Rd.nil : Rd w L size A 0 [] := ⟨by simp, fun h => absurd h (by omega)⟩
theorem Rd.of_own {base : Nat} {e : TypeId} {c : Nat} (h : w.ownsRow base e size (.slice A n c) n xs) : Rd w base size A n xs := by
  refine ⟨h.1, fun hn => ?_⟩
  obtain ⟨g, cap, hv, hb, hlt⟩ := h.form hn
  have hA : A = some ⟨g, 0, none⟩ := by injection hv
  subst hA
  refine ⟨g, 0, rfl, hb, hlt, fun j u hu => ?_⟩
  have := h.cells (g := g) rfl j u hu
  simpa only [Addr.add_lit] using this
end

theorem own_blk_ne {w : World} {base : Nat} {e : TypeId} {size n : Nat} {v : Value} {xs : List Value} {g : Nat} {cs : Array Value} {t : TypeId} {fr : Nat × Nat} (h : w.ownsRow base e size v n xs) (hg : w.heap[g]? = some (.cells cs t fr)) (hne : e ≠ t) : v.ownBlock ≠ some g := by
  rcases h.2 with ⟨rfl, _⟩ | ⟨g', cap, cur, rfl, _, hh, _⟩
  · simp [Value.ownBlock]
  · intro he
    have : g' = g := by simpa [Value.ownBlock] using he
    subst this
    rw [hh] at hg
    injection hg with hg
    injection hg with _ ht
    exact hne ht

end Go.Proofs.Ytjhfhlfiagggpaa
