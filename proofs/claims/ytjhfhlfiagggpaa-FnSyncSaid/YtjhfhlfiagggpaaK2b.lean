/-
  append onto a row of the call's own: the row as it was still reads as before.
-/
import Derived.Test.YtjhfhlfiagggpaaK2
namespace Go.Proofs.Ytjhfhlfiagggpaa
open Go Go.RowKit

section
variable {P : Program} (w : World)
theorem append_keeps (base : Nat) (t ty e : TypeId) (i : TypeInfo) (z : Value) (size bytes : Nat) (ht : P.underlying t = some (.slice e)) (hi : P.info? e = some i) (hz : i.zero = some z)
    (hsize : i.size = size) (hby : i.bytes = bytes)
    (v : Value) (n : Nat) (xs : List Value) (hown : w.ownsRow base e size v n xs)
    (L : Nat) (A : Option Addr) (m c : Nat) (news : List Value) (hr : Rd w L size A m news) (h1 : ∀ u ∈ news, u.oneCell' = true)
    (h63 : n + m ≤ maxLen) (hbytes : (n + m) * bytes ≤ 140737488355328) {v' : Value} {w' : World} (hrun : (Builtin.append_ #[t, t] ty #[v, .slice A m c]).run P w = .ok v' w') : w'.ownsRow base e size v n xs := by
  subst hsize
  subst hby
  rcases hown.2 with ⟨rfl, rfl⟩ | ⟨g, cap, cur, rfl, hb, hg, hnc, hcm, hcs, htk⟩
  · have hx : xs = [] := List.eq_nil_of_length_eq_zero (by simpa using hown.1)
    subst hx
    exact World.ownsRow_nil _ _ _ _
  · by_cases hm : m = 0
    · subst hm
      have hnews : news = [] := List.eq_nil_of_length_eq_zero (by simpa using hr.1)
      subst hnews
      have hw : w' = w ∨ ∃ cur', w' = w.setRow g cur' ∧ cur' = cur := by
        cases A with
        | none =>
          have : (Builtin.append_ #[t, t] ty #[.slice (some ⟨g, 0, none⟩) n cap, .slice none 0 c]).run P w = .ok (.slice (some ⟨g, 0, none⟩) n cap) w := by
            simp [Builtin.append_, run_underlying ht, sizeOf, typeInfo, hi, Builtin.lenOf, Builtin.firstCells, hnc, storeCells]
          rw [this] at hrun
          injection hrun with _ hrun
          exact .inl hrun.symm
        | some ad =>
          have := run_append_room (P := P) w t ty e i ht hi g n cap cur hg ad 0 c [] (by simp) (by simp) (by simp) (by simpa using hnc) (by simp [hcs]; exact Nat.mul_le_mul_right _ hnc)
          rw [this] at hrun
          injection hrun with _ hrun
          exact .inr ⟨_, hrun.symm, by simp⟩
      rcases hw with rfl | ⟨cur', rfl, rfl⟩
      · exact hown
      · refine ⟨hown.1, .inr ⟨g, cap, cur', rfl, hb, ?_, hnc, hcm, hcs, htk⟩⟩
        simp [World.setRow, Array.getElem?_modify, hg]
    · obtain ⟨b, off, rfl, _, _, hc⟩ := hr.2 (by omega)
      have hcells : ∀ j u, news[j]? = some u → w.cell? ((⟨b, off, none⟩ : Addr).add j) = some u := fun j u hu => by rw [Addr.add_lit]; exact hc j u hu
      by_cases hroom : n + m ≤ cap
      · have hfit : n * i.size + news.length ≤ cur.size := by rw [hr.1, hcs, ← Nat.add_mul]; exact Nat.mul_le_mul_right _ hroom
        have := run_append_room (P := P) w t ty e i ht hi g n cap cur hg ⟨b, off, none⟩ m c news hr.1 hcells h1 hroom hfit
        rw [this] at hrun
        injection hrun with _ hrun
        subst hrun
        refine ⟨hown.1, .inr ⟨g, cap, _, rfl, hb, by simp only [World.setRow, Array.getElem?_modify, hg]; simp; rfl, hnc, hcm, ?_, ?_⟩⟩
        · simp only [List.size_toArray, List.length_append, List.length_take, List.length_drop, Array.length_toList]
          omega
        · have hx : xs.length = n * i.size := hown.1
          simp only [htk, List.append_assoc]
          rw [← hx, List.take_left]
      · have hlo : xs.length = n * i.size := hown.1
        have hol : ∀ j u, xs[j]? = some u → w.cell? ((⟨g, 0, none⟩ : Addr).add j) = some u := hown.cells (g := g) rfl
        have := run_append_grow (P := P) w t ty e i z ht hi hz ⟨g, 0, none⟩ n cap xs hlo hol ⟨b, off, none⟩ m c news hr.1 hcells (by omega) (by unfold maxLen at h63; omega) (growslice_fits (by omega) hbytes)
        rw [this] at hrun
        injection hrun with _ hrun
        subst hrun
        exact ⟨hown.1, .inr ⟨g, cap, cur, rfl, hb, (Below.heap_alloc w.drew _ g (getElem?_lt' hg)).trans hg, hnc, hcm, hcs, htk⟩⟩
where
  getElem?_lt' {α : Type} {xs : Array α} {i : Nat} {x : α} (h : xs[i]? = some x) : i < xs.size := by
    rcases Nat.lt_or_ge i xs.size with h1 | h1
    · exact h1
    · rw [Array.getElem?_eq_none h1] at h; cases h

theorem wp_append_keep {o : Oper} {a : Act} {K : Act → World → Prop} {Q : Exit → Act → World → Prop} (s x : Operand) (t : TypeId)
    (ho : o.op = .call { callee := .builtin .append, args := #[s, x], argTypes := #[t, t] })
    (base : Nat) (e : TypeId) (i : TypeInfo) (z : Value) (size bytes : Nat) (ht : P.underlying t = some (.slice e)) (hi : P.info? e = some i) (hz : i.zero = some z)
    (hsize : i.size = size) (hby : i.bytes = bytes) (hzs : z.cells.size = size) (hsz : 0 < size)
    (v : Value) (n : Nat) (xs : List Value) (hs : a.eval s = v) (hown : w.ownsRow base e size v n xs)
    (L : Nat) (A : Option Addr) (m c : Nat) (news : List Value) (hx : a.eval x = .slice A m c) (hr : Rd w L size A m news) (h1 : ∀ u ∈ news, u.oneCell' = true)
    (h63 : n + m ≤ maxLen) (hbytes : (n + m) * bytes ≤ 140737488355328) (hbase : base ≤ w.heap.size)
    (h : ∀ v' w', w'.ownsRow base e size v' (n + m) (xs ++ news) → w'.ownsRow base e size v n xs → w.grownBy w' v.ownBlock → (v'.ownBlock = v.ownBlock ∨ v'.ownBlock = some w.heap.size) → K (a.put o.dst v') w') : o.wp P a w K Q := by
  obtain ⟨v', w', hrun, h2, h3, h4⟩ := run_append_rd (P := P) w base t o.type e i z size bytes ht hi hz hsize hby hzs hsz v n xs hown L A m c news hr h1 h63 hbytes hbase
  have hk := append_keeps (P := P) w base t o.type e i z size bytes ht hi hz hsize hby v n xs hown L A m c news hr h1 h63 hbytes hrun
  unfold Oper.wp execOp
  simp only [ho, resolve, invoke, builtin, Sem.run_bind, Sem.run_pure, Result.andThen_ok, List.map_toArray, List.map_cons, List.map_nil, hs, hx, hrun]
  exact h v' w' h2 hk h3 h4
end

end Go.Proofs.Ytjhfhlfiagggpaa
