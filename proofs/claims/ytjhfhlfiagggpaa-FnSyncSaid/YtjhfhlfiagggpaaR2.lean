/- The reader: l6Open, l92Name, l92Bytes. -/
import Derived.Test.YtjhfhlfiagggpaaR1
import Derived.Test.YtjhfhlfiagggpaaK10
namespace Go.Proofs.Ytjhfhlfiagggpaa
open Go Go.RowKit

theorem grown_trans {a b c : World} {row : Option Nat} (h : a.grownBy b row) (k : b.grownBy c row) : a.grownBy c row :=
  ⟨k.os.trans h.os, k.tape.trans h.tape, k.output.trans h.output, Nat.le_trans h.size k.size, fun i hi hne => (k.block i (Nat.lt_of_lt_of_le hi h.size) hne).trans (h.block i hi hne)⟩
theorem grown_below' {a b c : World} {row : Option Nat} (h : a.grownBy b row) (k : Below b.heap.size b c) : a.grownBy c row := grown_trans h (grown_of_below k row)
theorem grown_own {a b c : World} {row row' : Option Nat} (h : a.grownBy b row) (k : b.grownBy c row') (hr : ∀ i, row' = some i → a.heap.size ≤ i) : a.grownBy c row :=
  ⟨k.os.trans h.os, k.tape.trans h.tape, k.output.trans h.output, Nat.le_trans h.size k.size, fun i hi hne => (k.block i (Nat.lt_of_lt_of_le hi h.size) (fun e => by have := hr i e.symm; omega)).trans (h.block i hi hne)⟩
theorem grown_refl (a : World) (row : Option Nat) : a.grownBy a row := grown_of_below (Below.refl _ _) row
theorem own_pick {w w' : World} {base size n g : Nat} {e : TypeId} {v : Value} {xs : List Value} (h : w.ownsRow base e size v n xs) (hg : w.grownBy w' (some g)) (hb : g < base) : w'.ownsRow base e size v n xs := by
  refine h.kept hg ?_
  cases hk : v.ownBlock with
  | none => exact .inl rfl
  | some k =>
    have := (World.ownsRow.lt h k hk).1
    exact .inr (by simp; omega)
theorem Reader.lt {w : World} {g q : Nat} (h : Reader w g q) : g < w.heap.size := by
  obtain ⟨A, c, p, xs, h1, _⟩ := h
  exact getElem?_lt h1
theorem Reader.below {w w' : World} {g q : Nat} (h : Reader w g q) (hb : Below w.heap.size w w') : Reader w' g q := h.keep fun b hbg => hb.block b (by have := h.lt; omega)
theorem Reader.grown {w w' : World} {g q : Nat} {row : Option Nat} (h : Reader w g q) (hb : w.grownBy w' row) (hr : ∀ i, row = some i → g < i) : Reader w' g q :=
  h.keep fun b hbg => hb.block b (by have := h.lt; omega) (fun e => by have := hr b e.symm; omega)
theorem Reader.more {w : World} {g q q' : Nat} (h : Reader w g q) (hq : q ≤ q') : Reader w g q' := by
  obtain ⟨A, c, p, xs, h1, h2, h3⟩ := h
  exact ⟨A, c, p, xs, h1, by omega, h3⟩

def Opened (w : World) (e : Ending) (w' : World) : Prop := ∃ g, e = .returned (.pointer (some ⟨g, 0, none⟩)) ∧ w.heap.size ≤ g ∧ Reader w' g 0 ∧ Below w.heap.size w w'
set_option maxHeartbeats 400000 in
set_option maxRecDepth 100000 in
theorem l6Open_any (L : Nat) (A : Option Addr) (c : Nat) (xs : List Int) (w : World) (hr : Rd w L 1 A xs.length (byt xs)) (hc : xs.length ≤ c) (hcm : c ≤ maxLen) (hb : ∀ x ∈ xs, 0 ≤ x ∧ x < 256) :
    Calls Try.prog 65 #[.slice A xs.length c] w (Opened w) := by
  have HR := Lib.hid hr
  have HB := Lib.hid hb
  have HCM := Lib.hid hcm
  unfold maxLen at hcm
  clear hr hb
  have key : ∀ (ys : List Int) (m : Nat), ys.length = m → m ≤ 2000 → m ≤ c → (∀ (j : Nat) (x : Int), ys[j]? = some x → xs[j]? = some x) → Opened w (.returned (.pointer (some ⟨w.heap.size, 0, none⟩))) (w.alloc (.cells #[.slice A m c, .int .i64 0] 121)) := by
    rintro ys m rfl hm hmc hsub
    refine ⟨w.heap.size, rfl, Nat.le_refl _, ⟨A, c, 0, ys, heap_alloc_new w _, Nat.le_refl _, hm, hmc, HCM.out, ?_, ?_⟩, below1 _ _⟩
    · intro x hx
      obtain ⟨j, hj, rfl⟩ := List.getElem_of_mem hx
      exact HB.out _ (List.mem_of_getElem? (hsub j _ (List.getElem?_eq_getElem hj)))
    · intro h0
      have hx0 : 0 < xs.length := by
        have := hsub 0 _ (List.getElem?_eq_getElem h0)
        exact lt_of_get this
      obtain ⟨b, off, e, _, hlt, hcell⟩ := HR.out.2 hx0
      refine ⟨b, off, e, hlt, fun j x hx => ?_⟩
      rw [World.cell?_alloc_past _ _ _ hlt]
      exact hcell j _ (by simp [byt, hsub j x hx])
  have HK := Lib.hid key
  clear key
  by_cases hl : xs.length ≤ 2000
  · have hb0 : decide (2000 < (xs.length : Int)) = false := by simp; omega
    go_enter Try.func65, Try.ntmps65
    go_wp2_with fail
    go_ret
    exact HK.out xs _ rfl hl hc fun _ _ h => h
  · have hb0 : decide (2000 < (xs.length : Int)) = true := by simp; omega
    have hc2 : 2000 ≤ c := by omega
    go_enter Try.func65, Try.ntmps65
    go_wp2_with fail
    go_ret
    exact HK.out (xs.take 2000) 2000 (by rw [List.length_take]; omega) (Nat.le_refl _) (by omega) fun j x h => by
      rw [List.getElem?_take] at h
      split at h
      · exact h
      · cases h

def Named (w : World) (g q : Nat) (e : Ending) (w' : World) : Prop := ∃ x : Int, e = .returned (.int .i64 x) ∧ 0 ≤ x ∧ x ≤ 4 ∧ w.grownBy w' (some g) ∧ Reader w' g (q + 2)
set_option maxHeartbeats 400000 in
set_option maxRecDepth 100000 in
theorem l92Name_any (g q : Nat) (w : World) (h : Reader w g q) (hq : q ≤ 1000000000) : Calls Try.prog 67 #[.pointer (some ⟨g, 0, none⟩)] w (Named w g q) := by
  have HP := Lib.hid (pick_any g q 16 w h (by omega) (by omega))
  clear h
  go_enter Try.func67, Try.ntmps67
  go_wp2_with fail
  with_reducible refine HP.out.mono ?_
  rintro e w1 ⟨x, rfl, hx0, hx1, _, hg1, hr1⟩
  have HG := Lib.hid hg1
  have HP2 := Lib.hid (fun (n : Int) (hn : n ≤ 100) => pick_any g (q + 1) n w1 hr1 (by omega) (by omega))
  clear hg1 hr1 hx1
  by_cases hx : x = 0
  · have hb : (x == 0) = true := by simp [hx]
    clear hx
    go_wp2_with fail
    with_reducible refine (HP2.out 2 (by omega)).mono ?_
    rintro e w2 ⟨y, rfl, hy0, hy1, _, hg2, hr2⟩
    have hy2 := hy1 (by omega)
    have HG2 := Lib.hid (grown_trans HG.out hg2)
    have HR2 := Lib.hid hr2
    clear hg2 hr2 hy1
    go_wp2_with fail
    go_ret
    exact ⟨_, rfl, by omega, by omega, HG2.out, HR2.out⟩
  · have hb : (x == 0) = false := by simp [hx]
    clear hx
    go_wp2_with fail
    with_reducible refine (HP2.out 3 (by omega)).mono ?_
    rintro e w2 ⟨y, rfl, hy0, hy1, _, hg2, hr2⟩
    have hy2 := hy1 (by omega)
    have HG2 := Lib.hid (grown_trans HG.out hg2)
    have HR2 := Lib.hid hr2
    clear hg2 hr2 hy1
    go_wp2_with fail
    go_ret
    exact ⟨_, rfl, by omega, by omega, HG2.out, HR2.out⟩
end Go.Proofs.Ytjhfhlfiagggpaa
