/- The reader of codes: pick. -/
import Derived.Test.YtjhfhlfiagggpaaR0
import Derived.Laws.BitsAllLaws
import Derived.Laws.BitsLemmas
import Derived.BigQuiet
namespace Go.Proofs.Ytjhfhlfiagggpaa
open Go Go.RowKit

def byt (xs : List Int) : List Value := xs.map (Value.int .u8)
/-- Block g is a reader that has read at most q numbers. -/
def Reader (w : World) (g q : Nat) : Prop :=
  ∃ (A : Option Addr) (c p : Nat) (xs : List Int), w.heap[g]? = some (.cells #[.slice A xs.length c, .int .i64 p] 121 (0, 0)) ∧ p ≤ q ∧ xs.length ≤ 2000 ∧ xs.length ≤ c ∧ c ≤ maxLen ∧ (∀ x ∈ xs, 0 ≤ x ∧ x < 256) ∧
    (0 < xs.length → ∃ b off, A = some ⟨b, off, none⟩ ∧ b < g ∧ ∀ j x, xs[j]? = some x → w.cell? ⟨b, off + j, none⟩ = some (.int .u8 x))

theorem Reader.keep {w w' : World} {g q : Nat} (h : Reader w g q) (hk : ∀ b, b ≤ g → w'.heap[b]? = w.heap[b]?) : Reader w' g q := by
  obtain ⟨A, c, p, xs, h1, h2, h3, h4, h5, h6, h7⟩ := h
  refine ⟨A, c, p, xs, (hk g (Nat.le_refl _)).trans h1, h2, h3, h4, h5, h6, fun hn => ?_⟩
  obtain ⟨b, off, e, hb, hc⟩ := h7 hn
  exact ⟨b, off, e, hb, fun j x hx => (World.cell?_of_block (hk b (by omega))).trans (hc j x hx)⟩

theorem tdiv64 (X : Nat) (h : X < 9223372036854775808) : wrap64 ((X : Int).tdiv 64) = ((X / 64 : Nat) : Int) := by
  have h1 : (X : Int).tdiv 64 = ((X / 64 : Nat) : Int) := by
    rw [Int.tdiv_eq_ediv_of_nonneg (show (0 : Int) ≤ (X : Int) by omega)]
    simp
  rw [h1]
  exact w64_in _ ⟨by omega, by omega⟩
def Picked (w : World) (g q : Nat) (n : Int) (e : Ending) (w' : World) : Prop := ∃ x : Int, e = .returned (.int .i64 x) ∧ 0 ≤ x ∧ (1 ≤ n → x < n) ∧ (n < 1 → x = 0) ∧ w.grownBy w' (some g) ∧ Reader w' g (q + 1)
theorem far_cell {w : World} {g b o o' : Nat} {u v : Value} (hb : b < g) (h : w.cell? ⟨b, o, none⟩ = some v) : (w.setCell ⟨g, o', none⟩ u).cell? ⟨b, o, none⟩ = some v := by
  rw [World.cell?_of_block (w := w) (Below.heap_setCell w ⟨g, o', none⟩ u b (by simp; omega))]; exact h
theorem grown_drewN {a w : World} {row : Option Nat} (h : a.grownBy w row) (n : Nat) : a.grownBy (w.drewN n) row := ⟨h.os, h.tape, h.output, h.size, h.block⟩
theorem Reader.drewN {w : World} {g q : Nat} (h : Reader w g q) (n : Nat) : Reader (w.drewN n) g q := h

set_option maxHeartbeats 150000 in
set_option maxRecDepth 100000 in
theorem pick_any (g q : Nat) (n : Int) (w : World) (h : Reader w g q) (hq : q ≤ 1099511627776) (hn : n ≤ 1099511627776) :
    Calls Try.prog 90 #[.pointer (some ⟨g, 0, none⟩), .int .i64 n] w (Picked w g q n) := by
  obtain ⟨A, c, p, xs, hg, hp, hx1, hx2, hx3, hx4, hx5⟩ := h
  have hc0 : w.cell? ⟨g, 0, none⟩ = some (.slice A xs.length c) := by simp [World.cell?, hg]
  have hc1 : w.cell? ⟨g, 1, none⟩ = some (.int .i64 p) := by simp [World.cell?, hg]
  have hf1 : w.frozen? ⟨g, 1, none⟩ = false := by simp [World.frozen?, hg]
  have HG := Lib.hid (setCell_grown w ⟨g, 1, none⟩ (.int .i64 ((p : Int) + 1)))
  have HRD := Lib.hid (show Reader (w.setCell ⟨g, 1, none⟩ (.int .i64 ((p : Int) + 1))) g (q + 1) from by
    refine ⟨A, c, p + 1, xs, by simp [World.setCell, Array.getElem?_modify, hg], by omega, hx1, hx2, hx3, hx4, fun h0 => ?_⟩
    obtain ⟨b, off, e, hb, hc⟩ := hx5 h0
    exact ⟨b, off, e, hb, fun j x hx => far_cell hb (hc j x hx)⟩)
  have HX4 := Lib.hid hx4
  have HX5 := Lib.hid hx5
  unfold maxLen at hx3
  clear hg hx4 hx5
  by_cases h1 : n < 1
  · go_enter Try.func90, Try.ntmps90
    go_wp2_with fail
    go_ret
    exact ⟨0, rfl, by omega, fun h => by omega, fun _ => rfl, HG.out, HRD.out⟩
  · by_cases h2 : xs.length = 0
    · have h2b : ((xs.length : Int) == 0) = true := by simp [h2]
      have H2 := Lib.hid h2
      clear h2
      go_enter Try.func90, Try.ntmps90
      go_wp2_with fail
      go_ret
      exact ⟨0, rfl, by omega, fun h => by omega, fun _ => rfl, HG.out, HRD.out⟩
    · have h2b : ((xs.length : Int) == 0) = false := by simp [h2]
      have h2c : 0 < xs.length := by omega
      clear h2
      obtain ⟨b, off, rfl, hb, hcell⟩ := HX5.out h2c
      by_cases h3 : p < xs.length
      · obtain ⟨x, hx⟩ := get_of_lt h3
        have hcx := hcell p x hx
        have hr := HX4.out x (List.mem_of_getElem? hx)
        have hr0 := hr.1
        have hr1 := hr.2
        have hcx' : (w.setCell ⟨g, 1, none⟩ (.int .i64 ((p : Int) + 1))).cell? ⟨b, off + p, none⟩ = some (.int .u8 x) := far_cell hb hcx
        clear hx hr hcell hcx
        go_enter Try.func90, Try.ntmps90
        go_wp2_with fail
        go_ret
        exact ⟨_, rfl, Int.emod_nonneg _ (by omega), fun _ => Int.emod_lt_of_pos _ (by omega), fun h => by omega, HG.out, HRD.out⟩
      · have hk1 : p % xs.length < xs.length := Nat.mod_lt _ h2c
        have hk2 : (p * 7 + 3) % xs.length < xs.length := Nat.mod_lt _ h2c
        obtain ⟨x, hx⟩ := get_of_lt hk1
        obtain ⟨y, hy⟩ := get_of_lt hk2
        have hr := HX4.out x (List.mem_of_getElem? hx)
        have hs := HX4.out y (List.mem_of_getElem? hy)
        have hr0 := hr.1
        have hr1 := hr.2
        have hs0 := hs.1
        have hs1 := hs.2
        have hcx : (w.setCell ⟨g, 1, none⟩ (.int .i64 ((p : Int) + 1))).cell? ⟨b, off + p % xs.length, none⟩ = some (.int .u8 x) := far_cell hb (hcell _ x hx)
        have hcy : (w.setCell ⟨g, 1, none⟩ (.int .i64 ((p : Int) + 1))).cell? ⟨b, off + (p * 7 + 3) % xs.length, none⟩ = some (.int .u8 y) := far_cell hb (hcell _ y hy)
        clear hx hy hr hs hcell
        have hne : ¬ xs = [] := fun h => by simp [h] at h2c
        have E1 : (p : Int).tmod (xs.length : Int) = ((p % xs.length : Nat) : Int) := by rw [IntWalk.rem_in _ _ (by omega)]; simp
        have E2 : ((p : Int) * 7 + 3).tmod (xs.length : Int) = (((p * 7 + 3) % xs.length : Nat) : Int) := by rw [IntWalk.rem_in _ _ (by omega)]; simp
        have E3 : IntKind.i64.wrap ((p : Int).tdiv (xs.length : Int)) = ((p / xs.length : Nat) : Int) := by rw [IntWalk.i64_quo _ _ ⟨by omega, by omega, by omega⟩]; simp
        have hkq : p / xs.length ≤ p := Nat.div_le_self _ _
        have W3 : wrap64 ((p : Int) / (xs.length : Int)) = ((p / xs.length : Nat) : Int) := by
          rw [show (p : Int) / (xs.length : Int) = ((p / xs.length : Nat) : Int) from by simp]; exact w64_in _ ⟨Int.natCast_nonneg _, Int.le_trans (Int.ofNat_le.2 hkq) (by omega)⟩
        have HE1 := Lib.hid E1
        have HE2 := Lib.hid E2
        have HE3 := Lib.hid E3
        have HW3 := Lib.hid W3
        clear E1 E2 E3 W3
        generalize p % xs.length = ka at *
        generalize (p * 7 + 3) % xs.length = kb at *
        generalize p / xs.length = kq at *
        obtain ⟨X, hX⟩ : ∃ X : Nat, x * 131 + y * 1117 + (p : Int) * 29 + (kq : Int) * 53 = (X : Int) := ⟨(x * 131 + y * 1117 + (p : Int) * 29 + (kq : Int) * 53).toNat, by omega⟩
        have hXb : X < 9223372036854775808 := by omega
        have HE4 := Lib.hid (IntWalk.i64_in (x * 131) (by omega))
        have HE5 := Lib.hid (IntWalk.i64_in ((p : Int) * 7) (by omega))
        have HE6 := Lib.hid (IntWalk.i64_in ((p : Int) * 7 + 3) (by omega))
        have HE7 := Lib.hid (IntWalk.i64_in (y * 1117) (by omega))
        have HE8 := Lib.hid (IntWalk.i64_in (x * 131 + y * 1117) (by omega))
        have HE9 := Lib.hid (IntWalk.i64_in ((p : Int) * 29) (by omega))
        have HE10 := Lib.hid (IntWalk.i64_in (x * 131 + y * 1117 + (p : Int) * 29) (by omega))
        have HE11 := Lib.hid (IntWalk.i64_in ((kq : Int) * 53) (by omega))
        have E12 := IntWalk.i64_in (x * 131 + y * 1117 + (p : Int) * 29 + (kq : Int) * 53) (by omega)
        rw [hX] at E12
        have HE12 := Lib.hid E12
        clear E12
        have HW11 := Lib.hid (w64_in ((kq : Int) * 53) ⟨by omega, by omega⟩)
        have HW12 := Lib.hid (show wrap64 (x * 131 + y * 1117 + (p : Int) * 29 + (kq : Int) * 53) = (X : Int) by rw [hX]; exact w64_in _ ⟨by omega, by omega⟩)
        have hX64 : X / 64 < 9223372036854775808 := by omega
        have HW13 := Lib.hid (tdiv64 X hXb)
        have HE14 := Lib.hid (i64_xor_nat X (X / 64) hXb hX64)
        generalize X / 64 = X6 at *
        generalize X ^^^ X6 = Z at *
        have HW15 := Lib.hid (show (Z : Int).tmod n = (Z : Int) % n from IntWalk.rem_in _ _ (by omega))
        have HN1 := Lib.hid (show 1 ≤ n by omega)
        clear hX
        have E1 := HE1.out
        have E2 := HE2.out
        have E4 := HE4.out
        have E5 := HE5.out
        have E6 := HE6.out
        have E7 := HE7.out
        have E8 := HE8.out
        have E9 := HE9.out
        have E10 := HE10.out
        have HV := Lib.hid (show (bits BinOp.xor IntKind.i64 (wrap64 (x * 131 + y * 1117 + (p : Int) * 29 + wrap64 (wrap64 ((p : Int) / (xs.length : Int)) * 53)))
            (wrap64 ((wrap64 (x * 131 + y * 1117 + (p : Int) * 29 + wrap64 (wrap64 ((p : Int) / (xs.length : Int)) * 53))).tdiv 64))).tmod n = (Z : Int) % n by
          rw [HW3.out, HW11.out, HW12.out, HW13.out, HE14.out, HW15.out])
        clear HE1 HE2 HE3 HW3 HE4 HE5 HE6 HE7 HE8 HE9 HE10 HE11 HE12 HW11 HW12 HW13 HE14 HW15
        go_enter Try.func90, Try.ntmps90
        go_wp2_with fail
        go_quiet (fail)
        go_wp2_with fail
        go_ret
        have hn1 := HN1.out
        exact ⟨_, ret_int HV.out, Int.emod_nonneg _ (by omega), fun _ => Int.emod_lt_of_pos _ (by omega), fun h => by omega, grown_drewN HG.out _, Reader.drewN HRD.out _⟩
end Go.Proofs.Ytjhfhlfiagggpaa
