/- slices.IndexFunc, slices.ContainsFunc at []int. -/
import Derived.Test.YtjhfhlfiagggpaaA1
namespace Go.Proofs.Ytjhfhlfiagggpaa
open Go Go.RowKit

/-- The first j from k on, below n, with p j; -1 if there is none. -/
def firstIx (p : Nat → Bool) : Nat → Nat → Int
  | 0, _ => -1
  | n + 1, k => if p k then (k : Int) else firstIx p n (k + 1)

set_option maxHeartbeats 400000 in
set_option maxRecDepth 100000 in
theorem indexInts_any (F : FuncId) (cap : Array Value) (A : Option Addr) (n c : Nat) (xs : List Int) (p : Nat → Bool) (w : World) (hF : ∀ args W, Sem.run Try.prog (callFunc F args) W = .ok (.enter F args) W) (hn : n ≤ maxLen) (hr : Rd w 0 1 A n (ints xs))
    (hf : ∀ j x, xs[j]? = some x → ∀ w1, Below w.heap.size w w1 → Calls Try.prog F (#[.int .i64 x] ++ cap) w1 fun e w2 => e = .returned (.bool (p j)) ∧ Below w.heap.size w w2) :
    Calls Try.prog 80 #[.slice A n c, .func (.func F) #[] cap] w fun e w' => e = .returned (.int .i64 (firstIx p n 0)) ∧ Below w.heap.size w w' := by
  unfold maxLen at hn
  have HR := Lib.hid hr
  have HF := Lib.hid hf
  clear hr hf
  go_enter Try.func80, Try.ntmps80
  go_wp2
  go_loopw [4, 5, 8] (fun _ _ i w' => ∃ k : Nat, k ≤ n ∧ i = .int .i64 k ∧ firstIx p n 0 = firstIx p (n - k) k ∧ Below w.heap.size w w') (fun _ _ i _ => n - (intOf i).toNat)
  case atStart => exact ⟨0, Nat.zero_le _, rfl, rfl, Below.refl _ _⟩
  case round =>
    obtain ⟨k, hk, rfl, hfi, hb⟩ := hrel
    have HI := Lib.hid hfi
    have HB := Lib.hid hb
    clear hfi hb
    by_cases hlt : k < n
    · have h1 := HR.out.1
      have hx : xs[k]? = some (xs[k]'(by simp [ints] at h1; omega)) := List.getElem?_eq_getElem _
      generalize xs[k]'_ = x at hx
      obtain ⟨b, off, rfl, _, hbl, hc⟩ := ((HR.out).below HB.out).2 (by omega)
      have hc1 := hc k (.int .i64 x) (by simp [ints, hx])
      have HX := Lib.hid hx
      clear hc hx h1
      go_wp2_with fail
      refine (HF.out k x HX.out _ HB.out).mono ?_
      rintro e w2 ⟨rfl, hb2⟩
      have HB2 := Lib.hid hb2
      clear hb2
      cases hp : p k
      · have HP := Lib.hid hp
        clear hp
        go_wp2_with fail
        go_roundw
        case rel => exact ⟨k + 1, by omega, by go_num, by rw [HI.out, show n - k = (n - (k + 1)) + 1 from by omega]; simp [firstIx, HP.out], HB2.out⟩
        case measure => simp [intOf]; omega
      · have HP := Lib.hid hp
        clear hp
        go_wp2_with fail
        go_ret
        exact ⟨by rw [HI.out, show n - k = (n - (k + 1)) + 1 from by omega]; simp [firstIx, HP.out], HB2.out⟩
    · have hk' : k = n := by omega
      go_wp2_with fail
      go_ret
      exact ⟨by rw [HI.out, show n - k = 0 from by omega]; simp [firstIx], HB.out⟩

set_option maxHeartbeats 400000 in
set_option maxRecDepth 100000 in
theorem containsInts_any (F : FuncId) (cap : Array Value) (A : Option Addr) (n c : Nat) (xs : List Int) (p : Nat → Bool) (w : World) (hF : ∀ args W, Sem.run Try.prog (callFunc F args) W = .ok (.enter F args) W) (hn : n ≤ maxLen) (hr : Rd w 0 1 A n (ints xs))
    (hf : ∀ j x, xs[j]? = some x → ∀ w1, Below w.heap.size w w1 → Calls Try.prog F (#[.int .i64 x] ++ cap) w1 fun e w2 => e = .returned (.bool (p j)) ∧ Below w.heap.size w w2) :
    Calls Try.prog 51 #[.slice A n c, .func (.func F) #[] cap] w fun e w' => e = .returned (.bool (decide (0 ≤ firstIx p n 0))) ∧ Below w.heap.size w w' := by
  have H := Lib.hid (indexInts_any F cap A n c xs p w hF hn hr hf)
  clear hr hf hF
  go_enter Try.func51, Try.ntmps51
  go_wp2_with fail
  refine H.out.mono ?_
  rintro e w2 ⟨rfl, hb2⟩
  go_wp2_with fail
  go_ret
  exact ⟨rfl, hb2⟩

theorem firstIx_lt (p : Nat → Bool) : ∀ n k, (0 ≤ firstIx p n k) ↔ ∃ j, k ≤ j ∧ j < k + n ∧ p j = true
  | 0, k => by simp [firstIx]; omega
  | n + 1, k => by
    have ih := firstIx_lt p n (k + 1)
    unfold firstIx
    by_cases h : p k
    · simp only [h, if_true]
      exact ⟨fun _ => ⟨k, by omega, by omega, h⟩, fun _ => by omega⟩
    · simp only [h]
      rw [if_neg (by simp), ih]
      constructor
      · rintro ⟨j, h1, h2, h3⟩; exact ⟨j, by omega, by omega, h3⟩
      · rintro ⟨j, h1, h2, h3⟩
        refine ⟨j, ?_, by omega, h3⟩
        rcases Nat.lt_or_ge k j with h4 | h4
        · omega
        · exact absurd (show j = k by omega ▸ h3) (by simpa using h)

theorem bytes_ix (xs : List Int) (n : Nat) (hn : xs.length = n) : (!decide (0 ≤ firstIx (fun j => !byteB (xs.getD j 0)) n 0)) = bytesB xs := by
  rw [Bool.eq_iff_iff]
  simp only [Bool.not_eq_true', decide_eq_false_iff_not, firstIx_lt, bytesB, List.all_eq_true]
  constructor
  · intro h x hx
    obtain ⟨j, hj, rfl⟩ := List.getElem_of_mem hx
    by_cases hb : byteB xs[j]
    · exact hb
    · exact absurd ⟨j, by omega, by omega, by simp [List.getD_eq_getElem?_getD, List.getElem?_eq_getElem hj]; simpa using hb⟩ h
  · rintro h ⟨j, _, hj, h3⟩
    have hl : j < xs.length := by omega
    have := h _ (List.getElem_mem hl)
    simp [List.getD_eq_getElem?_getD, List.getElem?_eq_getElem hl, this] at h3

set_option maxHeartbeats 400000 in
set_option maxRecDepth 100000 in
theorem bytesValid_any (L : Nat) (v : Value) (xs : List Int) (w : World) (h : Ints w L v xs) :
    Calls Try.prog 47 #[v] w fun e w' => e = .returned (.bool (bytesB xs)) ∧ Below w.heap.size w w' := by
  obtain ⟨A, c, rfl, h1, h2, h3⟩ := h
  have hn : xs.length ≤ maxLen := by omega
  have hr := h3.less (Nat.zero_le L)
  clear h1 h2 h3
  have H := Lib.hid (containsInts_any 77 #[] A xs.length c xs (fun j => !byteB (xs.getD j 0)) w (fun args W => by go_simp) hn hr
    (fun j x hx w1 hb => (notByte_any x w1).mono fun e w2 ⟨he, hw⟩ => ⟨by rw [he]; simp [List.getD_eq_getElem?_getD, hx], by rw [hw]; exact hb⟩))
  have HI := Lib.hid (bytes_ix xs xs.length rfl)
  clear hr
  go_enter Try.func47, Try.ntmps47
  go_wp2_with fail
  refine H.out.mono ?_
  rintro e w2 ⟨rfl, hb2⟩
  go_wp2_with fail
  go_ret
  exact ⟨by rw [← HI.out]; rfl, hb2⟩
end Go.Proofs.Ytjhfhlfiagggpaa
