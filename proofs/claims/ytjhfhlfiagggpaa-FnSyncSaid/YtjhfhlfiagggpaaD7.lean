/- slices.Grow at nil, slices.Concat: []int. -/
import Derived.Test.YtjhfhlfiagggpaaD6
import Derived.Lib.AppendZerosOnto
namespace Go.Proofs.Ytjhfhlfiagggpaa
open Go Go.RowKit

theorem und_int : Try.prog.underlying 3 = some (.int .i64) := by kernel_rfl

theorem zeroCells_len (z : Value) (hz : z.cells.size = 1) (k : Nat) : (Builtin.zeroCells z.cells k).size = k := by rw [size_zeroCells, hz, Nat.mul_one]

set_option maxHeartbeats 1000000 in
set_option maxRecDepth 100000 in
theorem growNil_any (n : Nat) (w : World) (hn : n ≤ 4194304) :
    Calls Try.prog 75 #[.slice none 0 0, .int .i64 n] w fun e w' => ∃ v, e = .returned v ∧ w'.ownsRow w.heap.size 3 1 v 0 [] ∧ Below w.heap.size w w' := by
  obtain ⟨i0, hi, hz0, hz1, hz2⟩ := info_parts info_int
  have h1 : ¬ ((n : Int) < 0) := by omega
  by_cases h0 : n = 0
  · subst h0
    go_enter Try.func75, Try.ntmps75
    go_wp2
    go_ret
    exact ⟨_, rfl, World.ownsRow_nil _ _ _ _, Below.refl _ _⟩
  · have h4 : (n : Int) > 0 := by omega
    have hGn : n ≤ grownCap w n 0 3 := grownCap_ge w _ _ _
    have hG63 : grownCap w n 0 3 ≤ maxLen := grownCap_le_maxLen w n 0 3 (by unfold maxLen; omega)
    have hrz : ∀ ty, (Builtin.append_ #[32, 3] ty #[.slice none 0 0, .int .i64 n]).run Try.prog w =
        .ok (.slice (some ⟨w.heap.size, 0, none⟩) n (grownCap w n 0 3)) (w.drew.alloc (.cells (Builtin.zeroCells #[.int .i64 0] n ++ Builtin.zeroCells #[.int .i64 0] (grownCap w n 0 3 - n)) 3)) := fun ty => by
      have h := Lib.run_append_grow_zeros w 32 3 ty 3 i0 (.int .i64 0) .i64 .i64 und_ints und_int hi hz0 none 0 0 [] (run_firstCells_none _ _ _ _ _) n (by omega) (by omega) (by omega) (by omega) (by rw [hz2]; omega)
        (growslice_fits (by omega) (by rw [hz2]; omega))
      simpa [Value.cells] using h
    have HRZ := Lib.hid hrz
    clear hrz
    have HOWN := Lib.hid (show (w.drew.alloc (.cells (Builtin.zeroCells #[.int .i64 0] n ++ Builtin.zeroCells #[.int .i64 0] (grownCap w n 0 3 - n)) 3)).ownsRow w.heap.size 3 1 (.slice (some ⟨w.heap.size, 0, none⟩) 0 (grownCap w n 0 3)) 0 [] from
      World.ownsRow_made w.drew _ _ (Nat.le_refl _) hG63 (by simp [size_zeroCells]; omega))
    have HB := Lib.hid (show Below w.heap.size w (w.drew.alloc (.cells (Builtin.zeroCells #[.int .i64 0] n ++ Builtin.zeroCells #[.int .i64 0] (grownCap w n 0 3 - n)) 3)) from (Below.refl _ _).drew.alloc (Nat.le_refl _) _)
    generalize grownCap w n 0 3 = G at *
    generalize Obj.cells (Builtin.zeroCells #[.int .i64 0] n ++ Builtin.zeroCells #[.int .i64 0] (G - n)) 3 = O at *
    unfold maxLen at hG63
    go_enter Try.func75, Try.ntmps75
    go_wp2_with (at_builtin; go_loud (refine wpList_append_run _ rfl _ _ #[32, 3] rfl (.slice none 0 0) (.int .i64 n) _ _ rfl rfl (HRZ.out _) ?_))
    go_ret
    exact ⟨_, rfl, HOWN.out, HB.out⟩

/-- A slice of slices of integers. -/
def IntsS (w : World) (L : Nat) (A : Option Addr) (xss : List (List Int)) : Prop :=
  ∃ vs : List Value, vs.length = xss.length ∧ Rd w L 1 A xss.length vs ∧ ∀ (i : Nat) (xs : List Int) (v : Value), xss[i]? = some xs → vs[i]? = some v → Ints w L v xs
theorem IntsS.at_ {w : World} {L : Nat} {A : Option Addr} {xss : List (List Int)} {k : Nat} {xs : List Int} (h : IntsS w L A xss) (hx : xss[k]? = some xs) :
    ∃ b off v, A = some ⟨b, off, none⟩ ∧ L ≤ b ∧ b < w.heap.size ∧ w.cell? ⟨b, off + k, none⟩ = some v ∧ Ints w L v xs := by
  obtain ⟨vs, h1, h2, h3⟩ := h
  have hk := lt_of_get hx
  obtain ⟨v, hv⟩ := get_of_lt (show k < vs.length by omega)
  obtain ⟨b, off, e, g1, g2, g3⟩ := h2.2 (by omega)
  exact ⟨b, off, v, e, g1, g2, g3 k v hv, h3 k xs v hx hv⟩
theorem IntsS.below {w w' : World} {L : Nat} {A : Option Addr} {xss : List (List Int)} (h : IntsS w L A xss) (hb : Below w.heap.size w w') : IntsS w' L A xss := by
  obtain ⟨vs, h1, h2, h3⟩ := h
  exact ⟨vs, h1, h2.below hb, fun i xs v a b => (h3 i xs v a b).below hb⟩
theorem flatten_take_le {α : Type} (xss : List (List α)) (k : Nat) : (xss.take k).flatten.length ≤ xss.flatten.length := by
  have h := congrArg List.length (congrArg List.flatten (List.take_append_drop k xss))
  simp only [List.flatten_append, List.length_append] at h
  omega
theorem flatten_take_succ {α : Type} {xss : List (List α)} {k : Nat} {x : List α} (h : xss[k]? = some x) : (xss.take (k + 1)).flatten = (xss.take k).flatten ++ x := by
  rw [take_succ_get h, List.flatten_append]
  simp

set_option maxHeartbeats 1000000 in
set_option maxRecDepth 100000 in
theorem concatInts_any (L : Nat) (A : Option Addr) (c : Nat) (xss : List (List Int)) (w : World) (h : IntsS w L A xss) (hm : xss.length ≤ 1000) (ht : xss.flatten.length ≤ 4194304) :
    Calls Try.prog 41 #[.slice A xss.length c] w fun e w' => ∃ v, e = .returned v ∧ w'.ownsRow w.heap.size 3 1 v xss.flatten.length (ints xss.flatten) ∧ Below w.heap.size w w' := by
  obtain ⟨i0, hi, hz0, hz1, hz2⟩ := info_parts info_int
  have H := Lib.hid h
  clear h
  go_enter Try.func41, Try.ntmps41
  go_wp2_with fail
  go_loop [3, 5, 11] (fun s _ i => ∃ k : Nat, k ≤ xss.length ∧ i = .int .i64 k ∧ s = .int .i64 (xss.take k).flatten.length) (fun _ _ i => xss.length - (intOf i).toNat)
  case atStart => exact ⟨0, Nat.zero_le _, rfl, rfl⟩
  case round =>
    obtain ⟨k, hk, rfl, rfl⟩ := hrel
    have hle := flatten_take_le xss k
    have hle1 := flatten_take_le xss (k + 1)
    by_cases hlt : k < xss.length
    · obtain ⟨xs, hx⟩ := get_of_lt hlt
      obtain ⟨b, off, v, rfl, _, hbl, c0, hv⟩ := H.out.at_ hx
      have HX := Lib.hid (flatten_take_succ hx)
      rw [HX.out, List.length_append] at hle1
      clear hx
      obtain ⟨A1, n1, rfl, hn1, hm1, hr1⟩ := hv
      clear hr1
      generalize hS : (xss.take k).flatten.length = S at *
      have HS := Lib.hid hS
      clear hS
      go_wp2_with fail
      go_round
      case rel => exact ⟨k + 1, by omega, by go_num, by rw [HX.out, List.length_append, HS.out]; go_num⟩
      case measure => simp [intOf]; omega
    · have hk' : k = xss.length := by omega
      have HK := Lib.hid hk'
      have hS : (xss.take k).flatten.length = xss.flatten.length := by rw [hk', List.take_length]
      rw [hS]
      generalize hT : xss.flatten.length = T at *
      have HT := Lib.hid hT
      clear hS hT hk' hle hle1
      go_wp2_with fail
      refine (growNil_any T _ ht).mono ?_
      rintro e w1 ⟨v1, rfl, hown1, hb1⟩
      have HO1 := Lib.hid hown1
      have HB1 := Lib.hid hb1
      clear hown1 hb1
      obtain ⟨A1, n1, rfl⟩ := own_form HO1.out
      go_wp2_with fail
      go_loopw [6, 8, 27] (fun o _ i wr => ∃ k : Nat, k ≤ xss.length ∧ i = .int .i64 k ∧ wr.ownsRow w.heap.size 3 1 o (xss.take k).flatten.length (ints (xss.take k).flatten) ∧ Below w.heap.size w wr) (fun _ _ i _ => xss.length - (intOf i).toNat)
      case atStart => exact ⟨0, Nat.zero_le _, rfl, HO1.out, HB1.out⟩
      case round =>
        obtain ⟨k, hk, rfl, ho, hb⟩ := hrel
        have HO := Lib.hid ho
        have HB := Lib.hid hb
        clear ho hb
        by_cases hlt : k < xss.length
        · obtain ⟨xs, hx⟩ := get_of_lt hlt
          have hle1 := flatten_take_le xss (k + 1)
          obtain ⟨b, off, v, rfl, _, hbl, c0, hv⟩ := (H.out.below HB.out).at_ hx
          have HX := Lib.hid (flatten_take_succ hx)
          rw [HX.out, List.length_append, HT.out] at hle1
          clear hx
          obtain ⟨A2, n2, rfl, hn2, hm2, hr2⟩ := hv
          have HR := Lib.hid hr2
          clear hr2
          go_wp2_with (at_builtin; go_loud (refine wpList_append_rd _ rfl _ _ 32 rfl w.heap.size 3 i0 (.int .i64 0) 1 8 und_ints hi hz0 hz1 hz2 rfl (by decide) u6 _ _ rfl HO.out L A2 xs.length n2 (ints xs) rfl HR.out (ints_one xs) ?c1 ?c2 ?c3 ?_); (case c1 => unfold maxLen; omega); (case c2 => omega); (case c3 => exact HB.out.size); intro v' w2 hown hg _)
          go_roundw
          case rel => exact ⟨k + 1, by omega, by go_num, by rw [HX.out, List.length_append]; simpa [ints] using hown, HB.out.grown hg HB.out.size fun g hg' => (World.ownsRow.lt HO.out g hg').1⟩
          case measure => simp [intOf]; omega
        · have hk2 : k = xss.length := by omega
          go_wp2_with fail
          go_ret
          have HF := HO.out
          rw [hk2, List.take_length] at HF
          exact ⟨_, rfl, HF, HB.out⟩
end Go.Proofs.Ytjhfhlfiagggpaa
