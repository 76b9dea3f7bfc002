/- l92Bytes. -/
import Derived.Test.YtjhfhlfiagggpaaR2
namespace Go.Proofs.Ytjhfhlfiagggpaa
open Go Go.RowKit

def Bytes2 (w : World) (g q : Nat) (e : Ending) (w' : World) : Prop := ∃ (v : Value) (xs : List Int), e = .returned v ∧ xs.length ≤ 200 ∧ w'.ownsRow w.heap.size 3 1 v xs.length (ints xs) ∧ w.grownBy w' (some g) ∧ Reader w' g (q + 210)

set_option maxHeartbeats 4000000 in
set_option maxRecDepth 100000 in
theorem l92Bytes_any (g q : Nat) (w : World) (h : Reader w g q) (hq : q ≤ 1000000000) : Calls Try.prog 68 #[.pointer (some ⟨g, 0, none⟩)] w (Bytes2 w g q) := by
  obtain ⟨i0, hi, hz0, hz1, hz2⟩ := info_parts info_int
  have HGW := Lib.hid h.lt
  have HB0 := Lib.hid (below1 w (.cells #[] 3))
  have HN0 := Lib.hid (NoRoom.new w 3 w.heap.size (Nat.le_refl _))
  have HP := Lib.hid (pick_any g q 8 _ (h.below HB0.out) (by omega) (by omega))
  clear h
  go_enter Try.func68, Try.ntmps68
  go_wp2_with fail
  with_reducible refine HP.out.mono ?_
  rintro e wa ⟨x, rfl, hx0, hx1, _, hg1, hr1⟩
  have hx2 := hx1 (by omega)
  obtain ⟨M, rfl⟩ := Int.eq_ofNat_of_zero_le hx0
  have HGa := Lib.hid (grown_trans (grown_of_below HB0.out (some g)) hg1)
  have HOa := Lib.hid (own_pick (size := 1) HN0.out.own hg1 HGW.out)
  have HP2 := Lib.hid (pick_any g (q + 1) 20 _ hr1 (by omega) (by omega))
  clear hg1 hr1 hx1
  go_wp2_with fail
  with_reducible refine HP2.out.mono ?_
  rintro e wb ⟨y, rfl, hy0, _, _, hg2, hr2⟩
  have HGb := Lib.hid (grown_trans HGa.out hg2)
  have HOb := Lib.hid (own_pick HOa.out hg2 HGW.out)
  have HRb := Lib.hid hr2
  clear hg2 hr2
  by_cases hy : y = 0
  · have hb : (y == 0) = true := by simp [hy]
    clear hy
    have hM : M ≤ 200 := by omega
    obtain ⟨N, hN⟩ : ∃ N : Nat, N = 200 := ⟨200, rfl⟩
    have hN2 : N ≤ 200 := by omega
    have HNE := Lib.hid hN
    clear hN
    go_wp2_with fail
    rw [show (200 : Int) = (N : Int) from by rw [HNE.out]; rfl]
    go_loopw [3, 5] (fun o i wr => ∃ (k : Nat) (xs : List Int), k ≤ N ∧ i = .int .i64 k ∧ xs.length = k ∧ wr.ownsRow w.heap.size 3 1 o xs.length (ints xs) ∧ w.grownBy wr (some g) ∧ Reader wr g (q + 2 + k)) (fun _ i _ => N - (intOf i).toNat)
    case atStart => exact ⟨0, [], Nat.zero_le _, rfl, rfl, HOb.out, HGb.out, HRb.out⟩
    case round =>
      obtain ⟨k, xs, hk, rfl, hxl, ho, hg, hr⟩ := hrel
      have HO := Lib.hid ho
      have HG := Lib.hid hg
      have HR := Lib.hid hr
      have HXL := Lib.hid hxl
      have hxl2 : xs.length ≤ 200 := by omega
      clear ho hg hr hxl
      by_cases hlt : k < N
      · have HP := Lib.hid (pick_any g (q + 2 + k) 256 wr HR.out (by omega) (by omega))
        go_wp2_with fail
        with_reducible refine HP.out.mono ?_
        rintro e w1 ⟨y, rfl, hy0, hy1, _, hg1, hr1⟩
        have HG1 := Lib.hid (grown_trans HG.out hg1)
        have HR1 := Lib.hid hr1
        have HO1 := Lib.hid (own_below (own_pick HO.out hg1 HGW.out) (below1 w1 (.cells #[.int .i64 y] 3)))
        have HN := Lib.hid (Rd.new1 w1 [.int .i64 y] 3 0 1 (Nat.zero_le _) rfl)
        clear hg1 hr1 hy1
        go_wp2_with (at_builtin; go_loud (refine wpList_append_rd _ rfl _ _ 32 rfl w.heap.size 3 i0 (.int .i64 0) 1 8 und_ints hi hz0 hz1 hz2 rfl (by decide) u3 _ _ rfl HO1.out 0 _ 1 1 _ rfl HN.out (by simp [Value.oneCell']) ?c1 ?c2 ?c3 ?_); (case c1 => unfold maxLen; omega); (case c2 => omega); (case c3 => have := HG1.out.size; simp; omega); intro v' w2 hown hg2 _)
        have HR2 := Lib.hid ((HR1.out.below (below1 w1 (.cells #[.int .i64 y] 3))).grown hg2 fun i hi' => by have := (World.ownsRow.lt HO1.out i hi').1; have := HGW.out; omega)
        have HG2 := Lib.hid (grown_own (grown_below' HG1.out (below1 w1 (.cells #[.int .i64 y] 3))) hg2 fun i hi' => (World.ownsRow.lt HO1.out i hi').1)
        go_roundw
        case rel => exact ⟨k + 1, xs ++ [y], by omega, by go_num, by simp [HXL.out], by simpa [ints] using hown, HG2.out, HR2.out⟩
        case measure => simp [intOf]; omega
      · have hkN : k = N := by omega
        have HKN := Lib.hid (show xs.length = N by rw [HXL.out]; exact hkN)
        by_cases h0 : N = 0
        · have hb9 : decide (0 < ((N : Nat) : Int)) = false := by simp; omega
          go_wp2_with fail
          go_ret
          exact ⟨_, xs, rfl, hxl2, HO.out, HG.out, HR.out.more (by omega)⟩
        · have hb9 : decide (0 < ((N : Nat) : Int)) = true := by simp; omega
          have HP := Lib.hid (pick_any g (q + 2 + k) 30 wr HR.out (by omega) (by omega))
          go_wp2_with fail
          with_reducible refine HP.out.mono ?_
          rintro e w1 ⟨y, rfl, hy0, _, _, hg1, hr1⟩
          have HG1 := Lib.hid (grown_trans HG.out hg1)
          have HO1 := Lib.hid (own_pick HO.out hg1 HGW.out)
          have HR1 := Lib.hid hr1
          have HPn := Lib.hid (pick_any g (q + 2 + k + 1) ((N : Nat) : Int) w1 hr1 (by omega) (by omega))
          clear hg1 hr1
          by_cases hy : y = 0
          · have hby : (y == 0) = true := by simp [hy]
            clear hy
            go_wp2_with fail
            with_reducible refine HPn.out.mono ?_
            rintro e w2 ⟨z, rfl, hz0', hz1', _, hg2, hr2⟩
            obtain ⟨zn, rfl⟩ := Int.eq_ofNat_of_zero_le hz0'
            have hzlt : zn < N := by have := hz1' (by omega); omega
            have HG2 := Lib.hid (grown_trans HG1.out hg2)
            have HO2 := Lib.hid (own_pick HO1.out hg2 HGW.out)
            have HR2 := Lib.hid (hr2.below (below1 w2 (.cells #[.int .i64 (-1), .int .i64 256] 3)))
            have HPt := Lib.hid (pick_any g (q + 2 + k + 1 + 1) 2 _ HR2.out (by omega) (by omega))
            clear hg2 hr2 hz1' hz0'
            go_wp2_with fail
            with_reducible refine HPt.out.mono ?_
            rintro e w3 ⟨t, rfl, ht0, ht1, _, hg3, hr3⟩
            have ht2 := ht1 (by omega)
            have HG3 := Lib.hid (grown_trans (grown_below' HG2.out (below1 w2 (.cells #[.int .i64 (-1), .int .i64 256] 3))) hg3)
            have HO3 := Lib.hid (own_pick (own_below HO2.out (below1 w2 (.cells #[.int .i64 (-1), .int .i64 256] 3))) hg3 HGW.out)
            have HR3 := Lib.hid hr3
            have hgw := HGW.out
            have hs2 := HG2.out.size
            have hl0 : w3.cell? ⟨w2.heap.size, 0, none⟩ = some (.int .i64 (-1)) := by
              rw [World.cell?_of_block (w := w2.alloc (.cells #[.int .i64 (-1), .int .i64 256] 3)) (hg3.block w2.heap.size (by simp) (by simp; omega))]
              go_simp
            have hl1 : w3.cell? ⟨w2.heap.size, 1, none⟩ = some (.int .i64 256) := by
              rw [World.cell?_of_block (w := w2.alloc (.cells #[.int .i64 (-1), .int .i64 256] 3)) (hg3.block w2.heap.size (by simp) (by simp; omega))]
              go_simp
            have HKN2 := HKN.out
            obtain ⟨go, cap, rfl, hgo1, hgo2⟩ := own_some HO3.out (by omega)
            obtain ⟨x0, hx0⟩ := get_of_lt (show zn < xs.length by omega)
            have hcz := own_cell HO3.out (ints_get hx0)
            have hfz := own_frozen HO3.out zn
            have hzI : (zn : Int) < (xs.length : Int) := by omega
            have HX0 := Lib.hid hx0
            clear hx0 hg3 hr3 ht1 HKN2
            have fin : ∀ u : Int, Bytes2 w g q (.returned (.slice (some ⟨go, 0, none⟩) xs.length cap)) (w3.setCell ⟨go, zn, none⟩ (.int .i64 u)) := fun u => by
              refine ⟨_, xs.set zn u, rfl, by simpa using hxl2, ?_, ?_, ?_⟩
              · have := own_set HO3.out (j := zn) (by omega) (.int .i64 u)
                simpa [ints, List.map_set] using this
              · exact grown_own HG3.out (setCell_grown _ _ _) fun i hi' => by simp at hi'; omega
              · exact (HR3.out.grown (setCell_grown _ _ _) fun i hi' => by simp at hi'; omega).more (by omega)
            have FIN := Lib.hid fin
            clear fin
            by_cases htz : t = 0
            · subst htz
              go_wp2_with fail
              go_ret
              exact FIN.out _
            · have ht3 : t = 1 := by omega
              subst ht3
              go_wp2_with fail
              go_ret
              exact FIN.out _
          · have hby : (y == 0) = false := by simp [hy]
            clear hy
            go_wp2_with fail
            go_ret
            exact ⟨_, xs, rfl, hxl2, HO1.out, HG1.out, HR1.out.more (by omega)⟩
  · have hb : (y == 0) = false := by simp [hy]
    clear hy
    have hN2 : M ≤ 200 := by omega
    go_wp2_with fail
    go_loopw [3, 5] (fun o i wr => ∃ (k : Nat) (xs : List Int), k ≤ M ∧ i = .int .i64 k ∧ xs.length = k ∧ wr.ownsRow w.heap.size 3 1 o xs.length (ints xs) ∧ w.grownBy wr (some g) ∧ Reader wr g (q + 2 + k)) (fun _ i _ => M - (intOf i).toNat)
    case atStart => exact ⟨0, [], Nat.zero_le _, rfl, rfl, HOb.out, HGb.out, HRb.out⟩
    case round =>
      obtain ⟨k, xs, hk, rfl, hxl, ho, hg, hr⟩ := hrel
      have HO := Lib.hid ho
      have HG := Lib.hid hg
      have HR := Lib.hid hr
      have HXL := Lib.hid hxl
      have hxl2 : xs.length ≤ 200 := by omega
      clear ho hg hr hxl
      by_cases hlt : k < M
      · have HP := Lib.hid (pick_any g (q + 2 + k) 256 wr HR.out (by omega) (by omega))
        go_wp2_with fail
        with_reducible refine HP.out.mono ?_
        rintro e w1 ⟨y, rfl, hy0, hy1, _, hg1, hr1⟩
        have HG1 := Lib.hid (grown_trans HG.out hg1)
        have HR1 := Lib.hid hr1
        have HO1 := Lib.hid (own_below (own_pick HO.out hg1 HGW.out) (below1 w1 (.cells #[.int .i64 y] 3)))
        have HN := Lib.hid (Rd.new1 w1 [.int .i64 y] 3 0 1 (Nat.zero_le _) rfl)
        clear hg1 hr1 hy1
        go_wp2_with (at_builtin; go_loud (refine wpList_append_rd _ rfl _ _ 32 rfl w.heap.size 3 i0 (.int .i64 0) 1 8 und_ints hi hz0 hz1 hz2 rfl (by decide) u3 _ _ rfl HO1.out 0 _ 1 1 _ rfl HN.out (by simp [Value.oneCell']) ?c1 ?c2 ?c3 ?_); (case c1 => unfold maxLen; omega); (case c2 => omega); (case c3 => have := HG1.out.size; simp; omega); intro v' w2 hown hg2 _)
        have HR2 := Lib.hid ((HR1.out.below (below1 w1 (.cells #[.int .i64 y] 3))).grown hg2 fun i hi' => by have := (World.ownsRow.lt HO1.out i hi').1; have := HGW.out; omega)
        have HG2 := Lib.hid (grown_own (grown_below' HG1.out (below1 w1 (.cells #[.int .i64 y] 3))) hg2 fun i hi' => (World.ownsRow.lt HO1.out i hi').1)
        go_roundw
        case rel => exact ⟨k + 1, xs ++ [y], by omega, by go_num, by simp [HXL.out], by simpa [ints] using hown, HG2.out, HR2.out⟩
        case measure => simp [intOf]; omega
      · have hkN : k = M := by omega
        have HKN := Lib.hid (show xs.length = M by rw [HXL.out]; exact hkN)
        by_cases h0 : M = 0
        · have hb9 : decide (0 < ((M : Nat) : Int)) = false := by simp; omega
          go_wp2_with fail
          go_ret
          exact ⟨_, xs, rfl, hxl2, HO.out, HG.out, HR.out.more (by omega)⟩
        · have hb9 : decide (0 < ((M : Nat) : Int)) = true := by simp; omega
          have HP := Lib.hid (pick_any g (q + 2 + k) 30 wr HR.out (by omega) (by omega))
          go_wp2_with fail
          with_reducible refine HP.out.mono ?_
          rintro e w1 ⟨y, rfl, hy0, _, _, hg1, hr1⟩
          have HG1 := Lib.hid (grown_trans HG.out hg1)
          have HO1 := Lib.hid (own_pick HO.out hg1 HGW.out)
          have HR1 := Lib.hid hr1
          have HPn := Lib.hid (pick_any g (q + 2 + k + 1) ((M : Nat) : Int) w1 hr1 (by omega) (by omega))
          clear hg1 hr1
          by_cases hy : y = 0
          · have hby : (y == 0) = true := by simp [hy]
            clear hy
            go_wp2_with fail
            with_reducible refine HPn.out.mono ?_
            rintro e w2 ⟨z, rfl, hz0', hz1', _, hg2, hr2⟩
            obtain ⟨zn, rfl⟩ := Int.eq_ofNat_of_zero_le hz0'
            have hzlt : zn < M := by have := hz1' (by omega); omega
            have HG2 := Lib.hid (grown_trans HG1.out hg2)
            have HO2 := Lib.hid (own_pick HO1.out hg2 HGW.out)
            have HR2 := Lib.hid (hr2.below (below1 w2 (.cells #[.int .i64 (-1), .int .i64 256] 3)))
            have HPt := Lib.hid (pick_any g (q + 2 + k + 1 + 1) 2 _ HR2.out (by omega) (by omega))
            clear hg2 hr2 hz1' hz0'
            go_wp2_with fail
            with_reducible refine HPt.out.mono ?_
            rintro e w3 ⟨t, rfl, ht0, ht1, _, hg3, hr3⟩
            have ht2 := ht1 (by omega)
            have HG3 := Lib.hid (grown_trans (grown_below' HG2.out (below1 w2 (.cells #[.int .i64 (-1), .int .i64 256] 3))) hg3)
            have HO3 := Lib.hid (own_pick (own_below HO2.out (below1 w2 (.cells #[.int .i64 (-1), .int .i64 256] 3))) hg3 HGW.out)
            have HR3 := Lib.hid hr3
            have hgw := HGW.out
            have hs2 := HG2.out.size
            have hl0 : w3.cell? ⟨w2.heap.size, 0, none⟩ = some (.int .i64 (-1)) := by
              rw [World.cell?_of_block (w := w2.alloc (.cells #[.int .i64 (-1), .int .i64 256] 3)) (hg3.block w2.heap.size (by simp) (by simp; omega))]
              go_simp
            have hl1 : w3.cell? ⟨w2.heap.size, 1, none⟩ = some (.int .i64 256) := by
              rw [World.cell?_of_block (w := w2.alloc (.cells #[.int .i64 (-1), .int .i64 256] 3)) (hg3.block w2.heap.size (by simp) (by simp; omega))]
              go_simp
            have HKN2 := HKN.out
            obtain ⟨go, cap, rfl, hgo1, hgo2⟩ := own_some HO3.out (by omega)
            obtain ⟨x0, hx0⟩ := get_of_lt (show zn < xs.length by omega)
            have hcz := own_cell HO3.out (ints_get hx0)
            have hfz := own_frozen HO3.out zn
            have hzI : (zn : Int) < (xs.length : Int) := by omega
            have HX0 := Lib.hid hx0
            clear hx0 hg3 hr3 ht1 HKN2
            have fin : ∀ u : Int, Bytes2 w g q (.returned (.slice (some ⟨go, 0, none⟩) xs.length cap)) (w3.setCell ⟨go, zn, none⟩ (.int .i64 u)) := fun u => by
              refine ⟨_, xs.set zn u, rfl, by simpa using hxl2, ?_, ?_, ?_⟩
              · have := own_set HO3.out (j := zn) (by omega) (.int .i64 u)
                simpa [ints, List.map_set] using this
              · exact grown_own HG3.out (setCell_grown _ _ _) fun i hi' => by simp at hi'; omega
              · exact (HR3.out.grown (setCell_grown _ _ _) fun i hi' => by simp at hi'; omega).more (by omega)
            have FIN := Lib.hid fin
            clear fin
            by_cases htz : t = 0
            · subst htz
              go_wp2_with fail
              go_ret
              exact FIN.out _
            · have ht3 : t = 1 := by omega
              subst ht3
              go_wp2_with fail
              go_ret
              exact FIN.out _
          · have hby : (y == 0) = false := by simp [hy]
            clear hy
            go_wp2_with fail
            go_ret
            exact ⟨_, xs, rfl, hxl2, HO1.out, HG1.out, HR1.out.more (by omega)⟩
end Go.Proofs.Ytjhfhlfiagggpaa
