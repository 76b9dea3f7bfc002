/- The element types' rows; slices.Clone at []int; l31Copy. -/
import Derived.Test.YtjhfhlfiagggpaaProg
import Derived.Test.YtjhfhlfiagggpaaK4
import Derived.BigQuiet
import Derived.Deep.QuietTactic
import Derived.Deep.RegionHeld3
import Derived.Deep.RegionLaw
import Derived.Lib.SliceRun
namespace Go.Proofs.Ytjhfhlfiagggpaa
open Go Go.RowKit

theorem info_int : (Try.prog.info? 3).map (fun i => (i.zero, i.size, i.bytes)) = some (some (.int .i64 0), 1, 8) := by kernel_rfl
theorem und_ints : Try.prog.underlying 32 = some (.slice 3) := by kernel_rfl

set_option maxHeartbeats 400000 in
set_option maxRecDepth 100000 in
theorem cloneInts_any (v : Value) (xs : List Int) (w : World) (hs : Sl w 0 1 v xs.length (ints xs)) (hn : xs.length ≤ 4194304) :
    Calls Try.prog 93 #[v] w fun e w' => ∃ v', e = .returned v' ∧ w'.ownsRow w.heap.size 3 1 v' xs.length (ints xs) ∧ Below w.heap.size w w' := by
  obtain ⟨i0, hi, hz0, hz1, hz2⟩ := info_parts info_int
  obtain ⟨A, c, rfl, hc1, hc2, hr⟩ := hs
  have HR := Lib.hid hr
  clear hr
  unfold maxLen at hc2
  have HN := Lib.hid (show xs.length ≤ maxLen from by unfold maxLen; omega)
  have hq := fun (W : World) (A : Option Addr) (n c : Nat) => Lib.run_eql_slice_nil (P := Try.prog) W 32 3 A n c 0 0 und_ints
  rcases A with _ | ad
  · go_enter Try.func93, Try.ntmps93
    go_wp2
    go_ret
    have h0 : xs.length = 0 := by
      rcases Nat.eq_zero_or_pos xs.length with h | h
      · exact h
      · obtain ⟨_, _, h1, _⟩ := HR.out.2 h; cases h1
    refine ⟨_, rfl, ?_, Below.refl _ _⟩
    rw [List.eq_nil_of_length_eq_zero h0]
    exact World.ownsRow_nil _ _ _ _
  · go_enter Try.func93, Try.ntmps93
    go_wp2_with (at_builtin; go_loud (refine wpList_append_rd _ rfl _ _ 32 rfl w.heap.size 3 i0 (.int .i64 0) 1 8 und_ints hi hz0 hz1 hz2 rfl (by decide) (.slice (some ⟨w.heap.size, 0, none⟩) 0 0) 0 [] rfl (World.ownsRow_made w #[] 0 (Nat.le_refl _) (by decide) rfl) 0 _ _ _ (ints xs) rfl (HR.out.alloc _) (ints_one xs) ?c1 ?c2 ?c3 ?_); (case c1 => rw [Nat.zero_add]; exact HN.out); (case c2 => omega); (case c3 => simp); intro v' w1 hown hg hblk)
    go_ret
    rw [Nat.zero_add, List.nil_append] at hown
    refine ⟨v', rfl, hown, ?_⟩
    refine ((Below.refl _ _).alloc (Nat.le_refl _) (.cells #[] 3)).trans (below_grown hg (by simp) ?_)
    simp [Value.ownBlock]

set_option maxHeartbeats 800000 in
set_option maxRecDepth 100000 in
theorem l31Copy_any (nm : Int) (v1 v2 : Value) (xs ys : List Int) (w : World) (h1 : Sl w 0 1 v1 xs.length (ints xs)) (h2 : Sl w 0 1 v2 ys.length (ints ys)) (hx : xs.length ≤ 4194304) (hy : ys.length ≤ 4194304) :
    Calls Try.prog 71 #[.agg #[.int .i64 nm, v1, v2]] w fun e w' => ∃ u1 u2, e = .returned (.agg #[.int .i64 nm, u1, u2]) ∧
      w'.ownsRow w.heap.size 3 1 u1 xs.length (ints xs) ∧ w'.ownsRow w.heap.size 3 1 u2 ys.length (ints ys) ∧ Below w.heap.size w w' := by
  obtain ⟨A, c, rfl, hc1, hc2, hr⟩ := h1
  obtain ⟨A', c', rfl, hc1', hc2', hr'⟩ := h2
  obtain ⟨i0, hi, hz0, hz1, hz2⟩ := info_parts info_int
  have HR := Lib.hid hr
  have HR' := Lib.hid hr'
  clear hr hr'
  go_enter Try.func71, Try.ntmps71
  go_wp2_with fail
  refine wp_region_tail (by kernel_rfl) 11 (fun i v w' => match i with
    | 0 => v = .pointer (some ⟨w.heap.size, 0, none⟩)
    | 1 => v = .int .i64 nm
    | 2 => NoRoom w' w.heap.size 3 v
    | 3 => v = .pointer (some ⟨w.heap.size, 1, none⟩)
    | 4 => v = .slice A xs.length c
    | 5 => w'.ownsRow w.heap.size 3 1 v xs.length (ints xs)
    | 6 => NoRoom w' w.heap.size 3 v
    | 7 => v = .pointer (some ⟨w.heap.size, 2, none⟩)
    | 8 => v = .slice A' ys.length c'
    | 9 => w'.ownsRow w.heap.size 3 1 v ys.length (ints ys)
    | 10 => ∃ u1 u2, v = .agg #[.int .i64 nm, u1, u2] ∧ w'.ownsRow w.heap.size 3 1 u1 xs.length (ints xs) ∧ w'.ownsRow w.heap.size 3 1 u2 ys.length (ints ys)
    | _ => True) (by kernel_rfl) (by kernel_rfl) ?st ?op ?tl
  case st =>
    intro i v w1 w2 h hb
    iterate 11 (rcases i with _ | i; first | exact h | exact NoRoom.below h hb | exact own_below h hb | (obtain ⟨u1, u2, h0, h1, h2⟩ := h; exact ⟨u1, u2, h0, own_below h1 hb, own_below h2 hb⟩))
    trivial
  case op =>
    refine ⟨?_, ?_, ?_, ?_, ?_, ?_, ?_, ?_, ?_, ?_, ?_, trivial⟩
    all_goals intro a w1 hb1 hag hp
    all_goals simp [predsF, Region.binds] at hp
    all_goals have e1 : a.tmps[1]?.getD undef = .pointer (some ⟨w.heap.size, 0, none⟩) := hag.at_ 1 (by kernel_rfl)
    all_goals have hc0 : w1.cell? ⟨w.heap.size, 0, none⟩ = some (.int .i64 nm) := by rw [hb1.cell (by simp; omega)]; go_simp
    all_goals have hc1 : w1.cell? ⟨w.heap.size, 1, none⟩ = some (.slice A xs.length c) := by rw [hb1.cell (by simp; omega)]; go_simp
    all_goals have hc2 : w1.cell? ⟨w.heap.size, 2, none⟩ = some (.slice A' ys.length c') := by rw [hb1.cell (by simp; omega)]; go_simp
    all_goals have hsz := hb1.size
    all_goals simp at hsz
    · exact op_val _ rfl rfl rfl (by go_simp)
    · exact op_val _ rfl rfl rfl (by go_simp)
    · exact op_grow _ (w1.alloc (.cells #[] 3)) rfl rfl (NoRoom.new w1 _ _ (by omega)) ((Below.refl _ _).alloc (Nat.le_refl _) _) (by go_simp)
    · exact op_val _ rfl rfl rfl (by go_simp)
    · exact op_val _ rfl rfl rfl (by go_simp)
    · refine op_wp rfl rfl (wp_append_fresh w1 _ _ 32 rfl w.heap.size 3 i0 (.int .i64 0) 1 8 und_ints hi hz0 hz1 hz2 rfl (by decide) _ rfl ?_ 0 A xs.length c (ints xs) ?_ ?_ (ints_one xs) (by unfold maxLen; omega) (by omega) (by omega) ?_)
      · simpa [Act.eval] using hp.1
      · simpa [Act.eval] using hp.2
      · exact ((((HR.out.alloc _).alloc _).below (hb1.mono (by simp))))
      · intro v' w2 h1 h2
        exact ⟨v', rfl, h1, h2⟩
    · exact op_grow _ (w1.alloc (.cells #[] 3)) rfl rfl (NoRoom.new w1 _ _ (by omega)) ((Below.refl _ _).alloc (Nat.le_refl _) _) (by go_simp)
    · exact op_val _ rfl rfl rfl (by go_simp)
    · exact op_val _ rfl rfl rfl (by go_simp)
    · refine op_wp rfl rfl (wp_append_fresh w1 _ _ 32 rfl w.heap.size 3 i0 (.int .i64 0) 1 8 und_ints hi hz0 hz1 hz2 rfl (by decide) _ rfl ?_ 0 A' ys.length c' (ints ys) ?_ ?_ (ints_one ys) (by unfold maxLen; omega) (by omega) (by omega) ?_)
      · simpa [Act.eval] using hp.1
      · simpa [Act.eval] using hp.2.1
      · exact ((((HR'.out.alloc _).alloc _).below (hb1.mono (by simp))))
      · intro v' w2 h1 h2
        exact ⟨v', rfl, h1, h2⟩
    · obtain ⟨p1, p2, p3⟩ := hp
      obtain ⟨A1, c1, e8⟩ := own_form p2
      obtain ⟨A2, c2, e12⟩ := own_form p3
      rw [e8] at p2
      rw [e12] at p3
      refine op_val _ rfl rfl ⟨_, _, rfl, p2, p3⟩ ?_
      clear p2 p3
      go_simp
  case tl =>
    intro a w1 hb1 hag hF
    simp [allF] at hF
    obtain ⟨u1, u2, h13, h1, h2⟩ := hF.2.2.2.2.2.2.2.2.2.2
    have e2 : a.tmps[2]?.getD undef = .pointer (some ⟨w.heap.size + 1, 0, none⟩) := hag.at_ 2 (by kernel_rfl)
    obtain ⟨A1, c1, rfl⟩ := own_form h1
    obtain ⟨A2, c2, rfl⟩ := own_form h2
    have hg : w1.heap[w.heap.size + 1]? = some (.cells #[.int .i64 0, .slice none 0 0, .slice none 0 0] 72 (0, 0)) := by
      rw [hb1.block _ (by simp)]
      simpa using heap_alloc_new (w.alloc _) _
    refine op_store_row 72 _ _ rfl rfl rfl rfl (w.heap.size + 1) #[.int .i64 nm, .slice A1 xs.length c1, .slice A2 ys.length c2] (by simpa [Act.eval] using e2) (by simpa [Act.eval] using h13) 72 _ hg (by kernel_rfl) rfl (by simp [Value.oneCell']) ?_
    have ea := hag.lit [3, 4, 5, 6, 7, 8, 9, 10, 11, 12, 13] (by kernel_rfl)
    simp [List.range, List.range.loop] at ea
    rw [ea]
    clear ea hag
    go_wp2
    refine ret_row rfl (w.heap.size + 1) _ _ _ rfl (setRow_get hg) (by kernel_rfl) (by kernel_rfl) rfl ⟨_, _, rfl, ?_, ?_, ?_⟩
    · refine h1.kept (setRow_grown _ _ _) (.inr ?_)
      exact fun h => own_blk_ne h1 hg (by decide) h
    · refine h2.kept (setRow_grown _ _ _) (.inr ?_)
      exact fun h => own_blk_ne h2 hg (by decide) h
    · exact Below.setRow ((((Below.refl _ _).alloc (Nat.le_refl _) _).alloc (by simp) _).trans (hb1.mono (by simp; omega))) (by omega) _
end Go.Proofs.Ytjhfhlfiagggpaa
