/- spec.l31All. -/
import Derived.Test.YtjhfhlfiagggpaaD8
import Derived.Test.YtjhfhlfiagggpaaK7b
namespace Go.Proofs.Ytjhfhlfiagggpaa
open Go Go.RowKit

set_option maxHeartbeats 1000000 in
set_option maxRecDepth 100000 in
theorem l31All_any (nm : Int) (v1 v2 : Value) (xs ys : List Int) (L : Nat) (w : World) (h1 : Ints w L v1 xs) (h2 : Ints w L v2 ys) (hx : xs.length ≤ 4194304) (hy : ys.length ≤ 4194304) :
    Calls Try.prog 45 #[.agg #[.int .i64 nm, v1, v2]] w fun e w' => ∃ v, e = .returned v ∧ w'.ownsRow w.heap.size 3 1 v (xs ++ ys).length (ints (xs ++ ys)) ∧ Below w.heap.size w w' := by
  obtain ⟨i0, hi, hz0, hz1, hz2⟩ := info_parts info_int
  obtain ⟨A, c, rfl, hc1, hc2, hr⟩ := h1
  obtain ⟨A', c', rfl, hc1', hc2', hr'⟩ := h2
  have HR := Lib.hid (hr.less (Nat.zero_le _))
  have HR' := Lib.hid (hr'.less (Nat.zero_le _))
  clear hr hr'
  go_enter Try.func45, Try.ntmps45
  go_wp2_with fail
  have HST : ∀ (i : Nat) (a : Act) (w1 w2 : World), (fun (i : Nat) (a : Act) (w' : World) => match i with
      | 0 => NoRoom w' (w.heap.size + 1) 3 (a.tmps.getD 3 undef)
      | 1 => (a.tmps.getD 4 undef) = .pointer (some ⟨w.heap.size, 1, none⟩)
      | 2 => (a.tmps.getD 5 undef) = .slice A xs.length c
      | 3 => w'.ownsRow (w.heap.size + 1) 3 1 (a.tmps.getD 6 undef) (xs).length (ints (xs))
      | 4 => (a.tmps.getD 7 undef) = .pointer (some ⟨w.heap.size, 2, none⟩)
      | 5 => (a.tmps.getD 8 undef) = .slice A' ys.length c'
      | 6 => w'.ownsRow (w.heap.size + 1) 3 1 (a.tmps.getD 9 undef) (xs ++ ys).length (ints (xs ++ ys))
      | _ => True) i a w1 → Below w1.heap.size w1 w2 → (fun (i : Nat) (a : Act) (w' : World) => match i with
      | 0 => NoRoom w' (w.heap.size + 1) 3 (a.tmps.getD 3 undef)
      | 1 => (a.tmps.getD 4 undef) = .pointer (some ⟨w.heap.size, 1, none⟩)
      | 2 => (a.tmps.getD 5 undef) = .slice A xs.length c
      | 3 => w'.ownsRow (w.heap.size + 1) 3 1 (a.tmps.getD 6 undef) (xs).length (ints (xs))
      | 4 => (a.tmps.getD 7 undef) = .pointer (some ⟨w.heap.size, 2, none⟩)
      | 5 => (a.tmps.getD 8 undef) = .slice A' ys.length c'
      | 6 => w'.ownsRow (w.heap.size + 1) 3 1 (a.tmps.getD 9 undef) (xs ++ ys).length (ints (xs ++ ys))
      | _ => True) i a w2 := by
    intro i a w1 w2 h hb
    rcases i with _ | i
    · exact NoRoom.below h hb
    rcases i with _ | i
    · exact h
    rcases i with _ | i
    · exact h
    rcases i with _ | i
    · exact own_below h hb
    rcases i with _ | i
    · exact h
    rcases i with _ | i
    · exact h
    rcases i with _ | i
    · exact own_below h hb
    trivial
  have HST' := Lib.hid HST
  clear HST
  have HIS : ∀ (w1 w2 : World), Below (w.alloc (.cells #[.int .i64 nm, .slice A xs.length c, .slice A' ys.length c'] 72)).heap.size (w.alloc (.cells #[.int .i64 nm, .slice A xs.length c, .slice A' ys.length c'] 72)) w1 → Below w1.heap.size w1 w2 → Below (w.alloc (.cells #[.int .i64 nm, .slice A xs.length c, .slice A' ys.length c'] 72)).heap.size (w.alloc (.cells #[.int .i64 nm, .slice A xs.length c, .slice A' ys.length c'] 72)) w2 := fun w1 w2 h1 h2 => h1.trans (h2.mono h1.size)
  have HIS' := Lib.hid HIS
  clear HIS
  refine wp_region_tailK (by kernel_rfl) 7 (fun w' => Below (w.alloc (.cells #[.int .i64 nm, .slice A xs.length c, .slice A' ys.length c'] 72)).heap.size (w.alloc (.cells #[.int .i64 nm, .slice A xs.length c, .slice A' ys.length c'] 72)) w') (fun i a w' => match i with
      | 0 => NoRoom w' (w.heap.size + 1) 3 (a.tmps.getD 3 undef)
      | 1 => (a.tmps.getD 4 undef) = .pointer (some ⟨w.heap.size, 1, none⟩)
      | 2 => (a.tmps.getD 5 undef) = .slice A xs.length c
      | 3 => w'.ownsRow (w.heap.size + 1) 3 1 (a.tmps.getD 6 undef) (xs).length (ints (xs))
      | 4 => (a.tmps.getD 7 undef) = .pointer (some ⟨w.heap.size, 2, none⟩)
      | 5 => (a.tmps.getD 8 undef) = .slice A' ys.length c'
      | 6 => w'.ownsRow (w.heap.size + 1) 3 1 (a.tmps.getD 9 undef) (xs ++ ys).length (ints (xs ++ ys))
      | _ => True) (fun i => match i with
      | 0 => [3]
      | 1 => [4]
      | 2 => [5]
      | 3 => [6]
      | 4 => [7]
      | 5 => [8]
      | 6 => [9]
      | _ => []) (Below.refl _ _).drew (by kernel_rfl) (by kernel_rfl) (by kernel_rfl) ?loc ?op ?tl
  case loc =>
    intro i a a' w' hl h
    rcases i with _ | i
    · simp only [hl 3 (by simp)]; exact h
    rcases i with _ | i
    · simp only [hl 4 (by simp)]; exact h
    rcases i with _ | i
    · simp only [hl 5 (by simp)]; exact h
    rcases i with _ | i
    · simp only [hl 6 (by simp)]; exact h
    rcases i with _ | i
    · simp only [hl 7 (by simp)]; exact h
    rcases i with _ | i
    · simp only [hl 8 (by simp)]; exact h
    rcases i with _ | i
    · simp only [hl 9 (by simp)]; exact h
    trivial
  case op =>
    refine ⟨?_, ?_, ?_, ?_, ?_, ?_, ?_, trivial⟩
    all_goals intro a w1 hb1 hag hp
    all_goals simp [predsG, Region.binds] at hp
    all_goals have e1 : a.tmps[1]?.getD undef = .pointer (some ⟨w.heap.size, 0, none⟩) := hag.at_ 1 (by kernel_rfl)
    all_goals have hc1 : w1.cell? ⟨w.heap.size, 1, none⟩ = some (.slice A xs.length c) := by rw [hb1.cell (by simp)]; go_simp
    all_goals have hc2 : w1.cell? ⟨w.heap.size, 2, none⟩ = some (.slice A' ys.length c') := by rw [hb1.cell (by simp)]; go_simp
    · exact opR_val (.slice (some ⟨w1.heap.size, 0, none⟩) 0 0) (w1.alloc (.cells #[] 3)) rfl rfl (by go_simp) ⟨_, rfl, by show NoRoom _ _ _ ((a.put (some 3) _).tmps.getD 3 undef); rw [put_getD_same _ _ _ (by rw [hag.size]; simp)]; exact NoRoom.new w1 _ _ (by have := hb1.size; simp at this; omega), HIS'.out _ _ hb1 (below1 _ _), fun j _ _ h => HST'.out j a _ _ h (below1 _ _)⟩
    · exact opR_val (.pointer (some ⟨w.heap.size, 1, none⟩)) w1 rfl rfl (by go_simp) ⟨_, rfl, put_getD_same _ _ _ (by rw [hag.size]; simp), hb1, fun _ _ _ h => h⟩
    · exact opR_val (.slice A xs.length c) w1 rfl rfl (by go_simp) ⟨_, rfl, put_getD_same _ _ _ (by rw [hag.size]; simp), hb1, fun _ _ _ h => h⟩
    · refine op_wp rfl rfl (wp_append_fresh w1 _ _ 32 rfl (w.heap.size + 1) 3 i0 (.int .i64 0) 1 8 und_ints hi hz0 hz1 hz2 rfl (by decide) _ rfl ?_ 0 A xs.length c (ints xs) ?_ ?_ (ints_one xs) (by unfold maxLen; omega) (by omega) (by have := hb1.size; simp at this; omega) ?_)
      · simpa [Act.eval] using hp.1
      · simpa [Act.eval] using hp.2
      · exact (HR.out.alloc _).below (hb1.mono (by simp))
      · intro v' w2 h1 h2
        exact ⟨v', rfl, by show w2.ownsRow _ _ _ ((a.put (some 6) v').tmps.getD 6 undef) _ _; rw [put_getD_same _ _ _ (by rw [hag.size]; simp)]; exact h1, HIS'.out _ _ hb1 h2, fun j _ _ h => HST'.out j a w1 w2 h h2⟩
    · exact opR_val (.pointer (some ⟨w.heap.size, 2, none⟩)) w1 rfl rfl (by go_simp) ⟨_, rfl, put_getD_same _ _ _ (by rw [hag.size]; simp), hb1, fun _ _ _ h => h⟩
    · exact opR_val (.slice A' ys.length c') w1 rfl rfl (by go_simp) ⟨_, rfl, put_getD_same _ _ _ (by rw [hag.size]; simp), hb1, fun _ _ _ h => h⟩
    · have hown6 := hp.1
      obtain ⟨A6, c6, e6⟩ := own_form hown6
      rw [e6] at hown6
      refine op_wp rfl rfl (wp_append_keep w1 _ _ 32 rfl (w.heap.size + 1) 3 i0 (.int .i64 0) 1 8 und_ints hi hz0 hz1 hz2 rfl (by decide) (.slice A6 xs.length c6) xs.length (ints xs) (by simpa [Act.eval] using e6) hown6 0 A' ys.length c' (ints ys) ?_ ?_ (ints_one ys) (by unfold maxLen; omega) (by omega) (by have := hb1.size; simp at this; omega) ?_)
      · simpa [Act.eval] using hp.2.1
      · exact (HR'.out.alloc _).below (hb1.mono (by simp))
      · intro v' w2 h1 hk hg _
        refine ⟨v', rfl, ?_, hb1.grown hg hb1.size (fun k hk' => ?_), fun j hji hjw h => ?_⟩
        · show w2.ownsRow _ _ _ ((a.put (some 9) v').tmps.getD 9 undef) _ _; rw [put_getD_same _ _ _ (by rw [hag.size]; simp)]; simpa [ints] using h1
        · have := (World.ownsRow.lt hown6 k hk').1; simpa using this
        · rcases j with _ | j
          · exact NoRoom.keep (by decide) h hown6 hk hg
          rcases j with _ | j
          · exact h
          rcases j with _ | j
          · exact h
          rcases j with _ | j
          · show w2.ownsRow _ _ _ (a.tmps.getD 6 undef) _ _; rw [Array.getD_eq_getD_getElem?, e6]; exact hk
          rcases j with _ | j
          · exact h
          rcases j with _ | j
          · exact h
          rcases j with _ | j
          · exact absurd rfl hji
          trivial
  case tl =>
    intro a w1 hb1 hag hF
    clear HST' HIS'
    have e1 : a.tmps[1]?.getD undef = .pointer (some ⟨w.heap.size, 0, none⟩) := hag.at_ 1 (by kernel_rfl)
    have h9 := hF 6 (by omega)
    simp only [Array.getD_eq_getD_getElem?] at h9
    obtain ⟨A9, c9, e9⟩ := own_form h9
    rw [e9] at h9
    refine op_last (.slice A9 (xs ++ ys).length c9) 2 rfl rfl rfl (by go_simp) ?_
    have H9 := Lib.hid h9
    have HB := Lib.hid hb1
    have ea := hag.lit [3, 4, 5, 6, 7, 8, 9, 2] (by kernel_rfl)
    simp [List.range, List.range.loop] at ea
    rw [ea]
    clear ea hag hF h9 hb1 e9
    go_wp2
    go_ret
    exact ⟨.slice A9 (xs ++ ys).length c9, by simp [Act.put], own_less H9.out (Nat.le_succ _), (below1 w _).trans (HB.out.mono (by simp))⟩
end Go.Proofs.Ytjhfhlfiagggpaa
