/- (Blob).clone. -/
import Derived.Test.YtjhfhlfiagggpaaD4
import Derived.Test.YtjhfhlfiagggpaaA3
import Derived.Test.YtjhfhlfiagggpaaK7
namespace Go.Proofs.Ytjhfhlfiagggpaa
open Go Go.RowKit

theorem own_less {w : World} {base base' : Nat} {e : TypeId} {size n : Nat} {v : Value} {xs : List Value} (h : w.ownsRow base e size v n xs) (hb : base' ≤ base) : w.ownsRow base' e size v n xs := by
  refine ⟨h.1, ?_⟩
  rcases h.2 with h2 | ⟨g, cap, cur, e1, e2, e3⟩
  · exact .inl h2
  · exact .inr ⟨g, cap, cur, e1, by omega, e3⟩
/-- What was made before W and what was made behind it lie apart. -/
theorem own_sep {w w' : World} {b1 : Nat} {e1 e2 : TypeId} {s1 s2 n1 n2 : Nat} {v1 v2 : Value} {x1 x2 : List Value} (h1 : w.ownsRow b1 e1 s1 v1 n1 x1) (h2 : w'.ownsRow w.heap.size e2 s2 v2 n2 x2) :
    ∀ g, v1.ownBlock = some g → v2.ownBlock ≠ some g := fun g hg hg' => by
  have := (World.ownsRow.lt h1 g hg).2
  have := (World.ownsRow.lt h2 g hg').1
  omega

set_option maxHeartbeats 2000000 in
set_option maxRecDepth 100000 in
theorem blobClone_any (nm : Int) (v1 v2 : Value) (xs ys : List Int) (L : Nat) (w : World) (h1 : Ints w L v1 xs) (h2 : Ints w L v2 ys) (hx : xs.length ≤ 4194304) (hy : ys.length ≤ 4194304) :
    Calls Try.prog 74 #[.agg #[.int .i64 nm, v1, v2]] w fun e w' => ∃ u1 u2, e = .returned (.agg #[.int .i64 nm, u1, u2]) ∧
      w'.ownsRow w.heap.size 3 1 u1 xs.length (ints xs) ∧ w'.ownsRow w.heap.size 3 1 u2 ys.length (ints ys) ∧ (∀ g, u1.ownBlock = some g → u2.ownBlock ≠ some g) ∧ Below w.heap.size w w' := by
  have H1 := Lib.hid (fun (W : World) (hW : Below w.heap.size w W) => cloneInts_any v1 xs W ((h1.below hW).less (Nat.zero_le _)) hx)
  have H2 := Lib.hid (fun (W : World) (hW : Below w.heap.size w W) => cloneInts_any v2 ys W ((h2.below hW).less (Nat.zero_le _)) hy)
  obtain ⟨A, c, rfl, hc1, hc2, hr⟩ := h1
  obtain ⟨A', c', rfl, hc1', hc2', hr'⟩ := h2
  clear hr hr'
  go_enter Try.func74, Try.ntmps74
  go_wp2_with fail
  refine wp_region_tailG (by kernel_rfl) 9 (fun i a w' => match i with
      | 0 => (a.tmps.getD 3 undef) = .pointer (some ⟨w.heap.size, 0, none⟩)
      | 1 => (a.tmps.getD 4 undef) = .int .i64 nm
      | 2 => (a.tmps.getD 5 undef) = .pointer (some ⟨w.heap.size, 1, none⟩)
      | 3 => (a.tmps.getD 6 undef) = .slice A xs.length c
      | 4 => w'.ownsRow w.heap.size 3 1 (a.tmps.getD 7 undef) xs.length (ints xs)
      | 5 => (a.tmps.getD 8 undef) = .pointer (some ⟨w.heap.size, 2, none⟩)
      | 6 => (a.tmps.getD 9 undef) = .slice A' ys.length c'
      | 7 => w'.ownsRow w.heap.size 3 1 (a.tmps.getD 10 undef) ys.length (ints ys) ∧ (∀ g, (a.tmps.getD 7 undef).ownBlock = some g → (a.tmps.getD 10 undef).ownBlock ≠ some g)
      | 8 => ∃ u1 u2, (a.tmps.getD 11 undef) = .agg #[.int .i64 nm, u1, u2] ∧ w'.ownsRow w.heap.size 3 1 u1 xs.length (ints xs) ∧ w'.ownsRow w.heap.size 3 1 u2 ys.length (ints ys) ∧ (∀ g, u1.ownBlock = some g → u2.ownBlock ≠ some g)
      | _ => True) (fun i => match i with
      | 0 => [3]
      | 1 => [4]
      | 2 => [5]
      | 3 => [6]
      | 4 => [7]
      | 5 => [8]
      | 6 => [9]
      | 7 => [10, 7]
      | 8 => [11]
      | _ => []) (by kernel_rfl) (by kernel_rfl) (by kernel_rfl) ?loc ?st ?op ?tl
  case loc =>
    intro i a a' w' hl h
    rcases i with _ | i
    · simp only [hl 3 (by simp)]; exact h
    rcases i with _ | i
    · simp only [hl 4 (by simp)]; exact h
    rcases i with _ | i
    · simp only [hl 5 (by simp)]; exact h
    rcases i with _ | i
    · simp only [hl 6 (by simp)]; exact h
    rcases i with _ | i
    · simp only [hl 7 (by simp)]; exact h
    rcases i with _ | i
    · simp only [hl 8 (by simp)]; exact h
    rcases i with _ | i
    · simp only [hl 9 (by simp)]; exact h
    rcases i with _ | i
    · simp only [hl 10 (by simp), hl 7 (by simp)]; exact h
    rcases i with _ | i
    · simp only [hl 11 (by simp)]; exact h
    trivial
  case st =>
    intro i a w1 w2 h hb
    rcases i with _ | i
    · exact h
    rcases i with _ | i
    · exact h
    rcases i with _ | i
    · exact h
    rcases i with _ | i
    · exact h
    rcases i with _ | i
    · exact own_below h hb
    rcases i with _ | i
    · exact h
    rcases i with _ | i
    · exact h
    rcases i with _ | i
    · exact ⟨own_below h.1 hb, h.2⟩
    rcases i with _ | i
    · obtain ⟨u1, u2, h0, h1, h2, h3⟩ := h; exact ⟨u1, u2, h0, own_below h1 hb, own_below h2 hb, h3⟩
    trivial
  case op =>
    refine ⟨?_, ?_, ?_, ?_, ?_, ?_, ?_, ?_, ?_, trivial⟩
    all_goals intro a w1 hb1 hag hp
    all_goals simp [predsG, Region.binds] at hp
    all_goals have e1 : a.tmps[1]?.getD undef = .pointer (some ⟨w.heap.size, 0, none⟩) := hag.at_ 1 (by kernel_rfl)
    all_goals have e2 : a.tmps[2]?.getD undef = .pointer (some ⟨w.heap.size + 1, 0, none⟩) := hag.at_ 2 (by kernel_rfl)
    all_goals have hc0 : w1.cell? ⟨w.heap.size, 0, none⟩ = some (.int .i64 nm) := by rw [hb1.cell (by simp; omega)]; go_simp
    all_goals have hc1 : w1.cell? ⟨w.heap.size, 1, none⟩ = some (.slice A xs.length c) := by rw [hb1.cell (by simp; omega)]; go_simp
    all_goals have hc2 : w1.cell? ⟨w.heap.size, 2, none⟩ = some (.slice A' ys.length c') := by rw [hb1.cell (by simp; omega)]; go_simp
    · exact opG_val (.pointer (some ⟨w.heap.size, 0, none⟩)) rfl rfl (by go_simp) (put_getD_same _ _ _ (by rw [hag.size]; simp))
    · exact opG_val (.int .i64 nm) rfl rfl (by go_simp) (put_getD_same _ _ _ (by rw [hag.size]; simp))
    · exact opG_val (.pointer (some ⟨w.heap.size, 1, none⟩)) rfl rfl (by go_simp) (put_getD_same _ _ _ (by rw [hag.size]; simp))
    · exact opG_val (.slice A xs.length c) rfl rfl (by go_simp) (put_getD_same _ _ _ (by rw [hag.size]; simp))
    · refine opG_call 93 _ _ #[.slice A xs.length c] rfl rfl rfl (by simp [Act.eval, hp]) (fun _ _ => by go_simp) ?_
      with_reducible refine (H1.out w1 ((below2 w _ _).trans (hb1.mono (by simp; omega)))).mono ?_
      rintro e w2 ⟨u, rfl, hown, hb2⟩
      have eu := put_getD_same a 7 u (by rw [hag.size]; simp)
      exact ⟨u, rfl, by rw [eu]; exact own_less hown (by have := hb1.size; simp at this; omega), hb2⟩
    · exact opG_val (.pointer (some ⟨w.heap.size, 2, none⟩)) rfl rfl (by go_simp) (put_getD_same _ _ _ (by rw [hag.size]; simp))
    · exact opG_val (.slice A' ys.length c') rfl rfl (by go_simp) (put_getD_same _ _ _ (by rw [hag.size]; simp))
    · refine opG_call 93 _ _ #[.slice A' ys.length c'] rfl rfl rfl (by simp [Act.eval, hp]) (fun _ _ => by go_simp) ?_
      with_reducible refine (H2.out w1 ((below2 w _ _).trans (hb1.mono (by simp; omega)))).mono ?_
      rintro e w2 ⟨u, rfl, hown, hb2⟩
      have eu := put_getD_same a 10 u (by rw [hag.size]; simp)
      have e7 : (a.put (some 10) u).tmps.getD 7 undef = a.tmps.getD 7 undef := put_getD_other _ _ _ _ (by simp)
      refine ⟨u, rfl, ⟨by rw [eu]; exact own_less hown (by have := hb1.size; simp at this; omega), ?_⟩, hb2⟩
      rw [eu, e7]
      exact own_sep (by simpa using hp.2) hown
    · obtain ⟨p1, p2, p3, p4⟩ := hp
      obtain ⟨A1, c1, e8⟩ := own_form p2
      obtain ⟨A2, c2, e12⟩ := own_form p3
      rw [e8] at p2 p4
      rw [e12] at p3 p4
      refine opG_val (.agg #[.int .i64 nm, .slice A1 xs.length c1, .slice A2 ys.length c2]) rfl rfl ?_ ?_
      · clear p2 p3 p4; go_simp
      · exact ⟨_, _, put_getD_same _ _ _ (by rw [hag.size]; simp), p2, p3, p4⟩
  case tl =>
    intro a w1 hb1 hag hF
    have e1 : a.tmps[1]?.getD undef = .pointer (some ⟨w.heap.size, 0, none⟩) := hag.at_ 1 (by kernel_rfl)
    have e2 : a.tmps[2]?.getD undef = .pointer (some ⟨w.heap.size + 1, 0, none⟩) := hag.at_ 2 (by kernel_rfl)
    obtain ⟨u1, u2, h13, h1, h2, h3⟩ := hF 8 (by omega)
    obtain ⟨A1, c1, rfl⟩ := own_form h1
    obtain ⟨A2, c2, rfl⟩ := own_form h2
    have hg : w1.heap[w.heap.size + 1]? = some (.cells #[.int .i64 0, .slice none 0 0, .slice none 0 0] 72 (0, 0)) := by
      rw [hb1.block _ (by simp)]
      simpa using heap_alloc_new (w.alloc _) _
    refine op_store_row 72 _ _ rfl rfl rfl rfl (w.heap.size + 1) #[.int .i64 nm, .slice A1 xs.length c1, .slice A2 ys.length c2] (by simpa [Act.eval] using e2) (by simpa [Act.eval] using h13) 72 _ hg (by kernel_rfl) rfl (by simp [Value.oneCell']) ?_
    have ea := hag.lit [3, 4, 5, 6, 7, 8, 9, 10, 11] (by kernel_rfl)
    simp [List.range, List.range.loop] at ea
    rw [ea]
    clear ea hag hF
    go_wp2
    refine ret_row rfl (w.heap.size + 1) _ _ _ rfl (setRow_get hg) (by kernel_rfl) (by kernel_rfl) rfl ⟨_, _, rfl, ?_, ?_, h3, ?_⟩
    · exact h1.kept (setRow_grown _ _ _) (.inr fun h => own_blk_ne h1 hg (by decide) h)
    · exact h2.kept (setRow_grown _ _ _) (.inr fun h => own_blk_ne h2 hg (by decide) h)
    · exact Below.setRow ((below2 w _ _).trans (hb1.mono (by simp; omega))) (by omega) _
end Go.Proofs.Ytjhfhlfiagggpaa
