/- l92Disk. -/
import Derived.Test.YtjhfhlfiagggpaaR3
namespace Go.Proofs.Ytjhfhlfiagggpaa
open Go Go.RowKit

theorem SB.pick {w w' : World} {L g : Nat} {v : Value} {bs : List BD} {ivs : List (Value × Value)} (h : SB w L v bs ivs) (hg : w.grownBy w' (some g)) (hb : g < L) : SB w' L v bs ivs :=
  ⟨h.len, own_pick h.row hg hb, fun k d iv h1 h2 => own_pick (h.safe k d iv h1 h2) hg hb, fun k d iv h1 h2 => own_pick (h.fresh k d iv h1 h2) hg hb⟩
def shortBs (bs : List BD) : Prop := ∀ d ∈ bs, d.safe.length ≤ 200 ∧ d.fresh.length ≤ 200
theorem shortBs.small {bs : List BD} (h : shortBs bs) (hl : bs.length ≤ 4) : smallBs bs := by
  refine ⟨by omega, fun k d hd => ?_⟩
  have := h d (List.mem_of_getElem? hd)
  omega
theorem SB.setName {w : World} {L g cap n : Nat} {d : BD} {bs : List BD} {ivs : List (Value × Value)} (h : SB w L (.slice (some ⟨g, 0, none⟩) n cap) (d :: bs) ivs) (hn : n = (d :: bs).length) (nm : Int) :
    SB (w.setCell ⟨g, 0, none⟩ (.int .i64 nm)) L (.slice (some ⟨g, 0, none⟩) n cap) (⟨nm, d.safe, d.fresh⟩ :: bs) ivs := by
  subst hn
  have hrow := h.row
  have keep : ∀ {s n' : Nat} {v' : Value} {xs : List Value}, w.ownsRow L 3 s v' n' xs → (w.setCell ⟨g, 0, none⟩ (.int .i64 nm)).ownsRow L 3 s v' n' xs := by
    intro s n' v' xs hv
    have hne := own_own_ne hv hrow (by decide)
    refine World.ownsRow.kept (row := some g) hv (setCell_grown _ _ _) ?_
    rcases hne with h0 | h0
    · exact .inl h0
    · exact .inr (by simpa [Value.ownBlock] using h0)
  obtain ⟨iv, ivr, rfl⟩ : ∃ iv ivr, ivs = iv :: ivr := by
    cases ivs with
    | nil => have := h.len; simp at this
    | cons a b => exact ⟨a, b, rfl⟩
  refine ⟨h.len, ?_, ?_, ?_⟩
  · have := own_set hrow (j := 0) (by simp) (.int .i64 nm)
    simpa [bcells] using this
  · intro k x jv hx hjv
    cases k with
    | zero =>
      simp at hx hjv
      subst hx
      subst hjv
      exact keep (h.safe 0 d iv rfl rfl)
    | succ k => exact keep (h.safe (k + 1) x jv (by simpa using hx) (by simpa using hjv))
  · intro k x jv hx hjv
    cases k with
    | zero =>
      simp at hx hjv
      subst hx
      subst hjv
      exact keep (h.fresh 0 d iv rfl rfl)
    | succ k => exact keep (h.fresh (k + 1) x jv (by simpa using hx) (by simpa using hjv))

def Disk2 (w : World) (g q : Nat) (e : Ending) (w' : World) : Prop := ∃ (v : Value) (bs : List BD) (ivs : List (Value × Value)), e = .returned v ∧ bs.length ≤ 4 ∧ shortBs bs ∧ SB w' w.heap.size v bs ivs ∧ w.grownBy w' (some g) ∧ Reader w' g (q + 2000)

set_option maxHeartbeats 4000000 in
set_option maxRecDepth 100000 in
theorem l92Disk_any (g q : Nat) (w : World) (h : Reader w g q) (hq : q ≤ 100000000) : Calls Try.prog 66 #[.pointer (some ⟨g, 0, none⟩)] w (Disk2 w g q) := by
  obtain ⟨i0, hi, hz0, hz1, hz2⟩ := info_parts info_Blob
  have HGW := Lib.hid h.lt
  have HB0 := Lib.hid (below1 w (.cells #[] 72))
  have HN0 := Lib.hid (NoRoom.new w 72 w.heap.size (Nat.le_refl _))
  have HR0 := Lib.hid (h.below HB0.out)
  clear h
  go_enter Try.func66, Try.ntmps66
  go_wp2_with fail
  go_loopw [3, 4, 5] (fun o nm _ wr => ∃ (k : Nat) (bs : List BD) (ivs : List (Value × Value)), 1 ≤ k ∧ k ≤ 4 ∧ nm = .int .i64 k ∧ bs.length + 1 ≤ k ∧ shortBs bs ∧ SB wr w.heap.size o bs ivs ∧ w.grownBy wr (some g) ∧ Reader wr g (q + 430 * (k - 1))) (fun _ nm _ _ => 4 - (intOf nm).toNat)
  case atStart => exact ⟨1, [], [], by omega, by omega, rfl, by simp, (show shortBs [] from fun _ hh => nomatch hh), SB.noRoom HN0.out, grown_of_below HB0.out _, HR0.out⟩
  case round =>
    obtain ⟨k, bs, ivs, hk1, hk4, rfl, hbl, hsh, ho, hg, hr⟩ := hrel
    have HO := Lib.hid ho
    have HG := Lib.hid hg
    have HR := Lib.hid hr
    have HSH := Lib.hid hsh
    clear ho hg hr hsh
    by_cases hlt : k ≤ 3
    · have HP := Lib.hid (pick_any g (q + 430 * (k - 1)) 3 wr HR.out (by omega) (by omega))
      go_wp2_with fail
      with_reducible refine HP.out.mono ?_
      rintro e w1 ⟨x, rfl, hx0, _, _, hg1, hr1⟩
      have HG1 := Lib.hid (grown_trans HG.out hg1)
      have HO1 := Lib.hid (HO.out.pick hg1 HGW.out)
      have HR1 := Lib.hid hr1
      clear hg1 hr1
      by_cases hx : x = 0
      · have hxb : decide (0 < x) = false := by simp; omega
        clear hx
        go_wp2_with fail
        go_roundw
        case rel => exact ⟨k + 1, bs, ivs, by omega, by omega, by go_num, by omega, HSH.out, HO1.out, HG1.out, HR1.out.more (by omega)⟩
        case measure => simp [intOf]; omega
      · have hxb : decide (0 < x) = true := by simp; omega
        clear hx
        have HY := Lib.hid (l92Bytes_any g (q + 430 * (k - 1) + 1) w1 HR1.out (by omega))
        go_wp2_with fail
        with_reducible refine HY.out.mono ?_
        rintro e w2 ⟨v1, xs, rfl, hxl, hv1, hg2, hr2⟩
        have HG2 := Lib.hid (grown_trans HG1.out hg2)
        have HO2 := Lib.hid (HO1.out.pick hg2 HGW.out)
        have HV1 := Lib.hid (own_less hv1 HG1.out.size)
        have HY2 := Lib.hid (l92Bytes_any g (q + 430 * (k - 1) + 1 + 210) w2 hr2 (by omega))
        obtain ⟨A1, n1, rfl⟩ := own_form hv1
        clear hv1 hg2 hr2
        go_wp2_with fail
        with_reducible refine HY2.out.mono ?_
        rintro e w3 ⟨v2, ys, rfl, hyl, hv2, hg3, hr3⟩
        have HG3 := Lib.hid (grown_trans HG2.out hg3)
        have HO3 := Lib.hid (HO2.out.pick hg3 HGW.out)
        have HV1b := Lib.hid (own_pick HV1.out hg3 HGW.out)
        have HV2 := Lib.hid (own_less hv2 HG2.out.size)
        have HR3 := Lib.hid hr3
        obtain ⟨A2, n2, rfl⟩ := own_form hv2
        clear hv2 hg3 hr3
        have HAL := Lib.hid (below1 w3 (.cells #[.int .i64 (k : Int), .slice A1 xs.length n1, .slice A2 ys.length n2] 72))
        have HN := Lib.hid (Rd.new1 w3 [.int .i64 (k : Int), .slice A1 xs.length n1, .slice A2 ys.length n2] 72 0 3 (Nat.zero_le _) rfl)
        have HO4 := Lib.hid (HO3.out.below HAL.out)
        go_wp2_with (at_builtin; go_loud (refine wpList_append_rd _ rfl _ _ 23 rfl w.heap.size 72 i0 _ 3 56 und_Blobs hi hz0 hz1 hz2 rfl (by decide) u3 _ _ rfl HO4.out.row 0 _ 1 1 _ rfl HN.out (by simp [Value.oneCell']) ?c1 ?c2 ?c3 ?_); (case c1 => unfold maxLen; omega); (case c2 => omega); (case c3 => have := HG3.out.size; simp; omega); intro v' w4 hown hg4 _)
        have HOB := Lib.hid (HO4.out.snoc (d := ⟨(k : Int), xs, ys⟩) (own_below HV1b.out HAL.out) (own_below HV2.out HAL.out) hown hg4)
        have HR4 := Lib.hid ((HR3.out.below HAL.out).grown hg4 fun i hi' => by have := (World.ownsRow.lt HO4.out.row i hi').1; have := HGW.out; omega)
        have HG4 := Lib.hid (grown_own (grown_below' HG3.out HAL.out) hg4 fun i hi' => (World.ownsRow.lt HO4.out.row i hi').1)
        have HSH2 := Lib.hid (show shortBs (bs ++ [⟨(k : Int), xs, ys⟩]) from fun d hd => by
          rcases List.mem_append.1 hd with h | h
          · exact HSH.out d h
          · simp at h; subst h; exact ⟨hxl, hyl⟩)
        go_roundw
        case rel => exact ⟨k + 1, _, _, by omega, by omega, by go_num, by simp; omega, HSH2.out, HOB.out, HG4.out, HR4.out.more (by omega)⟩
        case measure => simp [intOf]; omega
    · cases bs with
      | nil =>
        obtain ⟨A3, c3, rfl⟩ := own_form HO.out.row
        go_wp2_with fail
        go_ret
        exact ⟨_, [], ivs, rfl, by simp, HSH.out, HO.out, HG.out, HR.out.more (by omega)⟩
      | cons d bs =>
        have HP := Lib.hid (pick_any g (q + 430 * (k - 1)) 24 wr HR.out (by omega) (by omega))
        obtain ⟨A3, c3, rfl⟩ := own_form HO.out.row
        have hl5 : bs.length + 2 ≤ k := by simpa using hbl
        go_wp2_with fail
        with_reducible refine HP.out.mono ?_
        rintro e w1 ⟨x, rfl, hx0, _, _, hg1, hr1⟩
        have HG1 := Lib.hid (grown_trans HG.out hg1)
        have HO1 := Lib.hid (HO.out.pick hg1 HGW.out)
        have HR1 := Lib.hid hr1
        clear hg1 hr1
        by_cases hxz : x = 0
        · have hb1 : (x == 0) = true := by simp [hxz]
          clear hxz
          have HR2 := Lib.hid (HR1.out.below (below1 w1 (.cells #[.int .i64 0, .int .i64 3, .int .i64 4] 3)))
          have HPt := Lib.hid (pick_any g _ 3 _ HR2.out (by omega) (by omega))
          go_wp2_with fail
          with_reducible refine HPt.out.mono ?_
          rintro e w3 ⟨t, rfl, ht0, ht1, _, hg3, hr3⟩
          have ht2 := ht1 (by omega)
          have hgw := HGW.out
          have hs1 := HG1.out.size
          have HG3 := Lib.hid (grown_trans (grown_below' HG1.out (below1 w1 (.cells #[.int .i64 0, .int .i64 3, .int .i64 4] 3))) hg3)
          have HO3 := Lib.hid ((HO1.out.below (below1 w1 (.cells #[.int .i64 0, .int .i64 3, .int .i64 4] 3))).pick hg3 HGW.out)
          have HR3 := Lib.hid hr3
          have hcl : ∀ j : Nat, w3.cell? ⟨w1.heap.size, j, none⟩ = (w1.alloc (.cells #[.int .i64 0, .int .i64 3, .int .i64 4] 3)).cell? ⟨w1.heap.size, j, none⟩ := fun j =>
            World.cell?_of_block (w := w1.alloc (.cells #[.int .i64 0, .int .i64 3, .int .i64 4] 3)) (hg3.block w1.heap.size (by simp) (by simp; omega))
          have hl0 : w3.cell? ⟨w1.heap.size, 0, none⟩ = some (.int .i64 0) := by rw [hcl]; go_simp
          have hl1 : w3.cell? ⟨w1.heap.size, 1, none⟩ = some (.int .i64 3) := by rw [hcl]; go_simp
          have hl2 : w3.cell? ⟨w1.heap.size, 2, none⟩ = some (.int .i64 4) := by rw [hcl]; go_simp
          obtain ⟨go, u1, u2, rfl, hgo1, hgo2, c0, _⟩ := HO3.out.at_ (k := 0) (d := d) rfl
          simp only [Nat.zero_mul] at c0
          have hfz := own_frozen HO3.out.row 0
          clear hg3 hr3 ht1 hcl
          have fin : ∀ u : Int, Disk2 w g q (.returned (.slice (some ⟨go, 0, none⟩) (d :: bs).length c3)) (w3.setCell ⟨go, 0, none⟩ (.int .i64 u)) := fun u => by
            refine ⟨_, ⟨u, d.safe, d.fresh⟩ :: bs, ivs, rfl, by simp; omega, ?_, HO3.out.setName rfl u, ?_, ?_⟩
            · intro y hy
              rcases List.mem_cons.1 hy with rfl | hy
              · exact HSH.out d (List.mem_cons_self ..)
              · exact HSH.out y (List.mem_cons_of_mem _ hy)
            · exact grown_own HG3.out (setCell_grown _ _ _) fun i hi' => by simp at hi'; omega
            · exact (HR3.out.grown (setCell_grown _ _ _) fun i hi' => by simp at hi'; omega).more (by omega)
          have FIN := Lib.hid fin
          clear fin
          have ht4 : t = 0 ∨ t = 1 ∨ t = 2 := by omega
          rcases ht4 with rfl | rfl | rfl
          all_goals go_wp2_with fail
          all_goals go_ret
          all_goals exact FIN.out _
        · have hb1 : (x == 0) = false := by simp [hxz]
          clear hxz
          by_cases hxo : x = 1
          · have hb2 : (x == 1) = true := by simp [hxo]
            clear hxo
            obtain ⟨go, u1, u2, rfl, hgo1, hgo2, c0, c1, c2, hs1, hf1⟩ := HO1.out.at_ (k := 0) (d := d) rfl
            simp only [Nat.zero_mul, Nat.zero_add] at c0 c1 c2
            have HS1 := Lib.hid hs1
            have HF1 := Lib.hid hf1
            obtain ⟨A4, n4, rfl⟩ := own_form hs1
            obtain ⟨A5, n5, rfl⟩ := own_form hf1
            clear hs1 hf1
            have HAL := Lib.hid (below1 w1 (.cells #[.int .i64 d.name, .slice A4 d.safe.length n4, .slice A5 d.fresh.length n5] 72))
            have HN := Lib.hid (Rd.new1 w1 [.int .i64 d.name, .slice A4 d.safe.length n4, .slice A5 d.fresh.length n5] 72 0 3 (Nat.zero_le _) rfl)
            have HO4 := Lib.hid (HO1.out.below HAL.out)
            go_wp2_with (at_builtin; go_loud (refine wpList_append_rd _ rfl _ _ 23 rfl w.heap.size 72 i0 _ 3 56 und_Blobs hi hz0 hz1 hz2 rfl (by decide) (.slice (some ⟨go, 0, none⟩) (d :: bs).length c3) _ _ rfl HO4.out.row 0 _ 1 1 _ rfl HN.out (by simp [Value.oneCell']) ?c1 ?c2 ?c3 ?_); (case c1 => simp only [List.length_cons]; unfold maxLen; omega); (case c2 => simp only [List.length_cons]; omega); (case c3 => have := HG1.out.size; simp; omega); intro v' w4 hown hg4 _)
            have HOB := Lib.hid (HO4.out.snoc (d := d) (own_below HS1.out HAL.out) (own_below HF1.out HAL.out) hown hg4)
            have HR4 := Lib.hid ((HR1.out.below HAL.out).grown hg4 fun i hi' => by have := (World.ownsRow.lt HO4.out.row i hi').1; have := HGW.out; omega)
            have HG4 := Lib.hid (grown_own (grown_below' HG1.out HAL.out) hg4 fun i hi' => (World.ownsRow.lt HO4.out.row i hi').1)
            go_ret
            refine ⟨v', d :: bs ++ [d], _, rfl, by simp; omega, ?_, HOB.out, HG4.out, HR4.out.more (by omega)⟩
            intro y hy
            rcases List.mem_append.1 hy with h | h
            · exact HSH.out y h
            · simp at h; subst h; exact HSH.out y (List.mem_cons_self ..)
          · have hb2 : (x == 1) = false := by simp [hxo]
            clear hxo
            go_wp2_with fail
            go_ret
            exact ⟨_, d :: bs, ivs, rfl, by simp; omega, HSH.out, HO1.out, HG1.out, HR1.out.more (by omega)⟩
end Go.Proofs.Ytjhfhlfiagggpaa
