/- spec.l31Without. -/
import Derived.Test.YtjhfhlfiagggpaaK10
namespace Go.Proofs.Ytjhfhlfiagggpaa
open Go Go.RowKit

set_option maxHeartbeats 1000000 in
set_option maxRecDepth 100000 in
theorem l31Without_any (L : Nat) (v : Value) (bs : List BD) (nm : Int) (w : World) (h : Blobs w L v bs) (hsm : smallBs bs) :
    Calls Try.prog 76 #[v, .int .i64 nm] w fun e w' => ∃ v', e = .returned v' ∧ SBlobs w' w.heap.size v' (filterD bs nm) ∧ Below w.heap.size w w' := by
  obtain ⟨i0, hi, hz0, hz1, hz2⟩ := info_parts info_Blob
  obtain ⟨A, c, rfl, hc, hcm⟩ := h.form
  have H := Lib.hid h
  have HSM := Lib.hid hsm
  have hn : bs.length ≤ 4194304 := hsm.1
  clear h hsm
  unfold maxLen at hcm
  have HN0 := Lib.hid (NoRoom.new w 72 w.heap.size (Nat.le_refl _))
  go_enter Try.func76, Try.ntmps76
  go_wp2_with fail
  go_loopw [5, 6] (fun o i wr => ∃ (k : Nat) (ivs : List (Value × Value)), k ≤ bs.length ∧ i = .int .i64 k ∧ SB wr w.heap.size o (filterD (bs.take k) nm) ivs ∧ Below w.heap.size w wr) (fun _ i _ => bs.length - (intOf i).toNat)
  case atStart => exact ⟨0, [], Nat.zero_le _, rfl, by simpa [filterD] using SB.noRoom HN0.out, below1 _ _⟩
  case round =>
    obtain ⟨k, ivs, hk, rfl, ho, hb⟩ := hrel
    have HO := Lib.hid ho
    have HB := Lib.hid hb
    clear ho hb
    by_cases hlt : k < bs.length
    · obtain ⟨d, hd⟩ := get_of_lt hlt
      obtain ⟨hsl, hfl⟩ := HSM.out.2 k d hd
      obtain ⟨b, off, u1, u2, rfl, _, hbl, c0, c1, c2, hs, hf⟩ := (H.out.below HB.out).at_ hd
      by_cases hnm : d.name = nm
      · have hb0 : (d.name != nm) = false := by simp [hnm]
        have HX := Lib.hid (filterD_skip hd hnm)
        clear hd hnm hs hf
        go_wp2_with fail
        go_roundw
        case rel => exact ⟨k + 1, ivs, by omega, by go_num, by rw [HX.out]; exact HO.out, HB.out⟩
        case measure => simp [intOf]; omega
      · have hb0 : (d.name != nm) = true := by simp [hnm]
        have HX := Lib.hid (filterD_take hd hnm)
        have hkl := filterD_len bs nm k
        have hC := Lib.hid (fun (W : World) (hW : Below wr.heap.size wr W) => l31Copy_any d.name u1 u2 d.safe d.fresh W ((hs.below hW).less (Nat.zero_le _)) ((hf.below hW).less (Nat.zero_le _)) hsl hfl)
        clear hd hnm
        obtain ⟨A1, n1, rfl, hn1, hm1, hr1⟩ := hs
        obtain ⟨A2, n2, rfl, hn2, hm2, hr2⟩ := hf
        clear hr1 hr2 hn1 hn2 hm1 hm2 hsl hfl
        go_wp2_with fail
        with_reducible refine (hC.out _ (Below.refl _ _)).mono ?_
        rintro e w1 ⟨z1, z2, rfl, hz1', hz2', hb1⟩
        have HB1 := Lib.hid hb1
        have HZ1 := Lib.hid (own_less hz1' HB.out.size)
        have HZ2 := Lib.hid (own_less hz2' HB.out.size)
        clear hz1' hz2' hb1
        obtain ⟨A3, n3, rfl⟩ := own_form HZ1.out
        obtain ⟨A4, n4, rfl⟩ := own_form HZ2.out
        have HN := Lib.hid (Rd.new1 w1 [.int .i64 d.name, .slice A3 d.safe.length n3, .slice A4 d.fresh.length n4] 72 0 3 (Nat.zero_le _) rfl)
        have HO1 := Lib.hid ((HO.out.below HB1.out).below (below1 w1 (.cells #[.int .i64 d.name, .slice A3 d.safe.length n3, .slice A4 d.fresh.length n4] 72)))
        go_wp2_with (at_builtin; go_loud (refine wpList_append_rd _ rfl _ _ 23 rfl w.heap.size 72 i0 _ 3 56 und_Blobs hi hz0 hz1 hz2 rfl (by decide) u5 _ _ rfl HO1.out.row 0 _ 1 1 _ rfl HN.out (by simp [Value.oneCell']) ?c1 ?c2 ?c3 ?_); (case c1 => unfold maxLen; omega); (case c2 => omega); (case c3 => have := HB.out.size; have := HB1.out.size; simp; omega); intro v' w2 hown hg _)
        have HOB := Lib.hid (HO1.out.snoc (d := d) (own_below HZ1.out (below1 w1 _)) (own_below HZ2.out (below1 w1 _)) hown hg)
        have HB3 := Lib.hid ((HB.out.trans (HB1.out.mono HB.out.size)).trans ((below1 w1 (.cells #[.int .i64 d.name, .slice A3 d.safe.length n3, .slice A4 d.fresh.length n4] 72)).mono (Nat.le_trans HB.out.size HB1.out.size)))
        have HB4 := Lib.hid (HB3.out.grown hg HB3.out.size fun g hg' => (World.ownsRow.lt HO1.out.row g hg').1)
        go_roundw
        case rel => exact ⟨k + 1, _, by omega, by go_num, by rw [HX.out]; exact HOB.out, HB4.out⟩
        case measure => simp [intOf]; omega
    · have hk' : k = bs.length := by omega
      go_wp2_with fail
      go_ret
      exact ⟨_, rfl, ⟨ivs, by have := HO.out; rw [hk', List.take_length] at this; exact this⟩, HB.out⟩
end Go.Proofs.Ytjhfhlfiagggpaa
