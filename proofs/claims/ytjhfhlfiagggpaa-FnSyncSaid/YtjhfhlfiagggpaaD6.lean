/- cloneDisk. -/
import Derived.Test.YtjhfhlfiagggpaaK8
namespace Go.Proofs.Ytjhfhlfiagggpaa
open Go Go.RowKit

set_option maxHeartbeats 1000000 in
set_option maxRecDepth 100000 in
theorem cloneDisk_any (L : Nat) (v : Value) (bs : List BD) (w : World) (h : Blobs w L v bs) (hsm : smallBs bs) :
    Calls Try.prog 40 #[v] w fun e w' => ∃ v', e = .returned v' ∧ OBlobs w' w.heap.size v' bs ∧ Below w.heap.size w w' := by
  obtain ⟨i0, hi, hz0, hz1, hz2⟩ := info_parts info_Blob
  obtain ⟨A, c, rfl, hc, hcm⟩ := h.form
  have H := Lib.hid h
  have HSM := Lib.hid hsm
  have hn : bs.length ≤ 4194304 := hsm.1
  clear h hsm
  unfold maxLen at hcm
  go_enter Try.func40, Try.ntmps40
  go_wp2_with fail
  go_loopw [3, 8] (fun o i wr => ∃ (k : Nat) (ivs : List (Value × Value)), k ≤ bs.length ∧ i = .int .i64 k ∧ OB wr w.heap.size o (bs.take k) ivs ∧ Below w.heap.size w wr) (fun _ i _ => bs.length - (intOf i).toNat)
  case atStart => exact ⟨0, [], Nat.zero_le _, rfl, by simpa using OB.nil, Below.refl _ _⟩
  case round =>
    obtain ⟨k, ivs, hk, rfl, ho, hb⟩ := hrel
    have HO := Lib.hid ho
    have HB := Lib.hid hb
    clear ho hb
    by_cases hlt : k < bs.length
    · obtain ⟨d, hd⟩ := get_of_lt hlt
      obtain ⟨hsl, hfl⟩ := HSM.out.2 k d hd
      obtain ⟨b, off, u1, u2, rfl, _, hbl, c0, c1, c2, hs, hf⟩ := (H.out.below HB.out).at_ hd
      have HX := Lib.hid (take_succ_get hd)
      clear hd
      have hkl : (bs.take k).length = k := by rw [List.length_take]; omega
      have HKL := Lib.hid hkl
      have hC := Lib.hid (fun (W : World) (hW : Below wr.heap.size wr W) => blobClone_any d.name u1 u2 d.safe d.fresh L W (hs.below hW) (hf.below hW) hsl hfl)
      obtain ⟨A1, n1, rfl, hn1, hm1, hr1⟩ := hs
      obtain ⟨A2, n2, rfl, hn2, hm2, hr2⟩ := hf
      clear hr1 hr2 hn1 hn2 hm1 hm2 hkl hsl hfl
      go_wp2_with fail
      with_reducible refine (hC.out _ (below1 _ _)).mono ?_
      rintro e w1 ⟨z1, z2, rfl, hz1', hz2', hap, hb1⟩
      have hs1 : wr.heap.size < w1.heap.size := by have := hb1.size; simp at this; omega
      have HB1 := Lib.hid ((below1 wr _).trans (hb1.mono (by simp)))
      have HZ1 := Lib.hid (own_less hz1' (base' := wr.heap.size) (by simp))
      have HZ2 := Lib.hid (own_less hz2' (base' := wr.heap.size) (by simp))
      have HAP := Lib.hid hap
      clear hz1' hz2' hap hb1
      obtain ⟨A3, n3, rfl⟩ := own_form HZ1.out
      obtain ⟨A4, n4, rfl⟩ := own_form HZ2.out
      have HN := Lib.hid (Rd.new1 w1 [.int .i64 d.name, .slice A3 d.safe.length n3, .slice A4 d.fresh.length n4] 72 0 3 (Nat.zero_le _) rfl)
      go_wp2_with (at_builtin; go_loud (refine wpList_append_rd _ rfl _ _ 23 rfl w.heap.size 72 i0 _ 3 56 und_Blobs hi hz0 hz1 hz2 rfl (by decide) u3 (bs.take k).length _ rfl (own_below (HO.out.below HB1.out).row (below1 _ _)) 0 _ 1 1 _ rfl HN.out (by simp [Value.oneCell']) ?c1 ?c2 ?c3 ?_); (case c1 => rw [HKL.out]; unfold maxLen; omega); (case c2 => rw [HKL.out]; omega); (case c3 => have := HB.out.size; simp; omega); intro v' w2 hown hg _)
      have HB2 := Lib.hid (HB1.out.trans ((below1 w1 (.cells #[.int .i64 d.name, .slice A3 d.safe.length n3, .slice A4 d.fresh.length n4] 72)).mono HB1.out.size))
      have HOB := Lib.hid (HO.out.snoc (d := d) HB2.out HB.out.size (own_below HZ1.out (below1 w1 _)) (own_below HZ2.out (below1 w1 _)) HAP.out hown hg)
      have HB3 := Lib.hid ((HB.out.trans (HB2.out.mono HB.out.size)).grown hg (Nat.le_trans HB.out.size HB2.out.size) fun g hg' => (World.ownsRow.lt HO.out.row g hg').1)
      go_roundw
      case rel => exact ⟨k + 1, _, by omega, by go_num, by rw [HX.out]; exact HOB.out, HB3.out⟩
      case measure => simp [intOf]; omega
    · have hk' : k = bs.length := by omega
      go_wp2_with fail
      go_ret
      exact ⟨_, rfl, ⟨ivs, by have := HO.out; rw [hk', List.take_length] at this; exact this⟩, HB.out⟩
end Go.Proofs.Ytjhfhlfiagggpaa
