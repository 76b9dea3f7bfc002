/- DiskValid, impl and spec; l4Bytes; the place of a file. -/
import Derived.Test.YtjhfhlfiagggpaaA2
namespace Go.Proofs.Ytjhfhlfiagggpaa
open Go Go.RowKit

theorem cells_Blob : Try.prog.cellsOf 72 = 3 := by kernel_rfl

set_option maxHeartbeats 1000000 in
set_option maxRecDepth 100000 in
theorem diskValid_any (L : Nat) (v : Value) (bs : List BD) (w : World) (h : Blobs w L v bs) (hsm : smallBs bs) :
    Calls Try.prog 13 #[v] w fun e w' => e = .returned (.bool (diskB bs)) ∧ Below w.heap.size w w' := by
  obtain ⟨A, c, rfl, hc, hcm⟩ := h.form
  have H := Lib.hid h
  have HSM := Lib.hid hsm
  clear h hsm
  unfold maxLen at hcm
  go_enter Try.func13, Try.ntmps13
  go_wp2_with fail
  go_loopw [2, 3, 8] (fun _ l i wr => ∃ (k : Nat) (last : Int), k ≤ bs.length ∧ i = .int .i64 k ∧ l = .int .i64 last ∧ 0 ≤ last ∧ last ≤ 3 ∧ diskB bs = diskFrom last (bs.drop k) ∧ Below w.heap.size w wr) (fun _ _ i _ => bs.length - (intOf i).toNat)
  case atStart => exact ⟨0, 0, Nat.zero_le _, rfl, rfl, by omega, by omega, rfl, Below.refl _ _⟩
  case round =>
    obtain ⟨k, last, hk, rfl, rfl, hl0, hl3, hd0, hb⟩ := hrel
    have HD := Lib.hid hd0
    have HB := Lib.hid hb
    clear hd0 hb
    by_cases hlt : k < bs.length
    · obtain ⟨d, hd⟩ := get_of_lt hlt
      obtain ⟨b, off, u1, u2, rfl, _, hbl, c0, c1, c2, hs, hf⟩ := (H.out.below HB.out).at_ hd
      have HX := Lib.hid (show diskB bs = (blobB last d && diskFrom d.name (bs.drop (k + 1))) by rw [HD.out, drop_of_get hd]; rfl)
      obtain ⟨hsl, hfl⟩ := HSM.out.2 k d hd
      clear hd HD
      obtain ⟨A1, n1, rfl, hn1, hm1, hr1⟩ := hs
      obtain ⟨A2, n2, rfl, hn2, hm2, hr2⟩ := hf
      have HS := Lib.hid hr1
      have HF := Lib.hid hr2
      clear hr1 hr2
      have hB2 := Lib.hid (fun (W : World) (hW : Below wr.heap.size wr W) => (bytesValid_any L (.slice A1 d.safe.length n1) d.safe W ⟨A1, n1, rfl, hn1, hm1, HS.out.below hW⟩))
      have hB3 := Lib.hid (fun (W : World) (hW : Below wr.heap.size wr W) => (bytesValid_any L (.slice A2 d.fresh.length n2) d.fresh W ⟨A2, n2, rfl, hn2, hm2, HF.out.below hW⟩))
      unfold maxLen at hm1 hm2
      cases e1 : inB d.name (last + 1) 3
      · go_wp2_with (first | (go_at_call 46; refine (in_any _ _ _ _).mono ?_; rintro e w1 ⟨rfl, rfl⟩))
        go_ret
        exact ⟨ret_bool (by rw [HX.out]; simp [blobB, e1]), HB.out.trans ((below1 _ _).mono HB.out.size)⟩
      · cases e2 : bytesB d.safe
        · go_wp2_with fail
          refine (in_any _ _ _ _).mono ?_
          rintro e w1 ⟨rfl, rfl⟩
          go_wp2_with fail
          refine (hB2.out _ (below1 _ _)).mono ?_
          rintro e w1 ⟨rfl, hb1⟩
          have HB1 := Lib.hid hb1
          clear hb1
          go_wp2_with fail
          go_ret
          exact ⟨ret_bool (by rw [HX.out]; simp [blobB, e2]), HB.out.trans (((below1 _ _).trans (HB1.out.mono (by simp))).mono HB.out.size)⟩
        · go_wp2_with fail
          refine (in_any _ _ _ _).mono ?_
          rintro e w1 ⟨rfl, rfl⟩
          go_wp2_with fail
          refine (hB2.out _ (below1 _ _)).mono ?_
          rintro e w1 ⟨rfl, hb1⟩
          obtain ⟨hcc, hff⟩ := bcell hb1
          have hsz1 : wr.heap.size < w1.heap.size := by have := hb1.size; simp at this; omega
          have HB1 := Lib.hid ((below1 wr _).trans (hb1.mono (by simp)))
          clear hb1
          cases e3 : bytesB d.fresh
          · go_wp2_with fail
            refine (hB3.out _ HB1.out).mono ?_
            rintro e w2 ⟨rfl, hb2⟩
            have HB2 := Lib.hid (HB1.out.trans (hb2.mono HB1.out.size))
            clear hb2
            go_wp2_with fail
            go_ret
            exact ⟨ret_bool (by rw [HX.out]; simp [blobB, e3]), HB.out.trans (HB2.out.mono HB.out.size)⟩
          · go_wp2_with fail
            refine (hB3.out _ HB1.out).mono ?_
            rintro e w2 ⟨rfl, hb2⟩
            obtain ⟨hcc2, hff2⟩ := bcell hb2
            have HB2 := Lib.hid (HB1.out.trans (hb2.mono HB1.out.size))
            clear hb2
            by_cases h4 : d.safe.length + d.fresh.length ≤ 400
            · have H4 := Lib.hid (show blobB last d = true by simp [blobB, e1, e2, e3, h4])
              have h5 : ¬ ((d.safe.length : Int) + (d.fresh.length : Int) > 400) := by omega
              have H6 := Lib.hid (show 0 ≤ d.name ∧ d.name ≤ 3 by simp [inB] at e1; omega)
              go_wp2_with fail
              go_roundw
              case rel => exact ⟨k + 1, d.name, by omega, by go_num, rfl, H6.out.1, H6.out.2, by rw [HX.out, H4.out]; rfl, HB.out.trans (HB2.out.mono HB.out.size)⟩
              case measure => simp [intOf]; omega
            · have H4 := Lib.hid (show blobB last d = false by simp [blobB, h4])
              have h5 : decide (400 < (d.safe.length : Int) + (d.fresh.length : Int)) = true := by simp; omega
              go_wp2_with fail
              go_ret
              exact ⟨ret_bool (by rw [HX.out, H4.out]; rfl), HB.out.trans (HB2.out.mono HB.out.size)⟩
    · have hk' : k = bs.length := by omega
      go_wp2_with fail
      go_ret
      exact ⟨ret_bool (by rw [HD.out, hk']; simp [diskFrom]), HB.out⟩
end Go.Proofs.Ytjhfhlfiagggpaa
