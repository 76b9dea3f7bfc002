/- spec.DiskSync. -/
import Derived.Test.YtjhfhlfiagggpaaK11
namespace Go.Proofs.Ytjhfhlfiagggpaa
open Go Go.RowKit

set_option maxHeartbeats 2000000 in
set_option maxRecDepth 100000 in
theorem specDiskSync_any (L : Nat) (v : Value) (bs : List BD) (nm : Int) (w : World) (h : Blobs w L v bs) (hsm : smallBs bs) :
    Calls Try.prog 11 #[v, .int .i64 nm] w fun e w' => ∃ v', e = .returned (.tuple #[v', .bool (syncB bs nm)]) ∧ SBlobs w' w.heap.size v' (syncR bs nm) ∧ Below w.heap.size w w' := by
  have HV := Lib.hid (specDiskValid_any L v bs w h hsm)
  have HFI := Lib.hid (fun (W : World) (hW : Below w.heap.size w W) => l31Find_any L v bs nm W (h.below hW))
  have HWI := Lib.hid (fun (W : World) (hW : Below w.heap.size w W) => h.below hW)
  have HNR := Lib.hid (fun (W : World) (hW : Below w.heap.size w W) => NoRoom.new W 72 w.heap.size hW.size)
  obtain ⟨A, c, rfl, hc, hcm⟩ := h.form
  clear h
  cases hv : diskB bs
  · have HR := Lib.hid (show syncB bs nm = false by simp [syncB, hv])
    have HVB := Lib.hid hv
    go_enter Try.func11, Try.ntmps11
    go_wp2_with fail
    with_reducible refine HV.out.mono ?_
    rintro e w1 ⟨rfl, hb1⟩
    have HB := Lib.hid hb1
    clear hb1
    go_wp2_with fail
    go_ret2
    rw [HR.out]
    exact ⟨_, rfl, ⟨[], by rw [syncR, HR.out]; exact SB.noRoom (HNR.out w1 HB.out)⟩, HB.out.trans ((below1 _ _).mono HB.out.size)⟩
  · rcases fileIx_cases bs nm with hf | ⟨k, d, hf, hd, hnm⟩
    · have HR := Lib.hid (show syncB bs nm = false by simp [syncB, hf])
      have hf0 : fileIx bs nm < 0 := by omega
      have HF := Lib.hid hf
      clear hf
      go_enter Try.func11, Try.ntmps11
      go_wp2_with fail
      with_reducible refine HV.out.mono ?_
      rintro e w1 ⟨rfl, hb1⟩
      have HB := Lib.hid hb1
      clear hb1
      go_wp2_with fail
      with_reducible refine (HFI.out _ HB.out).mono ?_
      rintro e w2 ⟨rfl, rfl⟩
      go_wp2_with fail
      go_ret2
      rw [HR.out]
      exact ⟨_, rfl, ⟨[], by rw [syncR, HR.out]; exact SB.noRoom (HNR.out _ HB.out)⟩, HB.out.trans ((below1 _ _).mono HB.out.size)⟩
    · have HRB := Lib.hid (show syncB bs nm = true by simp [syncB, hv, hf])
      have HRR := Lib.hid (show syncR bs nm = insD ⟨nm, d.safe ++ d.fresh, []⟩ (filterD bs nm) by
        rw [syncR, if_pos HRB.out, hf, Int.toNat_natCast, syncD, hd]
        have := insD_set ⟨nm, d.safe ++ d.fresh, []⟩ bs 0 k d hv hd hnm
        simp only at this ⊢
        rw [this, hnm])
      have HD := Lib.hid hd
      have hkl := lt_of_get hd
      obtain ⟨_, _, hsl, _⟩ := diskB_get hv hd
      rw [hf] at HFI
      clear hf hd hnm
      have hnn : ¬ ((k : Int) < 0) := by omega
      have hkI : (k : Int) < (bs.length : Int) := by omega
      go_enter Try.func11, Try.ntmps11
      go_wp2_with fail
      with_reducible refine HV.out.mono ?_
      rintro e w1 ⟨rfl, hb1⟩
      have HB := Lib.hid hb1
      clear hb1
      go_wp2_with fail
      with_reducible refine (HFI.out _ HB.out).mono ?_
      rintro e w2 ⟨rfl, rfl⟩
      go_wp2_with fail
      with_reducible refine (HFI.out _ HB.out).mono ?_
      rintro e w3 ⟨rfl, rfl⟩
      obtain ⟨b, off, u1, u2, rfl, _, hbl, c0, c1, c2, hs, hf⟩ := (HWI.out _ HB.out).at_ HD.out
      have HS := Lib.hid hs
      have HF := Lib.hid hf
      obtain ⟨A1, n1, rfl, _⟩ := hs
      obtain ⟨A2, n2, rfl, _⟩ := hf
      go_wp2_with fail
      with_reducible refine (l31All_any d.name _ _ d.safe d.fresh L _ (HS.out.below (below1 _ _)) (HF.out.below (below1 _ _)) (by omega) (by omega)).mono ?_
      rintro e w4 ⟨va, rfl, hva, hb4⟩
      have HB4 := Lib.hid (show Below w3.heap.size w3 w4 from (below1 w3 _).trans (hb4.mono (by simp)))
      have HVA := Lib.hid hva
      obtain ⟨A3, n3, rfl⟩ := own_form hva
      clear hva hb4
      have HB5 := Lib.hid (show Below w.heap.size w (w4.alloc (.cells #[] 3)) from (HB.out.trans (HB4.out.mono HB.out.size)).alloc (Nat.le_trans HB.out.size HB4.out.size) _)
      have HE := Lib.hid (show Ints (w4.alloc (.cells #[] 3)) 0 (.slice (some ⟨w4.heap.size, 0, none⟩) 0 0) [] from ⟨_, 0, rfl, Nat.le_refl _, Nat.zero_le _, Rd.nil⟩)
      have HSA := Lib.hid (show Ints (w4.alloc (.cells #[] 3)) 0 (.slice A3 (d.safe ++ d.fresh).length n3) (d.safe ++ d.fresh) from (Sl.less (Sl.of_own HVA.out) (Nat.zero_le _)).below (below1 _ _))
      have hlw := l31With_any L 0 _ _ _ bs nm (d.safe ++ d.fresh) [] _ (HWI.out _ HB5.out) hsm HSA.out HE.out (by simp; omega) (by simp)
      rw [List.length_append] at hlw
      have HLW := Lib.hid hlw
      clear hlw
      go_wp2_with fail
      with_reducible refine HLW.out.mono ?_
      rintro e w6 ⟨vz, rfl, hvz, hb6⟩
      go_wp2_with fail
      go_ret2
      rw [HRB.out, HRR.out]
      obtain ⟨ivz, hz⟩ := hvz
      exact ⟨_, rfl, ⟨ivz, hz.less HB5.out.size⟩, HB5.out.trans (hb6.mono HB5.out.size)⟩
end Go.Proofs.Ytjhfhlfiagggpaa
