/- FnSyncTwice: the walk. -/
import Derived.Test.YtjhfhlfiagggpaaP1
namespace Go.Proofs.Ytjhfhlfiagggpaa
open Go Go.RowKit

theorem sameDisk_self (L L' : Nat) (v v' : Value) (bs : List BD) (w : World) (h : Blobs w L v bs) (h' : Blobs w L' v' bs) :
    Calls Try.prog 12 #[v, v'] w fun e w' => e = .returned (.bool true) ∧ Below w.heap.size w w' := by
  have := sameDisk_any L L' v v' bs bs w h h'
  rw [eqB_tt rfl] at this
  exact this.mono fun e w' ⟨he, n, hn⟩ => ⟨he, by subst hn; exact ⟨rfl, rfl, rfl, Nat.le_refl _, fun _ _ => rfl⟩⟩

set_option maxHeartbeats 4000000 in
set_option maxRecDepth 100000 in
theorem FnSyncTwice_any (L : Nat) (A : Option Addr) (c : Nat) (xs : List Int) (w : World) (hr : Rd w L 1 A xs.length (byt xs)) (hc : xs.length ≤ c) (hcm : c ≤ maxLen) (hb : ∀ x ∈ xs, 0 ≤ x ∧ x < 256) :
    Calls Try.prog 3 #[.slice A xs.length c] w fun e w' => e = .returned (.bool true) ∧ Below w.heap.size w w' := by
  have HO := Lib.hid (DrawDiskSync_any L A c xs w hr hc hcm hb)
  have HC := Lib.hid hc
  have HCM := Lib.hid hcm
  unfold maxLen at hcm
  clear hr hb
  cases hl : decide (1048576 < (xs.length : Int))
  · go_enter Try.func3, Try.ntmps3
    go_wp2_with fail
    with_reducible refine HO.out.mono ?_
    rintro e w1 ⟨v, bs, ivs, n, L1, rfl, hn0, hn4, hbl, hsh, hL1, ho, hb1⟩
    have HS := Lib.hid (show bs.length ≤ 4 ∧ shortBs bs from ⟨hbl, hsh⟩)
    have hi1 := diskSync_any L1 v bs n w1 ho.blobs (hsh.small hbl)
    have HOB := Lib.hid ho.blobs
    have HB1 := Lib.hid hb1
    clear hn0 hn4 hbl hsh hL1 ho hb1
    cases hsb : syncB bs n
    · have HSB := Lib.hid hsb
      rw [hsb] at hi1
      have HI1 := Lib.hid hi1
      clear hsb hi1
      go_wp2_with fail
      with_reducible refine HI1.out.mono ?_
      rintro e w2 ⟨v2, rfl, ho2, hb2⟩
      obtain ⟨ivs2, ho2⟩ := ho2
      have HB2 := Lib.hid (HB1.out.trans (hb2.mono HB1.out.size))
      have HO2 := Lib.hid ho2
      have hi2 := specDiskSync_any L1 v bs n w2 (HOB.out.below hb2) (HS.out.2.small HS.out.1)
      rw [HSB.out] at hi2
      have HI2 := Lib.hid hi2
      clear ho2 hb2 hi2
      go_wp2_with fail
      with_reducible refine HI2.out.mono ?_
      rintro e w3 ⟨v3, rfl, ho3, hb3⟩
      obtain ⟨ivs3, ho3⟩ := ho3
      have HB3 := Lib.hid (HB2.out.trans (hb3.mono HB2.out.size))
      have HSD := Lib.hid (sameDisk_self w1.heap.size w2.heap.size v2 v3 (syncR bs n) w3 (HO2.out.blobs.below hb3) ho3.blobs)
      have HSD2 := Lib.hid (fun (W : World) (hW : Below w3.heap.size w3 W) => sameDisk_self w1.heap.size w2.heap.size v2 v3 (syncR bs n) W ((HO2.out.blobs.below hb3).below hW) (ho3.blobs.below hW))
      clear ho3 hb3
      go_wp2_with fail
      with_reducible refine HSD.out.mono ?_
      rintro e w4 ⟨rfl, hb4⟩
      have HB4 := Lib.hid hb4
      clear hb4
      go_wp2_with fail
      with_reducible refine (HSD2.out _ HB4.out).mono ?_
      rintro e w5 ⟨rfl, hb5⟩
      have HB5 := Lib.hid (HB3.out.trans ((HB4.out.trans (hb5.mono HB4.out.size)).mono HB3.out.size))
      clear hb5
      go_wp2_with fail
      go_ret
      exact ⟨rfl, HB5.out⟩
    · have HSB := Lib.hid hsb
      have HTW := Lib.hid (sync_twice bs n hsb)
      have HVA := Lib.hid (sync_valid bs n hsb)
      rw [hsb] at hi1
      have HI1 := Lib.hid hi1
      clear hsb hi1
      go_wp2_with fail
      with_reducible refine HI1.out.mono ?_
      rintro e w2 ⟨v2, rfl, ho2, hb2⟩
      obtain ⟨ivs2, ho2⟩ := ho2
      have HB2 := Lib.hid (HB1.out.trans (hb2.mono HB1.out.size))
      have HO2 := Lib.hid ho2
      have hi2 := specDiskSync_any L1 v bs n w2 (HOB.out.below hb2) (HS.out.2.small HS.out.1)
      rw [HSB.out] at hi2
      have HI2 := Lib.hid hi2
      clear ho2 hb2 hi2
      go_wp2_with fail
      with_reducible refine HI2.out.mono ?_
      rintro e w3 ⟨v3, rfl, ho3, hb3⟩
      obtain ⟨ivs3, ho3⟩ := ho3
      have HB3 := Lib.hid (HB2.out.trans (hb3.mono HB2.out.size))
      have HSD := Lib.hid (sameDisk_self w1.heap.size w2.heap.size v2 v3 (syncR bs n) w3 (HO2.out.blobs.below hb3) ho3.blobs)
      have HI3 := Lib.hid (fun (W : World) (hW : Below w3.heap.size w3 W) => diskSync_any w1.heap.size v2 (syncR bs n) n W ((HO2.out.blobs.below hb3).below hW) (sync_small bs n HS.out.2 HS.out.1))
      have HO3 := Lib.hid (HO2.out.blobs.below hb3)
      clear ho3 hb3
      go_wp2_with fail
      with_reducible refine HSD.out.mono ?_
      rintro e w4 ⟨rfl, hb4⟩
      have HB4 := Lib.hid (HB3.out.trans (hb4.mono HB3.out.size))
      have HO4 := Lib.hid (HO3.out.below hb4)
      have hi3 := HI3.out _ hb4
      rw [HTW.out.1, HTW.out.2] at hi3
      have HI4 := Lib.hid hi3
      clear hb4 hi3
      go_wp2_with fail
      with_reducible refine HI4.out.mono ?_
      rintro e w5 ⟨v5, rfl, ho5, hb5⟩
      obtain ⟨ivs5, ho5⟩ := ho5
      have HB5 := Lib.hid (HB4.out.trans (hb5.mono HB4.out.size))
      have HSE := Lib.hid (sameDisk_self w4.heap.size w1.heap.size v5 v2 (syncR bs n) w5 ho5.blobs (HO4.out.below hb5))
      have hdv := fun (W : World) (hW : Below w5.heap.size w5 W) => diskValid_any w1.heap.size v2 (syncR bs n) W ((HO4.out.below hb5).below hW) (sync_small bs n HS.out.2 HS.out.1)
      simp only [HVA.out] at hdv
      have HDV := Lib.hid hdv
      clear hdv ho5 hb5
      go_wp2_with fail
      with_reducible refine HSE.out.mono ?_
      rintro e w6 ⟨rfl, hb6⟩
      have HB6 := Lib.hid (HB5.out.trans (hb6.mono HB5.out.size))
      have HD6 := Lib.hid (HDV.out _ hb6)
      clear hb6
      go_wp2_with fail
      with_reducible refine HD6.out.mono ?_
      rintro e w7 ⟨rfl, hb7⟩
      have HB7 := Lib.hid (HB6.out.trans (hb7.mono HB6.out.size))
      clear hb7
      go_wp2_with fail
      go_ret
      exact ⟨rfl, HB7.out⟩
  · go_enter Try.func3, Try.ntmps3
    go_wp2_with fail
    go_ret
    exact ⟨rfl, Below.refl _ _⟩

end Go.Proofs.Ytjhfhlfiagggpaa
