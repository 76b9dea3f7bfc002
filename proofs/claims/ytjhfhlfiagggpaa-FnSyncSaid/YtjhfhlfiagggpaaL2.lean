/- FnSync: the walk. -/
import Derived.Test.YtjhfhlfiagggpaaL1
import Derived.Test.YtjhfhlfiagggpaaP2
namespace Go.Proofs.Ytjhfhlfiagggpaa
open Go Go.RowKit

theorem sameInts_self (L : Nat) (v v' : Value) (xs : List Int) (w : World) (h : Ints w L v xs) (h' : Ints w L v' xs) :
    Calls Try.prog 25 #[v, v'] w fun e w' => e = .returned (.bool true) ∧ Below w.heap.size w w' := by
  have := sameInts_any L L v v' xs xs w h h'
  rw [eqB_tt rfl] at this
  exact this.mono fun e w' ⟨he, n, hn⟩ => ⟨he, by subst hn; exact ⟨rfl, rfl, rfl, Nat.le_refl _, fun _ _ => rfl⟩⟩

set_option maxHeartbeats 4000000 in
set_option maxRecDepth 100000 in
theorem FnSync_any (L : Nat) (A : Option Addr) (c : Nat) (xs : List Int) (w : World) (hr : Rd w L 1 A xs.length (byt xs)) (hc : xs.length ≤ c) (hcm : c ≤ maxLen) (hb : ∀ x ∈ xs, 0 ≤ x ∧ x < 256) :
    Calls Try.prog 5 #[.slice A xs.length c] w fun e w' => e = .returned (.bool true) ∧ Below w.heap.size w w' := by
  have HO := Lib.hid (DrawDiskSync_any L A c xs w hr hc hcm hb)
  have HC := Lib.hid hc
  have HCM := Lib.hid hcm
  unfold maxLen at hcm
  clear hr hb
  cases hl : decide (1048576 < (xs.length : Int))
  · go_enter Try.func5, Try.ntmps5
    go_wp2_with fail
    with_reducible refine HO.out.mono ?_
    rintro e w1 ⟨v, bs, ivs, n, L1, rfl, hn0, hn4, hbl, hsh, hL1, ho, hb1⟩
    have HS := Lib.hid (show bs.length ≤ 4 ∧ shortBs bs from ⟨hbl, hsh⟩)
    have hi1 := diskSync_any L1 v bs n w1 ho.blobs (hsh.small hbl)
    have HOB := Lib.hid ho.blobs
    have HB1 := Lib.hid hb1
    clear hn0 hn4 hbl hsh hL1 ho hb1
    cases hsb : syncB bs n
    · have HSB := Lib.hid hsb
      rw [hsb] at hi1
      have HI1 := Lib.hid hi1
      clear hsb hi1
      go_wp2_with fail
      with_reducible refine HI1.out.mono ?_
      rintro e w2 ⟨v2, rfl, ho2, hb2⟩
      obtain ⟨ivs2, ho2⟩ := ho2
      have HB2 := Lib.hid (HB1.out.trans (hb2.mono HB1.out.size))
      have HO2 := Lib.hid ho2
      have HBX := Lib.hid hb2
      have hi2 := specDiskSync_any L1 v bs n w2 (HOB.out.below hb2) (HS.out.2.small HS.out.1)
      rw [HSB.out] at hi2
      have HI2 := Lib.hid hi2
      clear ho2 hb2 hi2
      go_wp2_with fail
      with_reducible refine HI2.out.mono ?_
      rintro e w3 ⟨v3, rfl, ho3, hb3⟩
      obtain ⟨ivs3, ho3⟩ := ho3
      have HB3 := Lib.hid (HB2.out.trans (hb3.mono HB2.out.size))
      have HSD := Lib.hid (sameDisk_self w1.heap.size w2.heap.size v2 v3 (syncR bs n) w3 (HO2.out.blobs.below hb3) ho3.blobs)
      have HSD2 := Lib.hid (fun (W : World) (hW : Below w3.heap.size w3 W) => sameDisk_self w1.heap.size w2.heap.size v2 v3 (syncR bs n) W ((HO2.out.blobs.below hb3).below hW) (ho3.blobs.below hW))
      clear ho3 hb3
      go_wp2_with fail
      with_reducible refine HSD.out.mono ?_
      rintro e w4 ⟨rfl, hb4⟩
      have HB4 := Lib.hid hb4
      clear hb4
      go_wp2_with fail
      with_reducible refine (HSD2.out _ HB4.out).mono ?_
      rintro e w5 ⟨rfl, hb5⟩
      have HB5 := Lib.hid (HB3.out.trans ((HB4.out.trans (hb5.mono HB4.out.size)).mono HB3.out.size))
      clear hb5
      go_wp2_with fail
      go_ret
      exact ⟨rfl, HB5.out⟩
    · have HSB := Lib.hid hsb
      have HTW := Lib.hid (sync_twice bs n hsb)
      have HVA := Lib.hid (sync_valid bs n hsb)
      rw [hsb] at hi1
      have HI1 := Lib.hid hi1
      clear hsb hi1
      go_wp2_with fail
      with_reducible refine HI1.out.mono ?_
      rintro e w2 ⟨v2, rfl, ho2, hb2⟩
      obtain ⟨ivs2, ho2⟩ := ho2
      have HB2 := Lib.hid (HB1.out.trans (hb2.mono HB1.out.size))
      have HO2 := Lib.hid ho2
      have HBX := Lib.hid hb2
      have hi2 := specDiskSync_any L1 v bs n w2 (HOB.out.below hb2) (HS.out.2.small HS.out.1)
      rw [HSB.out] at hi2
      have HI2 := Lib.hid hi2
      clear ho2 hb2 hi2
      go_wp2_with fail
      with_reducible refine HI2.out.mono ?_
      rintro e w3 ⟨v3, rfl, ho3, hb3⟩
      obtain ⟨ivs3, ho3⟩ := ho3
      have HB3 := Lib.hid (HB2.out.trans (hb3.mono HB2.out.size))
      have HSD := Lib.hid (sameDisk_self w1.heap.size w2.heap.size v2 v3 (syncR bs n) w3 (HO2.out.blobs.below hb3) ho3.blobs)
      have HR0 := Lib.hid (fun (W : World) (hW : Below w3.heap.size w3 W) => diskRead_any L1 v bs n W (((HOB.out.below HBX.out).below hb3).below hW) (HS.out.2.small HS.out.1))
      have HR2 := Lib.hid (fun (W : World) (hW : Below w3.heap.size w3 W) => diskRead_any w1.heap.size v2 (syncR bs n) n W ((HO2.out.blobs.below hb3).below hW) (sync_small bs n HS.out.2 HS.out.1))
      have HC2 := Lib.hid (fun (W : World) (kv : Value) (hW : Below w3.heap.size w3 W) (hk : Ints W 0 kv []) => diskCrash_any 0 v2 kv (syncR bs n) [] W (((HO2.out.blobs.below hb3).below hW).less (Nat.zero_le _)) (sync_small bs n HS.out.2 HS.out.1) hk)
      have HO3 := Lib.hid (HO2.out.blobs.below hb3)
      clear ho3 hb3
      go_wp2_with fail
      with_reducible refine HSD.out.mono ?_
      rintro e w4 ⟨rfl, hb4⟩
      have HB4 := Lib.hid (HB3.out.trans (hb4.mono HB3.out.size))
      have HW4 := Lib.hid hb4
      have hr0 := HR0.out _ hb4
      rw [HSB.out] at hr0
      have HI4 := Lib.hid hr0
      clear hb4 hr0
      go_wp2_with fail
      with_reducible refine HI4.out.mono ?_
      rintro e w5 ⟨v5, rfl, ho5, hb5⟩
      have HB5 := Lib.hid (HB4.out.trans (hb5.mono HB4.out.size))
      have HW5 := Lib.hid (HW4.out.trans (hb5.mono HW4.out.size))
      have HO5 := Lib.hid ho5
      have hr5 := HR2.out _ HW5.out
      rw [HTW.out.1] at hr5
      have HI5 := Lib.hid hr5
      clear ho5 hb5 hr5
      go_wp2_with fail
      with_reducible refine HI5.out.mono ?_
      rintro e w6 ⟨v6, rfl, ho6, hb6⟩
      have HB6 := Lib.hid (HB5.out.trans (hb6.mono HB5.out.size))
      have HW6 := Lib.hid (HW5.out.trans (hb6.mono HW5.out.size))
      have HO6 := Lib.hid ho6
      have HO56 := Lib.hid (own_below HO5.out hb6)
      clear ho6 hb6
      go_wp2_with fail
      have hal := HW6.out.trans ((below1 w6 (.cells #[] 3)).mono HW6.out.size)
      have hcr := HC2.out _ (.slice (some ⟨w6.heap.size, 0, none⟩) 0 0) hal ⟨_, 0, rfl, Nat.le_refl _, by unfold maxLen; omega, ⟨rfl, fun h => absurd h (by simp)⟩⟩
      rw [crash_nilB _ HVA.out] at hcr
      have hcR : crashR (syncR bs n) [] = (syncR bs n).map (crashD []) := by rw [crashR, crash_nilB _ HVA.out, if_pos rfl]
      rw [hcR] at hcr
      have HI6 := Lib.hid hcr
      clear hal hcr hcR
      with_reducible refine HI6.out.mono ?_
      rintro e w7 ⟨v7, rfl, ⟨ivs7, ho7⟩, hb7⟩
      have HBZ := Lib.hid ((below1 w6 (.cells #[] 3)).trans (hb7.mono (by simp)))
      have HB7 := Lib.hid (HB6.out.trans (HBZ.out.mono HB6.out.size))
      have hr7 := diskRead_any (w6.alloc (.cells #[] 3)).heap.size v7 ((syncR bs n).map (crashD [])) n w7 ho7.blobs (crash_small _ [] HVA.out (by have := (sync_small bs n HS.out.2 HS.out.1).1; omega))
      rw [crash_sync _ [] n HTW.out.1, read_crash_sync bs [] n HSB.out] at hr7
      have HI7 := Lib.hid hr7
      clear ho7 hb7 hr7
      go_wp2_with fail
      with_reducible refine HI7.out.mono ?_
      rintro e w8 ⟨v8, rfl, ho8, hb8⟩
      have HB8 := Lib.hid (HB7.out.trans (hb8.mono HB7.out.size))
      have hz5 : Ints w8 0 v5 (readR bs n) := (Sl.of_own (own_below (own_below HO56.out HBZ.out) hb8)).less (Nat.zero_le _)
      have hz6 : Ints w8 0 v6 (readR bs n) := by
        have := (Sl.of_own (own_below (own_below HO6.out HBZ.out) hb8)).less (Nat.zero_le _)
        rwa [read_sync bs n HSB.out] at this
      have hz8 : Ints w8 0 v8 (readR bs n) := (Sl.of_own ho8).less (Nat.zero_le _)
      have HQ1 := Lib.hid (sameInts_self 0 v5 v6 (readR bs n) w8 hz5 hz6)
      have HQ2 := Lib.hid (fun (W : World) (hW : Below w8.heap.size w8 W) => sameInts_self 0 v5 v8 (readR bs n) W (hz5.below hW) (hz8.below hW))
      clear hz5 hz6 hz8 ho8 hb8
      go_wp2_with fail
      with_reducible refine HQ1.out.mono ?_
      rintro e w9 ⟨rfl, hb9⟩
      have HB9 := Lib.hid (HB8.out.trans (hb9.mono HB8.out.size))
      have HQ3 := Lib.hid (HQ2.out _ hb9)
      clear hb9
      go_wp2_with fail
      with_reducible refine HQ3.out.mono ?_
      rintro e w10 ⟨rfl, hb10⟩
      have HB10 := Lib.hid (HB9.out.trans (hb10.mono HB9.out.size))
      clear hb10
      go_wp2_with fail
      go_ret
      exact ⟨rfl, HB10.out⟩
  · go_enter Try.func5, Try.ntmps5
    go_wp2_with fail
    go_ret
    exact ⟨rfl, Below.refl _ _⟩

end Go.Proofs.Ytjhfhlfiagggpaa
