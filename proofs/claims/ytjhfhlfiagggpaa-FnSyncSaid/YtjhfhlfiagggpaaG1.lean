/- impl.DiskRead. -/
import Derived.Test.YtjhfhlfiagggpaaD8
import Derived.Test.YtjhfhlfiagggpaaK7b
namespace Go.Proofs.Ytjhfhlfiagggpaa
open Go Go.RowKit

def readR (bs : List BD) (nm : Int) : List Int := if syncB bs nm then (match bs[(fileIx bs nm).toNat]? with
  | some d => d.safe ++ d.fresh
  | none => []) else []

set_option maxHeartbeats 4000000 in
set_option maxRecDepth 100000 in
theorem diskRead_any (L : Nat) (v : Value) (bs : List BD) (nm : Int) (w : World) (h : Blobs w L v bs) (hsm : smallBs bs) :
    Calls Try.prog 24 #[v, .int .i64 nm] w fun e w' => ∃ v', e = .returned (.tuple #[v', .bool (syncB bs nm)]) ∧ w'.ownsRow w.heap.size 3 1 v' (readR bs nm).length (ints (readR bs nm)) ∧ Below w.heap.size w w' := by
  have HV := Lib.hid (fun (W : World) (hW : Below w.heap.size w W) => diskValid_any L v bs W (h.below hW) hsm)
  have HBL := Lib.hid (fun (W : World) (hW : Below w.heap.size w W) => h.below hW)
  have HFI := Lib.hid (file_any L v bs nm w h)
  obtain ⟨A, c, rfl, hc, hcm⟩ := h.form
  unfold maxLen at hcm
  clear h
  cases hv : diskB bs
  · have HR := Lib.hid (show syncB bs nm = false by simp [syncB, hv])
    have HVB := Lib.hid hv
    go_enter Try.func24, Try.ntmps24
    go_wp2_with fail
    with_reducible refine HFI.out.mono ?_
    rintro e w1 ⟨rfl, hb1⟩
    go_wp2_with fail
    with_reducible refine (HV.out _ hb1).mono ?_
    rintro e w2 ⟨rfl, hb2⟩
    have HB := Lib.hid (hb1.trans (hb2.mono hb1.size))
    clear hb1 hb2
    go_wp2_with fail
    go_ret2
    rw [HR.out]
    exact ⟨_, rfl, by rw [readR, HR.out]; exact World.ownsRow_nil _ _ _ _, HB.out⟩
  · rcases fileIx_cases bs nm with hf | ⟨k, d, hf, hd, hnm⟩
    · have HR := Lib.hid (show syncB bs nm = false by simp [syncB, hf])
      have hf0 : fileIx bs nm < 0 := by omega
      have HF := Lib.hid hf
      clear hf
      go_enter Try.func24, Try.ntmps24
      go_wp2_with fail
      with_reducible refine HFI.out.mono ?_
      rintro e w1 ⟨rfl, hb1⟩
      go_wp2_with fail
      with_reducible refine (HV.out _ hb1).mono ?_
      rintro e w2 ⟨rfl, hb2⟩
      have HB := Lib.hid (hb1.trans (hb2.mono hb1.size))
      clear hb1 hb2
      go_wp2_with fail
      go_ret2
      rw [HR.out]
      exact ⟨_, rfl, by rw [readR, HR.out]; exact World.ownsRow_nil _ _ _ _, HB.out⟩
    · have HRB := Lib.hid (show syncB bs nm = true by simp [syncB, hv, hf])
      have HRR := Lib.hid (show readR bs nm = d.safe ++ d.fresh by rw [readR, if_pos HRB.out, hf, Int.toNat_natCast, hd])
      have HD := Lib.hid hd
      have hkl := lt_of_get hd
      obtain ⟨_, _, hsl, _⟩ := diskB_get hv hd
      rw [hf] at HFI
      clear hf hd hnm
      have hnn : ¬ ((k : Int) < 0) := by omega
      have hkI : (k : Int) < (bs.length : Int) := by omega
      go_enter Try.func24, Try.ntmps24
      go_wp2_with fail
      with_reducible refine HFI.out.mono ?_
      rintro e w1 ⟨rfl, hb1⟩
      go_wp2_with fail
      with_reducible refine (HV.out _ hb1).mono ?_
      rintro e w2 ⟨rfl, hb2⟩
      have HB2 := Lib.hid (hb1.trans (hb2.mono hb1.size))
      clear hb1 hb2
      have HSZ := Lib.hid HB2.out.size
      obtain ⟨b, off, v1, v2, rfl, _, hbl, _, c1, c2, hS, hF⟩ := (HBL.out _ HB2.out).at_ HD.out
      have HS := Lib.hid hS
      have HF := Lib.hid hF
      obtain ⟨A1, n1, rfl, _⟩ := hS
      obtain ⟨A2, n2, rfl, _⟩ := hF
      go_wp2_with fail
      refine wp_region_tailG (by kernel_rfl) 13 (fun i a w' => match i with
          | 0 => (a.tmps.getD 17 undef) = .slice (some ⟨b, off, none⟩) bs.length c
          | 1 => (a.tmps.getD 18 undef) = .int .i64 k
          | 2 => (a.tmps.getD 19 undef) = .pointer (some ⟨b, off + k * 3, none⟩)
          | 3 => (a.tmps.getD 20 undef) = .pointer (some ⟨b, off + k * 3 + 1, none⟩)
          | 4 => (a.tmps.getD 21 undef) = .slice A1 d.safe.length n1
          | 5 => (a.tmps.getD 22 undef) = .slice (some ⟨b, off, none⟩) bs.length c
          | 6 => (a.tmps.getD 23 undef) = .int .i64 k
          | 7 => (a.tmps.getD 24 undef) = .pointer (some ⟨b, off + k * 3, none⟩)
          | 8 => (a.tmps.getD 25 undef) = .pointer (some ⟨b, off + k * 3 + 2, none⟩)
          | 9 => (a.tmps.getD 26 undef) = .slice A2 d.fresh.length n2
          | 10 => ∃ b, (a.tmps.getD 27 undef) = .slice (some ⟨b, 0, none⟩) 2 2 ∧ b < w'.heap.size ∧ w'.cell? ⟨b, 0, none⟩ = some (.slice A1 d.safe.length n1) ∧ w'.cell? ⟨b, 1, none⟩ = some (.slice A2 d.fresh.length n2)
          | 11 => w'.ownsRow w2.heap.size 3 1 (a.tmps.getD 28 undef) (d.safe ++ d.fresh).length (ints (d.safe ++ d.fresh))
          | 12 => w'.ownsRow w2.heap.size 3 1 (a.tmps.getD 4 undef) (d.safe ++ d.fresh).length (ints (d.safe ++ d.fresh))
          | _ => True) (fun i => match i with
          | 0 => [17]
          | 1 => [18]
          | 2 => [19]
          | 3 => [20]
          | 4 => [21]
          | 5 => [22]
          | 6 => [23]
          | 7 => [24]
          | 8 => [25]
          | 9 => [26]
          | 10 => [27]
          | 11 => [28]
          | 12 => [4]
          | _ => []) (by kernel_rfl) (by kernel_rfl) (by kernel_rfl) ?loc ?st ?op ?tl
      case loc =>
        intro i a a' w' hl h
        rcases i with _ | i
        · simp only [hl 17 (by simp)]; exact h
        rcases i with _ | i
        · simp only [hl 18 (by simp)]; exact h
        rcases i with _ | i
        · simp only [hl 19 (by simp)]; exact h
        rcases i with _ | i
        · simp only [hl 20 (by simp)]; exact h
        rcases i with _ | i
        · simp only [hl 21 (by simp)]; exact h
        rcases i with _ | i
        · simp only [hl 22 (by simp)]; exact h
        rcases i with _ | i
        · simp only [hl 23 (by simp)]; exact h
        rcases i with _ | i
        · simp only [hl 24 (by simp)]; exact h
        rcases i with _ | i
        · simp only [hl 25 (by simp)]; exact h
        rcases i with _ | i
        · simp only [hl 26 (by simp)]; exact h
        rcases i with _ | i
        · simp only [hl 27 (by simp)]; exact h
        rcases i with _ | i
        · simp only [hl 28 (by simp)]; exact h
        rcases i with _ | i
        · simp only [hl 4 (by simp)]; exact h
        trivial
      case st =>
        intro i a w1 w2 h hb
        rcases i with _ | i
        · exact h
        rcases i with _ | i
        · exact h
        rcases i with _ | i
        · exact h
        rcases i with _ | i
        · exact h
        rcases i with _ | i
        · exact h
        rcases i with _ | i
        · exact h
        rcases i with _ | i
        · exact h
        rcases i with _ | i
        · exact h
        rcases i with _ | i
        · exact h
        rcases i with _ | i
        · exact h
        rcases i with _ | i
        · obtain ⟨b, h0, h1, h2, h3⟩ := h; exact ⟨b, h0, Nat.lt_of_lt_of_le h1 hb.size, by rw [hb.cell (by exact h1)]; exact h2, by rw [hb.cell (by exact h1)]; exact h3⟩
        rcases i with _ | i
        · exact own_below h hb
        rcases i with _ | i
        · exact own_below h hb
        trivial
      case op =>
        refine ⟨?_, ?_, ?_, ?_, ?_, ?_, ?_, ?_, ?_, ?_, ?_, ?_, ?_, trivial⟩
        all_goals intro a w1 hb1 hag hp
        all_goals simp [predsG, Region.binds] at hp
        all_goals have e0 : a.tmps[0]?.getD undef = .slice (some ⟨b, off, none⟩) bs.length c := hag.at_ 0 (by kernel_rfl)
        all_goals have e6 : a.tmps[6]?.getD undef = .int .i64 k := hag.at_ 6 (by kernel_rfl)
        all_goals have hc1 : w1.cell? ⟨b, off + k * 3 + 1, none⟩ = some (.slice A1 d.safe.length n1) := by rw [hb1.cell (by exact hbl)]; exact c1
        all_goals have hc2 : w1.cell? ⟨b, off + k * 3 + 2, none⟩ = some (.slice A2 d.fresh.length n2) := by rw [hb1.cell (by exact hbl)]; exact c2
        · exact opG_val (.slice (some ⟨b, off, none⟩) bs.length c) rfl rfl (by go_simp) (put_getD_same _ _ _ (by rw [hag.size]; simp))
        · exact opG_val (.int .i64 k) rfl rfl (by go_simp) (put_getD_same _ _ _ (by rw [hag.size]; simp))
        · exact opG_val (.pointer (some ⟨b, off + k * 3, none⟩)) rfl rfl (by go_simp) (put_getD_same _ _ _ (by rw [hag.size]; simp))
        · exact opG_val (.pointer (some ⟨b, off + k * 3 + 1, none⟩)) rfl rfl (by go_simp) (put_getD_same _ _ _ (by rw [hag.size]; simp))
        · exact opG_val (.slice A1 d.safe.length n1) rfl rfl (by go_simp) (put_getD_same _ _ _ (by rw [hag.size]; simp))
        · exact opG_val (.slice (some ⟨b, off, none⟩) bs.length c) rfl rfl (by go_simp) (put_getD_same _ _ _ (by rw [hag.size]; simp))
        · exact opG_val (.int .i64 k) rfl rfl (by go_simp) (put_getD_same _ _ _ (by rw [hag.size]; simp))
        · exact opG_val (.pointer (some ⟨b, off + k * 3, none⟩)) rfl rfl (by go_simp) (put_getD_same _ _ _ (by rw [hag.size]; simp))
        · exact opG_val (.pointer (some ⟨b, off + k * 3 + 2, none⟩)) rfl rfl (by go_simp) (put_getD_same _ _ _ (by rw [hag.size]; simp))
        · exact opG_val (.slice A2 d.fresh.length n2) rfl rfl (by go_simp) (put_getD_same _ _ _ (by rw [hag.size]; simp))
        · refine opG_grow (.slice (some ⟨w1.heap.size, 0, none⟩) 2 2) (w1.alloc (.cells #[.slice A1 d.safe.length n1, .slice A2 d.fresh.length n2] 32)) rfl rfl ?_ (below1 _ _) ?_
          · go_simp
          · exact ⟨w1.heap.size, put_getD_same _ _ _ (by rw [hag.size]; simp), by simp, by go_simp, by go_simp⟩
        · obtain ⟨b', hb0, hblt, hbc0, hbc1⟩ := hp
          refine opG_call 41 _ _ #[.slice (some ⟨b', 0, none⟩) 2 2] rfl rfl rfl (by simp [Act.eval, hb0]) (fun _ _ => by go_simp) ?_
          have hIS : IntsS w1 0 (some ⟨b', 0, none⟩) [d.safe, d.fresh] := intsS_two hblt hbc0 hbc1 ((HS.out.below hb1).less (Nat.zero_le _)) ((HF.out.below hb1).less (Nat.zero_le _))
          have hcc : Calls Try.prog 41 #[.slice (some ⟨b', 0, none⟩) 2 2] w1 _ := concatInts_any 0 (some ⟨b', 0, none⟩) 2 [d.safe, d.fresh] w1 hIS (by simp) (by simp; omega)
          with_reducible refine hcc.mono ?_
          rintro e w3 ⟨u, rfl, hown, hb3⟩
          refine ⟨u, rfl, ?_, hb3⟩
          rw [put_getD_same _ _ _ (by rw [hag.size]; simp)]
          have hown' := own_less hown (base' := w2.heap.size) hb1.size
          simpa using hown'
        · refine opG_val (a.tmps.getD 28 undef) rfl rfl (by go_simp) ?_
          rw [put_getD_same _ _ _ (by rw [hag.size]; simp)]
          simpa using hp.1
      case tl =>
        intro a w1 hb1 hag hF
        have e0 : a.tmps[0]?.getD undef = .slice (some ⟨b, off, none⟩) bs.length c := hag.at_ 0 (by kernel_rfl)
        have e6 : a.tmps[6]?.getD undef = .int .i64 k := hag.at_ 6 (by kernel_rfl)
        have h4 := hF 12 (by omega)
        simp only [Array.getD_eq_getD_getElem?] at h4
        obtain ⟨A5, n5, e4⟩ := own_form h4
        rw [e4] at h4
        refine op_last (.bool true) 5 rfl rfl rfl (by go_simp) ?_
        have HH := Lib.hid h4
        have HB := Lib.hid hb1
        have ea := hag.lit [17, 18, 19, 20, 21, 22, 23, 24, 25, 26, 27, 28, 4, 5] (by kernel_rfl)
        simp [List.range, List.range.loop] at ea
        rw [ea]
        clear ea hag hF h4 hb1
        go_wp2
        go_ret2
        rw [HRB.out, HRR.out]
        exact ⟨.slice A5 (d.safe ++ d.fresh).length n5, by simp [Act.put, e4], own_less HH.out HSZ.out, HB2.out.trans (HB.out.mono HB2.out.size)⟩
end Go.Proofs.Ytjhfhlfiagggpaa
