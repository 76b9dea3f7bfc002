/- impl.DiskSync. -/
import Derived.Test.YtjhfhlfiagggpaaK9
namespace Go.Proofs.Ytjhfhlfiagggpaa
open Go Go.RowKit

theorem intsS_two {w : World} {b : Nat} {v1 v2 : Value} {xs ys : List Int} (hb : b < w.heap.size) (h1 : w.cell? ⟨b, 0, none⟩ = some v1) (h2 : w.cell? ⟨b, 1, none⟩ = some v2) (hx : Ints w 0 v1 xs) (hy : Ints w 0 v2 ys) : IntsS w 0 (some ⟨b, 0, none⟩) [xs, ys] := by
  refine ⟨[v1, v2], rfl, ⟨rfl, fun _ => ⟨b, 0, rfl, Nat.zero_le _, hb, fun j u hu => ?_⟩⟩, fun i zs v hz hv => ?_⟩
  · match j, hu with
    | 0, hu => simp at hu; subst hu; exact h1
    | 1, hu => simp at hu; subst hu; exact h2
    | n + 2, hu => simp at hu
  · match i, hz, hv with
    | 0, hz, hv => simp at hz hv; subst hz; subst hv; exact hx
    | 1, hz, hv => simp at hz hv; subst hz; subst hv; exact hy
    | n + 2, hz, _ => simp at hz

/-- What DiskSync makes of a disk. -/
def syncD (bs : List BD) (k : Nat) : List BD := match bs[k]? with
  | some d => bs.set k ⟨d.name, d.safe ++ d.fresh, []⟩
  | none => bs
def syncB (bs : List BD) (nm : Int) : Bool := diskB bs && decide (0 ≤ fileIx bs nm)
def syncR (bs : List BD) (nm : Int) : List BD := if syncB bs nm then syncD bs (fileIx bs nm).toNat else []

theorem fileIx_cases (bs : List BD) (nm : Int) : fileIx bs nm = -1 ∨ ∃ (k : Nat) (d : BD), fileIx bs nm = k ∧ bs[k]? = some d ∧ d.name = nm := by
  unfold fileIx
  cases h : bs.findIdx? (fun d => eqB d.name nm) with
  | none => exact .inl rfl
  | some k =>
    obtain ⟨hk, h1, _⟩ := List.findIdx?_eq_some_iff_getElem.1 h
    exact .inr ⟨k, bs[k], rfl, List.getElem?_eq_getElem hk, by simpa [eqB] using h1⟩

set_option maxHeartbeats 4000000 in
set_option maxRecDepth 100000 in
theorem diskSync_any (L : Nat) (v : Value) (bs : List BD) (nm : Int) (w : World) (h : Blobs w L v bs) (hsm : smallBs bs) :
    Calls Try.prog 10 #[v, .int .i64 nm] w fun e w' => ∃ v', e = .returned (.tuple #[v', .bool (syncB bs nm)]) ∧ OBlobs w' w.heap.size v' (syncR bs nm) ∧ Below w.heap.size w w' := by
  have HV := Lib.hid (fun (W : World) (hW : Below w.heap.size w W) => diskValid_any L v bs W (h.below hW) hsm)
  have HC := Lib.hid (fun (W : World) (hW : Below w.heap.size w W) => cloneDisk_any L v bs W (h.below hW) hsm)
  have HFI := Lib.hid (file_any L v bs nm w h)
  obtain ⟨A, c, rfl, hc, hcm⟩ := h.form
  clear h
  cases hv : diskB bs
  · have HR := Lib.hid (show syncB bs nm = false by simp [syncB, hv])
    have HVB := Lib.hid hv
    go_enter Try.func10, Try.ntmps10
    go_wp2_with fail
    with_reducible refine HFI.out.mono ?_
    rintro e w1 ⟨rfl, hb1⟩
    go_wp2_with fail
    with_reducible refine (HV.out _ hb1).mono ?_
    rintro e w2 ⟨rfl, hb2⟩
    have HB := Lib.hid (hb1.trans (hb2.mono hb1.size))
    clear hb1 hb2
    go_wp2_with fail
    go_ret2
    rw [HR.out]
    exact ⟨_, rfl, ⟨[], by rw [syncR, HR.out]; exact OB.nil⟩, HB.out⟩
  · rcases fileIx_cases bs nm with hf | ⟨k, d, hf, hd, hnm⟩
    · have HR := Lib.hid (show syncB bs nm = false by simp [syncB, hf])
      have hf0 : fileIx bs nm < 0 := by omega
      have HF := Lib.hid hf
      clear hf
      go_enter Try.func10, Try.ntmps10
      go_wp2_with fail
      with_reducible refine HFI.out.mono ?_
      rintro e w1 ⟨rfl, hb1⟩
      go_wp2_with fail
      with_reducible refine (HV.out _ hb1).mono ?_
      rintro e w2 ⟨rfl, hb2⟩
      have HB := Lib.hid (hb1.trans (hb2.mono hb1.size))
      clear hb1 hb2
      go_wp2_with fail
      go_ret2
      rw [HR.out]
      exact ⟨_, rfl, ⟨[], by rw [syncR, HR.out]; exact OB.nil⟩, HB.out⟩
    · have HRB := Lib.hid (show syncB bs nm = true by simp [syncB, hv, hf])
      have HRR := Lib.hid (show syncR bs nm = bs.set k ⟨d.name, d.safe ++ d.fresh, []⟩ by rw [syncR, if_pos HRB.out, hf, Int.toNat_natCast, syncD, hd])
      have HD := Lib.hid hd
      have hkl := lt_of_get hd
      obtain ⟨_, _, hsl, _⟩ := diskB_get hv hd
      rw [hf] at HFI
      clear hf hd hnm
      have hnn : ¬ ((k : Int) < 0) := by omega
      have hkI : (k : Int) < (bs.length : Int) := by omega
      go_enter Try.func10, Try.ntmps10
      go_wp2_with fail
      with_reducible refine HFI.out.mono ?_
      rintro e w1 ⟨rfl, hb1⟩
      go_wp2_with fail
      with_reducible refine (HV.out _ hb1).mono ?_
      rintro e wv ⟨rfl, hb2⟩
      have HB := Lib.hid (hb1.trans (hb2.mono hb1.size))
      clear hb1 hb2
      go_wp2_with fail
      with_reducible refine (HC.out _ HB.out).mono ?_
      rintro e w2 ⟨v', rfl, ⟨ivs, hob'⟩, hb2⟩
      have hob := hob'.less HB.out.size
      have HB2 := Lib.hid (HB.out.trans (hb2.mono HB.out.size))
      clear hob' hb2
      have HOB := Lib.hid hob
      have HSZ := Lib.hid HB2.out.size
      obtain ⟨g, cap, rfl, hgb, hgl⟩ := own_some hob.row (by omega)
      have HGL := Lib.hid hgb
      obtain ⟨iv, hiv⟩ := get_of_lt (show k < ivs.length by have := hob.len; omega)
      have HS := Lib.hid (Sl.of_own (hob.safe k d iv HD.out hiv))
      have HF := Lib.hid (Sl.of_own (hob.fresh k d iv HD.out hiv))
      have hz := zip_get HD.out hiv
      have hgc := fun m hm => flatMap_get bcells 3 (fun _ => rfl) _ k m _ hz hm
      have c1 : w2.cell? ⟨g, k * 3 + 1, none⟩ = some iv.1 := own_cell hob.row (by simpa [bcells] using hgc 1 (by omega))
      have c2 : w2.cell? ⟨g, k * 3 + 2, none⟩ = some iv.2 := own_cell hob.row (by simpa [bcells] using hgc 2 (by omega))
      obtain ⟨i1, i2⟩ := iv
      obtain ⟨A1, n1, rfl, _⟩ := HS.out
      obtain ⟨A2, n2, rfl, _⟩ := HF.out
      clear hz hgc hiv hob hgb
      go_wp2_with fail
      refine wp_region_tailG (by kernel_rfl) 16 (fun i a w' => match i with
          | 0 => (a.tmps.getD 20 undef) = .slice (some ⟨g, 0, none⟩) bs.length cap
          | 1 => (a.tmps.getD 21 undef) = .int .i64 k
          | 2 => (a.tmps.getD 22 undef) = .slice (some ⟨g, 0, none⟩) bs.length cap
          | 3 => (a.tmps.getD 23 undef) = .int .i64 k
          | 4 => (a.tmps.getD 24 undef) = .pointer (some ⟨g, k * 3, none⟩)
          | 5 => (a.tmps.getD 25 undef) = .pointer (some ⟨g, k * 3 + 1, none⟩)
          | 6 => (a.tmps.getD 26 undef) = .slice A1 d.safe.length n1
          | 7 => (a.tmps.getD 27 undef) = .slice (some ⟨g, 0, none⟩) bs.length cap
          | 8 => (a.tmps.getD 28 undef) = .int .i64 k
          | 9 => (a.tmps.getD 29 undef) = .pointer (some ⟨g, k * 3, none⟩)
          | 10 => (a.tmps.getD 30 undef) = .pointer (some ⟨g, k * 3 + 2, none⟩)
          | 11 => (a.tmps.getD 31 undef) = .slice A2 d.fresh.length n2
          | 12 => ∃ b, (a.tmps.getD 32 undef) = .slice (some ⟨b, 0, none⟩) 2 2 ∧ b < w'.heap.size ∧ w'.cell? ⟨b, 0, none⟩ = some (.slice A1 d.safe.length n1) ∧ w'.cell? ⟨b, 1, none⟩ = some (.slice A2 d.fresh.length n2)
          | 13 => w'.ownsRow w2.heap.size 3 1 (a.tmps.getD 33 undef) (d.safe ++ d.fresh).length (ints (d.safe ++ d.fresh))
          | 14 => (a.tmps.getD 34 undef) = .pointer (some ⟨g, k * 3, none⟩)
          | 15 => (a.tmps.getD 35 undef) = .pointer (some ⟨g, k * 3 + 1, none⟩)
          | _ => True) (fun i => match i with
          | 0 => [20]
          | 1 => [21]
          | 2 => [22]
          | 3 => [23]
          | 4 => [24]
          | 5 => [25]
          | 6 => [26]
          | 7 => [27]
          | 8 => [28]
          | 9 => [29]
          | 10 => [30]
          | 11 => [31]
          | 12 => [32]
          | 13 => [33]
          | 14 => [34]
          | 15 => [35]
          | _ => []) (by kernel_rfl) (by kernel_rfl) (by kernel_rfl) ?loc ?st ?op ?tl
      case loc =>
        intro i a a' w' hl h
        rcases i with _ | i
        · simp only [hl 20 (by simp)]; exact h
        rcases i with _ | i
        · simp only [hl 21 (by simp)]; exact h
        rcases i with _ | i
        · simp only [hl 22 (by simp)]; exact h
        rcases i with _ | i
        · simp only [hl 23 (by simp)]; exact h
        rcases i with _ | i
        · simp only [hl 24 (by simp)]; exact h
        rcases i with _ | i
        · simp only [hl 25 (by simp)]; exact h
        rcases i with _ | i
        · simp only [hl 26 (by simp)]; exact h
        rcases i with _ | i
        · simp only [hl 27 (by simp)]; exact h
        rcases i with _ | i
        · simp only [hl 28 (by simp)]; exact h
        rcases i with _ | i
        · simp only [hl 29 (by simp)]; exact h
        rcases i with _ | i
        · simp only [hl 30 (by simp)]; exact h
        rcases i with _ | i
        · simp only [hl 31 (by simp)]; exact h
        rcases i with _ | i
        · simp only [hl 32 (by simp)]; exact h
        rcases i with _ | i
        · simp only [hl 33 (by simp)]; exact h
        rcases i with _ | i
        · simp only [hl 34 (by simp)]; exact h
        rcases i with _ | i
        · simp only [hl 35 (by simp)]; exact h
        trivial
      case st =>
        intro i a w1 w2 h hb
        rcases i with _ | i
        · exact h
        rcases i with _ | i
        · exact h
        rcases i with _ | i
        · exact h
        rcases i with _ | i
        · exact h
        rcases i with _ | i
        · exact h
        rcases i with _ | i
        · exact h
        rcases i with _ | i
        · exact h
        rcases i with _ | i
        · exact h
        rcases i with _ | i
        · exact h
        rcases i with _ | i
        · exact h
        rcases i with _ | i
        · exact h
        rcases i with _ | i
        · exact h
        rcases i with _ | i
        · obtain ⟨b, h0, h1, h2, h3⟩ := h; exact ⟨b, h0, Nat.lt_of_lt_of_le h1 hb.size, by rw [hb.cell (by exact h1)]; exact h2, by rw [hb.cell (by exact h1)]; exact h3⟩
        rcases i with _ | i
        · exact own_below h hb
        rcases i with _ | i
        · exact h
        rcases i with _ | i
        · exact h
        trivial
      case op =>
        refine ⟨?_, ?_, ?_, ?_, ?_, ?_, ?_, ?_, ?_, ?_, ?_, ?_, ?_, ?_, ?_, ?_, trivial⟩
        all_goals intro a w1 hb1 hag hp
        all_goals simp [predsG, Region.binds] at hp
        all_goals have e7 : a.tmps[7]?.getD undef = .slice (some ⟨g, 0, none⟩) bs.length cap := hag.at_ 7 (by kernel_rfl)
        all_goals have e6 : a.tmps[6]?.getD undef = .int .i64 k := hag.at_ 6 (by kernel_rfl)
        all_goals have hc1 : w1.cell? ⟨g, k * 3 + 1, none⟩ = some (.slice A1 d.safe.length n1) := by rw [hb1.cell (by exact hgl)]; exact c1
        all_goals have hc2 : w1.cell? ⟨g, k * 3 + 2, none⟩ = some (.slice A2 d.fresh.length n2) := by rw [hb1.cell (by exact hgl)]; exact c2
        · exact opG_val (.slice (some ⟨g, 0, none⟩) bs.length cap) rfl rfl (by go_simp) (put_getD_same _ _ _ (by rw [hag.size]; simp))
        · exact opG_val (.int .i64 k) rfl rfl (by go_simp) (put_getD_same _ _ _ (by rw [hag.size]; simp))
        · exact opG_val (.slice (some ⟨g, 0, none⟩) bs.length cap) rfl rfl (by go_simp) (put_getD_same _ _ _ (by rw [hag.size]; simp))
        · exact opG_val (.int .i64 k) rfl rfl (by go_simp) (put_getD_same _ _ _ (by rw [hag.size]; simp))
        · exact opG_val (.pointer (some ⟨g, k * 3, none⟩)) rfl rfl (by go_simp) (put_getD_same _ _ _ (by rw [hag.size]; simp))
        · exact opG_val (.pointer (some ⟨g, k * 3 + 1, none⟩)) rfl rfl (by go_simp) (put_getD_same _ _ _ (by rw [hag.size]; simp))
        · exact opG_val (.slice A1 d.safe.length n1) rfl rfl (by go_simp) (put_getD_same _ _ _ (by rw [hag.size]; simp))
        · exact opG_val (.slice (some ⟨g, 0, none⟩) bs.length cap) rfl rfl (by go_simp) (put_getD_same _ _ _ (by rw [hag.size]; simp))
        · exact opG_val (.int .i64 k) rfl rfl (by go_simp) (put_getD_same _ _ _ (by rw [hag.size]; simp))
        · exact opG_val (.pointer (some ⟨g, k * 3, none⟩)) rfl rfl (by go_simp) (put_getD_same _ _ _ (by rw [hag.size]; simp))
        · exact opG_val (.pointer (some ⟨g, k * 3 + 2, none⟩)) rfl rfl (by go_simp) (put_getD_same _ _ _ (by rw [hag.size]; simp))
        · exact opG_val (.slice A2 d.fresh.length n2) rfl rfl (by go_simp) (put_getD_same _ _ _ (by rw [hag.size]; simp))
        · refine opG_grow (.slice (some ⟨w1.heap.size, 0, none⟩) 2 2) (w1.alloc (.cells #[.slice A1 d.safe.length n1, .slice A2 d.fresh.length n2] 32)) rfl rfl ?_ (below1 _ _) ?_
          · go_simp
          · exact ⟨w1.heap.size, put_getD_same _ _ _ (by rw [hag.size]; simp), by simp, by go_simp, by go_simp⟩
        · obtain ⟨b, hb0, hblt, hbc0, hbc1⟩ := hp
          refine opG_call 41 _ _ #[.slice (some ⟨b, 0, none⟩) 2 2] rfl rfl rfl (by simp [Act.eval, hb0]) (fun _ _ => by go_simp) ?_
          have hIS : IntsS w1 0 (some ⟨b, 0, none⟩) [d.safe, d.fresh] := intsS_two hblt hbc0 hbc1 ((HS.out.below hb1).less (Nat.zero_le _)) ((HF.out.below hb1).less (Nat.zero_le _))
          have hcc : Calls Try.prog 41 #[.slice (some ⟨b, 0, none⟩) 2 2] w1 _ := concatInts_any 0 (some ⟨b, 0, none⟩) 2 [d.safe, d.fresh] w1 hIS (by simp) (by simp; omega)
          with_reducible refine hcc.mono ?_
          rintro e w3 ⟨u, rfl, hown, hb3⟩
          refine ⟨u, rfl, ?_, hb3⟩
          rw [put_getD_same _ _ _ (by rw [hag.size]; simp)]
          have hown' := own_less hown (base' := w2.heap.size) hb1.size
          simpa using hown'
        · exact opG_val (.pointer (some ⟨g, k * 3, none⟩)) rfl rfl (by go_simp) (put_getD_same _ _ _ (by rw [hag.size]; simp))
        · exact opG_val (.pointer (some ⟨g, k * 3 + 1, none⟩)) rfl rfl (by go_simp) (put_getD_same _ _ _ (by rw [hag.size]; simp))
      case tl =>
        intro a w1 hb1 hag hF
        have e7 : a.tmps[7]?.getD undef = .slice (some ⟨g, 0, none⟩) bs.length cap := hag.at_ 7 (by kernel_rfl)
        have e6 : a.tmps[6]?.getD undef = .int .i64 k := hag.at_ 6 (by kernel_rfl)
        have h33 := hF 13 (by omega)
        have h35 := hF 15 (by omega)
        simp only [Array.getD_eq_getD_getElem?] at h33 h35
        obtain ⟨A5, n5, e33⟩ := own_form h33
        rw [e33] at h33
        have hrow := (HOB.out.below hb1).row
        have hfr := own_frozen hrow (k * 3 + 1)
        have hcl : w1.cell? ⟨g, k * 3 + 1, none⟩ = some (.slice A1 d.safe.length n1) := by rw [hb1.cell (by exact hgl)]; exact c1
        refine op_skip (w1.setCell ⟨g, k * 3 + 1, none⟩ (.slice A5 (d.safe ++ d.fresh).length n5)) rfl rfl rfl (by go_simp) ?_
        have HH := Lib.hid h33
        have HB := Lib.hid hb1
        have hc2 : w1.cell? ⟨g, k * 3 + 2, none⟩ = some (.slice A2 d.fresh.length n2) := by rw [hb1.cell (by exact hgl)]; exact c2
        have hfr2 := own_frozen hrow (k * 3 + 2)
        have ea := hag.lit [20, 21, 22, 23, 24, 25, 26, 27, 28, 29, 30, 31, 32, 33, 34, 35] (by kernel_rfl)
        simp [List.range, List.range.loop] at ea
        rw [ea]
        clear ea hag hF h35 h33 e33 hrow hcl hb1
        go_wp2
        go_ret2
        rw [HRB.out, HRR.out]
        refine ⟨_, rfl, ?_, ?_⟩
        · exact ⟨_, (HOB.out.below HB.out).set rfl HD.out rfl (by simpa using own_less HH.out HSZ.out) (World.ownsRow_nil _ _ _ _) (apart_set_new _ _ _ HOB.out.apart HOB.out.own_lt fun g hg => (World.ownsRow.lt HH.out g (by simpa using hg)).1)⟩
        · exact (Below.setCell (Below.setCell (HB2.out.trans (HB.out.mono HB2.out.size)) HGL.out _) HGL.out _)
end Go.Proofs.Ytjhfhlfiagggpaa
