/- impl.DiskCrash: the walk. -/
import Derived.Test.YtjhfhlfiagggpaaG2
namespace Go.Proofs.Ytjhfhlfiagggpaa
open Go Go.RowKit

set_option maxHeartbeats 4000000 in
set_option maxRecDepth 100000 in
theorem diskCrash_any (L : Nat) (v kv : Value) (bs : List BD) (ks : List Int) (w : World) (h : Blobs w L v bs) (hsm : smallBs bs) (hk : Ints w L kv ks) :
    Calls Try.prog 18 #[v, kv] w fun e w' => ∃ v', e = .returned (.tuple #[v', .bool (crashB bs ks)]) ∧ OBlobs w' w.heap.size v' (crashR bs ks) ∧ Below w.heap.size w w' := by
  have HV := Lib.hid (diskValid_any L v bs w h hsm)
  have HC := Lib.hid (fun (W : World) (hW : Below w.heap.size w W) => cloneDisk_any L v bs W (h.below hW) hsm)
  obtain ⟨A, c, rfl, hc, hcm⟩ := h.form
  obtain ⟨A', c', rfl, hc', hcm', hr'⟩ := hk
  have HK := Lib.hid (fun (W : World) (hW : Below w.heap.size w W) => show Ints W L (.slice A' ks.length c') ks from ⟨A', c', rfl, hc', hcm', hr'.below hW⟩)
  have HKI := Lib.hid (fun (W : World) (hW : Below w.heap.size w W) => keepIn_any A' c' L ks W (HK.out W hW))
  unfold maxLen at hcm hcm'
  clear h hr'
  cases hv : diskB bs
  · have HR := Lib.hid (show crashB bs ks = false by simp [crashB, hv])
    rw [hv] at HV
    go_enter Try.func18, Try.ntmps18
    go_wp2_with fail
    with_reducible refine HV.out.mono ?_
    rintro e w1 ⟨rfl, hb1⟩
    have HB := Lib.hid hb1
    clear hb1
    go_wp2_with fail
    go_ret2
    rw [HR.out]
    exact ⟨_, rfl, ⟨[], by rw [crashR, HR.out]; exact OB.nil⟩, HB.out⟩
  · rw [hv] at HV
    by_cases hl : ks.length ≤ 3
    · have hl0 : decide (3 < (ks.length : Int)) = false := by simp; omega
      cases hkb : keepB ks
      · have HR := Lib.hid (show crashB bs ks = false by simp [crashB, hkb])
        simp only [hkb] at HKI
        go_enter Try.func18, Try.ntmps18
        go_wp2_with fail
        with_reducible refine HV.out.mono ?_
        rintro e w1 ⟨rfl, hb1⟩
        go_wp2_with fail
        with_reducible refine (HKI.out _ hb1).mono ?_
        rintro e w2 ⟨rfl, hb2⟩
        have HB := Lib.hid (hb1.trans (hb2.mono hb1.size))
        clear hb1 hb2
        go_wp2_with fail
        go_ret2
        rw [HR.out]
        exact ⟨_, rfl, ⟨[], by rw [crashR, HR.out]; exact OB.nil⟩, HB.out⟩
      · have HR := Lib.hid (show crashB bs ks = true by simp [crashB, hkb, hv, hl])
        have HVB := Lib.hid hv
        have HKB := Lib.hid hkb
        simp only [hkb] at HKI
        clear hv hkb
        go_enter Try.func18, Try.ntmps18
        go_wp2_with fail
        with_reducible refine HV.out.mono ?_
        rintro e w1 ⟨rfl, hb1⟩
        go_wp2_with fail
        with_reducible refine (HKI.out _ hb1).mono ?_
        rintro e w2 ⟨rfl, hb2⟩
        have HB := Lib.hid (hb1.trans (hb2.mono hb1.size))
        clear hb1 hb2
        go_wp2_with fail
        with_reducible refine (HC.out _ HB.out).mono ?_
        rintro e w3 ⟨v', rfl, ⟨ivs, hob'⟩, hb3⟩
        have hob := hob'.less HB.out.size
        have HB3 := Lib.hid (HB.out.trans (hb3.mono HB.out.size))
        clear hob' hb3
        have HOB := Lib.hid hob
        obtain ⟨A5, c5, rfl⟩ := own_form hob.row
        clear hob
        go_wp2_with fail
        go_loopw [26] (fun i wr => ∃ (k : Nat) (ivs : List (Value × Value)), k ≤ bs.length ∧ i = .int .i64 k ∧ OB wr w.heap.size (.slice A5 bs.length c5) ((bs.take k).map (crashD ks) ++ bs.drop k) ivs ∧ Below w.heap.size w wr) (fun i _ => bs.length - (intOf i).toNat)
        case atStart => exact ⟨0, ivs, Nat.zero_le _, rfl, by simpa using HOB.out, HB3.out⟩
        case round =>
          clear HOB HB3 HB
          obtain ⟨k, ivs, hk, rfl, ho, hb⟩ := hrel
          have HO := Lib.hid ho
          have HBR := Lib.hid hb
          clear ho hb
          by_cases hlt : k < bs.length
          · obtain ⟨d, hd⟩ := get_of_lt hlt
            obtain ⟨hn1, hn3, hsl, _, _⟩ := diskB_get HVB.out hd
            have hML : ((bs.take k).map (crashD ks) ++ bs.drop k).length = bs.length := by simp; omega
            have hMd : ((bs.take k).map (crashD ks) ++ bs.drop k)[k]? = some d := by
              rw [List.getElem?_append_right (by simp; omega), List.getElem?_drop]
              simp only [List.length_map, List.length_take]
              rw [show k + (k - min k bs.length) = k from by omega]
              exact hd
            obtain ⟨g, cap, he, hgb, hgl⟩ := own_some HO.out.row (by omega)
            have hrow := HO.out.row
            rw [hML] at hrow
            injection he with he1 he2 he3
            subst he1
            subst he3
            obtain ⟨iv, hiv⟩ := get_of_lt (show k < ivs.length by have := HO.out.len; omega)
            have HS := Lib.hid (Sl.of_own (HO.out.safe k d iv hMd hiv))
            have HF := Lib.hid (Sl.of_own (HO.out.fresh k d iv hMd hiv))
            have hz := zip_get hMd hiv
            have hgc := fun m hm => flatMap_get bcells 3 (fun _ => rfl) _ k m _ hz hm
            have c0 : wr.cell? ⟨g, k * 3, none⟩ = some (.int .i64 d.name) := own_cell hrow (by simpa [bcells] using hgc 0 (by omega))
            have c1 : wr.cell? ⟨g, k * 3 + 1, none⟩ = some iv.1 := own_cell hrow (by simpa [bcells] using hgc 1 (by omega))
            have c2 : wr.cell? ⟨g, k * 3 + 2, none⟩ = some iv.2 := own_cell hrow (by simpa [bcells] using hgc 2 (by omega))
            obtain ⟨i1, i2⟩ := iv
            obtain ⟨A1, n1, rfl, hq1, hq2, _⟩ := HS.out
            obtain ⟨A2, n2, rfl, hq3, hq4, _⟩ := HF.out
            have HGB := Lib.hid hgb
            have HD := Lib.hid hd
            have HMD := Lib.hid hMd
            have HML := Lib.hid hML
            have hnn : ¬ ((k : Int) < 0) := by omega
            have hkI : (k : Int) < (bs.length : Int) := by omega
            have HIV := Lib.hid hiv
            have HN := Lib.hid (show 1 ≤ d.name ∧ d.name ≤ 3 ∧ d.safe.length + d.fresh.length ≤ 400 ∧ d.safe.length ≤ n1 ∧ d.fresh.length ≤ n2 ∧ n2 ≤ maxLen from ⟨hn1, hn3, hsl, hq1, hq3, hq4⟩)
            clear hn1 hn3 hsl hq1 hq2 hq3 hq4 he2
            clear hz hgc hd hMd hML hgb hiv hrow
            cases hnk : decide (d.name ≤ (ks.length : Int))
            · have HK0 := Lib.hid (show keptN ks d = 0 by rw [keptN, if_neg (by simpa using hnk)])
              have HF3 := Lib.hid (Ints.takeInts (show Ints wr w.heap.size (.slice A2 d.fresh.length n2) d.fresh from HF.out) (Nat.zero_le d.fresh.length))
              go_wp2_with fail
              refine wp_region_tailG (by kernel_rfl) 12 (fun i a w' => match i with
                  | 0 => (a.tmps.getD 46 undef) = .slice (some ⟨g, 0, none⟩) bs.length c5
                  | 1 => (a.tmps.getD 47 undef) = .int .i64 k
                  | 2 => (a.tmps.getD 48 undef) = .pointer (some ⟨wr.heap.size, 1, none⟩)
                  | 3 => (a.tmps.getD 49 undef) = .slice A1 d.safe.length n1
                  | 4 => (a.tmps.getD 50 undef) = .pointer (some ⟨wr.heap.size, 2, none⟩)
                  | 5 => (a.tmps.getD 51 undef) = .slice A2 d.fresh.length n2
                  | 6 => (a.tmps.getD 52 undef) = .int .i64 0
                  | 7 => (a.tmps.getD 53 undef) = .slice A2 0 n2
                  | 8 => ∃ b, (a.tmps.getD 54 undef) = .slice (some ⟨b, 0, none⟩) 2 2 ∧ b < w'.heap.size ∧ w'.cell? ⟨b, 0, none⟩ = some (.slice A1 d.safe.length n1) ∧ w'.cell? ⟨b, 1, none⟩ = some (.slice A2 0 n2)
                  | 9 => w'.ownsRow wr.heap.size 3 1 (a.tmps.getD 55 undef) (d.safe ++ d.fresh.take 0).length (ints (d.safe ++ d.fresh.take 0))
                  | 10 => (a.tmps.getD 56 undef) = .pointer (some ⟨g, k * 3, none⟩)
                  | 11 => (a.tmps.getD 57 undef) = .pointer (some ⟨g, k * 3 + 1, none⟩)
                  | _ => True) (fun i => match i with
                  | 0 => [46]
                  | 1 => [47]
                  | 2 => [48]
                  | 3 => [49]
                  | 4 => [50]
                  | 5 => [51]
                  | 6 => [52]
                  | 7 => [53]
                  | 8 => [54]
                  | 9 => [55]
                  | 10 => [56]
                  | 11 => [57]
                  | _ => []) (by kernel_rfl) (by kernel_rfl) (by kernel_rfl) ?loc ?st ?op ?tl
              case loc =>
                intro i a a' w' hl h
                rcases i with _ | i
                · simp only [hl 46 (by simp)]; exact h
                rcases i with _ | i
                · simp only [hl 47 (by simp)]; exact h
                rcases i with _ | i
                · simp only [hl 48 (by simp)]; exact h
                rcases i with _ | i
                · simp only [hl 49 (by simp)]; exact h
                rcases i with _ | i
                · simp only [hl 50 (by simp)]; exact h
                rcases i with _ | i
                · simp only [hl 51 (by simp)]; exact h
                rcases i with _ | i
                · simp only [hl 52 (by simp)]; exact h
                rcases i with _ | i
                · simp only [hl 53 (by simp)]; exact h
                rcases i with _ | i
                · simp only [hl 54 (by simp)]; exact h
                rcases i with _ | i
                · simp only [hl 55 (by simp)]; exact h
                rcases i with _ | i
                · simp only [hl 56 (by simp)]; exact h
                rcases i with _ | i
                · simp only [hl 57 (by simp)]; exact h
                trivial
              case st =>
                intro i a w1 w2 h hb
                rcases i with _ | i
                · exact h
                rcases i with _ | i
                · exact h
                rcases i with _ | i
                · exact h
                rcases i with _ | i
                · exact h
                rcases i with _ | i
                · exact h
                rcases i with _ | i
                · exact h
                rcases i with _ | i
                · exact h
                rcases i with _ | i
                · exact h
                rcases i with _ | i
                · obtain ⟨b, h0, h1, h2, h3⟩ := h; exact ⟨b, h0, Nat.lt_of_lt_of_le h1 hb.size, by rw [hb.cell (by exact h1)]; exact h2, by rw [hb.cell (by exact h1)]; exact h3⟩
                rcases i with _ | i
                · exact own_below h hb
                rcases i with _ | i
                · exact h
                rcases i with _ | i
                · exact h
                trivial
              case op =>
                refine ⟨?_, ?_, ?_, ?_, ?_, ?_, ?_, ?_, ?_, ?_, ?_, ?_, trivial⟩
                all_goals intro a w1 hb1 hag hp
                all_goals simp [predsG, Region.binds] at hp
                all_goals have e6 : a.tmps[6]?.getD undef = .slice (some ⟨g, 0, none⟩) bs.length c5 := hag.at_ 6 (by kernel_rfl)
                all_goals have e7 : a.tmps[7]?.getD undef = .int .i64 k := hag.at_ 7 (by kernel_rfl)
                all_goals have e8 : a.tmps[8]?.getD undef = .pointer (some ⟨wr.heap.size, 0, none⟩) := hag.at_ 8 (by kernel_rfl)
                all_goals have e9 : a.tmps[9]?.getD undef = .int .i64 0 := hag.at_ 9 (by kernel_rfl)
                all_goals have hbW : Below wr.heap.size wr w1 := (below1 wr _).trans (hb1.mono (by simp))
                all_goals have hx1 : w1.cell? ⟨wr.heap.size, 1, none⟩ = some (.slice A1 d.safe.length n1) := by rw [hb1.cell (by simp)]; go_simp
                all_goals have hx2 : w1.cell? ⟨wr.heap.size, 2, none⟩ = some (.slice A2 d.fresh.length n2) := by rw [hb1.cell (by simp)]; go_simp
                · exact opG_val (.slice (some ⟨g, 0, none⟩) bs.length c5) rfl rfl (by go_simp) (put_getD_same _ _ _ (by rw [hag.size]; simp))
                · exact opG_val (.int .i64 k) rfl rfl (by go_simp) (put_getD_same _ _ _ (by rw [hag.size]; simp))
                · exact opG_val (.pointer (some ⟨wr.heap.size, 1, none⟩)) rfl rfl (by go_simp) (put_getD_same _ _ _ (by rw [hag.size]; simp))
                · exact opG_val (.slice A1 d.safe.length n1) rfl rfl (by go_simp) (put_getD_same _ _ _ (by rw [hag.size]; simp))
                · exact opG_val (.pointer (some ⟨wr.heap.size, 2, none⟩)) rfl rfl (by go_simp) (put_getD_same _ _ _ (by rw [hag.size]; simp))
                · exact opG_val (.slice A2 d.fresh.length n2) rfl rfl (by go_simp) (put_getD_same _ _ _ (by rw [hag.size]; simp))
                · exact opG_val (.int .i64 0) rfl rfl (by go_simp) (put_getD_same _ _ _ (by rw [hag.size]; simp))
                · exact opG_val (.slice A2 0 n2) rfl rfl (by go_simp) (put_getD_same _ _ _ (by rw [hag.size]; simp))
                · refine opG_grow (.slice (some ⟨w1.heap.size, 0, none⟩) 2 2) (w1.alloc (.cells #[.slice A1 d.safe.length n1, .slice A2 0 n2] 32)) rfl rfl ?_ (below1 _ _) ?_
                  · go_simp
                  · exact ⟨w1.heap.size, put_getD_same _ _ _ (by rw [hag.size]; simp), by simp, by go_simp, by go_simp⟩
                · obtain ⟨b', hb0, hblt, hbc0, hbc1⟩ := hp
                  refine opG_call 41 _ _ #[.slice (some ⟨b', 0, none⟩) 2 2] rfl rfl rfl (by simp [Act.eval, hb0]) (fun _ _ => by go_simp) ?_
                  have hIS : IntsS w1 0 (some ⟨b', 0, none⟩) [d.safe, d.fresh.take 0] := intsS_two hblt hbc0 hbc1 ((HS.out.below hbW).less (Nat.zero_le _)) ((HF3.out.below hbW).less (Nat.zero_le _))
                  have hcc : Calls Try.prog 41 #[.slice (some ⟨b', 0, none⟩) 2 2] w1 _ := concatInts_any 0 (some ⟨b', 0, none⟩) 2 [d.safe, d.fresh.take 0] w1 hIS (by simp) (by have := HN.out; simp; omega)
                  with_reducible refine hcc.mono ?_
                  rintro e w3 ⟨u, rfl, hown, hb3⟩
                  refine ⟨u, rfl, ?_, hb3⟩
                  rw [put_getD_same _ _ _ (by rw [hag.size]; simp)]
                  have hown' := own_less hown (base' := wr.heap.size) hbW.size
                  simpa using hown'
                · exact opG_val (.pointer (some ⟨g, k * 3, none⟩)) rfl rfl (by go_simp) (put_getD_same _ _ _ (by rw [hag.size]; simp))
                · exact opG_val (.pointer (some ⟨g, k * 3 + 1, none⟩)) rfl rfl (by go_simp) (put_getD_same _ _ _ (by rw [hag.size]; simp))
              case tl =>
                intro a w1 hb1 hag hF
                have e6 : a.tmps[6]?.getD undef = .slice (some ⟨g, 0, none⟩) bs.length c5 := hag.at_ 6 (by kernel_rfl)
                have e7 : a.tmps[7]?.getD undef = .int .i64 k := hag.at_ 7 (by kernel_rfl)
                have e8 : a.tmps[8]?.getD undef = .pointer (some ⟨wr.heap.size, 0, none⟩) := hag.at_ 8 (by kernel_rfl)
                have e9 : a.tmps[9]?.getD undef = .int .i64 0 := hag.at_ 9 (by kernel_rfl)
                have hbW : Below wr.heap.size wr w1 := (below1 wr _).trans (hb1.mono (by simp))
                have h55 := hF 9 (by omega)
                have h57 := hF 11 (by omega)
                simp only [Array.getD_eq_getD_getElem?] at h55 h57
                obtain ⟨A6, n6, e55⟩ := own_form h55
                rw [e55] at h55
                have hrow := (HO.out.below hbW).row
                rw [HML.out] at hrow
                have hfr := own_frozen hrow (k * 3 + 1)
                have hcl : w1.cell? ⟨g, k * 3 + 1, none⟩ = some (.slice A1 d.safe.length n1) := by rw [hbW.cell (by exact hgl)]; exact c1
                refine op_skip (w1.setCell ⟨g, k * 3 + 1, none⟩ (.slice A6 (d.safe ++ d.fresh.take 0).length n6)) rfl rfl rfl (by go_simp) ?_
                have HH := Lib.hid h55
                have HBW := Lib.hid hbW
                have hc2 : w1.cell? ⟨g, k * 3 + 2, none⟩ = some (.slice A2 d.fresh.length n2) := by rw [hbW.cell (by exact hgl)]; exact c2
                have hfr2 := own_frozen hrow (k * 3 + 2)
                have ea := hag.lit [46, 47, 48, 49, 50, 51, 52, 53, 54, 55, 56, 57] (by kernel_rfl)
                simp [List.range, List.range.loop] at ea
                rw [ea]
                clear ea hag hF h55 h57 e55 hrow hcl hb1 hbW
                go_wp2_with fail
                go_roundw
                case rel =>
                  have hcd : crashD ks d = ⟨d.name, (d.safe ++ d.fresh.take 0), []⟩ := by rw [crashD, HK0.out]
                  have hset := (HO.out.below HBW.out).set (d' := ⟨d.name, (d.safe ++ d.fresh.take 0), []⟩) HML.out.symm HMD.out rfl (by simpa using own_less HH.out HBR.out.size) (World.ownsRow_nil _ _ _ _) (apart_set_new _ _ _ HO.out.apart HO.out.own_lt fun g hg => (World.ownsRow.lt HH.out g (by simpa using hg)).1)
                  rw [← hcd, crash_step bs ks k d HD.out] at hset
                  skip
                  exact ⟨k + 1, _, by omega, by go_num, hset, Below.setCell (Below.setCell (HBR.out.trans (HBW.out.mono HBR.out.size)) HGB.out _) HGB.out _⟩
                case measure => simp [intOf]; omega
            · have hnI : d.name ≤ (ks.length : Int) := by simpa using hnk
              obtain ⟨m, hm⟩ : ∃ m : Nat, d.name = (m : Int) + 1 := ⟨(d.name - 1).toNat, by have := HN.out.1; omega⟩
              have hml : m < ks.length := by omega
              obtain ⟨x, hx⟩ := get_of_lt hml
              have hx400 : 0 ≤ x ∧ x ≤ 400 := by
                have := List.all_eq_true.1 HKB.out x (List.mem_of_getElem? hx)
                simpa [inB] using this
              obtain ⟨Ak, ck, hke, _, _, hrk⟩ := HK.out wr HBR.out
              injection hke with hk1 _ hk3
              obtain ⟨bk, offk, rfl, _, hbk, hck⟩ := hrk.2 (by omega)
              subst hk1
              have hcx := hck m (.int .i64 x) (by simp [ints, hx])
              have HMN := Lib.hid hm
              have HXX := Lib.hid hx
              have HX4 := Lib.hid hx400
              have hwm : IntKind.i64.wrap (d.name - 1) = (m : Int) := by
                rw [hm, show (m : Int) + 1 - 1 = m from by omega]
                have := HN.out
                rw [IntKind.wrap_i64]
                omega
              have hmn : ¬ ((m : Int) < 0) := by omega
              have hmI : (m : Int) < (ks.length : Int) := by omega
              clear hck hrk hm hx hx400 hk3 hnI
              go_wp2_with fail
              obtain ⟨kn, hkn, hkn2⟩ : ∃ kn : Nat, (if (d.fresh.length : Int) < x then (d.fresh.length : Int) else x) = kn ∧ kn ≤ d.fresh.length := by
                have := HX4.out
                split
                · exact ⟨_, rfl, Nat.le_refl _⟩
                · exact ⟨x.toNat, by omega, by omega⟩
              have HKN := Lib.hid hkn
              have HK0 := Lib.hid (show keptN ks d = kn by
                rw [keptN, if_pos (by simpa using hnk), HMN.out, show ((m : Int) + 1).toNat - 1 = m from by omega, List.getD_eq_getElem?_getD, HXX.out, Option.getD_some, Int.min_def]
                have := HX4.out
                split <;> split at hkn <;> omega)
              have HF3 := Lib.hid (Ints.takeInts (show Ints wr w.heap.size (.slice A2 d.fresh.length n2) d.fresh from HF.out) hkn2)
              clear hkn
              go_quiet (fail)
              rw [HKN.out]
              have hk0 : ¬ ((kn : Int) < 0) := by omega
              have hkn3 : (kn : Int) ≤ (n2 : Int) := by have := HN.out; omega
              go_wp2_with fail
              refine wp_region_tailG (by kernel_rfl) 12 (fun i a w' => match i with
                  | 0 => (a.tmps.getD 46 undef) = .slice (some ⟨g, 0, none⟩) bs.length c5
                  | 1 => (a.tmps.getD 47 undef) = .int .i64 k
                  | 2 => (a.tmps.getD 48 undef) = .pointer (some ⟨wr.heap.size, 1, none⟩)
                  | 3 => (a.tmps.getD 49 undef) = .slice A1 d.safe.length n1
                  | 4 => (a.tmps.getD 50 undef) = .pointer (some ⟨wr.heap.size, 2, none⟩)
                  | 5 => (a.tmps.getD 51 undef) = .slice A2 d.fresh.length n2
                  | 6 => (a.tmps.getD 52 undef) = .int .i64 kn
                  | 7 => (a.tmps.getD 53 undef) = .slice A2 kn n2
                  | 8 => ∃ b, (a.tmps.getD 54 undef) = .slice (some ⟨b, 0, none⟩) 2 2 ∧ b < w'.heap.size ∧ w'.cell? ⟨b, 0, none⟩ = some (.slice A1 d.safe.length n1) ∧ w'.cell? ⟨b, 1, none⟩ = some (.slice A2 kn n2)
                  | 9 => w'.ownsRow wr.heap.size 3 1 (a.tmps.getD 55 undef) (d.safe ++ d.fresh.take kn).length (ints (d.safe ++ d.fresh.take kn))
                  | 10 => (a.tmps.getD 56 undef) = .pointer (some ⟨g, k * 3, none⟩)
                  | 11 => (a.tmps.getD 57 undef) = .pointer (some ⟨g, k * 3 + 1, none⟩)
                  | _ => True) (fun i => match i with
                  | 0 => [46]
                  | 1 => [47]
                  | 2 => [48]
                  | 3 => [49]
                  | 4 => [50]
                  | 5 => [51]
                  | 6 => [52]
                  | 7 => [53]
                  | 8 => [54]
                  | 9 => [55]
                  | 10 => [56]
                  | 11 => [57]
                  | _ => []) (by kernel_rfl) (by kernel_rfl) (by kernel_rfl) ?loc ?st ?op ?tl
              case loc =>
                intro i a a' w' hl h
                rcases i with _ | i
                · simp only [hl 46 (by simp)]; exact h
                rcases i with _ | i
                · simp only [hl 47 (by simp)]; exact h
                rcases i with _ | i
                · simp only [hl 48 (by simp)]; exact h
                rcases i with _ | i
                · simp only [hl 49 (by simp)]; exact h
                rcases i with _ | i
                · simp only [hl 50 (by simp)]; exact h
                rcases i with _ | i
                · simp only [hl 51 (by simp)]; exact h
                rcases i with _ | i
                · simp only [hl 52 (by simp)]; exact h
                rcases i with _ | i
                · simp only [hl 53 (by simp)]; exact h
                rcases i with _ | i
                · simp only [hl 54 (by simp)]; exact h
                rcases i with _ | i
                · simp only [hl 55 (by simp)]; exact h
                rcases i with _ | i
                · simp only [hl 56 (by simp)]; exact h
                rcases i with _ | i
                · simp only [hl 57 (by simp)]; exact h
                trivial
              case st =>
                intro i a w1 w2 h hb
                rcases i with _ | i
                · exact h
                rcases i with _ | i
                · exact h
                rcases i with _ | i
                · exact h
                rcases i with _ | i
                · exact h
                rcases i with _ | i
                · exact h
                rcases i with _ | i
                · exact h
                rcases i with _ | i
                · exact h
                rcases i with _ | i
                · exact h
                rcases i with _ | i
                · obtain ⟨b, h0, h1, h2, h3⟩ := h; exact ⟨b, h0, Nat.lt_of_lt_of_le h1 hb.size, by rw [hb.cell (by exact h1)]; exact h2, by rw [hb.cell (by exact h1)]; exact h3⟩
                rcases i with _ | i
                · exact own_below h hb
                rcases i with _ | i
                · exact h
                rcases i with _ | i
                · exact h
                trivial
              case op =>
                refine ⟨?_, ?_, ?_, ?_, ?_, ?_, ?_, ?_, ?_, ?_, ?_, ?_, trivial⟩
                all_goals intro a w1 hb1 hag hp
                all_goals simp [predsG, Region.binds] at hp
                all_goals have e6 : a.tmps[6]?.getD undef = .slice (some ⟨g, 0, none⟩) bs.length c5 := hag.at_ 6 (by kernel_rfl)
                all_goals have e7 : a.tmps[7]?.getD undef = .int .i64 k := hag.at_ 7 (by kernel_rfl)
                all_goals have e8 : a.tmps[8]?.getD undef = .pointer (some ⟨wr.heap.size, 0, none⟩) := hag.at_ 8 (by kernel_rfl)
                all_goals have e9 : a.tmps[9]?.getD undef = .int .i64 kn := hag.at_ 9 (by kernel_rfl)
                all_goals have hbW : Below wr.heap.size wr w1 := (Below.drewN (below1 wr _) _).trans (hb1.mono (by simp))
                all_goals have hx1 : w1.cell? ⟨wr.heap.size, 1, none⟩ = some (.slice A1 d.safe.length n1) := by rw [hb1.cell (by simp)]; go_simp
                all_goals have hx2 : w1.cell? ⟨wr.heap.size, 2, none⟩ = some (.slice A2 d.fresh.length n2) := by rw [hb1.cell (by simp)]; go_simp
                · exact opG_val (.slice (some ⟨g, 0, none⟩) bs.length c5) rfl rfl (by go_simp) (put_getD_same _ _ _ (by rw [hag.size]; simp))
                · exact opG_val (.int .i64 k) rfl rfl (by go_simp) (put_getD_same _ _ _ (by rw [hag.size]; simp))
                · exact opG_val (.pointer (some ⟨wr.heap.size, 1, none⟩)) rfl rfl (by go_simp) (put_getD_same _ _ _ (by rw [hag.size]; simp))
                · exact opG_val (.slice A1 d.safe.length n1) rfl rfl (by go_simp) (put_getD_same _ _ _ (by rw [hag.size]; simp))
                · exact opG_val (.pointer (some ⟨wr.heap.size, 2, none⟩)) rfl rfl (by go_simp) (put_getD_same _ _ _ (by rw [hag.size]; simp))
                · exact opG_val (.slice A2 d.fresh.length n2) rfl rfl (by go_simp) (put_getD_same _ _ _ (by rw [hag.size]; simp))
                · exact opG_val (.int .i64 kn) rfl rfl (by go_simp) (put_getD_same _ _ _ (by rw [hag.size]; simp))
                · exact opG_val (.slice A2 kn n2) rfl rfl (by go_simp) (put_getD_same _ _ _ (by rw [hag.size]; simp))
                · refine opG_grow (.slice (some ⟨w1.heap.size, 0, none⟩) 2 2) (w1.alloc (.cells #[.slice A1 d.safe.length n1, .slice A2 kn n2] 32)) rfl rfl ?_ (below1 _ _) ?_
                  · go_simp
                  · exact ⟨w1.heap.size, put_getD_same _ _ _ (by rw [hag.size]; simp), by simp, by go_simp, by go_simp⟩
                · obtain ⟨b', hb0, hblt, hbc0, hbc1⟩ := hp
                  refine opG_call 41 _ _ #[.slice (some ⟨b', 0, none⟩) 2 2] rfl rfl rfl (by simp [Act.eval, hb0]) (fun _ _ => by go_simp) ?_
                  have hIS : IntsS w1 0 (some ⟨b', 0, none⟩) [d.safe, d.fresh.take kn] := intsS_two hblt hbc0 hbc1 ((HS.out.below hbW).less (Nat.zero_le _)) ((HF3.out.below hbW).less (Nat.zero_le _))
                  have hcc : Calls Try.prog 41 #[.slice (some ⟨b', 0, none⟩) 2 2] w1 _ := concatInts_any 0 (some ⟨b', 0, none⟩) 2 [d.safe, d.fresh.take kn] w1 hIS (by simp) (by have := HN.out; simp; omega)
                  with_reducible refine hcc.mono ?_
                  rintro e w3 ⟨u, rfl, hown, hb3⟩
                  refine ⟨u, rfl, ?_, hb3⟩
                  rw [put_getD_same _ _ _ (by rw [hag.size]; simp)]
                  have hown' := own_less hown (base' := wr.heap.size) hbW.size
                  simpa using hown'
                · exact opG_val (.pointer (some ⟨g, k * 3, none⟩)) rfl rfl (by go_simp) (put_getD_same _ _ _ (by rw [hag.size]; simp))
                · exact opG_val (.pointer (some ⟨g, k * 3 + 1, none⟩)) rfl rfl (by go_simp) (put_getD_same _ _ _ (by rw [hag.size]; simp))
              case tl =>
                intro a w1 hb1 hag hF
                have e6 : a.tmps[6]?.getD undef = .slice (some ⟨g, 0, none⟩) bs.length c5 := hag.at_ 6 (by kernel_rfl)
                have e7 : a.tmps[7]?.getD undef = .int .i64 k := hag.at_ 7 (by kernel_rfl)
                have e8 : a.tmps[8]?.getD undef = .pointer (some ⟨wr.heap.size, 0, none⟩) := hag.at_ 8 (by kernel_rfl)
                have e9 : a.tmps[9]?.getD undef = .int .i64 kn := hag.at_ 9 (by kernel_rfl)
                have hbW : Below wr.heap.size wr w1 := (Below.drewN (below1 wr _) _).trans (hb1.mono (by simp))
                have h55 := hF 9 (by omega)
                have h57 := hF 11 (by omega)
                simp only [Array.getD_eq_getD_getElem?] at h55 h57
                obtain ⟨A6, n6, e55⟩ := own_form h55
                rw [e55] at h55
                have hrow := (HO.out.below hbW).row
                rw [HML.out] at hrow
                have hfr := own_frozen hrow (k * 3 + 1)
                have hcl : w1.cell? ⟨g, k * 3 + 1, none⟩ = some (.slice A1 d.safe.length n1) := by rw [hbW.cell (by exact hgl)]; exact c1
                refine op_skip (w1.setCell ⟨g, k * 3 + 1, none⟩ (.slice A6 (d.safe ++ d.fresh.take kn).length n6)) rfl rfl rfl (by go_simp) ?_
                have HH := Lib.hid h55
                have HBW := Lib.hid hbW
                have hc2 : w1.cell? ⟨g, k * 3 + 2, none⟩ = some (.slice A2 d.fresh.length n2) := by rw [hbW.cell (by exact hgl)]; exact c2
                have hfr2 := own_frozen hrow (k * 3 + 2)
                have ea := hag.lit [46, 47, 48, 49, 50, 51, 52, 53, 54, 55, 56, 57] (by kernel_rfl)
                simp [List.range, List.range.loop] at ea
                rw [ea]
                clear ea hag hF h55 h57 e55 hrow hcl hb1 hbW
                go_wp2_with fail
                go_roundw
                case rel =>
                  have hcd : crashD ks d = ⟨d.name, (d.safe ++ d.fresh.take kn), []⟩ := by rw [crashD, HK0.out]
                  have hset := (HO.out.below HBW.out).set (d' := ⟨d.name, (d.safe ++ d.fresh.take kn), []⟩) HML.out.symm HMD.out rfl (by simpa using own_less HH.out HBR.out.size) (World.ownsRow_nil _ _ _ _) (apart_set_new _ _ _ HO.out.apart HO.out.own_lt fun g hg => (World.ownsRow.lt HH.out g (by simpa using hg)).1)
                  rw [← hcd, crash_step bs ks k d HD.out] at hset
                  rw [Nat.min_eq_left hkn2] at hset
                  exact ⟨k + 1, _, by omega, by go_num, hset, Below.setCell (Below.setCell (HBR.out.trans (HBW.out.mono HBR.out.size)) HGB.out _) HGB.out _⟩
                case measure => simp [intOf]; omega
          · have hk' : k = bs.length := by omega
            go_wp2_with fail
            go_ret2
            rw [HR.out]
            exact ⟨_, rfl, ⟨ivs, by have := HO.out; rw [crashR, HR.out, if_pos rfl]; rw [hk', List.take_length, List.drop_length, List.append_nil] at this; exact this⟩, HBR.out⟩
    · have hl0 : decide (3 < (ks.length : Int)) = true := by simp; omega
      have HR := Lib.hid (show crashB bs ks = false by simp [crashB]; intro _ h3; omega)
      go_enter Try.func18, Try.ntmps18
      go_wp2_with fail
      with_reducible refine HV.out.mono ?_
      rintro e w1 ⟨rfl, hb1⟩
      have HB := Lib.hid hb1
      clear hb1
      go_wp2_with fail
      go_ret2
      rw [HR.out]
      exact ⟨_, rfl, ⟨[], by rw [crashR, HR.out]; exact OB.nil⟩, HB.out⟩

end Go.Proofs.Ytjhfhlfiagggpaa
