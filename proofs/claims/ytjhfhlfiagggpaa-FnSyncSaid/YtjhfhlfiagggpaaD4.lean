/- spec.l31Find, spec.DiskValid. -/
import Derived.Test.YtjhfhlfiagggpaaD3
namespace Go.Proofs.Ytjhfhlfiagggpaa
open Go Go.RowKit

def isAt (bs : List BD) (nm : Int) (j : Nat) : Bool := match bs[j]? with | some d => eqB d.name nm | none => false
theorem fileIx_isAt (bs : List BD) (nm : Int) : fileIx bs nm = firstIx (isAt bs nm) bs.length 0 := (fileIx_eq bs nm).symm
theorem isAt_get {bs : List BD} {nm : Int} {k : Nat} {d : BD} (h : bs[k]? = some d) : isAt bs nm k = eqB d.name nm := by simp [isAt, h]

set_option maxHeartbeats 400000 in
set_option maxRecDepth 100000 in
theorem l31Find_any (L : Nat) (v : Value) (bs : List BD) (nm : Int) (w : World) (hs : Blobs w L v bs) :
    Calls Try.prog 43 #[v, .int .i64 nm] w fun e w' => e = .returned (.int .i64 (fileIx bs nm)) ∧ w' = w := by
  obtain ⟨A, c, rfl, hc, hcm⟩ := hs.form
  unfold maxLen at hcm
  have HR := Lib.hid hs
  clear hs
  have H0 := Lib.hid (fileIx_isAt bs nm)
  go_enter Try.func43, Try.ntmps43
  go_wp2_with fail
  go_loop [4, 5] (fun _ i => ∃ k : Nat, k ≤ bs.length ∧ i = .int .i64 k ∧ fileIx bs nm = firstIx (isAt bs nm) (bs.length - k) k) (fun _ i => bs.length - (intOf i).toNat)
  case atStart => exact ⟨0, Nat.zero_le _, rfl, H0.out⟩
  case round =>
    obtain ⟨k, hk, rfl, hfi⟩ := hrel
    have HI := Lib.hid hfi
    clear hfi
    by_cases hlt : k < bs.length
    · obtain ⟨d, hd⟩ := get_of_lt hlt
      obtain ⟨b, off, u1, u2, rfl, _, hbl, c0, c1, c2, hs1, hs2⟩ := HR.out.at_ hd
      have HX := Lib.hid (isAt_get (nm := nm) hd)
      clear hs1 hs2 hd
      by_cases hn : d.name = nm
      · have hb : (d.name == nm) = true := by simp [hn]
        have HP := Lib.hid (show isAt bs nm k = true by rw [HX.out]; exact eqB_tt hn)
        clear hn
        go_wp2_with fail
        go_ret
        exact ⟨ret_int (by rw [HI.out, show bs.length - k = (bs.length - (k + 1)) + 1 from by omega]; simp [firstIx, HP.out]), rfl⟩
      · have hb : (d.name == nm) = false := by simp [hn]
        have HP := Lib.hid (show isAt bs nm k = false by rw [HX.out]; exact eqB_ff hn)
        clear hn
        go_wp2_with fail
        go_round
        case rel => exact ⟨k + 1, by omega, by go_num, by rw [HI.out, show bs.length - k = (bs.length - (k + 1)) + 1 from by omega]; simp [firstIx, HP.out]⟩
        case measure => simp [intOf]; omega
    · have hk' : k = bs.length := by omega
      go_wp2_with fail
      go_ret
      exact ⟨ret_int (by rw [HI.out, show bs.length - k = 0 from by omega]; simp [firstIx]), rfl⟩

/-- What the loop of spec's DiskValid knows of the number before. -/
def lastAt (bs : List BD) (k : Nat) (last : Int) : Prop := (k = 0 ∧ last = 0) ∨ (∃ (j : Nat) (d : BD), k = j + 1 ∧ bs[j]? = some d ∧ d.name = last ∧ 1 ≤ last ∧ last ≤ 3)

set_option maxHeartbeats 4000000 in
set_option maxRecDepth 100000 in
theorem specDiskValid_any (L : Nat) (v : Value) (bs : List BD) (w : World) (h : Blobs w L v bs) (hsm : smallBs bs) :
    Calls Try.prog 42 #[v] w fun e w' => e = .returned (.bool (diskB bs)) ∧ Below w.heap.size w w' := by
  obtain ⟨A, c, rfl, hc, hcm⟩ := h.form
  have H := Lib.hid h
  have HSM := Lib.hid hsm
  clear h hsm
  unfold maxLen at hcm
  go_enter Try.func42, Try.ntmps42
  go_wp2_with fail
  go_loopw [2, 3] (fun _ i wr => ∃ (k : Nat) (last : Int), k ≤ bs.length ∧ i = .int .i64 k ∧ lastAt bs k last ∧ diskB bs = diskFrom last (bs.drop k) ∧ Below w.heap.size w wr) (fun _ i _ => bs.length - (intOf i).toNat)
  case atStart => exact ⟨0, 0, Nat.zero_le _, rfl, .inl ⟨rfl, rfl⟩, rfl, Below.refl _ _⟩
  case round =>
    obtain ⟨k, last, hk, rfl, hla, hd0, hb⟩ := hrel
    have HD := Lib.hid hd0
    have HB := Lib.hid hb
    have HLA := Lib.hid hla
    clear hd0 hb hla
    by_cases hlt : k < bs.length
    · obtain ⟨d, hd⟩ := get_of_lt hlt
      obtain ⟨hsl, hfl⟩ := HSM.out.2 k d hd
      have hBl := H.out.below HB.out
      obtain ⟨b, off, u1, u2, rfl, _, hbl, c0, c1, c2, hs, hf⟩ := hBl.at_ hd
      have HX := Lib.hid (show diskB bs = (blobB last d && diskFrom d.name (bs.drop (k + 1))) by rw [HD.out, drop_of_get hd]; rfl)
      have HG := Lib.hid hd
      clear hd HD
      obtain ⟨A1, n1, rfl, hn1, hm1, hr1⟩ := hs
      obtain ⟨A2, n2, rfl, hn2, hm2, hr2⟩ := hf
      have HS := Lib.hid hr1
      have HF := Lib.hid hr2
      clear hr1 hr2
      have hB2 := Lib.hid (fun (W : World) (hW : Below wr.heap.size wr W) => (l4Bytes_any L (.slice A1 d.safe.length n1) d.safe W ⟨A1, n1, rfl, hn1, hm1, HS.out.below hW⟩))
      have hB3 := Lib.hid (fun (W : World) (hW : Below wr.heap.size wr W) => (l4Bytes_any L (.slice A2 d.fresh.length n2) d.fresh W ⟨A2, n2, rfl, hn2, hm2, HF.out.below hW⟩))
      unfold maxLen at hm1 hm2
      have HBL := Lib.hid hBl
      clear hBl
      cases e1 : inB d.name 1 3
      · have HN := Lib.hid (show blobB last d = false by
          simp [inB] at e1
          rcases HLA.out with ⟨_, h⟩ | ⟨j, d', _, _, _, h, _⟩ <;> simp [blobB, inB] <;> omega)
        go_wp2_with fail
        go_quiet ((first | (go_at_call 49; exact Calls.quiet_of_same (l6In_any _ _ _ _)) | (go_at_call 70; with_reducible first | exact Calls.quiet_of_same (hB2.out _ (Below.drewN (below1 _ _) _)) | exact Calls.quiet_of_same (hB3.out _ (Below.drewN (below1 _ _) _)))))
        go_wp2_with fail
        go_ret
        exact ⟨ret_bool (by rw [HX.out, HN.out]; rfl), HB.out.trans ((Below.drewN (below1 _ _) _).mono HB.out.size)⟩
      · cases e2 : bytesB d.safe
        · have HN := Lib.hid (show blobB last d = false by simp [blobB, e2])
          go_wp2_with fail
          go_quiet ((first | (go_at_call 49; exact Calls.quiet_of_same (l6In_any _ _ _ _)) | (go_at_call 70; with_reducible first | exact Calls.quiet_of_same (hB2.out _ (Below.drewN (below1 _ _) _)) | exact Calls.quiet_of_same (hB3.out _ (Below.drewN (below1 _ _) _)))))
          go_wp2_with fail
          go_ret
          exact ⟨ret_bool (by rw [HX.out, HN.out]; rfl), HB.out.trans ((Below.drewN (below1 _ _) _).mono HB.out.size)⟩
        · cases e3 : bytesB d.fresh
          · have HN := Lib.hid (show blobB last d = false by simp [blobB, e3])
            go_wp2_with fail
            go_quiet ((first | (go_at_call 49; exact Calls.quiet_of_same (l6In_any _ _ _ _)) | (go_at_call 70; with_reducible first | exact Calls.quiet_of_same (hB2.out _ (Below.drewN (below1 _ _) _)) | exact Calls.quiet_of_same (hB3.out _ (Below.drewN (below1 _ _) _)))))
            go_wp2_with fail
            go_ret
            exact ⟨ret_bool (by rw [HX.out, HN.out]; rfl), HB.out.trans ((Below.drewN (below1 _ _) _).mono HB.out.size)⟩
          · by_cases h4 : d.safe.length + d.fresh.length ≤ 400
            · have h5 : decide (400 < (d.safe.length : Int) + (d.fresh.length : Int)) = false := by simp; omega
              have HE := Lib.hid (And.intro e1 (And.intro e2 (And.intro e3 h4)))
              clear h4
              rcases HLA.out with ⟨hk0, hl0⟩ | ⟨j, d', hkj, hgj, hnj, hj1, hj3⟩
              · subst hk0
                subst hl0
                simp only [Nat.zero_mul, Nat.add_zero] at c0 c1 c2
                have HN := Lib.hid (show blobB 0 d = true by have := HE.out; simp [blobB, this.1, this.2.1, this.2.2.1, this.2.2.2])
                have H6 := Lib.hid (show 1 ≤ d.name ∧ d.name ≤ 3 by have := HE.out.1; simp [inB] at this; omega)
                go_wp2_with fail
                go_quiet ((first | (go_at_call 49; exact Calls.quiet_of_same (l6In_any _ _ _ _)) | (go_at_call 70; with_reducible first | exact Calls.quiet_of_same (hB2.out _ (Below.drewN (below1 _ _) _)) | exact Calls.quiet_of_same (hB3.out _ (Below.drewN (below1 _ _) _)))))
                go_wp2_with fail
                go_roundw
                case rel => exact ⟨1, d.name, by omega, by go_num, .inr ⟨0, d, rfl, HG.out, rfl, H6.out.1, H6.out.2⟩, by rw [HX.out, HN.out]; rfl, HB.out.trans ((Below.drewN (below1 _ _) _).mono HB.out.size)⟩
                case measure => simp [intOf]; omega
              · subst hkj
                obtain ⟨b2, off2, z1, z2, hA, _, hbl2, g0, g1, g2, _, _⟩ := HBL.out.at_ hgj
                injection hA with hA
                injection hA with hA1 hA2
                subst hA1
                subst hA2
                rw [hnj] at g0
                have HNJ := Lib.hid hnj
                clear hnj g1 g2
                have hjl : (0 : Int) ≤ (j : Int) := by omega
                have hjl2 : (j : Int) < (bs.length : Int) := by omega
                by_cases h7 : last < d.name
                · have h8 : decide (d.name ≤ last) = false := by simp; omega
                  have HN := Lib.hid (show blobB last d = true by have := HE.out; have h9 := this.1; simp [inB] at h9; simp [blobB, inB, this.2.1, this.2.2.1, this.2.2.2]; omega)
                  have H6 := Lib.hid (show 1 ≤ d.name ∧ d.name ≤ 3 by have := HE.out.1; simp [inB] at this; omega)
                  go_wp2_with fail
                  go_quiet ((first | (go_at_call 49; exact Calls.quiet_of_same (l6In_any _ _ _ _)) | (go_at_call 70; with_reducible first | exact Calls.quiet_of_same (hB2.out _ (Below.drewN (below1 _ _) _)) | exact Calls.quiet_of_same (hB3.out _ (Below.drewN (below1 _ _) _)))))
                  go_wp2_with fail
                  go_roundw
                  case rel => exact ⟨j + 1 + 1, d.name, by omega, by go_num, .inr ⟨j + 1, d, rfl, HG.out, rfl, H6.out.1, H6.out.2⟩, by rw [HX.out, HN.out]; rfl, HB.out.trans ((Below.drewN (below1 _ _) _).mono HB.out.size)⟩
                  case measure => simp [intOf]; omega
                · have h8 : decide (d.name ≤ last) = true := by simp; omega
                  have HN := Lib.hid (show blobB last d = false by simp [blobB, inB]; omega)
                  go_wp2_with fail
                  go_quiet ((first | (go_at_call 49; exact Calls.quiet_of_same (l6In_any _ _ _ _)) | (go_at_call 70; with_reducible first | exact Calls.quiet_of_same (hB2.out _ (Below.drewN (below1 _ _) _)) | exact Calls.quiet_of_same (hB3.out _ (Below.drewN (below1 _ _) _)))))
                  go_wp2_with fail
                  go_ret
                  exact ⟨ret_bool (by rw [HX.out, HN.out]; rfl), HB.out.trans ((Below.drewN (below1 _ _) _).mono HB.out.size)⟩
            · have h5 : decide (400 < (d.safe.length : Int) + (d.fresh.length : Int)) = true := by simp; omega
              have HN := Lib.hid (show blobB last d = false by simp [blobB, h4])
              go_wp2_with fail
              go_quiet ((first | (go_at_call 49; exact Calls.quiet_of_same (l6In_any _ _ _ _)) | (go_at_call 70; with_reducible first | exact Calls.quiet_of_same (hB2.out _ (Below.drewN (below1 _ _) _)) | exact Calls.quiet_of_same (hB3.out _ (Below.drewN (below1 _ _) _)))))
              go_wp2_with fail
              go_ret
              exact ⟨ret_bool (by rw [HX.out, HN.out]; rfl), HB.out.trans ((Below.drewN (below1 _ _) _).mono HB.out.size)⟩
    · have hk' : k = bs.length := by omega
      go_wp2_with fail
      go_ret
      exact ⟨ret_bool (by rw [HD.out, hk']; simp [diskFrom]), HB.out⟩
end Go.Proofs.Ytjhfhlfiagggpaa
