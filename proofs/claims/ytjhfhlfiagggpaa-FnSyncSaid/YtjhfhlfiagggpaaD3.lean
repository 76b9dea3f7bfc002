/- slices.IndexFunc at []Blob; the place of a file: impl.file, spec.l31Find. -/
import Derived.Test.YtjhfhlfiagggpaaD2
namespace Go.Proofs.Ytjhfhlfiagggpaa
open Go Go.RowKit

theorem isFile_any (d : BD) (u1 u2 : Value) (nm : Int) (g : Nat) (w : World) (hg : w.cell? ⟨g, 0, none⟩ = some (.int .i64 nm)) (hlt : g < w.heap.size) (h1 : u1.oneCell' = true) (h2 : u2.oneCell' = true) :
    Calls Try.prog 73 #[.agg #[.int .i64 d.name, u1, u2], .pointer (some ⟨g, 0, none⟩)] w fun e w' => e = .returned (.bool (eqB d.name nm)) ∧ Below w.heap.size w w' := by
  have HI := Lib.hid (int_beq d.name nm)
  go_enter Try.func73, Try.ntmps73
  go_wp2_with fail
  go_ret
  exact ⟨ret_bool HI.out, below1 _ _⟩

theorem ints_cell {w : World} {L : Nat} {v : Value} {xs : List Int} (h : Ints w L v xs) : v.oneCell' = true := by
  obtain ⟨A, c, rfl, _⟩ := h
  rfl

/-- The first place, from k on, of those below n, that p allows. -/
theorem fileIx_eq (bs : List BD) (nm : Int) : firstIx (fun j => match bs[j]? with | some d => eqB d.name nm | none => false) bs.length 0 = fileIx bs nm := by
  have key : ∀ (l : List BD) (k : Nat) (p : Nat → Bool), (∀ j, p (k + j) = match l[j]? with | some d => eqB d.name nm | none => false) →
      firstIx p l.length k = match l.findIdx? (fun d => eqB d.name nm) with | some j => ((k + j : Nat) : Int) | none => -1 := by
    intro l
    induction l with
    | nil => intro k p _; simp [firstIx]
    | cons x l ih =>
      intro k p hp
      have h0 := hp 0
      simp at h0
      simp only [List.length_cons, firstIx, List.findIdx?_cons, h0]
      cases hx : eqB x.name nm with
      | true => simp
      | false =>
        have := ih (k + 1) p (fun j => by have := hp (j + 1); simpa [Nat.add_assoc, Nat.add_comm 1 j] using this)
        simp only [Bool.false_eq_true, if_false, this]
        cases l.findIdx? (fun d => eqB d.name nm) with
        | none => simp
        | some j => show ((k + 1 + j : Nat) : Int) = ((k + (j + 1) : Nat) : Int); omega
  have := key bs 0 (fun j => match bs[j]? with | some d => eqB d.name nm | none => false) (fun j => by rw [Nat.zero_add])
  rw [this]
  unfold fileIx
  cases bs.findIdx? (fun d => eqB d.name nm) <;> simp

set_option maxHeartbeats 400000 in
set_option maxRecDepth 100000 in
theorem indexBlobs_any (F : FuncId) (cap : Array Value) (L : Nat) (v : Value) (bs : List BD) (p : Nat → Bool) (w : World) (hF : ∀ args W, Sem.run Try.prog (callFunc F args) W = .ok (.enter F args) W) (hs : Blobs w L v bs)
    (hf : ∀ j d u1 u2, bs[j]? = some d → u1.oneCell' = true → u2.oneCell' = true → ∀ w1, Below w.heap.size w w1 → Calls Try.prog F (#[.agg #[.int .i64 d.name, u1, u2]] ++ cap) w1 fun e w2 => e = .returned (.bool (p j)) ∧ Below w.heap.size w w2) :
    Calls Try.prog 72 #[v, .func (.func F) #[] cap] w fun e w' => e = .returned (.int .i64 (firstIx p bs.length 0)) ∧ Below w.heap.size w w' := by
  obtain ⟨A, c, rfl, hc, hcm⟩ := hs.form
  unfold maxLen at hcm
  have HR := Lib.hid hs
  have HF := Lib.hid hf
  clear hs hf
  go_enter Try.func72, Try.ntmps72
  go_wp2
  go_loopw [4, 5, 8] (fun _ _ i w' => ∃ k : Nat, k ≤ bs.length ∧ i = .int .i64 k ∧ firstIx p bs.length 0 = firstIx p (bs.length - k) k ∧ Below w.heap.size w w') (fun _ _ i _ => bs.length - (intOf i).toNat)
  case atStart => exact ⟨0, Nat.zero_le _, rfl, rfl, Below.refl _ _⟩
  case round =>
    obtain ⟨k, hk, rfl, hfi, hb⟩ := hrel
    have HI := Lib.hid hfi
    have HB := Lib.hid hb
    clear hfi hb
    by_cases hlt : k < bs.length
    · obtain ⟨d, hd⟩ := get_of_lt hlt
      obtain ⟨b, off, u1, u2, rfl, _, hbl, c0, c1, c2, hs1, hs2⟩ := (HR.out.below HB.out).at_ hd
      have HU := Lib.hid (And.intro (ints_cell hs1) (ints_cell hs2))
      have HX := Lib.hid hd
      clear hs1 hs2 hd
      cases hp : p k
      · have HP := Lib.hid hp
        clear hp
        go_wp2_with fail
        refine (HF.out k d u1 u2 HX.out HU.out.1 HU.out.2 _ HB.out).mono ?_
        rintro e w2 ⟨rfl, hb2⟩
        have HB2 := Lib.hid hb2
        clear hb2
        rw [HP.out]
        go_wp2_with fail
        go_roundw
        case rel => exact ⟨k + 1, by omega, by go_num, by rw [HI.out, show bs.length - k = (bs.length - (k + 1)) + 1 from by omega]; simp [firstIx, HP.out], HB2.out⟩
        case measure => simp [intOf]; omega
      · have HP := Lib.hid hp
        clear hp
        go_wp2_with fail
        refine (HF.out k d u1 u2 HX.out HU.out.1 HU.out.2 _ HB.out).mono ?_
        rintro e w2 ⟨rfl, hb2⟩
        have HB2 := Lib.hid hb2
        clear hb2
        rw [HP.out]
        go_wp2_with fail
        go_ret
        exact ⟨by rw [HI.out, show bs.length - k = (bs.length - (k + 1)) + 1 from by omega]; simp [firstIx, HP.out], HB2.out⟩
    · have hk' : k = bs.length := by omega
      go_wp2_with fail
      go_ret
      exact ⟨by rw [HI.out, show bs.length - k = 0 from by omega]; simp [firstIx], HB.out⟩

set_option maxHeartbeats 400000 in
set_option maxRecDepth 100000 in
theorem file_any (L : Nat) (v : Value) (bs : List BD) (nm : Int) (w : World) (hs : Blobs w L v bs) :
    Calls Try.prog 39 #[v, .int .i64 nm] w fun e w' => e = .returned (.int .i64 (fileIx bs nm)) ∧ Below w.heap.size w w' := by
  have hmf : ∀ (fn : Fn) (first cap : Array Value) (w : World), (Instr.makeFunc fn first cap).run Try.prog w = .ok (.func fn first cap) w := fun _ _ _ _ => rfl
  have H := Lib.hid (indexBlobs_any 73 #[.pointer (some ⟨w.heap.size, 0, none⟩)] L v bs (fun j => match bs[j]? with | some d => eqB d.name nm | none => false) (w.alloc (.cells #[.int .i64 nm] 3)) (fun args W => by go_simp) (hs.below (below1 _ _))
    (fun j d u1 u2 hd h1 h2 w1 hb => (isFile_any d u1 u2 nm w.heap.size w1 (by rw [hb.cell (p := ⟨w.heap.size, 0, none⟩) (by simp)]; go_simp) (by have := hb.size; simp at this; omega) h1 h2).mono fun e w2 ⟨he, hw⟩ => ⟨by rw [he, hd], hb.trans (hw.mono hb.size)⟩))
  have HI := Lib.hid (fileIx_eq bs nm)
  clear hs
  go_enter Try.func39, Try.ntmps39
  go_wp2_with fail
  refine H.out.mono ?_
  rintro e w2 ⟨rfl, hb2⟩
  go_wp2_with fail
  go_ret
  exact ⟨ret_int HI.out, (below1 _ _).trans (hb2.mono (by simp))⟩
end Go.Proofs.Ytjhfhlfiagggpaa
