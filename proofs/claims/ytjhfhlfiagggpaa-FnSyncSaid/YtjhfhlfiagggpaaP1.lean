/- Plain: what DiskSync makes of a valid disk is valid, and syncing it again changes nothing. -/
import Derived.Test.YtjhfhlfiagggpaaR5
import Derived.Test.YtjhfhlfiagggpaaE4
namespace Go.Proofs.Ytjhfhlfiagggpaa
open Go Go.RowKit

theorem diskFrom_set : ∀ (bs : List BD) (last : Int) (k : Nat) (d d' : BD), diskFrom last bs = true → bs[k]? = some d → d'.name = d.name → bytesB d'.safe = true → bytesB d'.fresh = true → d'.safe.length + d'.fresh.length ≤ 400 →
    diskFrom last (bs.set k d') = true
  | [], _, _, _, _, _, h, _, _, _, _ => by simp at h
  | x :: bs, last, 0, d, d', hv, h, hn, hs, hf, hl => by
    simp at h
    subst h
    simp only [diskFrom, blobB, inB, Bool.and_eq_true, decide_eq_true_eq] at hv
    simp only [List.set_cons_zero, diskFrom, blobB, inB, Bool.and_eq_true, decide_eq_true_eq, hn, hs, hf, hl]
    exact ⟨⟨⟨⟨⟨hv.1.1.1.1.1, hv.1.1.1.1.2⟩, trivial⟩, trivial⟩, trivial⟩, hv.2⟩
  | x :: bs, last, k + 1, d, d', hv, h, hn, hs, hf, hl => by
    simp only [diskFrom, Bool.and_eq_true] at hv
    simp only [List.set_cons_succ, diskFrom, Bool.and_eq_true]
    exact ⟨hv.1, diskFrom_set bs x.name k d d' hv.2 (by simpa using h) hn hs hf hl⟩

theorem findIdx_set {α : Type} (p : α → Bool) (x : α) : ∀ (l : List α) (k : Nat) (d : α), l[k]? = some d → p x = p d → (l.set k x).findIdx? p = l.findIdx? p
  | [], _, _, h, _ => by simp at h
  | a :: l, 0, d, h, hp => by
    simp at h
    subst h
    simp [List.findIdx?_cons, hp]
  | a :: l, k + 1, d, h, hp => by
    have := findIdx_set p x l k d (by simpa using h) hp
    simp [List.findIdx?_cons, this]

theorem bytesB_append (xs ys : List Int) : bytesB (xs ++ ys) = (bytesB xs && bytesB ys) := by simp [bytesB]

theorem syncB_cases (bs : List BD) (nm : Int) (h : syncB bs nm = true) : ∃ (k : Nat) (d : BD), diskB bs = true ∧ fileIx bs nm = k ∧ bs[k]? = some d ∧ d.name = nm ∧ syncR bs nm = bs.set k ⟨d.name, d.safe ++ d.fresh, []⟩ := by
  have h' := h
  simp only [syncB, Bool.and_eq_true, decide_eq_true_eq] at h'
  rcases fileIx_cases bs nm with hf | ⟨k, d, hf, hd, hn⟩
  · omega
  · refine ⟨k, d, h'.1, hf, hd, hn, ?_⟩
    simp [syncR, h, hf, syncD, hd]

theorem sync_valid (bs : List BD) (nm : Int) (h : syncB bs nm = true) : diskB (syncR bs nm) = true := by
  obtain ⟨k, d, hv, hf, hd, hn, hr⟩ := syncB_cases bs nm h
  have hg := diskB_get hv hd
  rw [hr]
  exact diskFrom_set bs 0 k d _ hv hd rfl (by rw [bytesB_append, hg.2.2.2.1, hg.2.2.2.2]; rfl) rfl (by simpa using hg.2.2.1)

theorem sync_twice (bs : List BD) (nm : Int) (h : syncB bs nm = true) : syncB (syncR bs nm) nm = true ∧ syncR (syncR bs nm) nm = syncR bs nm := by
  have hval := sync_valid bs nm h
  obtain ⟨k, d, hv, hf, hd, hn, hr⟩ := syncB_cases bs nm h
  rw [hr] at hval ⊢
  have hk := lt_of_get hd
  have hf2 : fileIx (bs.set k ⟨d.name, d.safe ++ d.fresh, []⟩) nm = k := by
    rw [← hf]
    unfold fileIx
    rw [findIdx_set (fun d : BD => eqB d.name nm) ⟨d.name, d.safe ++ d.fresh, []⟩ bs k d hd rfl]
  have hb : syncB (bs.set k ⟨d.name, d.safe ++ d.fresh, []⟩) nm = true := by
    simp only [syncB, Bool.and_eq_true, decide_eq_true_eq]
    exact ⟨hval, by omega⟩
  refine ⟨hb, ?_⟩
  rw [syncR, hb, if_pos rfl, hf2]
  simp [syncD, List.getElem?_set, hk]

theorem sync_small (bs : List BD) (nm : Int) (h : shortBs bs) (hl : bs.length ≤ 4) : smallBs (syncR bs nm) := by
  unfold syncR
  split
  · unfold syncD
    split
    · rename_i d hd
      have hd' := h d (List.mem_of_getElem? hd)
      refine ⟨by simp; omega, fun j x hx => ?_⟩
      rw [List.getElem?_set] at hx
      split at hx
      · split at hx
        · cases hx
          simp
          omega
        · cases hx
      · have := h x (List.mem_of_getElem? hx)
        omega
    · exact h.small hl
  · exact ⟨by simp, fun j x hx => by simp at hx⟩

end Go.Proofs.Ytjhfhlfiagggpaa
