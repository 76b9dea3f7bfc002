/- Plain: what is read after DiskSync, and after a crash that keeps nothing. -/
import Derived.Test.YtjhfhlfiagggpaaG3
namespace Go.Proofs.Ytjhfhlfiagggpaa
open Go Go.RowKit

theorem read_sync (bs : List BD) (nm : Int) (h : syncB bs nm = true) : readR (syncR bs nm) nm = readR bs nm := by
  have h2 := (sync_twice bs nm h).1
  obtain ⟨k, d, hv, hf, hd, hn, hr⟩ := syncB_cases bs nm h
  obtain ⟨k', d', hv', hf', hd', hn', hr'⟩ := syncB_cases _ nm h2
  have hk := lt_of_get hd
  rw [readR, if_pos h2, readR, if_pos h, hf, hf', Int.toNat_natCast, Int.toNat_natCast, hd, hd']
  have hfi : fileIx (syncR bs nm) nm = fileIx bs nm := by
    rw [hr]
    unfold fileIx
    rw [findIdx_set (fun d : BD => eqB d.name nm) ⟨d.name, d.safe ++ d.fresh, []⟩ bs k d hd rfl]
  have : k' = k := by omega
  subst this
  rw [hr, List.getElem?_set] at hd'
  simp [hk] at hd'
  subst hd'
  simp

theorem diskFrom_map (f : BD → BD) (hn : ∀ d, (f d).name = d.name) : ∀ (bs : List BD) (last : Int), (∀ d ∈ bs, ∀ l, blobB l d = true → blobB l (f d) = true) → diskFrom last bs = true → diskFrom last (bs.map f) = true
  | [], _, _, _ => rfl
  | x :: bs, last, hf, h => by
    simp only [diskFrom, Bool.and_eq_true] at h
    simp only [List.map_cons, diskFrom, Bool.and_eq_true]
    exact ⟨hf x (by simp) last h.1, by rw [hn]; exact diskFrom_map f hn bs x.name (fun d hd => hf d (by simp [hd])) h.2⟩

theorem fileIx_map (f : BD → BD) (hn : ∀ d, (f d).name = d.name) (bs : List BD) (nm : Int) : fileIx (bs.map f) nm = fileIx bs nm := by
  unfold fileIx
  rw [List.findIdx?_map]
  have : ((fun d : BD => eqB d.name nm) ∘ f) = fun d => eqB d.name nm := by funext d; simp [hn]
  rw [this]

theorem bytesB_take (xs : List Int) (k : Nat) (h : bytesB xs = true) : bytesB (xs.take k) = true := by
  simp only [bytesB, List.all_eq_true] at h ⊢
  exact fun x hx => h x (List.mem_of_mem_take hx)

theorem crash_valid (bs : List BD) (ks : List Int) (h : diskB bs = true) : diskB (bs.map (crashD ks)) = true := by
  refine diskFrom_map (crashD ks) (fun _ => rfl) bs 0 (fun d _ l hb => ?_) h
  simp only [blobB, crashD, Bool.and_eq_true, decide_eq_true_eq, bytesB_append] at hb ⊢
  refine ⟨⟨⟨hb.1.1.1, hb.1.1.2, bytesB_take _ _ hb.1.2⟩, rfl⟩, ?_⟩
  have := hb.2
  simp
  omega

theorem crash_sync (bs : List BD) (ks : List Int) (nm : Int) (h : syncB bs nm = true) : syncB (bs.map (crashD ks)) nm = true := by
  simp only [syncB, Bool.and_eq_true, fileIx_map (crashD ks) (fun _ => rfl)] at h ⊢
  exact ⟨crash_valid bs ks h.1, h.2⟩

/-- Synced first, a file is read whole after any crash. -/
theorem read_crash_sync (bs : List BD) (ks : List Int) (nm : Int) (h : syncB bs nm = true) : readR ((syncR bs nm).map (crashD ks)) nm = readR bs nm := by
  have h2 := (sync_twice bs nm h).1
  rw [← read_sync bs nm h]
  obtain ⟨k, d, hv, hf, hd, hn, hr⟩ := syncB_cases bs nm h
  have hk := lt_of_get hd
  rw [readR, if_pos (crash_sync _ ks nm h2), readR, if_pos h2, fileIx_map (crashD ks) (fun _ => rfl)]
  have hfi : fileIx (syncR bs nm) nm = k := by
    rw [hr, ← hf]
    unfold fileIx
    rw [findIdx_set (fun d : BD => eqB d.name nm) ⟨d.name, d.safe ++ d.fresh, []⟩ bs k d hd rfl]
  rw [hfi, Int.toNat_natCast, List.getElem?_map, hr, List.getElem?_set]
  simp [hk, crashD]

theorem crash_nilB (cs : List BD) (h : diskB cs = true) : crashB cs [] = true := by simp [crashB, h, keepB]

theorem crash_small (bs : List BD) (ks : List Int) (h : diskB bs = true) (hl : bs.length ≤ 4194304) : smallBs (bs.map (crashD ks)) := by
  refine ⟨by simpa using hl, fun k x hx => ?_⟩
  obtain ⟨_, _, h3, _⟩ := diskB_get (crash_valid bs ks h) hx
  omega

end Go.Proofs.Ytjhfhlfiagggpaa
