/- What a law is handed: a row of bytes. -/
import Derived.Test.YtjhfhlfiagggpaaL1
namespace Go.Proofs.Ytjhfhlfiagggpaa
open Go Go.RowKit

theorem rd_of_row {w : World} {x : Addr} {zs : List Int} {n : Nat} (hn : (zs.take n).length = n) (h : ∀ i, i < zs.length → w.cell? (x.add i) = some (.int .u8 (zs.getD i 0))) :
    Rd w 0 1 (some x) (zs.take n).length (byt (zs.take n)) := by
  refine ⟨by simp [byt], fun h0 => ?_⟩
  have hz : 0 < zs.length := by rw [List.length_take] at h0; omega
  have h1 := h 0 hz
  rw [show x.add 0 = x from rfl] at h1
  have hs := World.cell?_spot h1
  obtain ⟨b, off, sp⟩ := x
  simp only at hs
  subst hs
  obtain ⟨e, m, hsh, hlt, _⟩ := World.shape?_of_cell? h1
  refine ⟨b, off, rfl, Nat.zero_le _, ?_, fun j u hj => ?_⟩
  · by_cases hb : b < w.heap.size
    · exact hb
    · rw [World.shape?, Array.getElem?_eq_none (by simpa using hb)] at hsh
      cases hsh
  · have hj' : j < zs.length := by
      have := lt_of_get hj
      simp [byt] at this
      omega
    have h2 := h j hj'
    have h3 : (Addr.mk b off none).add j = ⟨b, off + j, none⟩ := by cases j <;> rfl
    rw [h3] at h2
    rw [h2]
    rw [byt, List.getElem?_map, List.getElem?_take] at hj
    split at hj
    · rw [List.getElem?_eq_getElem hj'] at hj
      simp only [Option.map_some, Option.some.injEq] at hj
      rw [← hj, List.getD_eq_getElem?_getD, List.getElem?_eq_getElem hj']
      rfl
    · cases hj

theorem byte_of_wf {n : Int} (h : (Lit.int .u8 n).wf = true) : 0 ≤ n ∧ n < 256 := by
  simp [Lit.wf] at h
  have h1 : IntKind.u8.min = 0 := by decide
  have h2 : IntKind.u8.max = 255 := by decide
  omega

end Go.Proofs.Ytjhfhlfiagggpaa
