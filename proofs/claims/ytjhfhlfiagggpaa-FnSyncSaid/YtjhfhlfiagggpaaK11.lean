/-
  Plain: a disk with one file replaced.
-/
import Derived.Test.YtjhfhlfiagggpaaE3
namespace Go.Proofs.Ytjhfhlfiagggpaa
open Go Go.RowKit

theorem diskFrom_above : ∀ (bs : List BD) (last : Int), diskFrom last bs = true → ∀ d ∈ bs, last < d.name
  | [], last, _, d, h => by cases h
  | x :: bs, last, hv, d, h => by
    simp only [diskFrom, blobB, inB, Bool.and_eq_true, decide_eq_true_eq] at hv
    rcases List.mem_cons.1 h with rfl | h
    · omega
    · have := diskFrom_above bs x.name hv.2 d h
      omega
theorem filterD_none (bs : List BD) (nm : Int) (h : ∀ d ∈ bs, d.name ≠ nm) : filterD bs nm = bs := by
  unfold filterD
  rw [List.filter_eq_self]
  intro d hd
  simpa [eqB] using h d hd
theorem insD_first (b : BD) (bs : List BD) (h : ∀ d ∈ bs, b.name < d.name) : insD b bs = b :: bs := by
  cases bs with
  | nil => rfl
  | cons x r => rw [insD, if_pos (h x (List.mem_cons_self ..))]
/-- Replacing a file in its place. -/
theorem insD_set (b : BD) : ∀ (bs : List BD) (last : Int) (k : Nat) (d : BD), diskFrom last bs = true → bs[k]? = some d → d.name = b.name → insD b (filterD bs b.name) = bs.set k b
  | [], last, k, d, _, h, _ => by simp at h
  | x :: bs, last, 0, d, hv, h, hn => by
    simp at h
    subst h
    simp only [diskFrom, Bool.and_eq_true] at hv
    have hab := diskFrom_above bs x.name hv.2
    have hf : filterD (x :: bs) b.name = bs := by
      have : filterD (x :: bs) b.name = filterD bs b.name := by simp [filterD, eqB, hn]
      rw [this]
      exact filterD_none bs b.name fun d hd => by have := hab d hd; omega
    rw [hf, List.set_cons_zero]
    exact insD_first b bs fun d hd => by have := hab d hd; omega
  | x :: bs, last, k + 1, d, hv, h, hn => by
    simp only [diskFrom, Bool.and_eq_true] at hv
    have hx : x.name < d.name := diskFrom_above bs x.name hv.2 d (List.mem_of_getElem? (by simpa using h))
    have hf : filterD (x :: bs) b.name = x :: filterD bs b.name := by
      have : ¬ x.name = b.name := by omega
      simp [filterD, eqB, this]
    rw [hf, insD, if_neg (by omega), List.set_cons_succ, insD_set b bs x.name k d hv.2 (by simpa using h) hn]

end Go.Proofs.Ytjhfhlfiagggpaa
