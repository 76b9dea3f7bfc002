/- impl.DiskCrash. -/
import Derived.Test.YtjhfhlfiagggpaaG1
import Derived.Test.YtjhfhlfiagggpaaP1
namespace Go.Proofs.Ytjhfhlfiagggpaa
open Go Go.RowKit

def keptN (ks : List Int) (d : BD) : Nat := if d.name ≤ ks.length then (min (ks.getD (d.name.toNat - 1) 0) d.fresh.length).toNat else 0
def crashD (ks : List Int) (d : BD) : BD := ⟨d.name, d.safe ++ d.fresh.take (keptN ks d), []⟩
def keepB (ks : List Int) : Bool := ks.all fun x => inB x 0 400
def crashB (bs : List BD) (ks : List Int) : Bool := diskB bs && decide (ks.length ≤ 3) && keepB ks
def crashR (bs : List BD) (ks : List Int) : List BD := if crashB bs ks then bs.map (crashD ks) else []

theorem keep_ix (ks : List Int) (n : Nat) (hn : n = ks.length) : decide (0 ≤ firstIx (fun j => !inB (ks.getD j 0) 0 400) n 0) = !keepB ks := by
  rw [Bool.eq_iff_iff]
  simp only [decide_eq_true_eq, firstIx_lt, Bool.not_eq_true', keepB]
  constructor
  · rintro ⟨j, _, hj, hp⟩
    simp only [Nat.zero_add] at hj
    rw [← Bool.not_eq_true, List.all_eq_true]
    intro h
    have hj' : j < ks.length := by omega
    have := h _ (List.getElem_mem hj')
    simp [List.getD_eq_getElem?_getD, List.getElem?_eq_getElem hj', this] at hp
  · intro h
    rw [← Bool.not_eq_true, List.all_eq_true] at h
    have ⟨x, hx, hb⟩ : ∃ x ∈ ks, inB x 0 400 = false := by
      refine Classical.byContradiction fun hh => h fun x hx => ?_
      cases hb : inB x 0 400
      · exact absurd ⟨x, hx, hb⟩ hh
      · rfl
    obtain ⟨j, hj, rfl⟩ := List.getElem_of_mem hx
    exact ⟨j, Nat.zero_le _, by omega, by simp [List.getD_eq_getElem?_getD, List.getElem?_eq_getElem hj, hb]⟩

theorem notKeep_any (x : Int) (w : World) :
    Calls Try.prog 52 #[.int .i64 x] w fun e w' => e = .returned (.bool (!inB x 0 400)) ∧ w' = w := by
  have H := Lib.hid (in_any x 0 400 w)
  go_enter Try.func52, Try.ntmps52
  go_wp2_with fail
  with_reducible refine H.out.mono ?_
  rintro e w2 ⟨rfl, rfl⟩
  go_wp2_with fail
  go_ret
  exact ⟨rfl, rfl⟩

theorem keepIn_any (A : Option Addr) (c L : Nat) (ks : List Int) (w : World) (h : Ints w L (.slice A ks.length c) ks) :
    Calls Try.prog 51 #[.slice A ks.length c, .func (.func 52) #[] #[]] w fun e w' => e = .returned (.bool (!keepB ks)) ∧ Below w.heap.size w w' := by
  obtain ⟨A', c', he, h1, h2, h3⟩ := h
  injection he with he1 _ he3
  subst he1
  subst he3
  have := containsInts_any 52 #[] A ks.length c ks (fun j => !inB (ks.getD j 0) 0 400) w (fun args W => by go_simp) (by omega) (h3.less (Nat.zero_le L))
    (fun j x hx w1 hb => (notKeep_any x w1).mono fun e w2 ⟨he, hw⟩ => ⟨by rw [he]; simp [List.getD_eq_getElem?_getD, hx], by rw [hw]; exact hb⟩)
  rwa [keep_ix ks ks.length rfl] at this

theorem Ints.takeInts {w : World} {L n c m : Nat} {A : Option Addr} {xs : List Int} (h : Ints w L (.slice A n c) xs) (hm : m ≤ xs.length) : Ints w L (.slice A m c) (xs.take m) := by
  obtain ⟨A', c', he, h1, h2, h3⟩ := h
  injection he with he1 _ he3
  subst he1
  subst he3
  refine ⟨A, c, by rw [List.length_take, Nat.min_eq_left hm], by rw [List.length_take]; omega, h2, by simp [ints], fun h0 => ?_⟩
  rw [List.length_take] at h0
  obtain ⟨b, off, e, g1, g2, g3⟩ := h3.2 (by omega)
  refine ⟨b, off, e, g1, g2, fun j u hj => g3 j u ?_⟩
  simp only [ints, List.getElem?_map, List.getElem?_take] at hj ⊢
  split at hj
  · exact hj
  · cases hj

theorem crash_step (bs : List BD) (ks : List Int) (k : Nat) (d : BD) (hd : bs[k]? = some d) :
    ((bs.take k).map (crashD ks) ++ bs.drop k).set k (crashD ks d) = (bs.take (k + 1)).map (crashD ks) ++ bs.drop (k + 1) := by
  have hk := lt_of_get hd
  have hl : ((bs.take k).map (crashD ks)).length = k := by simp; omega
  rw [List.set_append_right _ _ (by omega), hl, Nat.sub_self, drop_of_get hd, List.set_cons_zero, take_succ_get hd]
  simp

end Go.Proofs.Ytjhfhlfiagggpaa
