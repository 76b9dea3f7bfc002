/-
  Blobs: a slice of structs whose fields are slices of integers.
-/
import Derived.Test.YtjhfhlfiagggpaaK5
namespace Go.Proofs.Ytjhfhlfiagggpaa
open Go Go.RowKit

structure BD where
  name : Int
  safe : List Int
  fresh : List Int
deriving DecidableEq

def bcells (p : BD × Value × Value) : List Value := [.int .i64 p.1.name, p.2.1, p.2.2]

/-- A slice value that reads as these blobs. -/
def Blobs (w : World) (L : Nat) (v : Value) (bs : List BD) : Prop :=
  ∃ ivs : List (Value × Value), ivs.length = bs.length ∧ Sl w L 3 v bs.length ((bs.zip ivs).flatMap bcells) ∧
    ∀ (k : Nat) (d : BD) (iv : Value × Value), bs[k]? = some d → ivs[k]? = some iv → Ints w L iv.1 d.safe ∧ Ints w L iv.2 d.fresh

theorem Ints.below {w w' : World} {L : Nat} {v : Value} {xs : List Int} (h : Ints w L v xs) (hb : Below w.heap.size w w') : Ints w' L v xs := Sl.below h hb
theorem Ints.less {w : World} {L L' : Nat} {v : Value} {xs : List Int} (h : Ints w L v xs) (hL : L' ≤ L) : Ints w L' v xs := Sl.less h hL
theorem Blobs.below {w w' : World} {L : Nat} {v : Value} {bs : List BD} (h : Blobs w L v bs) (hb : Below w.heap.size w w') : Blobs w' L v bs := by
  obtain ⟨ivs, h1, h2, h3⟩ := h
  exact ⟨ivs, h1, h2.below hb, fun k d iv hd hiv => ⟨(h3 k d iv hd hiv).1.below hb, (h3 k d iv hd hiv).2.below hb⟩⟩
theorem Blobs.less {w : World} {L L' : Nat} {v : Value} {bs : List BD} (h : Blobs w L v bs) (hL : L' ≤ L) : Blobs w L' v bs := by
  obtain ⟨ivs, h1, h2, h3⟩ := h
  exact ⟨ivs, h1, h2.less hL, fun k d iv hd hiv => ⟨(h3 k d iv hd hiv).1.less hL, (h3 k d iv hd hiv).2.less hL⟩⟩
theorem Blobs.form {w : World} {L : Nat} {v : Value} {bs : List BD} (h : Blobs w L v bs) : ∃ A c, v = .slice A bs.length c ∧ bs.length ≤ c ∧ c ≤ maxLen := by
  obtain ⟨ivs, h1, ⟨A, c, rfl, h2, h3, _⟩, _⟩ := h
  exact ⟨A, c, rfl, h2, h3⟩
theorem Blobs.at_ {w : World} {L : Nat} {A : Option Addr} {n c k : Nat} {bs : List BD} {d : BD} (h : Blobs w L (.slice A n c) bs) (hd : bs[k]? = some d) :
    ∃ b off u1 u2, A = some ⟨b, off, none⟩ ∧ L ≤ b ∧ b < w.heap.size ∧ w.cell? ⟨b, off + k * 3, none⟩ = some (.int .i64 d.name) ∧ w.cell? ⟨b, off + k * 3 + 1, none⟩ = some u1 ∧
      w.cell? ⟨b, off + k * 3 + 2, none⟩ = some u2 ∧ Ints w L u1 d.safe ∧ Ints w L u2 d.fresh := by
  obtain ⟨ivs, h1, ⟨A', c', he, h2, h3, hr⟩, hiv⟩ := h
  injection he with he1 he2 he3
  subst he1
  have hk := lt_of_get hd
  obtain ⟨iv, hv⟩ := get_of_lt (show k < ivs.length by omega)
  have hz : (bs.zip ivs)[k]? = some (d, iv) := by simp [List.getElem?_zip_eq_some, hd, hv]
  have hg := fun j hj => flatMap_get bcells 3 (fun _ => rfl) _ k j _ hz hj
  obtain ⟨b, off, e, g1, g2, g3⟩ := hr.2 (by omega)
  refine ⟨b, off, iv.1, iv.2, e, g1, g2, ?_, ?_, ?_, (hiv k d iv hd hv).1, (hiv k d iv hd hv).2⟩
  · exact g3 (k * 3) _ (by simpa [bcells] using hg 0 (by omega))
  · rw [Nat.add_assoc]; exact g3 (k * 3 + 1) _ (by simpa [bcells] using hg 1 (by omega))
  · rw [Nat.add_assoc]; exact g3 (k * 3 + 2) _ (by simpa [bcells] using hg 2 (by omega))

def inB (n l h : Int) : Bool := decide (l ≤ n) && decide (n ≤ h)
def byteB (n : Int) : Bool := inB n 0 255
def bytesB (xs : List Int) : Bool := xs.all byteB
/-- What DiskValid asks of one file, behind the number 'last'. -/
def blobB (last : Int) (d : BD) : Bool := inB d.name (last + 1) 3 && bytesB d.safe && bytesB d.fresh && decide (d.safe.length + d.fresh.length ≤ 400)
def diskFrom (last : Int) : List BD → Bool
  | [] => true
  | d :: r => blobB last d && diskFrom d.name r
def diskB (bs : List BD) : Bool := diskFrom 0 bs
/-- The place of a file. -/
def fileIx (bs : List BD) (nm : Int) : Int := match bs.findIdx? (fun d => eqB d.name nm) with
  | some k => (k : Int)
  | none => -1

theorem drop_of_get {α : Type} {l : List α} {k : Nat} {x : α} (h : l[k]? = some x) : l.drop k = x :: l.drop (k + 1) := by
  have hk := lt_of_get h
  rw [List.drop_eq_getElem_cons hk]
  rw [List.getElem?_eq_getElem hk] at h
  injection h with h
  rw [h]

/-- Lengths that no sum of two lets overflow. -/
def smallBs (bs : List BD) : Prop := bs.length ≤ 4194304 ∧ ∀ (k : Nat) (d : BD), bs[k]? = some d → d.safe.length ≤ 4194304 ∧ d.fresh.length ≤ 4194304

theorem Sl.drewN {w : World} {L size n : Nat} {v : Value} {xs : List Value} (h : Sl w L size v n xs) (k : Nat) : Sl (w.drewN k) L size v n xs := h
theorem quiet_add {P : Program} {f : FuncId} {args : Array Value} {w : World} {a n : Nat} {v : Value}
    (h : Calls P f args (w.drewN (a + n)) fun e w' => e = .returned v ∧ ∃ m, w' = (w.drewN (a + n)).drewN m) :
    Calls P f args (w.drewN (a + n)) fun e w'' => e = .returned v ∧ ∃ m, w'' = w.drewN (a + m) :=
  h.mono fun _ _ ⟨he, m, hm⟩ => ⟨he, n + m, by rw [hm, World.drewN_drewN, Nat.add_assoc]⟩
theorem quiet_add_same {P : Program} {f : FuncId} {args : Array Value} {w : World} {a n : Nat} {v : Value}
    (h : Calls P f args (w.drewN (a + n)) fun e w' => e = .returned v ∧ w' = w.drewN (a + n)) :
    Calls P f args (w.drewN (a + n)) fun e w'' => e = .returned v ∧ ∃ m, w'' = w.drewN (a + m) :=
  h.mono fun _ _ ⟨he, hm⟩ => ⟨he, n, hm⟩

end Go.Proofs.Ytjhfhlfiagggpaa
