/- DrawDiskRead, DrawDiskSync. -/
import Derived.Test.YtjhfhlfiagggpaaR4
namespace Go.Proofs.Ytjhfhlfiagggpaa
open Go Go.RowKit

theorem below_past {a b c : World} {g : Nat} (h : Below a.heap.size a b) (k : b.grownBy c (some g)) (hg : a.heap.size ≤ g) : Below a.heap.size a c :=
  ⟨k.os.trans h.os, k.tape.trans h.tape, k.output.trans h.output, Nat.le_trans h.size k.size, fun i hi => (k.block i (Nat.lt_of_lt_of_le hi h.size) (by intro he; cases he; omega)).trans (h.block i hi)⟩

def Drawn (w : World) (e : Ending) (w' : World) : Prop := ∃ (v : Value) (bs : List BD) (ivs : List (Value × Value)) (n : Int) (L : Nat), e = .returned (.tuple #[v, .int .i64 n]) ∧ 0 ≤ n ∧ n ≤ 4 ∧ bs.length ≤ 4 ∧ shortBs bs ∧ w.heap.size ≤ L ∧ SB w' L v bs ivs ∧ Below w.heap.size w w'

theorem DrawDiskRead_any (L : Nat) (A : Option Addr) (c : Nat) (xs : List Int) (w : World) (hr : Rd w L 1 A xs.length (byt xs)) (hc : xs.length ≤ c) (hcm : c ≤ maxLen) (hb : ∀ x ∈ xs, 0 ≤ x ∧ x < 256) :
    Calls Try.prog 38 #[.slice A xs.length c] w (Drawn w) := by
  have HO := Lib.hid (l6Open_any L A c xs w hr hc hcm hb)
  clear hr hb hc hcm
  go_enter Try.func38, Try.ntmps38
  go_wp2_with fail
  with_reducible refine HO.out.mono ?_
  rintro e w1 ⟨g, rfl, hg, hr, hb⟩
  have HG := Lib.hid hg
  have HB := Lib.hid hb
  have HD := Lib.hid (l92Disk_any g 0 w1 hr (by omega))
  have HL := Lib.hid hr.lt
  clear hg hb hr
  go_wp2_with fail
  with_reducible refine HD.out.mono ?_
  rintro e w2 ⟨v, bs, ivs, rfl, hl, hs, ho, hg2, hr2⟩
  have HS := Lib.hid (show bs.length ≤ 4 ∧ shortBs bs from ⟨hl, hs⟩)
  have HOB := Lib.hid ho
  have HG2 := Lib.hid hg2
  have HN := Lib.hid (l92Name_any g (0 + 2000) w2 hr2 (by omega))
  clear hl hs ho hg2 hr2
  go_wp2_with fail
  with_reducible refine HN.out.mono ?_
  rintro e w3 ⟨x, rfl, hx0, hx4, hg3, _⟩
  have HOB3 := Lib.hid (HOB.out.pick hg3 HL.out)
  have HB3 := Lib.hid (below_past HB.out (grown_trans HG2.out hg3) HG.out)
  have HX := Lib.hid (show 0 ≤ x ∧ x ≤ 4 from ⟨hx0, hx4⟩)
  clear hg3 hx0 hx4
  go_wp2_with fail
  go_ret2
  exact ⟨_, _, _, _, _, rfl, HX.out.1, HX.out.2, HS.out.1, HS.out.2, HB.out.size, HOB3.out, HB3.out⟩

theorem DrawDiskSync_any (L : Nat) (A : Option Addr) (c : Nat) (xs : List Int) (w : World) (hr : Rd w L 1 A xs.length (byt xs)) (hc : xs.length ≤ c) (hcm : c ≤ maxLen) (hb : ∀ x ∈ xs, 0 ≤ x ∧ x < 256) :
    Calls Try.prog 9 #[.slice A xs.length c] w (Drawn w) := by
  have HO := Lib.hid (DrawDiskRead_any L A c xs w hr hc hcm hb)
  clear hr hb hc hcm
  go_enter Try.func9, Try.ntmps9
  go_wp2_with fail
  with_reducible refine HO.out.mono ?_
  rintro e w1 ⟨v, bs, ivs, n, L', rfl, h⟩
  have H := Lib.hid h
  clear h
  go_wp2_with fail
  go_ret2
  exact ⟨v, bs, ivs, n, L', rfl, H.out⟩

end Go.Proofs.Ytjhfhlfiagggpaa
