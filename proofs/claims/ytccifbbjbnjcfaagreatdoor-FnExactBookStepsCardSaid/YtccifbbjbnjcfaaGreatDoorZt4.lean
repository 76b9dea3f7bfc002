/- A part of the proof of FnExactBookSteps: texts W12 W13 O1 J1 M42 M43 M44 N1 O5 A3 N2 N3 M33 D1 D2 D3 D4 D5 D6 D7 W14 W15 W16 N4 N5 N6 N7 J2 N8 N9 N10 N11 N12 M31 M32 M34 M35 N13 N14 N15. -/
import Derived.Test.YtccifbbjbnjcfaaGreatDoorZt3
import Derived.ChangeArms
import Derived.ChangeSame
import Derived.OpenShut
import Derived.Test.YtccifbbjbnjcfaaGreatDoorProg
import Derived.Test.YtccifbbjbnjcfaaGreatDoorZt2
import Derived.BigQuiet
import Derived.Deep.QuietTactic
import Derived.Deep.RegionHeld3
import Derived.Deep.RegionLaw
import Derived.Lib.SliceRun
import Derived.Lib.AppendZerosOnto
import Derived.Test.YtccifbbjbnjcfaaGreatDoorZtp
import Derived.Test.YtccifbbjbnjcfaaGreatDoorZt1
set_option linter.unusedSimpArgs false
set_option linter.unusedVariables false
/-
  Walks: the laws' own helpers: copies, equalities, sizes.
-/
namespace Go.Proofs.YtccifbbjbnjcfaaGreatDoor
open Go Go.RowKit Go.Proofs
def sz1 (left len : Int) : Int := if left - len < 0 then -1 else left - len
def szF : Int → List Nat → Int
  | r, [] => r
  | r, a :: l => if r - (a : Int) < 0 then -1 else szF (r - (a : Int)) l
def szS (left : Int) (ls : List Nat) : Int := if left - (ls.length : Int) < 0 then -1 else szF (left - (ls.length : Int)) ls
theorem szF_ge : ∀ (ls : List Nat) (r : Int), 0 ≤ r → -1 ≤ szF r ls ∧ szF r ls ≤ r
  | [], r, h => by simp [szF]; omega
  | a :: l, r, h => by
    unfold szF
    split
    · omega
    · have := szF_ge l (r - a) (by omega)
      omega
theorem szF_mem : ∀ (ls : List Nat) (r : Int), 0 ≤ r → 0 ≤ szF r ls → ∀ a ∈ ls, (a : Int) ≤ r
  | [], r, _, _, a, ha => by cases ha
  | b :: l, r, h, h2, a, ha => by
    unfold szF at h2
    split at h2
    · omega
    · rcases List.mem_cons.1 ha with rfl | ha
      · omega
      · have := szF_mem l (r - b) (by omega) h2 a ha
        omega
theorem szS_ok {left : Int} {ls : List Nat} (h0 : 0 ≤ left) (h : 0 ≤ szS left ls) : (ls.length : Int) ≤ left ∧ (∀ a ∈ ls, (a : Int) ≤ left) ∧ szS left ls ≤ left := by
  unfold szS at *
  split at h
  · omega
  · rename_i h1
    rw [if_neg h1]
    have h2 := szF_ge ls (left - ls.length) (by omega)
    refine ⟨by omega, fun a ha => ?_, by omega⟩
    have := szF_mem ls _ (by omega) h a ha
    omega
attribute [local irreducible] RWp AW run kPe pe Kt effA gd gu br retR RDp runD kPeD brW gW effD
set_option maxRecDepth 100000
theorem toContent_pc (c : Ct) : PC Tryz.prog 43 [ctA c] (vX (ctA c)) := by
  unfold ctA ctC
  refine pc_enter Tryz.func43 rfl rfl fun w0 fb => go_on ?_; (try simp only [Tryz.ntmps43, push_cast, simprocAttr])
  refine at_ret ?_; simp only [Tryz.results43, push_cast, simprocAttr]
  simp [vX]
theorem eqContent_pc (a b : Ct) : PC Tryz.prog 130 [ctA a, ctA b] (vB (decide (a = b))) := by
  obtain ⟨a1, a2⟩ := a
  obtain ⟨b1, b2⟩ := b
  unfold ctA ctC
  refine pc_enter Tryz.func130 rfl rfl fun w0 fb => go_on ?_; (try simp only [Tryz.ntmps130, push_cast, simprocAttr])
  repeat' first | (refine at_b (fun hb => ?_) (fun hb => ?_) <;> simp only [hb, push_cast, simprocAttr]) | (refine at_ret ?_; simp only [Tryz.results130, push_cast, simprocAttr]) | (show RWp _ _ _ _ _; simp only [push_cast, simprocAttr])
  all_goals simp only [Bool.not_eq_true', Bool.not_eq_false', eqI_d, decide_eq_true_eq, decide_eq_false_iff_not] at *
  all_goals simp [vX, *]
theorem cm_ext (a b : Cm) : a = b ↔ a.p = b.p ∧ a.a = b.a ∧ a.b = b.b := by
  obtain ⟨a1, a2, a3⟩ := a
  obtain ⟨b1, b2, b3⟩ := b
  simp
theorem toCommand_pc (n : Cm) : PC Tryz.prog 12 [.agg (cmC n)] (vX (.agg (cmC n))) := by
  have h1 := toContent_pc n.a
  have h2 := toContent_pc n.b
  unfold ctA ctC at h1 h2
  unfold cmC
  refine pc_enter Tryz.func12 rfl rfl fun w0 fb => go_on ?_; (try simp only [Tryz.ntmps12, push_cast, simprocAttr])
  (refine at_call ?_; (try simp only [push_cast, simprocAttr]); refine rwc_d (h1) (by simp [flatV, flatL, ctC, ndC, cmC]) (by simp [ren, ctC, ndC, cmC]) (go_on ?_); (try simp only [push_cast, simprocAttr]))
  (refine at_call ?_; (try simp only [push_cast, simprocAttr]); refine rwc_d (h2) (by simp [flatV, flatL, ctC, ndC, cmC]) (by simp [ren, ctC, ndC, cmC]) (go_on ?_); (try simp only [push_cast, simprocAttr]))
  refine at_ret ?_; simp only [Tryz.results12, push_cast, simprocAttr]
  simp [vX]
theorem eqCommand_pc (a b : Cm) : PC Tryz.prog 103 [.agg (cmC a), .agg (cmC b)] (vB (decide (a = b))) := by
  have h1 := eqContent_pc a.a b.a
  have h2 := eqContent_pc a.b b.b
  unfold ctA ctC at h1 h2
  unfold cmC
  refine pc_enter Tryz.func103 rfl rfl fun w0 fb => go_on ?_; (try simp only [Tryz.ntmps103, push_cast, simprocAttr])
  repeat' first | (refine at_b (fun hb => ?_) (fun hb => ?_) <;> simp only [hb, push_cast, simprocAttr]) | (refine at_ret ?_; simp only [Tryz.results103, push_cast, simprocAttr]) | (refine at_call ?_; (try simp only [push_cast, simprocAttr]); refine rwc_v (by first | exact h1 | exact h2) (go_on ?_); simp only [push_cast, simprocAttr]) | (show RWp _ _ _ _ _; simp only [push_cast, simprocAttr])
  all_goals simp only [Bool.not_eq_true', Bool.not_eq_false', decide_eq_true_eq, decide_eq_false_iff_not] at *
  all_goals simp [vX, cm_ext a b, *]
theorem szCommand_pc (n : Cm) (left : Int) (h0 : 0 ≤ left) (h1 : left ≤ 1048576) (hp : n.p.length ≤ 9223372036854775807) : PC Tryz.prog 9 [.agg (cmC n), iA left] (vI (sz1 left n.p.length)) := by
  have w1 := wr (left - (n.p.length : Int)) (by omega)
  unfold cmC
  refine pc_enter Tryz.func9 rfl rfl fun w0 fb => go_on ?_; (try simp only [Tryz.ntmps9, push_cast, simprocAttr])
  repeat' first | (refine at_b (fun hb => ?_) (fun hb => ?_) <;> simp only [w1, hb, push_cast, simprocAttr]) | (refine at_ret ?_; simp only [w1, Tryz.results9, push_cast, simprocAttr]) | (show RWp _ _ _ _ _; simp only [w1, push_cast, simprocAttr])
  · have := of_ltI_t hb; rw [w1] at this; simp [vX, sz1, this]
  · have := of_ltI_f hb; rw [w1] at this; simp [vX, sz1]; omega
theorem szCommandS_pc (l : List Cm) (left : Int) (h0 : 0 ≤ left) (h1 : left ≤ 1048576) (hl : l.length ≤ 9223372036854775807) (hp : ∀ n ∈ l, n.p.length ≤ 9223372036854775807) :
    PC Tryz.prog 55 [.sl 5 (l.map cmC), iA left] (vI (szS left (l.map fun n => n.p.length))) := by
  have w1 := wr (left - (l.length : Int)) (by omega)
  refine pc_enter Tryz.func55 rfl rfl fun w0 fb => go_on ?_; (try simp only [Tryz.ntmps55, push_cast, simprocAttr])
  (try simp only [w1, push_cast, simprocAttr])
  refine at_b (fun hb => ?_) (fun hb => ?_)
  · have := of_ltI_t hb
    (try simp only [hb, push_cast, simprocAttr])
    refine at_ret ?_; simp only [Tryz.results55, push_cast, simprocAttr]
    simp [vX, szS, this]
  · have h2 := of_ltI_f hb
    have e : szS left (l.map fun n => n.p.length) = szF (left - l.length) (l.map fun n => n.p.length) := by unfold szS; rw [if_neg (by simp; omega), List.length_map]
    rw [e]
    (try simp only [hb, push_cast, simprocAttr])
    refine at_loop (X := Nat × Int) (fun x => [(1, iA x.2), (5, iA x.1)]) (fun _ => []) (fun x => x.1 ≤ l.length ∧ 0 ≤ x.2 ∧ x.2 ≤ 1048576 ∧ szF (left - l.length) (l.map fun n => n.p.length) = szF x.2 ((l.drop x.1).map fun n => n.p.length)) (fun x => l.length - x.1) (0, left - l.length) ⟨Nat.zero_le _, h2, by dsimp only; omega, rfl⟩ ?_ ?_
    · (refine wk_ok ?_ ?_ ?_ ?_ <;> simp [leL, leH, idsL, idsA, idsR, inH, hget, sameRow, upA, hvA, dsts, dstO, setA_0, setA_1, setA_8, List.append, List.cons_append, List.nil_append])
    · rintro ⟨k, r⟩ ⟨q1, q2, q3, q4⟩
      simp only at q1 q2 q3 q4
      simp only [upA, hvA, dsts, dstO, setA_0, setA_1, setA_8, List.append, List.cons_append, List.nil_append]
      refine go_on ?_
      (try simp only [push_cast, simprocAttr])
      refine at_b (fun hg => ?_) (fun hg => ?_)
      · have hlt := lt_tt hg
        obtain ⟨x, hk⟩ := get_of_lt hlt
        have i1 := ix_n hk
        have i2 := map_get cmC hk
        have hS := szCommand_pc x r q2 q3 (hp x (mem_of_get hk))
        simp only [cmC] at i2 hS
        rw [drop_of_get hk, List.map_cons, szF] at q4
        have w2 := wr ((k : Int) + 1) (by omega)
        (try simp only [hg, i1, i2, push_cast, simprocAttr])
        (refine at_call ?_; (try simp only [push_cast, simprocAttr]); refine rwc_v (hS) (go_on ?_); (try simp only [push_cast, simprocAttr]))
        by_cases hz : r - (x.p.length : Int) < 0
        · have e2 : sz1 r x.p.length = -1 := by unfold sz1; rw [if_pos hz]
          rw [e2]
          (try simp only [show ltI (-1) 0 = true from rfl, push_cast, simprocAttr])
          refine at_ret ?_; simp only [Tryz.results55, push_cast, simprocAttr]
          rw [if_pos hz] at q4
          simp [vX, q4]
        · have e2 : sz1 r x.p.length = r - x.p.length := by unfold sz1; rw [if_neg hz]
          have e3 : ltI (r - (x.p.length : Int)) 0 = false := ltI_f (by omega)
          rw [e2]
          (try simp only [e3, w2, push_cast, simprocAttr])
          rw [if_neg hz] at q4
          refine at_fin ⟨(k + 1, r - x.p.length), ⟨by dsimp only; omega, by dsimp only; omega, by dsimp only; omega, q4⟩, by dsimp only; omega, ?_⟩
          (refine wk_ok ?_ ?_ ?_ ?_ <;> simp [leL, leH, idsL, idsA, idsR, inH, hget, sameRow, upA, hvA, dsts, dstO, setA_0, setA_1, setA_8, List.append, List.cons_append, List.nil_append])
      · have h3 := lt_ff hg
        rw [List.drop_of_length_le h3] at q4
        (try simp only [hg, push_cast, simprocAttr])
        refine at_ret ?_; simp only [Tryz.results55, push_cast, simprocAttr]
        simp [vX, q4, szF]
theorem toCommandS_pc (l : List Cm) (hl : l.length ≤ 1048576) : PC Tryz.prog 59 [.sl 5 (l.map cmC)] (rX (.o 0 l.length) [rowC l]) := by
  refine pc_enter Tryz.func59 rfl rfl fun w0 fb => go_on ?_; (try simp only [Tryz.ntmps59, push_cast, simprocAttr])
  refine at_chk ⟨by omega, by omega⟩ ?_
  refine at_loop (X := Nat) (fun k => [(4, iA k)]) (fun k => [(2, rowC []), (7, ⟨35, 5, (l.take k).map cmC ++ List.replicate (l.length - k) [AV.v (Value.string ⟨#[]⟩), iA 0, iA 0, iA 0, iA 0], true⟩)]) (fun k => k ≤ l.length) (fun k => l.length - k) 0 (Nat.zero_le _) ?_ ?_
  · (refine wk_ok ?_ ?_ ?_ ?_ <;> simp [leL, leH, idsL, idsA, idsR, inH, hget, sameRow, upA, hvA, dsts, dstO, setA_0, setA_1, setA_8, List.append, List.cons_append, List.nil_append])
  · intro k h1
    simp only [upA, hvA, dsts, dstO, setA_0, setA_1, setA_8, List.append, List.cons_append, List.nil_append]
    refine go_on ?_
    (try simp only [push_cast, simprocAttr])
    refine at_b (fun hg => ?_) (fun hg => ?_)
    · have hlt := lt_tt hg
      obtain ⟨x, hk⟩ := get_of_lt hlt
      have i1 := ix_n hk
      have i2 := map_get cmC hk
      have hT := toCommand_pc x
      simp only [cmC] at i2 hT
      have w2 := wr ((k : Int) + 1) (by omega)
      obtain ⟨es, hes⟩ : ∃ es, es = (l.take k).map cmC ++ List.replicate (l.length - k) [AV.v (Value.string ⟨#[]⟩), iA 0, iA 0, iA 0, iA 0] := ⟨_, rfl⟩
      have hlen : ((l.take k).map cmC).length = k := by rw [List.length_map, List.length_take]; omega
      have i3 : es[k]? = some [AV.v (Value.string ⟨#[]⟩), iA 0, iA 0, iA 0, iA 0] := by rw [hes, List.getElem?_append_right (by omega), hlen, Nat.sub_self, List.getElem?_replicate, if_pos (by omega)]
      have hset : es.set k [sA x.p, iA x.a.k, iA x.a.v, iA x.b.k, iA x.b.v] = (l.take (k + 1)).map cmC ++ List.replicate (l.length - (k + 1)) [AV.v (Value.string ⟨#[]⟩), iA 0, iA 0, iA 0, iA 0] := by
        rw [hes, List.set_append_right _ _ (by omega), hlen, Nat.sub_self, List.take_add_one, hk, show l.length - k = (l.length - (k + 1)) + 1 by omega, List.replicate_succ, List.set_cons_zero]
        simp [cmC]
      rw [← hes]
      (try simp only [hg, i1, i2, push_cast, simprocAttr])
      (refine at_call ?_; (try simp only [push_cast, simprocAttr]); refine rwc_d (hT) (by simp [flatV, flatL, ctC, ndC, cmC]) (by simp [ren, ctC, ndC, cmC]) (go_on ?_); (try simp only [push_cast, simprocAttr]))
      (try simp only [i1, i3, List.length_replicate, w2, push_cast, simprocAttr])
      refine at_fin ⟨k + 1, by omega, by omega, ?_⟩
      rw [hset]
      (refine wk_ok ?_ ?_ ?_ ?_ <;> simp [leL, leH, idsL, idsA, idsR, inH, hget, sameRow, upA, hvA, dsts, dstO, setA_0, setA_1, setA_8, List.append, List.cons_append, List.nil_append])
    · have h3 := lt_ff hg
      have hk : k = l.length := by omega
      subst hk
      (try simp only [hg, push_cast, simprocAttr])
      refine at_ret ?_; simp only [Tryz.results59, push_cast, simprocAttr]
      simp [rX, ixOf]
theorem eqCommandS_pc (a b : List Cm) (hl : a.length < 4294967281) : PC Tryz.prog 65 [.sl 5 (a.map cmC), .sl 5 (b.map cmC)] (vB (decide (a = b))) := by
  refine pc_enter Tryz.func65 rfl rfl fun w0 fb => go_on ?_; (try simp only [Tryz.ntmps65, push_cast, simprocAttr])
  refine at_b (fun hb => ?_) (fun hb => ?_)
  · have h1 := of_eqI_f (not_t hb)
    have h2 : a ≠ b := by rintro rfl; exact h1 rfl
    (try simp only [hb, push_cast, simprocAttr])
    refine at_ret ?_; simp only [Tryz.results65, push_cast, simprocAttr]
    simp [vX, h2]
  · have h1 : a.length = b.length := by have := of_eqI_t (not_f hb); omega
    (try simp only [hb, push_cast, simprocAttr])
    refine at_loop (X := Nat) (fun k => [(5, iA k)]) (fun _ => []) (fun k => k ≤ a.length ∧ decide (a = b) = decide (a.drop k = b.drop k)) (fun k => a.length - k) 0 ⟨Nat.zero_le _, rfl⟩ ?_ ?_
    · (refine wk_ok ?_ ?_ ?_ ?_ <;> simp [leL, leH, idsL, idsA, idsR, inH, hget, sameRow, upA, hvA, dsts, dstO, setA_0, setA_1, setA_8, List.append, List.cons_append, List.nil_append])
    · rintro k ⟨q1, q2⟩
      simp only [upA, hvA, dsts, dstO, setA_0, setA_1, setA_8, List.append, List.cons_append, List.nil_append]
      refine go_on ?_
      (try simp only [push_cast, simprocAttr])
      refine at_b (fun hg => ?_) (fun hg => ?_)
      · have hlt := lt_tt hg
        obtain ⟨x, hx⟩ := get_of_lt hlt
        obtain ⟨y, hy⟩ := get_of_lt (l := b) (k := k) (by omega)
        have i1 := ix_n hx
        have i3 := ix_n hy
        have i2 := map_get cmC hx
        have i4 := map_get cmC hy
        have hE := eqCommand_pc x y
        simp only [cmC] at i2 i4 hE
        rw [drop_of_get hx, drop_of_get hy] at q2
        have w2 := wr ((k : Int) + 1) (by omega)
        (try simp only [hg, push_cast, simprocAttr])
        refine at_draw rfl (by kernel_rfl) ?_
        (try simp only [i1, i2, i3, i4, push_cast, simprocAttr])
        repeat' first | (refine at_bWn (fun hb => ?_) (fun hb => ?_) <;> simp only [i1, i2, i3, i4, hb, push_cast, simprocAttr]) | (refine at_bW (fun hb => ?_) (fun hb => ?_) <;> simp only [i1, i2, i3, i4, hb, push_cast, simprocAttr]) | (refine at_callD (by simp [clB, idsL, idsA, hget]) ?_; (try simp only [push_cast, simprocAttr]); first | (refine rcd_v (hE) ?_; simp only [i1, i2, i3, i4, push_cast, simprocAttr]) | (refine rcd_d (hE) (by simp [flatV, flatL, ctC, ndC, cmC]) (by simp [ren, ctC, ndC, cmC]) ?_; simp only [i1, i2, i3, i4, push_cast, simprocAttr])) | (refine at_done (by kernel_rfl) (by kernel_rfl) (go_on ?_); (try simp only [i1, i2, i3, i4, push_cast, simprocAttr]))
        refine at_b (fun hn => ?_) (fun hn => ?_)
        · (try simp only [hn, push_cast, simprocAttr])
          refine at_ret ?_; simp only [Tryz.results65, push_cast, simprocAttr]
          have := not_t hn
          simp only [decide_eq_false_iff_not] at this
          simp [vX, q2, this]
        · have hn' := not_f hn
          simp only [decide_eq_true_eq] at hn'
          (try simp only [hn, w2, push_cast, simprocAttr])
          refine at_fin ⟨k + 1, ⟨by omega, ?_⟩, by omega, ?_⟩
          · rw [q2]; simp [hn']
          · (refine wk_ok ?_ ?_ ?_ ?_ <;> simp [leL, leH, idsL, idsA, idsR, inH, hget, sameRow, upA, hvA, dsts, dstO, setA_0, setA_1, setA_8, List.append, List.cons_append, List.nil_append])
      · have h3 := lt_ff hg
        rw [List.drop_of_length_le h3, List.drop_of_length_le (by omega)] at q2
        (try simp only [hg, push_cast, simprocAttr])
        refine at_ret ?_; simp only [Tryz.results65, push_cast, simprocAttr]
        simp [vX, q2]
end Go.Proofs.YtccifbbjbnjcfaaGreatDoor
/-
  Walks: a side of the laws: its size, its copy, its equality.
-/
namespace Go.Proofs.YtccifbbjbnjcfaaGreatDoor
open Go Go.RowKit Go.Proofs
attribute [local irreducible] RWp AW run kPe pe Kt effA gd gu br retR RDp runD kPeD brW gW effD
set_option maxRecDepth 100000
end Go.Proofs.YtccifbbjbnjcfaaGreatDoor
/-
  Opening a side that a law is handed: what it reads as, in the machine's words.
-/
namespace Go.Proofs.YtccifbbjbnjcfaaGreatDoor
open Go Go.RowKit Go.Proofs
set_option maxRecDepth 100000
section
variable {H : Type} {enc : TypeId × Value → H} {W : World} {base : Nat} {sp : Nat → Bool} {held : Bool} {fuel : Nat} {cs : List Value} {x : DataW H × List MemPlace}
theorem two_of {α : Type} {l : List α} (h : l.length = 2) : ∃ a b, l = [a, b] := by
  match l, h with
  | [a, b], _ => exact ⟨a, b, rfl⟩
theorem three_of {α : Type} {l : List α} (h : l.length = 3) : ∃ a b c, l = [a, b, c] := by
  match l, h with
  | [a, b, c], _ => exact ⟨a, b, c, rfl⟩
theorem five_of {α : Type} {l : List α} (h : l.length = 5) : ∃ a b c d e, l = [a, b, c, d, e] := by
  match l, h with
  | [a, b, c, d, e], _ => exact ⟨a, b, c, d, e, rfl⟩
theorem str_of (b : ByteArray) : ∃ s : Str, (⟨s.toArray⟩ : ByteArray) = b ∧ s.length = b.size := ⟨b.data.toList, by simp, by rw [Array.length_toList]; rfl⟩
theorem open_content (h : DataW.trod enc Tryz.prog W base sp held fuel 24 cs = some x) : ∃ c : Ct, cs = [.int .i64 c.k, .int .i64 c.v] := by
  obtain ⟨xs, n, rfl, rfl, hl, hlen, hf⟩ := DataW.trod_struct Tryz.underlying24 h
  rw [show Tryz.prog.cellsOf 24 = 2 by kernel_rfl] at hl
  obtain ⟨a, b, rfl⟩ := two_of hl
  obtain ⟨y0, y1, rfl⟩ := two_of hlen
  have h0 := hf 0 _ rfl
  have h1 := hf 1 _ rfl
  simp only [show Tryz.prog.cellsOf 3 = 1 by kernel_rfl, List.drop, List.take, List.getElem?_cons_zero, List.getElem?_cons_succ] at h0 h1
  obtain ⟨k, e1, _⟩ := DataW.trod_int Tryz.underlying3 h0
  obtain ⟨v, e2, _⟩ := DataW.trod_int Tryz.underlying3 h1
  cases e1
  cases e2
  exact ⟨⟨k, v⟩, rfl⟩
theorem open_command (h : DataW.trod enc Tryz.prog W base sp held fuel 26 cs = some x) : ∃ n : Cm, cs = [.string ⟨n.p.toArray⟩, .int .i64 n.a.k, .int .i64 n.a.v, .int .i64 n.b.k, .int .i64 n.b.v] ∧ n.p.length ≤ maxLen := by
  obtain ⟨xs, n, rfl, rfl, hl, hlen, hf⟩ := DataW.trod_struct Tryz.underlying26 h
  rw [show Tryz.prog.cellsOf 26 = 5 by kernel_rfl] at hl
  obtain ⟨a, b, c, d, e, rfl⟩ := five_of hl
  obtain ⟨y0, y1, y2, rfl⟩ := three_of hlen
  have h0 := hf 0 _ rfl
  have h1 := hf 1 _ rfl
  have h2 := hf 2 _ rfl
  simp only [show Tryz.prog.cellsOf 9 = 1 by kernel_rfl, show Tryz.prog.cellsOf 24 = 2 by kernel_rfl, List.drop, List.take, List.getElem?_cons_zero, List.getElem?_cons_succ] at h0 h1 h2
  obtain ⟨s, e1, _, hs⟩ := DataW.trod_string Tryz.underlying9 h0
  obtain ⟨v, e2⟩ := open_content h1
  obtain ⟨u, e3⟩ := open_content h2
  obtain ⟨q, rfl, hq⟩ := str_of s
  cases e1
  cases e2
  cases e3
  exact ⟨⟨q, v, u⟩, rfl, by simpa only [hq] using hs⟩
theorem choose_list {α : Type} {n : Nat} {p : Nat → α → Prop} (h : ∀ i, i < n → ∃ a, p i a) : ∃ l : List α, l.length = n ∧ ∀ (i : Nat) a, l[i]? = some a → p i a := by
  induction n with
  | zero => exact ⟨[], rfl, fun i a h => by simp at h⟩
  | succ n ih =>
    obtain ⟨l, h1, h2⟩ := ih fun i hi => h i (by omega)
    obtain ⟨a, ha⟩ := h n (by omega)
    refine ⟨l ++ [a], by simp [h1], fun i b hb => ?_⟩
    by_cases hi : i < l.length
    · rw [List.getElem?_append_left hi] at hb
      exact h2 i b hb
    · rw [List.getElem?_append_right (by omega)] at hb
      by_cases h0 : i - l.length = 0
      · rw [h0] at hb
        cases hb
        obtain rfl : i = n := by omega
        exact ha
      · have := (List.getElem?_eq_some_iff.1 hb).1
        simp at this
        omega
theorem cells_get {a : Addr} {n : Nat} {l : List Value} (h : W.cells? base a n = some l) : l.length = n ∧ ∀ j, j < n → W.cell? (a.add j) = l[j]? := by
  unfold World.cells? at h
  split at h
  · refine ⟨by have := mapM_some_length h; simpa using this, fun j hj => mapM_some_get h j j (by simp [hj])⟩
  · cases h
/-- A slice of structs of plain data. -/
theorem open_sl {α : Type} {K : α → List AV} {V : α → List Value} {Q : α → Prop} {t e sz : Nat} {lv : Nat → Prop} (ht : Tryz.prog.underlying t = some (.slice e)) (hz : Tryz.prog.cellsOf e = sz) (h0 : 0 < sz)
    (hel : ∀ (fuel : Nat) (cs : List Value) (x : DataW H × List MemPlace), DataW.trod enc Tryz.prog W 0 sp held fuel e cs = some x → ∃ a, cs = V a ∧ Q a)
    (hV : ∀ a, (V a).length = sz ∧ (V a).all Value.oneCell' = true ∧ K a = (V a).map AV.v) (hlv : ∀ b, b < W.heap.size → ¬ lv b)
    (h : DataW.trod enc Tryz.prog W 0 sp held fuel t cs = some x) :
    ∃ (l : List α) (v : Value), cs = [v] ∧ C lv 0 W (.sl sz (l.map K)) v ∧ l.length ≤ maxLen ∧ ∀ a ∈ l, Q a := by
  rcases DataW.trod_slice ht h with ⟨rfl, _⟩ | ⟨a, len, cap, elems, rest, n, rfl, rfl, _, _, hl, hm, hlen, hg, _, _⟩
  · refine ⟨[], _, rfl, C.sl [] (fun _ _ => undef) ⟨by simp, fun h => absurd h (by simp)⟩ (fun h => absurd h (by simp)) (by simp) (by omega) ?_ ?_ ?_, by simp, by simp⟩ <;> intro k e <;> simp
  · have hex : ∀ i, i < len → ∃ b, (∀ j, j < sz → W.cell? (a.add (i * sz + j)) = (V b)[j]?) ∧ Q b := by
      intro i hi
      have h1 := hg i hi
      rw [hz] at h1
      obtain ⟨y, hy⟩ : ∃ y, elems[i]? = some y := ⟨_, List.getElem?_eq_getElem (by omega)⟩
      rw [hy, Option.bind_eq_some_iff] at h1
      obtain ⟨cs', hcs, hy'⟩ := h1
      obtain ⟨b, rfl, hb⟩ := hel _ _ _ hy'
      refine ⟨b, fun j hj => ?_, hb⟩
      have h2 := (cells_get hcs).2 j hj
      rw [← h2]
      congr 1
      unfold Addr.add
      by_cases g1 : j = 0
      · subst g1; simp
      · by_cases g2 : i * sz = 0
        · simp [g2]
        · rw [if_neg (by omega), if_neg g1, if_neg g2]
          simp only [Nat.add_assoc]
    obtain ⟨l, hll, hlg⟩ := choose_list hex
    subst hll
    have hcell : ∀ (i : Nat) b j, l[i]? = some b → j < sz → W.cell? (a.add (i * sz + j)) = (V b)[j]? := fun i b j hb hj => (hlg i b hb).1 j hj
    have hQ : ∀ b ∈ l, Q b := fun b hb => by
      obtain ⟨i, hi⟩ := List.getElem?_of_mem hb
      exact (hlg i b hi).2
    have xget : ∀ (l : List α) (i : Nat) b j, l[i]? = some b → j < sz → (l.flatMap V)[i * sz + j]? = (V b)[j]? := by
      intro l
      induction l with
      | nil => intro i b j hb; simp at hb
      | cons c l ih =>
        intro i b j hb hj
        cases i with
        | zero =>
          cases hb
          rw [List.flatMap_cons, Nat.zero_mul, Nat.zero_add, List.getElem?_append_left (by rw [(hV c).1]; exact hj)]
        | succ i =>
          rw [List.flatMap_cons, List.getElem?_append_right (by rw [(hV c).1, Nat.succ_mul]; omega), (hV c).1, show (i + 1) * sz + j - sz = i * sz + j by rw [Nat.succ_mul]; omega]
          exact ih i b j hb hj
    have xlen : ∀ l : List α, (l.flatMap V).length = l.length * sz := by
      intro l
      induction l with
      | nil => simp
      | cons c l ih => rw [List.flatMap_cons, List.length_append, (hV c).1, ih, List.length_cons, Nat.succ_mul]; omega
    have hVj : ∀ b j, j < sz → ∃ u, (V b)[j]? = some u ∧ u.oneCell' = true ∧ (K b)[j]? = some (.v u) := by
      intro b j hj
      obtain ⟨u, hu⟩ : ∃ u, (V b)[j]? = some u := ⟨_, List.getElem?_eq_getElem (by rw [(hV b).1]; exact hj)⟩
      refine ⟨u, hu, ?_, ?_⟩
      · exact List.all_eq_true.1 (hV b).2.1 u (List.mem_of_getElem? hu)
      · rw [(hV b).2.2, List.getElem?_map, hu]; rfl
    have hKl : ∀ b, (K b).length = sz := fun b => by rw [(hV b).2.2, List.length_map, (hV b).1]
    refine ⟨l, _, rfl, ?_, by omega, hQ⟩
    rw [← List.length_map (f := K)]
    refine C.sl (l.flatMap V) (fun i j => ((l.flatMap V)[i * sz + j]?).getD undef) ⟨by rw [xlen, List.length_map], fun hp => ?_⟩ (fun hp ad had => ?_) (by rw [List.length_map]; exact hl) hm (fun k e he => ?_) (fun k e j he hj => ?_) (fun k e j c he hj => ?_)
    · rw [List.length_map] at hp
      obtain ⟨b0, hb0⟩ : ∃ b, l[0]? = some b := ⟨_, List.getElem?_eq_getElem hp⟩
      obtain ⟨u0, hu0, _⟩ := hVj b0 0 h0
      have hc0 := hcell 0 b0 0 hb0 h0
      rw [hu0, Nat.zero_mul, Nat.zero_add] at hc0
      have hs : a.spot = none := by simpa [Addr.add] using World.cell?_spot hc0
      obtain ⟨b, off, spt⟩ := a
      simp only at hs
      subst hs
      refine ⟨b, off, rfl, Nat.zero_le _, ?_, fun j u hj => ?_⟩
      · have hc1 := hc0
        rw [show (⟨b, off, none⟩ : Addr).add 0 = ⟨b, off, none⟩ from rfl] at hc1
        obtain ⟨e', m, hsh, _, _⟩ := World.shape?_of_cell? hc1
        by_cases hb : b < W.heap.size
        · exact hb
        · rw [World.shape?, Array.getElem?_eq_none (by simpa using hb)] at hsh
          cases hsh
      · have hj1 : j < l.length * sz := by have := (List.getElem?_eq_some_iff.1 hj).1; rw [xlen] at this; exact this
        have hq : j / sz < l.length := Nat.div_lt_of_lt_mul (by rw [Nat.mul_comm]; exact hj1)
        obtain ⟨b1, hb1⟩ : ∃ b, l[j / sz]? = some b := ⟨_, List.getElem?_eq_getElem hq⟩
        have hm1 : j % sz < sz := Nat.mod_lt _ h0
        have ej : j / sz * sz + j % sz = j := by rw [Nat.mul_comm]; exact Nat.div_add_mod j sz
        have h3 := hcell _ b1 _ hb1 hm1
        have h4 := xget l _ b1 _ hb1 hm1
        rw [ej] at h3 h4
        rw [← h4, hj] at h3
        rw [← Go.WideShapes.add_plain]
        exact h3
    · rw [List.length_map] at hp
      cases had
      obtain ⟨b0, hb0⟩ : ∃ b, l[0]? = some b := ⟨_, List.getElem?_eq_getElem hp⟩
      obtain ⟨u0, hu0, _⟩ := hVj b0 0 h0
      have hc0 := hcell 0 b0 0 hb0 h0
      rw [hu0, Nat.zero_mul, Nat.zero_add] at hc0
      obtain ⟨e', m, hsh, _, _⟩ := World.shape?_of_cell? hc0
      refine hlv _ ?_
      by_cases hb : a.block < W.heap.size
      · exact hb
      · rw [World.shape?, Array.getElem?_eq_none (by simpa [Addr.add] using hb)] at hsh
        cases hsh
    · rw [List.getElem?_map, Option.map_eq_some_iff] at he
      obtain ⟨b, _, rfl⟩ := he
      exact hKl b
    · rw [List.getElem?_map, Option.map_eq_some_iff] at he
      obtain ⟨b, hb, rfl⟩ := he
      rw [hKl] at hj
      obtain ⟨u, hu, ho, _⟩ := hVj b j hj
      rw [xget l k b j hb hj, hu]
      exact ⟨rfl, ho⟩
    · rw [List.getElem?_map, Option.map_eq_some_iff] at he
      obtain ⟨b, hb, rfl⟩ := he
      have hj2 : j < sz := by have := (List.getElem?_eq_some_iff.1 hj).1; rwa [hKl] at this
      obtain ⟨u, hu, ho, hk⟩ := hVj b j hj2
      rw [hk] at hj
      cases hj
      rw [xget l k b j hb hj2, hu]
      exact C.v
theorem open_commands {lv : Nat → Prop} (hlv : ∀ b, b < W.heap.size → ¬ lv b) (h : DataW.trod enc Tryz.prog W 0 sp held fuel 40 cs = some x) :
    ∃ (l : List Cm) (v : Value), cs = [v] ∧ C lv 0 W (cmA l) v ∧ l.length ≤ maxLen ∧ ∀ n ∈ l, n.p.length ≤ maxLen :=
  open_sl (V := fun n : Cm => [.string ⟨n.p.toArray⟩, .int .i64 n.a.k, .int .i64 n.a.v, .int .i64 n.b.k, .int .i64 n.b.v]) Tryz.underlying40 (by kernel_rfl) (by omega) (fun _ _ _ h => open_command h) (fun a => ⟨rfl, rfl, rfl⟩) hlv h
theorem res_bool {fb : Nat → Prop} {b : Bool} {base : Nat} {w' : World} {rows : List Row} {rv : AV} {u : Value} (hd : vB b rv rows) (hr : Res fb base w' rows rv u) : u = .bool b := by
  obtain ⟨rfl, rfl⟩ := hd
  obtain ⟨loc, _, hG, _⟩ := hr
  cases hG with
  | cl hc => cases hc; rfl
end
end Go.Proofs.YtccifbbjbnjcfaaGreatDoor
/-
  Plain data of disks: what is read, written, renamed; in plain words.
-/
namespace Go.Proofs.YtccifbbjbnjcfaaGreatDoor
open Go Go.RowKit

/-- The file with a number. -/
def getB (bs : List BD) (nm : Int) : Option BD := bs.find? fun d => decide (d.name = nm)
def insB (d : BD) : List BD → List BD
  | [] => [d]
  | x :: r => if d.name < x.name then d :: x :: r else x :: insB d r
/-- A disk with a file in place of the one with its number. -/
def withB (bs : List BD) (d : BD) : List BD := insB d (bs.filter fun x => decide (x.name ≠ d.name))
def readD (bs : List BD) (nm : Int) : List Int × Bool :=
  if diskB bs then (match getB bs nm with | some d => (d.safe ++ d.fresh, true) | none => ([], false)) else ([], false)
/-- The file that is written. -/
def wrB (bs : List BD) (nm : Int) (xs : List Int) : BD := match getB bs nm with | some d => ⟨nm, d.safe, d.fresh ++ xs⟩ | none => ⟨nm, [], xs⟩
def writeD (bs : List BD) (nm : Int) (xs : List Int) : List BD × Bool :=
  if diskB bs && bytesB xs && inB nm 1 3 && diskB (withB bs (wrB bs nm xs)) then (withB bs (wrB bs nm xs), true) else ([], false)
def renD (bs : List BD) (a b : Int) : List BD × Bool :=
  if diskB bs && inB b 1 3 then (match getB bs a with
    | some d => (withB (bs.filter fun x => decide (x.name ≠ a)) ⟨b, d.safe, d.fresh⟩, true)
    | none => ([], false)) else ([], false)
/-- A file that may be on a disk. -/
def okF (d : BD) : Bool := inB d.name 1 3 && bytesB d.safe && bytesB d.fresh && decide (d.safe.length + d.fresh.length ≤ 400)
def ascB : List BD → Bool
  | [] => true
  | d :: r => r.all (fun x => decide (d.name < x.name)) && ascB r
theorem diskFrom_iff : ∀ (bs : List BD) (last : Int), 0 ≤ last → (diskFrom last bs = true ↔ bs.all okF = true ∧ ascB bs = true ∧ ∀ d ∈ bs, last < d.name)
  | [], last, _ => by simp [diskFrom, ascB]
  | d :: r, last, h0 => by
    simp only [diskFrom, Bool.and_eq_true, blobB, inB, decide_eq_true_eq, List.all_cons, okF, ascB, List.mem_cons, forall_eq_or_imp, List.all_eq_true]
    constructor
    · rintro ⟨⟨⟨⟨⟨h1, h2⟩, h3⟩, h4⟩, h5⟩, h6⟩
      obtain ⟨g1, g2, g3⟩ := (diskFrom_iff r d.name (by omega)).1 h6
      simp only [List.all_eq_true, okF, inB, Bool.and_eq_true, decide_eq_true_eq] at g1
      exact ⟨⟨⟨⟨⟨⟨by omega, h2⟩, h3⟩, h4⟩, h5⟩, g1⟩, ⟨g3, g2⟩, by omega, fun x hx => by have := g3 x hx; omega⟩
    · rintro ⟨⟨⟨⟨⟨⟨h1, h2⟩, h3⟩, h4⟩, h5⟩, g1⟩, ⟨g3, g2⟩, h6, h7⟩
      refine ⟨⟨⟨⟨⟨by omega, h2⟩, h3⟩, h4⟩, h5⟩, (diskFrom_iff r d.name (by omega)).2 ⟨?_, g2, g3⟩⟩
      simpa only [List.all_eq_true, okF, inB, Bool.and_eq_true, decide_eq_true_eq] using g1
theorem diskB_iff (bs : List BD) : diskB bs = true ↔ bs.all okF = true ∧ ascB bs = true := by
  unfold diskB
  rw [diskFrom_iff bs 0 (by omega)]
  constructor
  · rintro ⟨h1, h2, _⟩; exact ⟨h1, h2⟩
  · rintro ⟨h1, h2⟩
    refine ⟨h1, h2, fun d hd => ?_⟩
    have := List.all_eq_true.1 h1 d hd
    simp only [okF, inB, Bool.and_eq_true, decide_eq_true_eq] at this
    omega
theorem getB_name {bs : List BD} {nm : Int} {d : BD} (h : getB bs nm = some d) : d.name = nm ∧ d ∈ bs := ⟨by simpa using List.find?_some h, List.mem_of_find?_eq_some h⟩
theorem getB_none {bs : List BD} {nm : Int} (h : getB bs nm = none) : ∀ d ∈ bs, d.name ≠ nm := by
  unfold getB at h
  rw [List.find?_eq_none] at h
  intro d hd
  simpa using h d hd
theorem getB_filter (bs : List BD) (a nm : Int) : getB (bs.filter fun x => decide (x.name ≠ a)) nm = if nm = a then none else getB bs nm := by
  unfold getB
  rw [List.find?_filter]
  split
  · rename_i h
    subst h
    rw [List.find?_eq_none]
    intro x _
    simp
  · rename_i h
    congr 1
    funext x
    by_cases hx : x.name = nm
    · simp [hx, h]
    · simp [hx]
theorem getB_ins (d : BD) (nm : Int) : ∀ bs : List BD, (∀ x ∈ bs, x.name ≠ d.name) → getB (insB d bs) nm = if nm = d.name then some d else getB bs nm
  | [], _ => by
    unfold getB insB
    by_cases h : nm = d.name
    · simp [h]
    · simp [h, Ne.symm h]
  | x :: r, hn => by
    have hx := hn x List.mem_cons_self
    have ih := getB_ins d nm r fun y hy => hn y (List.mem_cons_of_mem _ hy)
    unfold getB at ih ⊢
    unfold insB
    split
    · by_cases h : nm = d.name
      · simp [h]
      · rw [if_neg h, List.find?_cons_of_neg (by simpa using Ne.symm h)]
    · by_cases h : x.name = nm
      · rw [List.find?_cons_of_pos (by simpa using h), if_neg (by rw [← h]; exact hx), List.find?_cons_of_pos (by simpa using h)]
      · rw [List.find?_cons_of_neg (by simpa using h), List.find?_cons_of_neg (by simpa using h), ih]
theorem getB_with (bs : List BD) (d : BD) (nm : Int) : getB (withB bs d) nm = if nm = d.name then some d else getB bs nm := by
  unfold withB
  rw [getB_ins d nm _ fun x hx => by simpa using (List.mem_filter.1 hx).2, getB_filter]
  split <;> simp_all
theorem mem_ins {d x : BD} : ∀ {bs : List BD}, x ∈ insB d bs ↔ x = d ∨ x ∈ bs
  | [] => by simp [insB]
  | y :: r => by
    unfold insB
    split
    · simp
    · simp only [List.mem_cons, mem_ins]
      constructor
      · rintro (h | h | h)
        · exact .inr (.inl h)
        · exact .inl h
        · exact .inr (.inr h)
      · rintro (h | h | h)
        · exact .inr (.inl h)
        · exact .inl h
        · exact .inr (.inr h)
theorem ascB_sub : ∀ {bs : List BD} (p : BD → Bool), ascB bs = true → ascB (bs.filter p) = true
  | [], p, _ => rfl
  | d :: r, p, h => by
    simp only [ascB, Bool.and_eq_true, List.all_eq_true] at h
    rw [List.filter_cons]
    split
    · simp only [ascB, Bool.and_eq_true, List.all_eq_true]
      exact ⟨fun x hx => h.1 x (List.mem_filter.1 hx).1, ascB_sub p h.2⟩
    · exact ascB_sub p h.2
theorem ascB_ins {d : BD} : ∀ {bs : List BD}, ascB bs = true → (∀ x ∈ bs, x.name ≠ d.name) → ascB (insB d bs) = true
  | [], _, _ => by simp [insB, ascB]
  | x :: r, h, hn => by
    simp only [ascB, Bool.and_eq_true, List.all_eq_true, decide_eq_true_eq] at h
    have hx := hn x List.mem_cons_self
    unfold insB
    split
    · rename_i hlt
      simp only [ascB, Bool.and_eq_true, List.all_eq_true, decide_eq_true_eq, List.mem_cons, forall_eq_or_imp]
      exact ⟨⟨hlt, fun y hy => by have := h.1 y hy; omega⟩, h.1, h.2⟩
    · simp only [ascB, Bool.and_eq_true, List.all_eq_true, decide_eq_true_eq]
      refine ⟨fun y hy => ?_, ascB_ins h.2 fun y hy => hn y (List.mem_cons_of_mem _ hy)⟩
      rcases mem_ins.1 hy with rfl | hy
      · omega
      · exact h.1 y hy
theorem disk_filter {bs : List BD} (p : BD → Bool) (h : diskB bs = true) : diskB (bs.filter p) = true := by
  rw [diskB_iff] at h ⊢
  refine ⟨List.all_eq_true.2 fun x hx => List.all_eq_true.1 h.1 x (List.mem_filter.1 hx).1, ascB_sub p h.2⟩
theorem disk_with {bs : List BD} {d : BD} (h : diskB bs = true) (hd : okF d = true) : diskB (withB bs d) = true := by
  have h1 := (diskB_iff _).1 (disk_filter (fun x => decide (x.name ≠ d.name)) h)
  rw [diskB_iff]
  unfold withB
  refine ⟨List.all_eq_true.2 fun x hx => ?_, ascB_ins h1.2 fun x hx => by simpa using (List.mem_filter.1 hx).2⟩
  rcases mem_ins.1 hx with rfl | hx
  · exact hd
  · exact List.all_eq_true.1 h1.1 x hx
theorem disk_okF {bs : List BD} {d : BD} (h : diskB bs = true) (hd : d ∈ bs) : okF d = true := List.all_eq_true.1 ((diskB_iff _).1 h).1 d hd
theorem disk_with_ok {bs : List BD} {d : BD} (h : diskB (withB bs d) = true) : okF d = true := disk_okF h (by unfold withB; exact mem_ins.2 (.inl rfl))
/-- Two disks with the same files are one. -/
theorem ext_asc : ∀ {x y : List BD}, ascB x = true → ascB y = true → (∀ nm, getB x nm = getB y nm) → x = y
  | [], [], _, _, _ => rfl
  | [], d :: r, _, _, h => by have := h d.name; simp [getB] at this
  | d :: r, [], _, _, h => by have := h d.name; simp [getB] at this
  | d :: r, e :: s, hx, hy, h => by
    simp only [ascB, Bool.and_eq_true, List.all_eq_true, decide_eq_true_eq] at hx hy
    have hde : d = e := by
      have h1 := h d.name
      have h2 := h e.name
      unfold getB at h1 h2
      rw [List.find?_cons_of_pos (by simp)] at h1
      rw [List.find?_cons_of_pos (l := s) (by simp)] at h2
      by_cases hn : d.name = e.name
      · rw [List.find?_cons_of_pos (by simp [hn])] at h1
        exact Option.some.inj h1
      · rw [List.find?_cons_of_neg (by simpa using Ne.symm hn)] at h1
        rw [List.find?_cons_of_neg (by simpa using hn)] at h2
        have g1 := hy.1 d (List.mem_of_find?_eq_some h1.symm)
        have g2 := hx.1 e (List.mem_of_find?_eq_some h2)
        omega
    subst hde
    congr 1
    refine ext_asc hx.2 hy.2 fun nm => ?_
    by_cases hn : d.name = nm
    · have e1 : getB r nm = none := by
        unfold getB; rw [List.find?_eq_none]; intro z hz; have := hx.1 z hz; simp; omega
      have e2 : getB s nm = none := by
        unfold getB; rw [List.find?_eq_none]; intro z hz; have := hy.1 z hz; simp; omega
      rw [e1, e2]
    · have := h nm
      unfold getB at this ⊢
      rwa [List.find?_cons_of_neg (by simpa using hn), List.find?_cons_of_neg (by simpa using hn)] at this
/-! ### The laws -/
theorem renD_ok {bs : List BD} {a b : Int} (h : (renD bs a b).2 = true) : ∃ d, diskB bs = true ∧ inB b 1 3 = true ∧ getB bs a = some d ∧ (renD bs a b).1 = withB (bs.filter fun x => decide (x.name ≠ a)) ⟨b, d.safe, d.fresh⟩ ∧ diskB (renD bs a b).1 = true := by
  unfold renD at h ⊢
  split at h
  · rename_i hc
    rw [if_pos hc]
    simp only [Bool.and_eq_true] at hc
    cases hg : getB bs a with
    | none => rw [hg] at h; cases h
    | some d =>
      have hd := disk_okF hc.1 (getB_name hg).2
      refine ⟨d, hc.1, hc.2, rfl, rfl, disk_with (disk_filter _ hc.1) ?_⟩
      simp only [okF, Bool.and_eq_true] at hd ⊢
      exact ⟨⟨⟨hc.2, hd.1.1.2⟩, hd.1.2⟩, hd.2⟩
  · cases h
theorem readD_v {bs : List BD} (h : diskB bs = true) (nm : Int) : readD bs nm = match getB bs nm with | some d => (d.safe ++ d.fresh, true) | none => ([], false) := by unfold readD; rw [if_pos h]
theorem writeD_ok {bs : List BD} {nm : Int} {xs : List Int} (h : (writeD bs nm xs).2 = true) : diskB bs = true ∧ bytesB xs = true ∧ inB nm 1 3 = true ∧ diskB (withB bs (wrB bs nm xs)) = true ∧ (writeD bs nm xs).1 = withB bs (wrB bs nm xs) := by
  unfold writeD at h ⊢
  split at h
  · rename_i hc
    rw [if_pos hc]
    simp only [Bool.and_eq_true] at hc
    exact ⟨hc.1.1.1, hc.1.1.2, hc.1.2, hc.2, rfl⟩
  · cases h
theorem wrB_name (bs : List BD) (nm : Int) (xs : List Int) : (wrB bs nm xs).name = nm := by unfold wrB; split <;> rfl
/-- P110. -/
theorem law_write {bs : List BD} {nm : Int} {xs : List Int} (h : (writeD bs nm xs).2 = true) :
    (readD (writeD bs nm xs).1 nm).2 = true ∧ (readD (writeD bs nm xs).1 nm).1 = (readD bs nm).1 ++ xs ∧ ∀ o, o ≠ nm → readD bs o = readD (writeD bs nm xs).1 o := by
  obtain ⟨h1, h2, h3, h4, h5⟩ := writeD_ok h
  rw [h5]
  have g := getB_with bs (wrB bs nm xs)
  rw [wrB_name] at g
  simp only [readD_v h1, readD_v h4, g, if_true]
  refine ⟨trivial, ?_, fun o ho => by rw [if_neg ho]⟩
  unfold wrB
  cases getB bs nm <;> simp
theorem bytesB_app (xs ys : List Int) : bytesB (xs ++ ys) = (bytesB xs && bytesB ys) := by simp [bytesB]
end Go.Proofs.YtccifbbjbnjcfaaGreatDoor
/-
  The abstract machine: names changed; rows that name one another.
-/
namespace Go.Proofs.YtccifbbjbnjcfaaGreatDoor
open Go Go.RowKit

/-- Names changed. -/
def rfA (f : Nat → Nat) : AV → AV
  | .o r n => .o (f r) n
  | .p r k off => .p (f r) k off
  | .q r lo z n => .q (f r) lo z n
  | .fn g caps => .fn g (caps.map (rfA f))
  | .agg cs => .agg (cs.map (rfA f))
  | .tup cs => .tup (cs.map (rfA f))
  | x => x
theorem idsL_at : ∀ {cs : List AV} {y : AV} {j : Nat}, cs[j]? = some y → ∀ r ∈ idsA y, r ∈ idsL cs
  | [], y, j, h, r, hr => by simp at h
  | z :: l, y, j, h, r, hr => by
    simp only [idsL, List.mem_append]
    cases j with
    | zero => simp at h; subst h; exact .inl hr
    | succ j => exact .inr (idsL_at (by simpa using h) r hr)
theorem C.rf {lv : Nat → Prop} {h : Hp} {loc : Loc} {w : World} {f : Nat → Nat} {x : AV} {u : Value} (hc : C lv 0 w x u) (hl : ∀ x u, C lv 0 w x u → C (Live h loc) 0 w x u) : G h loc w (rfA f x) u := by
  induction hc with
  | any => simp only [rfA]; exact .cl .any
  | v => simp only [rfA]; exact .cl .v
  | sl xs u a1 a2 a3 a4 a5 a6 a7 => simp only [rfA]; exact .cl (hl _ _ (.sl xs u a1 a2 a3 a4 a5 a6 a7))
  | ip b off u a1 a2 a3 a4 a5 => simp only [rfA]; exact .cl (hl _ _ (.ip b off u a1 a2 a3 a4 a5))
  | fn vs hs hg ih =>
    simp only [rfA]
    refine .fn vs (by simpa using hs) fun j a ha => ?_
    rw [List.getElem?_map, Option.map_eq_some_iff] at ha
    obtain ⟨y, hy, rfl⟩ := ha
    exact ih j y hy
  | agg vs hs hg ih =>
    simp only [rfA]
    refine .agg vs (by simpa using hs) fun j a ha => ?_
    rw [List.getElem?_map, Option.map_eq_some_iff] at ha
    obtain ⟨y, hy, rfl⟩ := ha
    exact ih j y hy
  | tup vs hs hg ih =>
    simp only [rfA]
    refine .tup vs (by simpa using hs) fun j a ha => ?_
    rw [List.getElem?_map, Option.map_eq_some_iff] at ha
    obtain ⟨y, hy, rfl⟩ := ha
    exact ih j y hy
theorem G.rf {h h' : Hp} {loc loc' : Loc} {w : World} {f : Nat → Nat} {p : Nat → Prop} {x : AV} {u : Value} (hg : G h loc w x u) (hin : ∀ r ∈ idsA x, p r)
    (hrow : ∀ q row, p q → hget h q = some row → loc' (f q) = loc q ∧ ∃ row', hget h' (f q) = some row' ∧ row'.sz = row.sz ∧ row.es.length ≤ row'.es.length)
    (hC : ∀ x u, C (Live h loc) 0 w x u → C (Live h' loc') 0 w x u) : G h' loc' w (rfA f x) u := by
  induction hg with
  | cl hc => exact hc.rf hC
  | @o q n row b c hr hl hn =>
    obtain ⟨h1, row', h2, h3, h4⟩ := hrow q row (hin _ (by simp [idsA])) hr
    simp only [rfA]; exact .o h2 (h1.trans hl) (by omega)
  | @onil q row hr hl =>
    obtain ⟨h1, row', h2, h3, h4⟩ := hrow q row (hin _ (by simp [idsA])) hr
    simp only [rfA]; exact .onil h2 (h1.trans hl)
  | @p q k off row b c hr hl =>
    obtain ⟨h1, row', h2, h3, h4⟩ := hrow q row (hin _ (by simp [idsA])) hr
    simp only [rfA]; rw [← h3]; exact .p h2 (h1.trans hl)
  | @q q lo z n row b c A c' hr hl hn =>
    obtain ⟨h1, row', h2, h3, h4⟩ := hrow q row (hin _ (by simp [idsA])) hr
    simp only [rfA]; exact .q h2 (h1.trans hl) hn
  | fn vs hs hg ih =>
    simp only [rfA]
    refine .fn vs (by simpa using hs) fun j a ha => ?_
    rw [List.getElem?_map, Option.map_eq_some_iff] at ha
    obtain ⟨y, hy, rfl⟩ := ha
    exact ih j y hy fun r hr => hin r (by simp only [idsA]; exact idsL_at hy r hr)
  | agg vs hs hg ih =>
    simp only [rfA]
    refine .agg vs (by simpa using hs) fun j a ha => ?_
    rw [List.getElem?_map, Option.map_eq_some_iff] at ha
    obtain ⟨y, hy, rfl⟩ := ha
    exact ih j y hy fun r hr => hin r (by simp only [idsA]; exact idsL_at hy r hr)
  | tup vs hs hg ih =>
    simp only [rfA]
    refine .tup vs (by simpa using hs) fun j a ha => ?_
    rw [List.getElem?_map, Option.map_eq_some_iff] at ha
    obtain ⟨y, hy, rfl⟩ := ha
    exact ih j y hy fun r hr => hin r (by simp only [idsA]; exact idsL_at hy r hr)

/-! ### Rows with names changed -/
def cloRow (row : Row) : Bool := row.cl || row.es.all (·.all isC)
/-- A row with its cells' names changed; one that names nothing stays. -/
def rfRow (f : Nat → Nat) (row : Row) : Row := if cloRow row then ⟨row.E, row.sz, row.es, true⟩ else ⟨row.E, row.sz, row.es.map (·.map (rfA f)), false⟩
/-- All that the row names is in the list. -/
def inRow (σ : List Nat) (row : Row) : Bool := cloRow row || row.es.all (·.all fun x => (idsA x).all fun r => σ.contains r)
theorem rfRow_E (f : Nat → Nat) (row : Row) : (rfRow f row).E = row.E := by unfold rfRow; split <;> rfl
theorem rfRow_sz (f : Nat → Nat) (row : Row) : (rfRow f row).sz = row.sz := by unfold rfRow; split <;> rfl
theorem rfRow_len (f : Nat → Nat) (row : Row) : (rfRow f row).es.length = row.es.length := by unfold rfRow; split <;> simp
theorem rfRow_ok {h h' : Hp} {loc loc' : Loc} {w : World} {f : Nat → Nat} {p : Nat → Prop} {r r' : Nat} {row : Row} (ho : RowOk h loc w r row) (hin : cloRow row = true ∨ ∀ e ∈ row.es, ∀ x ∈ e, ∀ q ∈ idsA x, p q) (hl : loc' r' = loc r)
    (hrow : ∀ q row, p q → hget h q = some row → loc' (f q) = loc q ∧ ∃ row', hget h' (f q) = some row' ∧ row'.sz = row.sz ∧ row.es.length ≤ row'.es.length)
    (hC : ∀ x u, C (Live h loc) 0 w x u → C (Live h' loc') 0 w x u) : RowOk h' loc' w r' (rfRow f row) := by
  obtain ⟨q1, xs, q2, q3⟩ := ho
  have hv : rowVal loc' r' row.es.length = rowVal loc r row.es.length := by simp only [rowVal, hl]
  by_cases hc : cloRow row = true
  · unfold rfRow
    rw [if_pos hc]
    refine ⟨q1, xs, by rw [hv]; exact q2, fun k e j x he hx => ?_⟩
    obtain ⟨u, p1, p2, p3, p4⟩ := q3 k e j x he hx
    have hcx : C (Live h loc) 0 w x u := by
      unfold cloRow at hc
      rw [Bool.or_eq_true] at hc
      rcases hc with hc | hc
      · exact p4 hc
      · exact isC_ok p3 (List.all_eq_true.1 (List.all_eq_true.1 hc e (List.mem_of_getElem? he)) x (List.mem_of_getElem? hx))
    exact ⟨u, p1, p2, .cl (hC _ _ hcx), fun _ => hC _ _ hcx⟩
  · have hin : ∀ e ∈ row.es, ∀ x ∈ e, ∀ q ∈ idsA x, p q := hin.resolve_left hc
    unfold rfRow
    rw [if_neg hc]
    refine ⟨fun k e he => ?_, xs, by rw [List.length_map, hv]; exact q2, fun k e j x he hx => ?_⟩
    · simp only [List.getElem?_map, Option.map_eq_some_iff] at he
      obtain ⟨e', he', rfl⟩ := he
      rw [List.length_map]; exact q1 k e' he'
    · simp only [List.getElem?_map, Option.map_eq_some_iff] at he
      obtain ⟨e', he', rfl⟩ := he
      rw [List.getElem?_map, Option.map_eq_some_iff] at hx
      obtain ⟨x', hx', rfl⟩ := hx
      obtain ⟨u, p1, p2, p3, p4⟩ := q3 k e' j x' he' hx'
      exact ⟨u, p1, p2, p3.rf (hin e' (List.mem_of_getElem? he') x' (List.mem_of_getElem? hx')) hrow hC, fun h => by cases h⟩
def rowsX (h : Hp) (σ : List Nat) : List Nat → Option (List Row)
  | [] => some []
  | r :: l => match hget h r, rowsX h σ l with
    | some row, some rows => if inRow σ row then some (rfRow (ixOf σ) row :: rows) else none
    | _, _ => none
theorem rowsX_get {h : Hp} {σ : List Nat} : ∀ {τ : List Nat} {rows : List Row}, rowsX h σ τ = some rows → rows.length = τ.length ∧ ∀ (i r : Nat), τ[i]? = some r → ∃ row, hget h r = some row ∧ inRow σ row = true ∧ rows[i]? = some (rfRow (ixOf σ) row)
  | [], rows, hr => by
    simp only [rowsX, Option.some.injEq] at hr
    subst hr
    exact ⟨rfl, fun i r h => by simp at h⟩
  | q :: l, rows, hr => by
    simp only [rowsX] at hr
    split at hr
    · rename_i row rs h1 h2
      split at hr
      · rename_i hc
        cases hr
        obtain ⟨g1, g2⟩ := rowsX_get h2
        refine ⟨by simp [g1], fun i r hi => ?_⟩
        cases i with
        | zero => simp at hi; subst hi; exact ⟨row, h1, hc, rfl⟩
        | succ i => exact g2 i r (by simpa using hi)
      · cases hr
    · cases hr
theorem inRow_spec {σ : List Nat} {row : Row} (h : inRow σ row = true) : cloRow row = true ∨ ∀ e ∈ row.es, ∀ x ∈ e, ∀ q ∈ idsA x, q ∈ σ := by
  unfold inRow at h
  rw [Bool.or_eq_true] at h
  rcases h with h | h
  · exact .inl h
  · refine .inr fun e he x hx q hq => ?_
    have := List.all_eq_true.1 (List.all_eq_true.1 (List.all_eq_true.1 h e he) x hx) q hq
    simpa using this

section
variable {w0 : World} {lent : Lent} {s : AS} {loc : Loc} {a : Act} {w : World}
/-- Some rows of a frame, by their places in a list of names; they may name one another. -/
theorem pick_okX {σ : List Nat} {rows : List Row} (hR : Rel w0 lent s loc a w) (hn : ndB σ = true) (hr : rowsX s.h σ σ = some rows) {loc' : Loc} (hloc : ∀ i, loc' i = (σ[i]?).bind loc)
    (hfb : ∀ b, loc'.fb b → Live s.h loc b) :
    (∀ x u, C (Live s.h loc) 0 w x u → C (Live (hpOf 0 rows) loc') 0 w x u) ∧ (∀ i row', hget (hpOf 0 rows) i = some row' → RowOk (hpOf 0 rows) loc' w i row' ∧ ∃ r row, σ[i]? = some r ∧ hget s.h r = some row ∧ row'.sz = row.sz ∧ row'.es.length = row.es.length ∧ row'.E = row.E) ∧
    (∀ i j row1 row2 b c c', hget (hpOf 0 rows) i = some row1 → hget (hpOf 0 rows) j = some row2 → loc' i = some (b, c) → loc' j = some (b, c') → i = j) ∧
    (∀ x u, G s.h loc w x u → (∀ r ∈ idsA x, r ∈ σ) → G (hpOf 0 rows) loc' w (rfA (ixOf σ) x) u) := by
  obtain ⟨hlen, hget'⟩ := rowsX_get hr
  have hnd := ndB_ok hn
  have hinv : ∀ i row', hget (hpOf 0 rows) i = some row' → ∃ r row, σ[i]? = some r ∧ hget s.h r = some row ∧ inRow σ row = true ∧ row' = rfRow (ixOf σ) row := fun i row' h => by
    rw [hget_hpOf, if_pos (Nat.zero_le _), Nat.sub_zero] at h
    have hi := lt_of_some h
    have hi' : i < σ.length := by omega
    obtain ⟨row, h2, h3, h4⟩ := hget' i _ (List.getElem?_eq_getElem hi')
    rw [h] at h4
    cases h4
    exact ⟨_, row, List.getElem?_eq_getElem hi', h2, h3, rfl⟩
  have hrow : ∀ r row, r ∈ σ → hget s.h r = some row → loc' (ixOf σ r) = loc r ∧ ∃ row', hget (hpOf 0 rows) (ixOf σ r) = some row' ∧ row'.sz = row.sz ∧ row.es.length ≤ row'.es.length := fun r row hm h => by
    have h1 := ixOf_get hm
    obtain ⟨row', h2, h3, h4⟩ := hget' _ r h1
    rw [h] at h2
    cases h2
    refine ⟨by rw [hloc, h1]; rfl, rfRow (ixOf σ) row, by rw [hget_hpOf, if_pos (Nat.zero_le _), Nat.sub_zero]; exact h4, rfRow_sz _ _, Nat.le_of_eq (rfRow_len _ _).symm⟩
  have hlive : ∀ b, Live (hpOf 0 rows) loc' b → Live s.h loc b := by
    rintro b (⟨i, row', c, h1, h2⟩ | hf)
    · obtain ⟨r, row, g1, g2, _, _⟩ := hinv i row' h1
      rw [hloc, g1, Option.bind_some] at h2
      exact .inl ⟨r, row, c, g2, h2⟩
    · exact hfb b hf
  have hC : ∀ x u, C (Live s.h loc) 0 w x u → C (Live (hpOf 0 rows) loc') 0 w x u := fun x u hx => hx.mono (Nat.le_refl _) (Nat.le_refl _) fun b _ _ hnl => ⟨fun h => hnl (hlive b h), rfl⟩
  refine ⟨hC, fun i row' h => ?_, fun i j row1 row2 b c c' h1 h2 h3 h4 => ?_, fun x u hg hs => hg.rf hs hrow hC⟩
  · obtain ⟨r, row, g1, g2, g3, rfl⟩ := hinv i row' h
    exact ⟨rfRow_ok (hR.rw r row g2) (inRow_spec g3) (by rw [hloc, g1]; rfl) hrow hC, r, row, g1, g2, rfRow_sz _ _, rfRow_len _ _, rfRow_E _ _⟩
  · obtain ⟨r1, rw1, g1, g2, _, _⟩ := hinv i row1 h1
    obtain ⟨r2, rw2, g3, g4, _, _⟩ := hinv j row2 h2
    rw [hloc, g1, Option.bind_some] at h3
    rw [hloc, g3, Option.bind_some] at h4
    have := hR.inj r1 r2 rw1 rw2 b c c' g2 g4 h3 h4
    subst this
    exact hnd i j r1 g1 g3
end

/-! ### Contracts -/
/-- Lent rows lie apart; they may name one another. -/
structure LWX (lr : List Row) (fb : Nat → Prop) (w : World) (loc : Loc) : Prop where
  fbe : loc.fb = fb
  rw : ∀ r row, hget (hpOf 0 lr) r = some row → RowOk (hpOf 0 lr) loc w r row
  inj : ∀ r r' row row' b c c', hget (hpOf 0 lr) r = some row → hget (hpOf 0 lr) r' = some row' → loc r = some (b, c) → loc r' = some (b, c') → r = r'
  fbl : ∀ b, fb b → b < w.heap.size ∧ ¬ LiveR (hpOf 0 lr) loc b
structure LPX (lr lr' rows : List Row) (fb : Nat → Prop) (loc : Loc) (w w' : World) (rv : AV) (v : Value) (loc' : Loc) : Prop where
  len : lr'.length = lr.length
  os : w'.os = w.os
  tape : w'.tape = w.tape
  output : w'.output = w.output
  size : w.heap.size ≤ w'.heap.size
  keep : ∀ b, b < w.heap.size → ¬ LiveR (hpOf 0 lr) loc b → w'.heap[b]? = w.heap[b]?
  fbe : loc'.fb = fb
  stay : ∀ r, r < lr.length → loc' r = loc r
  val : G (hpOf 0 (lr' ++ rows)) loc' w' rv v
  rw : ∀ r row, hget (hpOf 0 (lr' ++ rows)) r = some row → RowOk (hpOf 0 (lr' ++ rows)) loc' w' r row
  inj : ∀ r r' row row' b c c', hget (hpOf 0 (lr' ++ rows)) r = some row → hget (hpOf 0 (lr' ++ rows)) r' = some row' → loc' r = some (b, c) → loc' r' = some (b, c') → r = r'
  own : ∀ r row b c, hget (hpOf 0 (lr' ++ rows)) r = some row → loc' r = some (b, c) → w.heap.size ≤ b ∨ LiveR (hpOf 0 lr) loc b
/-- A contract with lent rows (0, 1, ..) that stay where they are; they, and the new rows, may name one another. -/
def PCX (P : Program) (f : FuncId) (lr : List Row) (args : List AV) (D : AV → List Row → List Row → Prop) : Prop :=
  (∀ (vs : Array Value) (W : World), (callFunc f vs).run P W = .ok (.enter f vs) W) ∧
  ∀ (w : World) (fb : Nat → Prop) (loc : Loc) (vs : Array Value), LWX lr fb w loc → vs.size = args.length → (∀ (j : Nat) x, args[j]? = some x → G (hpOf 0 lr) loc w x (vs.getD j undef)) →
    Calls P f vs w fun e w' => ∃ rv lr' rows v loc', D rv lr' rows ∧ e = .returned v ∧ LPX lr lr' rows fb loc w w' rv v loc'
theorem PCX.mono {P : Program} {f : FuncId} {lr : List Row} {args : List AV} {D D' : AV → List Row → List Row → Prop} (h : PCX P f lr args D) (hd : ∀ rv lr' rows, D rv lr' rows → D' rv lr' rows) : PCX P f lr args D' :=
  ⟨h.1, fun w fb loc vs h1 h2 h3 => (h.2 w fb loc vs h1 h2 h3).mono fun _ _ ⟨rv, lr', rows, v, loc', h4, h5⟩ => ⟨rv, lr', rows, v, loc', hd _ _ _ h4, h5⟩⟩
def nmX (i : Nat) : Nat := 500000 + i
def hpX : Nat → List Row → Hp
  | _, [] => []
  | n, r :: l => (nmX n, rfRow nmX r) :: hpX (n + 1) l
theorem hget_hpX : ∀ (l : List Row) (n i : Nat), n ≤ i → hget (hpX n l) (nmX i) = (l[i - n]?).map (rfRow nmX)
  | [], n, i, h => by simp [hpX, hget]
  | r :: l, n, i, h => by
    simp only [hpX, hget]
    by_cases e : n = i
    · subst e; simp
    · rw [if_neg (by unfold nmX; omega), hget_hpX l (n + 1) i (by omega), show i - n = (i - (n + 1)) + 1 from by omega, List.getElem?_cons_succ]
theorem hget_hpX_inv : ∀ (l : List Row) (n q : Nat) (row : Row), hget (hpX n l) q = some row → ∃ i row0, n ≤ i ∧ nmX i = q ∧ l[i - n]? = some row0 ∧ row = rfRow nmX row0
  | [], n, q, row, h => by cases h
  | r :: l, n, q, row, h => by
    simp only [hpX, hget] at h
    split at h
    · rename_i e
      cases h
      exact ⟨n, r, Nat.le_refl _, e, by simp, rfl⟩
    · obtain ⟨i, row0, h1, h2, h3, h4⟩ := hget_hpX_inv l (n + 1) q row h
      refine ⟨i, row0, by omega, h2, ?_, h4⟩
      rw [show i - n = (i - (n + 1)) + 1 from by omega, List.getElem?_cons_succ]
      exact h3
def locX (loc : Loc) (n : Nat) : Loc := ⟨fun q => if 500000 ≤ q ∧ q < 500000 + n then loc (q - 500000) else none, loc.fb⟩
theorem locX_nm {loc : Loc} {n i : Nat} (hi : i < n) : locX loc n (nmX i) = loc i := by
  unfold nmX locX
  simp only
  rw [if_pos ⟨by omega, by omega⟩, Nat.add_sub_cancel_left]
def LPXpost (w0 : World) (fb : Nat → Prop) (lr : List Row) (loc : Loc) (D : AV → List Row → List Row → Prop) (e : Ending) (w' : World) : Prop :=
  ∃ rv lr' rows v loc', D rv lr' rows ∧ e = .returned v ∧ LPX lr lr' rows fb loc w0 w' rv v loc'
def lentX (lr : List Row) (fb : Nat → Prop) (loc : Loc) : Lent := ⟨fun b => LiveR (hpOf 0 lr) loc b, fb, fun q => if 500000 ≤ q ∧ q < 500000 + lr.length then some (loc (q - 500000)) else none⟩
abbrev AWX (P : Program) (w0 : World) (fb : Nat → Prop) (lr : List Row) (loc : Loc) (fn : Func) (D : AV → List Row → List Row → Prop) (k : List It) (s : AS) : Prop :=
  AW P w0 (lentX lr fb loc) (bodyPost P fn (LPXpost w0 fb lr loc D)) k s
abbrev RWX (P : Program) (w0 : World) (fb : Nat → Prop) (lr : List Row) (loc : Loc) (fn : Func) (D : AV → List Row → List Row → Prop) (r : R) : Prop :=
  RWp P w0 (lentX lr fb loc) (bodyPost P fn (LPXpost w0 fb lr loc D)) r
section
variable {P : Program}
theorem pcx_enter {f : FuncId} {fn : Func} {c : Code} {lr : List Row} {args : List AV} {D : AV → List Row → List Row → Prop} (hf : P.funcs[f]? = some fn) (hn : (fn.name == "runtime.NumGoroutine") = false) (hb : fn.body = some c) (h100 : lr.length ≤ 100000)
    (h : ∀ w0 fb loc, AWX P w0 fb lr loc fn D [.code c] ⟨args.map (rfA nmX) ++ List.replicate (fn.ntmps - args.length) .any, hpX 0 lr⟩) : PCX P f lr args D := by
  have hn' : ¬ fn.name = "runtime.NumGoroutine" := by simpa using hn
  refine ⟨fun vs W => by simp [callFunc, hf, hn', hb], fun w fb loc vs hlw hs hg => ?_⟩
  refine calls_of_wp hf hb ?_
  have hrow : ∀ q row, True → hget (hpOf 0 lr) q = some row → locX loc lr.length (nmX q) = loc q ∧ ∃ row', hget (hpX 0 lr) (nmX q) = some row' ∧ row'.sz = row.sz ∧ row.es.length ≤ row'.es.length := fun q row _ hq => by
    rw [hget_hpOf, if_pos (Nat.zero_le _), Nat.sub_zero] at hq
    have hlt := lt_of_some hq
    exact ⟨locX_nm hlt, rfRow nmX row, by rw [hget_hpX lr 0 q (Nat.zero_le _), Nat.sub_zero, hq]; rfl, rfRow_sz _ _, Nat.le_of_eq (rfRow_len _ _).symm⟩
  have hinv : ∀ q row, hget (hpX 0 lr) q = some row → ∃ i row0, nmX i = q ∧ hget (hpOf 0 lr) i = some row0 ∧ locX loc lr.length q = loc i ∧ row = rfRow nmX row0 := fun q row hq => by
    obtain ⟨i, row0, _, h2, h3, h4⟩ := hget_hpX_inv lr 0 q row hq
    rw [Nat.sub_zero] at h3
    refine ⟨i, row0, h2, by rw [hget_hpOf, if_pos (Nat.zero_le _), Nat.sub_zero]; exact h3, ?_, h4⟩
    rw [← h2]; exact locX_nm (lt_of_some h3)
  have hlive : ∀ b, Live (hpX 0 lr) (locX loc lr.length) b → Live (hpOf 0 lr) loc b := by
    rintro b (⟨q, row, c', h1, h2⟩ | hfb)
    · obtain ⟨i, row0, rfl, h4, h5, rfl⟩ := hinv q row h1
      rw [h5] at h2
      exact .inl ⟨i, row0, c', h4, h2⟩
    · exact .inr hfb
  have hC : ∀ x u, C (Live (hpOf 0 lr) loc) 0 w x u → C (Live (hpX 0 lr) (locX loc lr.length)) 0 w x u := fun x u hx => hx.mono (Nat.le_refl _) (Nat.le_refl _) fun b _ _ hnl => ⟨fun hl => hnl (hlive b hl), rfl⟩
  have hG : ∀ x u, G (hpOf 0 lr) loc w x u → G (hpX 0 lr) (locX loc lr.length) w (rfA nmX x) u := fun x u hx => hx.rf (p := fun _ => True) (fun _ _ => trivial) hrow hC
  refine h w fb loc (locX loc lr.length) _ w ⟨?_, fun i x hx => ?_, rfl, fun r row hr => ?_, fun r r' row row' b c c' h1 h2 h3 h4 => ?_, fun r row b c h1 h2 => ?_, rfl, rfl, rfl, Nat.le_refl _, fun _ _ _ => rfl, hlw.fbe, hlw.fbl, fun r p hp => ?_, fun r p hp => ?_⟩
  · simp [hs]
  · by_cases hi : i < args.length
    · simp only at hx
      rw [List.getElem?_append_left (by simpa using hi), List.getElem?_map, Option.map_eq_some_iff] at hx
      obtain ⟨y, hy, rfl⟩ := hx
      have := hG _ _ (hg i y hy)
      have e : (vs ++ Array.replicate (fn.ntmps - vs.size) undef).getD i undef = vs.getD i undef := by
        rw [Array.getD_eq_getD_getElem?, Array.getElem?_append, if_pos (by omega), ← Array.getD_eq_getD_getElem?]
      rw [e]
      exact this
    · simp only at hx
      rw [List.getElem?_append_right (by simp; omega), List.getElem?_replicate] at hx
      split at hx
      · cases hx; exact .cl .any
      · cases hx
  · obtain ⟨i, row0, rfl, h4, h5, rfl⟩ := hinv r row hr
    exact rfRow_ok (hlw.rw i row0 h4) (.inr fun _ _ _ _ _ _ => trivial) h5 hrow hC
  · obtain ⟨i, _, rfl, g1, g2, _⟩ := hinv r row h1
    obtain ⟨j, _, rfl, g3, g4, _⟩ := hinv r' row' h2
    rw [g2] at h3
    rw [g4] at h4
    rw [hlw.inj i j _ _ b c c' g1 g3 h3 h4]
  · obtain ⟨i, row0, rfl, g1, g2, _⟩ := hinv r row h1
    rw [g2] at h2
    exact .inr ⟨i, row0, c, g1, h2⟩
  · simp only [lentX] at hp
    split at hp
    · rename_i hh
      cases hp
      have := locX_nm (loc := loc) (n := lr.length) (i := r - 500000) (by omega)
      unfold nmX at this
      rwa [show 500000 + (r - 500000) = r from by omega] at this
    · cases hp
  · simp only [lentX] at hp
    split at hp
    · rename_i hh; cases hp; omega
    · cases hp
/-- What the function returns, the lent rows, and the own rows named in 'ns'. -/
def retX (P : Program) (m : Nat) (ns : List Nat) (rs : List ResultVar) (s : AS) : Option (AV × List Row × List Row) :=
  match resL P s rs with
  | some l =>
    if ndB ((List.range m).map nmX ++ ns) && (idsA (retV l)).all (fun r => ((List.range m).map nmX ++ ns).contains r) then
      (match rowsX s.h ((List.range m).map nmX ++ ns) ((List.range m).map nmX ++ ns) with
      | some all => some (rfA (ixOf ((List.range m).map nmX ++ ns)) (retV l), all.take m, all.drop m)
      | none => none) else none
  | none => none
theorem at_retX {w0 : World} {fb : Nat → Prop} {lr : List Row} {loc0 : Loc} {fn : Func} {D : AV → List Row → List Row → Prop} {s : AS} (ns : List Nat) (h : match retX P lr.length ns fn.results.toList s with | some (rv, lr', rows) => D rv lr' rows | none => False) :
    RWX P w0 fb lr loc0 fn D (.ret s) := by
  split at h
  · rename_i rv lr' rows hret
    unfold retX at hret
    split at hret
    · rename_i l hl
      split at hret
      · rename_i hn
        split at hret
        · rename_i all h1
          cases hret
          intro loc a w hR
          obtain ⟨v, g1, g2⟩ := retV_ok hR hl
          rw [Bool.and_eq_true] at hn
          have e0 : all.take lr.length ++ all.drop lr.length = all := List.take_append_drop _ _
          obtain ⟨τ, hτ⟩ : ∃ τ, τ = (List.range lr.length).map nmX ++ ns := ⟨_, rfl⟩
          rw [← hτ] at hn h1 h
          let loc' : Loc := ⟨fun i => (τ[i]?).bind loc, fb⟩
          obtain ⟨_, k2, k3, k4⟩ := pick_okX hR hn.1 h1 (loc' := loc') (fun i => rfl) (fun b hb => .inr (by rw [hR.fbe]; exact hb))
          have hal : all.length = lr.length + ns.length := by have := (rowsX_get h1).1; rw [this, hτ]; simp
          have hm : (all.take lr.length).length = lr.length := by rw [List.length_take]; omega
          refine ⟨hR.df, v, g1, _, _, _, v, loc', h, rfl, hm, hR.os, hR.tape, hR.output, hR.size, fun b hb hnl => hR.keep b hb hnl, rfl, fun r hr => ?_, ?_, fun r row hr => ?_, ?_, fun r row b c hr hl' => ?_⟩
          · have e1 : τ[r]? = some (nmX r) := by
              rw [hτ, List.getElem?_append_left (by simpa using hr), List.getElem?_map, List.getElem?_range hr]; rfl
            show (τ[r]?).bind loc = loc0 r
            rw [e1, Option.bind_some]
            refine hR.pn _ _ ?_
            show (if 500000 ≤ nmX r ∧ nmX r < 500000 + lr.length then some (loc0 (nmX r - 500000)) else none) = some (loc0 r)
            unfold nmX
            rw [if_pos ⟨by omega, by omega⟩, Nat.add_sub_cancel_left]
          · rw [e0]
            exact k4 _ _ g2 fun r hr => by
              have := List.all_eq_true.1 hn.2 r hr
              simpa using this
          · rw [e0] at hr ⊢
            exact (k2 r row hr).1
          · rw [e0]; exact k3
          · rw [e0] at hr
            obtain ⟨_, r', row', q1, q2, _⟩ := k2 r row hr
            have e1 : loc' r = loc r' := by show (τ[r]?).bind loc = loc r'; rw [q1]; rfl
            rw [e1] at hl'
            exact hR.own r' row' b c q2 hl'
        · cases hret
      · cases hret
    · cases hret
  · exact h.elim
end
end Go.Proofs.YtccifbbjbnjcfaaGreatDoor
/-
  The abstract machine: a call that lends rows which may name one another.
-/
namespace Go.Proofs.YtccifbbjbnjcfaaGreatDoor
open Go Go.RowKit

def backX (s : AS) (dst : Option Tmp) (σ : List Nat) (rv : AV) (lr' rows : List Row) : AS :=
  AS.put ⟨s.t, hsL s.h σ (lr'.map (rfRow (nmB σ (baseOf dst)))) ++ hpOf (baseOf dst) (rows.map (rfRow (nmB σ (baseOf dst))))⟩ dst (rfA (nmB σ (baseOf dst)) rv)
/-- A row that is not touched, in another world. -/
theorem row_else {h h' : Hp} {loc loc' : Loc} {w w' : World} {q : Nat} {row : Row} (ho : RowOk h loc w q row) (hl : loc' q = loc q) (hb : ∀ b c, loc q = some (b, c) → w'.heap[b]? = w.heap[b]?)
    (hG : ∀ x u, G h loc w x u → G h' loc' w' x u) (hC : ∀ x u, C (Live h loc) 0 w x u → C (Live h' loc') 0 w' x u) : RowOk h' loc' w' q row := by
  obtain ⟨q1, xs, q2, q3⟩ := ho
  refine ⟨q1, xs, ?_, fun k e j x he hx => ?_⟩
  · have e1 : rowVal loc' q row.es.length = rowVal loc q row.es.length := by simp only [rowVal, hl]
    rw [e1]
    refine ⟨q2.1, ?_⟩
    rcases q2.2 with h6 | ⟨g, cap, cur, e2, e3, e4, e5⟩
    · exact .inl h6
    · refine .inr ⟨g, cap, cur, e2, e3, ?_, e5⟩
      cases hl : loc q with
      | none => rw [show rowVal loc q row.es.length = .slice none 0 0 from by simp only [rowVal, hl]] at e2; cases e2
      | some bc =>
        obtain ⟨b, c⟩ := bc
        rw [show rowVal loc q row.es.length = .slice (some ⟨b, 0, none⟩) row.es.length c from by simp only [rowVal, hl]] at e2
        cases e2
        rw [hb _ _ hl]; exact e4
  · obtain ⟨u, p1, p2, p3, p4⟩ := q3 k e j x he hx
    exact ⟨u, p1, p2, hG _ _ p3, fun hc => hC _ _ (p4 hc)⟩
section
variable {P : Program} {w0 : World} {lent : Lent} {Q : Exit → Act → World → Prop}
theorem call_lendX {f : FuncId} {args : List AV} {dst : Option Tmp} {k : List It} {s : AS} (σ : List Nat) {lr : List Row} {D : AV → List Row → List Row → Prop} (hn : ndB σ = true) (hr : rowsX s.h σ σ = some lr)
    (hids : (idsL args).all (fun r => σ.contains r) = true) (hpc : PCX P f lr (args.map (rfA (ixOf σ))) D)
    (hk : ∀ rv lr' rows, D rv lr' rows → shB none 0 lr lr' = true ∧ frB s.h (baseOf dst) rows.length = true ∧ AW P w0 lent Q k (backX s dst σ rv lr' rows)) : RWp P w0 lent Q (.call f args dst k s) := by
  intro loc a w hR vs hs hg
  obtain ⟨hlen, hget'⟩ := rowsX_get hr
  have hnd := ndB_ok hn
  let isσ : Nat → Prop := fun b => ∃ r row c, r ∈ σ ∧ hget s.h r = some row ∧ loc r = some (b, c)
  let loc1 : Loc := ⟨fun i => (σ[i]?).bind loc, fun b => Live s.h loc b ∧ ¬ isσ b⟩
  obtain ⟨kC, kR, kI, kG⟩ := pick_okX hR hn hr (loc' := loc1) (fun i => rfl) (fun b hb => hb.1)
  have hlent : ∀ b, LiveR (hpOf 0 lr) loc1 b → isσ b := fun b ⟨i, row', c, h1, h2⟩ => by
    obtain ⟨_, r, row, g1, g2, _⟩ := kR i row' h1
    have : loc1 i = loc r := by show (σ[i]?).bind loc = loc r; rw [g1]; rfl
    rw [this] at h2
    exact ⟨r, row, c, List.mem_of_getElem? g1, g2, h2⟩
  have hlivelt : ∀ b, Live s.h loc b → b < w.heap.size := fun b hb => by
    rcases hb with hb | hb
    · exact Live.lt hR.rw hb
    · rw [hR.fbe] at hb
      exact Nat.lt_of_lt_of_le (hR.fbl b hb).1 hR.size
  have hnf : ∀ r row b c, hget s.h r = some row → loc r = some (b, c) → ¬ loc.fb b := fun r row b c h1 h2 hf => by
    rw [hR.fbe] at hf
    obtain ⟨h3, h4⟩ := hR.fbl b hf
    rcases hR.own r row b c h1 h2 with h5 | h5
    · omega
    · exact h4 h5
  refine ⟨hpc.1 vs w, (hpc.2 w _ loc1 vs ⟨rfl, fun r row h => (kR r row h).1, kI, fun b hb => ⟨hlivelt b hb.1, fun hl => hb.2 (hlent b hl)⟩⟩ (by simpa using hs) fun j x hx => ?_).mono ?_⟩
  · rw [List.getElem?_map, Option.map_eq_some_iff] at hx
    obtain ⟨y, hy, rfl⟩ := hx
    refine kG _ _ (hg j y hy) fun r hr' => ?_
    have := List.all_eq_true.1 hids r (idsL_mem hy r hr')
    simpa using this
  · rintro e w' ⟨rv, lr', rows, v, loc2, hD, rfl, hL⟩
    obtain ⟨hsh, hfr, hk⟩ := hk rv lr' rows hD
    refine ⟨v, rfl, ?_⟩
    obtain ⟨hll, hshape⟩ := shB_spec lr lr' 0 hsh
    have hσl : σ.length = lr'.length := by rw [hll]; exact hlen.symm
    have hfree := frB_ok hfr
    have hfle := frB_le hfr
    obtain ⟨nb, hnb0⟩ : ∃ nb, nb = nmB σ (baseOf dst) := ⟨_, rfl⟩
    let loc3 : Loc := ⟨fun q => if q ∈ σ then loc2 (ixOf σ q) else if baseOf dst ≤ q ∧ q < baseOf dst + rows.length then loc2 (σ.length + (q - baseOf dst)) else loc q, loc.fb⟩
    have hσ_in : ∀ q, q ∈ σ → ∃ row, hget s.h q = some row := fun q hq => by
      obtain ⟨row, h1, _⟩ := hget' _ q (ixOf_get hq)
      exact ⟨row, h1⟩
    have hnotσ : ∀ q, baseOf dst ≤ q → q < baseOf dst + rows.length → q ∉ σ := fun q h1 h2 hq => by
      obtain ⟨row, h3⟩ := hσ_in q hq
      rw [hfree q h1 h2] at h3; cases h3
    let H : Hp := hsL s.h σ (lr'.map (rfRow nb)) ++ hpOf (baseOf dst) (rows.map (rfRow nb))
    have hH : ∀ q, hget H q = if q ∈ σ then (lr'[ixOf σ q]?).map (rfRow nb) else if baseOf dst ≤ q ∧ q < baseOf dst + rows.length then (rows[q - baseOf dst]?).map (rfRow nb) else hget s.h q := fun q => by
      show hget (hsL s.h σ (lr'.map (rfRow nb)) ++ hpOf (baseOf dst) (rows.map (rfRow nb))) q = _
      rw [hget_append, hget_hsL _ _ _ _ hn (by simpa using hσl)]
      by_cases hq : q ∈ σ
      · rw [if_pos hq, if_pos hq, List.getElem?_map]
        have := lt_of_some (ixOf_get hq)
        rw [List.getElem?_eq_getElem (by omega)]
        rfl
      · rw [if_neg hq, if_neg hq]
        by_cases hb : baseOf dst ≤ q ∧ q < baseOf dst + rows.length
        · rw [if_pos hb, hfree q hb.1 hb.2]
          simp only
          rw [hget_hpOf, if_pos hb.1, List.getElem?_map]
        · rw [if_neg hb]
          cases hg : hget s.h q with
          | some row => rfl
          | none =>
            simp only
            rw [hget_hpOf]
            split
            · rename_i h1
              exact List.getElem?_eq_none (by simp; omega)
            · rfl
    have hcase : ∀ q row, hget H q = some row → (∃ i row0, σ[i]? = some q ∧ q ∈ σ ∧ hget (hpOf 0 (lr' ++ rows)) i = some row0 ∧ row = rfRow nb row0 ∧ loc3 q = loc2 i) ∨
        (∃ i row0, q = baseOf dst + i ∧ q ∉ σ ∧ hget (hpOf 0 (lr' ++ rows)) (σ.length + i) = some row0 ∧ row = rfRow nb row0 ∧ loc3 q = loc2 (σ.length + i)) ∨
        (q ∉ σ ∧ hget s.h q = some row ∧ loc3 q = loc q) := fun q row hq => by
      rw [hH] at hq
      by_cases h1 : q ∈ σ
      · rw [if_pos h1, Option.map_eq_some_iff] at hq
        obtain ⟨row0, h3, rfl⟩ := hq
        refine .inl ⟨ixOf σ q, row0, ixOf_get h1, h1, ?_, rfl, by show (if q ∈ σ then _ else _) = _; rw [if_pos h1]⟩
        rw [hget_hpOf, if_pos (Nat.zero_le _), Nat.sub_zero, List.getElem?_append_left (lt_of_some h3)]
        exact h3
      · rw [if_neg h1] at hq
        by_cases h2 : baseOf dst ≤ q ∧ q < baseOf dst + rows.length
        · rw [if_pos h2, Option.map_eq_some_iff] at hq
          obtain ⟨row0, h3, rfl⟩ := hq
          refine .inr (.inl ⟨q - baseOf dst, row0, by omega, h1, ?_, rfl, ?_⟩)
          · rw [hget_hpOf, if_pos (Nat.zero_le _), Nat.sub_zero, List.getElem?_append_right (by omega), hσl, Nat.add_sub_cancel_left]
            exact h3
          · show (if q ∈ σ then _ else _) = _
            rw [if_neg h1, if_pos h2]
        · rw [if_neg h2] at hq
          refine .inr (.inr ⟨h1, hq, ?_⟩)
          show (if q ∈ σ then _ else _) = _
          rw [if_neg h1, if_neg h2]
    have hnmσ : ∀ i q, σ[i]? = some q → nmB σ (baseOf dst) i = q := fun i q h => by unfold nmB; rw [h]
    have hnmb : ∀ i, nmB σ (baseOf dst) (σ.length + i) = baseOf dst + i := fun i => by
      unfold nmB
      rw [List.getElem?_eq_none (by omega)]
      simp
    have hixσ : ∀ i q, σ[i]? = some q → ixOf σ q = i := fun i q h => hnd _ _ q (ixOf_get (List.mem_of_getElem? h)) h
    have hup : ∀ i row, True → hget (hpOf 0 (lr' ++ rows)) i = some row → loc3 (nb i) = loc2 i ∧ ∃ row', hget H (nb i) = some row' ∧ row'.sz = row.sz ∧ row.es.length ≤ row'.es.length := fun i row _ h => by
      suffices loc3 (nb i) = loc2 i ∧ hget H (nb i) = some (rfRow nb row) from ⟨this.1, _, this.2, rfRow_sz _ _, Nat.le_of_eq (rfRow_len _ _).symm⟩
      rw [hget_hpOf, if_pos (Nat.zero_le _), Nat.sub_zero] at h
      by_cases hi : i < σ.length
      · have h1 : σ[i]? = some σ[i] := List.getElem?_eq_getElem hi
        have h2 := List.mem_of_getElem? h1
        rw [show nb i = σ[i] from by rw [hnb0]; exact hnmσ i _ h1]
        refine ⟨by show (if σ[i] ∈ σ then _ else _) = _; rw [if_pos h2, hixσ i _ h1], ?_⟩
        rw [hH, if_pos h2, hixσ i _ h1]
        rw [List.getElem?_append_left (by omega)] at h
        rw [h]; rfl
      · rw [List.getElem?_append_right (by omega)] at h
        have hlt := lt_of_some h
        have h3 : nb i = baseOf dst + (i - σ.length) := by
          rw [hnb0]
          have := hnmb (i - σ.length)
          rwa [show σ.length + (i - σ.length) = i from by omega] at this
        rw [h3]
        have h4 : baseOf dst + (i - σ.length) ∉ σ := hnotσ _ (by omega) (by rw [hσl]; omega)
        have h5 : baseOf dst ≤ baseOf dst + (i - σ.length) ∧ baseOf dst + (i - σ.length) < baseOf dst + rows.length := ⟨by omega, by rw [hσl]; omega⟩
        refine ⟨?_, ?_⟩
        · show (if _ ∈ σ then _ else _) = _
          rw [if_neg h4, if_pos h5, Nat.add_sub_cancel_left]
          congr 1
          omega
        · rw [hH, if_neg h4, if_pos h5, Nat.add_sub_cancel_left]
          rw [hσl, h]; rfl
    have hlive : ∀ b, Live H loc3 b → LiveR (hpOf 0 (lr' ++ rows)) loc2 b ∨ (Live s.h loc b ∧ ¬ isσ b) := by
      rintro b (⟨q, row, c, h1, h2⟩ | hf)
      · rcases hcase q row h1 with ⟨i, row0, _, _, h3, _, h4⟩ | ⟨i, row0, _, _, h3, _, h4⟩ | ⟨h3, h5, h4⟩
        · rw [h4] at h2; exact .inl ⟨_, row0, c, h3, h2⟩
        · rw [h4] at h2; exact .inl ⟨_, row0, c, h3, h2⟩
        · rw [h4] at h2
          refine .inr ⟨.inl ⟨q, row, c, h5, h2⟩, fun ⟨r, rw1, c', g1, g2, g3⟩ => ?_⟩
          have := hR.inj q r row rw1 b c c' h5 g2 h2 g3
          subst this
          exact h3 g1
      · exact .inr ⟨.inr hf, fun ⟨r, rw1, c', g1, g2, g3⟩ => hnf r rw1 b c' g2 g3 hf⟩
    have hkeep : ∀ b, b < w.heap.size → ¬ isσ b → w'.heap[b]? = w.heap[b]? := fun b hb hnb => hL.keep b hb fun hl => hnb (hlent b hl)
    have hnl : ∀ b, b < w.heap.size → ¬ Live s.h loc b → ¬ Live H loc3 b ∧ w'.heap[b]? = w.heap[b]? := fun b hb hn' => by
      have hnσ : ¬ isσ b := fun ⟨r, row, c, g1, g2, g3⟩ => hn' (.inl ⟨r, row, c, g2, g3⟩)
      refine ⟨fun hl => ?_, hkeep b hb hnσ⟩
      rcases hlive b hl with ⟨i, row, c, h1, h2⟩ | h1
      · rcases hL.own i row b c h1 h2 with h3 | h3
        · omega
        · exact hnσ (hlent b h3)
      · exact hn' h1.1
    have hG : ∀ x u, G s.h loc w x u → G H loc3 w' x u := fun x u hx => by
      refine hx.mono hL.size (fun q row hg => ?_) hnl
      by_cases h1 : q ∈ σ
      · obtain ⟨row1, g1, _, g3⟩ := hget' _ q (ixOf_get h1)
        rw [hg] at g1; cases g1
        have hix := lt_of_some (ixOf_get h1)
        have g4 : lr'[ixOf σ q]? = some lr'[ixOf σ q] := List.getElem?_eq_getElem (by omega)
        rcases hshape _ _ _ g3 g4 with h2 | h2
        · cases h2
        · rw [rfRow_sz, rfRow_len] at h2
          refine ⟨?_, _, by rw [hH, if_pos h1, g4]; rfl, by rw [rfRow_sz]; exact h2.1, by rw [rfRow_len]; exact h2.2⟩
          show (if q ∈ σ then _ else _) = _
          rw [if_pos h1, hL.stay _ (by omega)]
          show (σ[ixOf σ q]?).bind loc = loc q
          rw [ixOf_get h1]; rfl
      · have h2 : ¬ (baseOf dst ≤ q ∧ q < baseOf dst + rows.length) := fun h => by rw [hfree q h.1 h.2] at hg; cases hg
        exact ⟨by show (if q ∈ σ then _ else _) = _; rw [if_neg h1, if_neg h2], row, by rw [hH, if_neg h1, if_neg h2, hg], rfl, Nat.le_refl _⟩
    have hC : ∀ x u, C (Live s.h loc) 0 w x u → C (Live H loc3) 0 w' x u := fun x u hx => hx.mono (Nat.le_refl _) hL.size fun b _ hb hn' => hnl b hb hn'
    have hC2 : ∀ x u, C (Live (hpOf 0 (lr' ++ rows)) loc2) 0 w' x u → C (Live H loc3) 0 w' x u := fun x u hx => hx.mono (Nat.le_refl _) (Nat.le_refl _) fun b _ _ hn' => ⟨fun hl => by
      rcases hlive b hl with h1 | h1
      · exact hn' (.inl h1)
      · refine hn' (.inr ?_)
        rw [hL.fbe]; exact h1, rfl⟩
    have hval : G H loc3 w' (rfA nb rv) v := hL.val.rf (p := fun _ => True) (fun _ _ => trivial) hup hC2
    have hRel : Rel w0 lent ⟨s.t, H⟩ loc3 a w' := by
      refine ⟨hR.tsz, fun i x hx => hG x _ (hR.tm i x hx), hR.df, fun q row hq => ?_, fun q q' row1 row2 b c c' h1 h2 h3 h4 => ?_, fun q row b c h1 h2 => ?_, hL.os.trans hR.os, hL.tape.trans hR.tape, hL.output.trans hR.output, Nat.le_trans hR.size hL.size,
        fun b hb hnb => ?_, hR.fbe, hR.fbl, fun r p hp => ?_, hR.pl⟩
      · rcases hcase q row hq with ⟨i, row0, _, _, h3, rfl, h4⟩ | ⟨i, row0, _, _, h3, rfl, h4⟩ | ⟨h3, h5, h4⟩
        · exact rfRow_ok (hL.rw _ row0 h3) (.inr fun _ _ _ _ _ _ => trivial) h4 hup hC2
        · exact rfRow_ok (hL.rw _ row0 h3) (.inr fun _ _ _ _ _ _ => trivial) h4 hup hC2
        · refine row_else (hR.rw q row h5) h4 (fun b c hl => hkeep b (Live.lt hR.rw ⟨q, row, c, h5, hl⟩) fun ⟨r, rw1, c', g1, g2, g3⟩ => ?_) hG hC
          have := hR.inj q r row rw1 b c c' h5 g2 hl g3
          subst this; exact h3 g1
      · have hdis : ∀ q1 q2 i rw1 rw2 b c c', hget (hpOf 0 (lr' ++ rows)) i = some rw1 → loc2 i = some (b, c) → q2 ∉ σ → hget s.h q2 = some rw2 → loc q2 = some (b, c') → q1 = q2 := fun q1 q2 i rw1 rw2 b c c' g1 g2 g3 g4 g5 => by
          exfalso
          have hb := Live.lt hR.rw ⟨q2, rw2, c', g4, g5⟩
          rcases hL.own i rw1 b c g1 g2 with h | h
          · omega
          · obtain ⟨r, rw3, c2, e1, e2, e3⟩ := hlent b h
            have := hR.inj q2 r rw2 rw3 b c' c2 g4 e2 g5 e3
            subst this; exact g3 e1
        rcases hcase q row1 h1 with ⟨i, r1, a1, _, a3, _, a4⟩ | ⟨i, r1, a1, _, a3, _, a4⟩ | ⟨a3, a5, a4⟩ <;>
        rcases hcase q' row2 h2 with ⟨j, r2, b1, _, b3, _, b4⟩ | ⟨j, r2, b1, _, b3, _, b4⟩ | ⟨b3, b5, b4⟩
        · rw [a4] at h3; rw [b4] at h4
          have := hL.inj _ _ _ _ b c c' a3 b3 h3 h4
          subst this; rw [a1] at b1; cases b1; rfl
        · rw [a4] at h3; rw [b4] at h4
          have := hL.inj _ _ _ _ b c c' a3 b3 h3 h4
          have := lt_of_some a1
          omega
        · rw [a4] at h3; rw [b4] at h4; exact hdis q q' i r1 row2 b c c' a3 h3 b3 b5 h4
        · rw [a4] at h3; rw [b4] at h4
          have := hL.inj _ _ _ _ b c c' a3 b3 h3 h4
          have := lt_of_some b1
          omega
        · rw [a4] at h3; rw [b4] at h4
          have := hL.inj _ _ _ _ b c c' a3 b3 h3 h4
          omega
        · rw [a4] at h3; rw [b4] at h4; exact hdis q q' _ r1 row2 b c c' a3 h3 b3 b5 h4
        · rw [a4] at h3; rw [b4] at h4; exact (hdis q' q j r2 row1 b c' c b3 h4 a3 a5 h3).symm
        · rw [a4] at h3; rw [b4] at h4; exact (hdis q' q _ r2 row1 b c' c b3 h4 a3 a5 h3).symm
        · rw [a4] at h3; rw [b4] at h4; exact hR.inj q q' row1 row2 b c c' a5 b5 h3 h4
      · have hfromσ : ∀ i row b c, hget (hpOf 0 (lr' ++ rows)) i = some row → loc2 i = some (b, c) → w0.heap.size ≤ b ∨ lent.bk b := fun i row b c g1 g2 => by
          rcases hL.own i row b c g1 g2 with h | h
          · exact .inl (Nat.le_trans hR.size h)
          · obtain ⟨r, rw3, c2, e1, e2, e3⟩ := hlent b h
            exact hR.own r rw3 b c2 e2 e3
        rcases hcase q row h1 with ⟨i, r1, _, _, a3, _, a4⟩ | ⟨i, r1, _, _, a3, _, a4⟩ | ⟨a3, a5, a4⟩
        · rw [a4] at h2; exact hfromσ _ r1 b c a3 h2
        · rw [a4] at h2; exact hfromσ _ r1 b c a3 h2
        · rw [a4] at h2; exact hR.own q row b c a5 h2
      · rw [hkeep b (Nat.lt_of_lt_of_le hb hR.size) fun ⟨r, row, c, g1, g2, g3⟩ => ?_]
        · exact hR.keep b hb hnb
        · rcases hR.own r row b c g2 g3 with h | h
          · omega
          · exact hnb h
      · have hpl := hR.pl r p hp
        have h0 := hR.pn r p hp
        show (if r ∈ σ then _ else _) = p
        by_cases h1 : r ∈ σ
        · rw [if_pos h1]
          have hix := lt_of_some (ixOf_get h1)
          rw [hL.stay _ (by omega)]
          show (σ[ixOf σ r]?).bind loc = p
          rw [ixOf_get h1]; exact h0
        · rw [if_neg h1, if_neg (by rcases hfle with h | h <;> omega)]
          exact h0
    rw [hnb0] at hval
    exact hk loc3 _ w' ((by unfold backX; rw [← hnb0] at hval ⊢; exact hRel.put dst hval))
end
end Go.Proofs.YtccifbbjbnjcfaaGreatDoor
/-
  The abstract machine: a row under another name.
-/
namespace Go.Proofs.YtccifbbjbnjcfaaGreatDoor
open Go Go.RowKit

theorem Wk.trans {s s' s'' : AS} (h1 : Wk s s') (h2 : Wk s' s'') : Wk s s'' := fun w0 lent loc a w hR => by
  obtain ⟨l1, h3⟩ := h1 w0 lent loc a w hR
  exact h2 w0 lent l1 a w h3
end Go.Proofs.YtccifbbjbnjcfaaGreatDoor
/-
  Walks: disks: small functions; DiskValid; the place of a file.
-/
namespace Go.Proofs.YtccifbbjbnjcfaaGreatDoor
open Go Go.RowKit Go.Proofs
def bC (d : BD) : List AV := [iA d.name, intsA d.safe, intsA d.fresh]
abbrev blsA (l : List BD) : AV := .sl 3 (l.map bC)
abbrev blobA (d : BD) : AV := .agg (bC d)
abbrev rowZ (l : List Int) : Row := ⟨3, 1, l.map inC, true⟩
abbrev rowB (l : List BD) : Row := ⟨79, 3, l.map bC, true⟩
structure SmD (d : BD) : Prop where
  s : d.safe.length ≤ 4194304
  f : d.fresh.length ≤ 4194304
structure SmB (l : List BD) : Prop where
  n : l.length < 4294967281
  d : ∀ d ∈ l, SmD d
attribute [local irreducible] RWp AW run kPe pe Kt effA gd gu br retR RDp runD kPeD brW gW effD
set_option maxRecDepth 100000
theorem isByte_pc (n : Int) : PC Tryz.prog 126 [iA n] (vB (inR n 0 255)) := by
  refine pc_enter Tryz.func126 rfl rfl fun w0 fb => go_on ?_; (try simp only [Tryz.ntmps126, push_cast, simprocAttr])
  (refine at_call ?_; (try simp only [push_cast, simprocAttr]); refine rwc_v (in_pc n 0 255) (go_on ?_); (try simp only [push_cast, simprocAttr]))
  refine at_ret ?_; simp only [Tryz.results126, push_cast, simprocAttr]
  simp [vX]
theorem byteNo_pc (n : Int) : PC Tryz.prog 125 [iA n] (vB (!inR n 0 255)) := by
  refine pc_enter Tryz.func125 rfl rfl fun w0 fb => go_on ?_; (try simp only [Tryz.ntmps125, push_cast, simprocAttr])
  (refine at_call ?_; (try simp only [push_cast, simprocAttr]); refine rwc_v (isByte_pc n) (go_on ?_); (try simp only [push_cast, simprocAttr]))
  refine at_ret ?_; simp only [Tryz.results125, push_cast, simprocAttr]
  simp [vX]
theorem IndexFuncI_pc (l : List Int) (hl : l.length < 4294967281) (g : FuncId) (caps : List AV) (hc : caps.all isC = true) (p : Int → Bool) (hp : ∀ n ∈ l, PC Tryz.prog g (iA n :: caps) (vB (p n))) :
    PC Tryz.prog 112 [intsA l, .fn g caps] (vI (idxF p 0 l)) := by
  refine pc_enter Tryz.func112 rfl rfl fun w0 fb => go_on ?_; (try simp only [Tryz.ntmps112, push_cast, simprocAttr])
  refine at_loop (X := Nat) (fun k => [(8, iA k)]) (fun _ => []) (fun k => k ≤ l.length ∧ idxF p 0 l = idxF p k (l.drop k)) (fun k => l.length - k) 0 ⟨Nat.zero_le _, rfl⟩ ?_ ?_
  · (refine wk_ok ?_ ?_ ?_ ?_ <;> simp [closed_ids hc, leL, leH, idsL, idsA, idsR, inH, hget, sameRow, upA, hvA, dsts, dstO, setA_0, setA_1, setA_8, List.append, List.cons_append, List.nil_append])
  · rintro k ⟨h1, h2⟩
    simp only [upA, hvA, dsts, dstO, setA_0, setA_1, setA_8, List.append, List.cons_append, List.nil_append]
    refine go_on ?_
    (try simp only [push_cast, simprocAttr])
    refine at_b (fun hg => ?_) (fun hg => ?_)
    · have hlt := lt_tt hg
      obtain ⟨x, hk⟩ := get_of_lt hlt
      have i1 := ix_n hk
      have i2 := map_get inC hk
      simp only [inC] at i2
      rw [drop_of_get hk] at h2
      (try simp only [hg, i1, i2, push_cast, simprocAttr])
      have hx := hp x (mem_of_get hk)
      refine at_call ?_
      simp only [List.map_cons, closed_view hc]
      (try simp only [push_cast, simprocAttr])
      refine rwc_v hx (go_on ?_)
      (try simp only [push_cast, simprocAttr])
      refine at_b (fun hn => ?_) (fun hn => ?_)
      · (try simp only [hn, push_cast, simprocAttr])
        refine at_ret ?_; simp only [Tryz.results112, push_cast, simprocAttr]
        simp [vX, h2, idxF, hn]
      · have w1 := wr ((k : Int) + 1) (by omega)
        (try simp only [hn, w1, push_cast, simprocAttr])
        refine at_fin ⟨k + 1, ⟨by omega, ?_⟩, by omega, ?_⟩
        · rw [h2]; simp [idxF, hn]
        · (refine wk_ok ?_ ?_ ?_ ?_ <;> simp [closed_ids hc, leL, leH, idsL, idsA, idsR, inH, hget, sameRow, upA, hvA, dsts, dstO, setA_0, setA_1, setA_8, List.append, List.cons_append, List.nil_append])
    · have h3 := lt_ff hg
      (try simp only [hg, push_cast, simprocAttr])
      refine at_ret ?_; simp only [Tryz.results112, push_cast, simprocAttr]
      rw [List.drop_of_length_le h3] at h2
      simp [vX, h2, idxF]
theorem ContainsFuncI_pc (l : List Int) (hl : l.length < 4294967281) (g : FuncId) (caps : List AV) (hc : caps.all isC = true) (p : Int → Bool) (hp : ∀ n ∈ l, PC Tryz.prog g (iA n :: caps) (vB (p n))) :
    PC Tryz.prog 72 [intsA l, .fn g caps] (vB (l.any p)) := by
  refine pc_enter Tryz.func72 rfl rfl fun w0 fb => go_on ?_; (try simp only [Tryz.ntmps72, push_cast, simprocAttr])
  refine at_call ?_
  simp only [List.map_cons, List.map_nil, view_fn 2, closed_view hc]
  (try simp only [push_cast, simprocAttr])
  refine rwc_v (IndexFuncI_pc l hl g caps hc p hp) (go_on ?_)
  (try simp only [push_cast, simprocAttr])
  refine at_ret ?_; simp only [Tryz.results72, push_cast, simprocAttr]
  simp [vX, idxF_any]
theorem not_any {l : List Int} : (!l.any fun n => !inR n 0 255) = bytesB l := by
  unfold bytesB
  rw [Bool.eq_iff_iff]
  simp [List.any_eq_true, List.all_eq_true, byteB, inB, inR]
theorem bytesValid_pc (l : List Int) (hl : l.length < 4294967281) : PC Tryz.prog 96 [intsA l] (vB (bytesB l)) := by
  refine pc_enter Tryz.func96 rfl rfl fun w0 fb => go_on ?_; (try simp only [Tryz.ntmps96, push_cast, simprocAttr])
  (refine at_call ?_; (try simp only [push_cast, simprocAttr]); refine rwc_v (ContainsFuncI_pc l hl 125 [] rfl (fun n => !inR n 0 255) (fun n _ => byteNo_pc n)) (go_on ?_); (try simp only [push_cast, simprocAttr]))
  refine at_ret ?_; simp only [Tryz.results96, push_cast, simprocAttr]
  simp only [not_any]
  simp [vX]
theorem DiskValid_pc (bs : List BD) (hs : SmB bs) : PC Tryz.prog 60 [blsA bs] (vB (diskB bs)) := by
  have hn := hs.n
  refine pc_enter Tryz.func60 rfl rfl fun w0 fb => go_on ?_; (try simp only [Tryz.ntmps60, push_cast, simprocAttr])
  refine at_loop (X := Nat × Int) (fun x => [(3, iA x.2), (8, iA x.1)]) (fun _ => []) (fun x => x.1 ≤ bs.length ∧ 0 ≤ x.2 ∧ x.2 ≤ 3 ∧ diskB bs = diskFrom x.2 (bs.drop x.1)) (fun x => bs.length - x.1) (0, 0) ⟨Nat.zero_le _, by simp, by simp, rfl⟩ ?_ ?_
  · (refine wk_ok ?_ ?_ ?_ ?_ <;> simp [leL, leH, idsL, idsA, idsR, inH, hget, sameRow, upA, hvA, dsts, dstO, setA_0, setA_1, setA_8, List.append, List.cons_append, List.nil_append])
  · rintro ⟨k, last⟩ ⟨h1, h2, h3, h4⟩
    simp only at h1 h2 h3 h4
    simp only [upA, hvA, dsts, dstO, setA_0, setA_1, setA_8, List.append, List.cons_append, List.nil_append]
    refine go_on ?_
    (try simp only [push_cast, simprocAttr])
    refine at_b (fun hg => ?_) (fun hg => ?_)
    · have hlt := lt_tt hg
      obtain ⟨d, hk⟩ := get_of_lt hlt
      have i1 := ix_n hk
      have i2 := map_get bC hk
      simp only [bC] at i2
      obtain ⟨hds, hdf⟩ := hs.d d (mem_of_get hk)
      have hI := in_pc d.name (last + 1) 3
      have hS := bytesValid_pc d.safe (by omega)
      have hF := bytesValid_pc d.fresh (by omega)
      have w1 := wr ((k : Int) + 1) (by omega)
      have w2 := wr (last + 1) (by omega)
      have w3 := wr ((d.safe.length : Int) + d.fresh.length) (by omega)
      rw [drop_of_get hk] at h4
      simp only [diskFrom, blobB] at h4
      have eI : inB d.name (last + 1) 3 = inR d.name (last + 1) 3 := rfl
      rw [eI] at h4
      (try simp only [hg, i1, i2, w2, push_cast, simprocAttr])
      (refine at_call ?_; (try simp only [push_cast, simprocAttr]); refine rwc_v (hI) (go_on ?_); (try simp only [push_cast, simprocAttr]))
      cases e1 : inR d.name (last + 1) 3 with
      | false =>
        (try simp only [e1, Bool.not_false, push_cast, simprocAttr])
        refine at_ret ?_; simp only [Tryz.results60, push_cast, simprocAttr]
        simp [vX, h4, e1]
      | true =>
        have hnm : 1 ≤ d.name ∧ d.name ≤ 3 := by simp only [inR, Bool.and_eq_true, decide_eq_true_eq] at e1; omega
        (try simp only [e1, Bool.not_true, push_cast, simprocAttr])
        (refine at_call ?_; (try simp only [push_cast, simprocAttr]); refine rwc_v (hS) (go_on ?_); (try simp only [push_cast, simprocAttr]))
        cases e2 : bytesB d.safe with
        | false =>
          (try simp only [e2, Bool.not_false, push_cast, simprocAttr])
          refine at_ret ?_; simp only [Tryz.results60, push_cast, simprocAttr]
          simp [vX, h4, e1, e2]
        | true =>
          (try simp only [e2, Bool.not_true, push_cast, simprocAttr])
          (refine at_call ?_; (try simp only [push_cast, simprocAttr]); refine rwc_v (hF) (go_on ?_); (try simp only [push_cast, simprocAttr]))
          cases e3 : bytesB d.fresh with
          | false =>
            (try simp only [e3, Bool.not_false, push_cast, simprocAttr])
            refine at_ret ?_; simp only [Tryz.results60, push_cast, simprocAttr]
            simp [vX, h4, e1, e2, e3]
          | true =>
            (try simp only [e3, Bool.not_true, List.length_map, w3, push_cast, simprocAttr])
            by_cases h400 : d.safe.length + d.fresh.length ≤ 400
            · have e4 : ltI 400 ((d.safe.length : Int) + d.fresh.length) = false := ltI_f (by omega)
              (try simp only [e4, w1, push_cast, simprocAttr])
              refine at_fin ⟨(k + 1, d.name), ⟨by dsimp only; omega, by dsimp only; omega, by dsimp only; omega, ?_⟩, by dsimp only; omega, ?_⟩
              · rw [h4]; simp [e1, e2, e3, h400]
              · (refine wk_ok ?_ ?_ ?_ ?_ <;> simp [leL, leH, idsL, idsA, idsR, inH, hget, sameRow, upA, hvA, dsts, dstO, setA_0, setA_1, setA_8, List.append, List.cons_append, List.nil_append])
            · have e4 : ltI 400 ((d.safe.length : Int) + d.fresh.length) = true := ltI_t (by omega)
              (try simp only [e4, push_cast, simprocAttr])
              refine at_ret ?_; simp only [Tryz.results60, push_cast, simprocAttr]
              simp [vX, h4, h400]
    · have h5 := lt_ff hg
      (try simp only [hg, push_cast, simprocAttr])
      refine at_ret ?_; simp only [Tryz.results60, push_cast, simprocAttr]
      rw [List.drop_of_length_le h5] at h4
      simp [vX, h4, diskFrom]
end Go.Proofs.YtccifbbjbnjcfaaGreatDoor
/-
  Opening files and lists of numbers that a law is handed.
-/
namespace Go.Proofs.YtccifbbjbnjcfaaGreatDoor
open Go Go.RowKit Go.Proofs
set_option maxRecDepth 100000
/-- A slice of values, its cells read further. -/
theorem C.sl_re {lv : Nat → Prop} {lo : Nat} {w : World} {sz : Nat} {es es2 : List (List AV)} {v : Value} (h : C lv lo w (.sl sz es) v) (hl : es2.length = es.length)
    (hc : ∀ (k : Nat) e2, es2[k]? = some e2 → ∃ e, es[k]? = some e ∧ e.length = e2.length ∧ ∀ (j : Nat) y, e2[j]? = some y → ∃ val, e[j]? = some (.v val) ∧ C lv lo w y val) : C lv lo w (.sl sz es2) v := by
  cases h with
  | sl xs u a1 a2 a3 a4 a5 a6 a7 =>
    rw [← hl] at a1 a2 a3 ⊢
    refine .sl xs u a1 a2 a3 a4 (fun k e2 he => ?_) (fun k e2 j he hj => ?_) (fun k e2 j y he hy => ?_)
    · obtain ⟨e, h1, h2, _⟩ := hc k e2 he
      rw [← h2]; exact a5 k e h1
    · obtain ⟨e, h1, h2, _⟩ := hc k e2 he
      exact a6 k e j h1 (by rw [h2]; exact hj)
    · obtain ⟨e, h1, h2, h3⟩ := hc k e2 he
      obtain ⟨val, h4, h5⟩ := h3 j y hy
      have := a7 k e j _ h1 h4
      generalize u k j = z at this
      cases this
      exact h5
section
variable {H : Type} {enc : TypeId × Value → H} {W : World} {base : Nat} {sp : Nat → Bool} {held : Bool} {fuel : Nat} {cs : List Value} {x : DataW H × List MemPlace}
theorem open_int1 (h : DataW.trod enc Tryz.prog W base sp held fuel 3 cs = some x) : ∃ n : Int, cs = [.int .i64 n] := by
  obtain ⟨n, rfl, _⟩ := DataW.trod_int Tryz.underlying3 h
  exact ⟨n, rfl⟩
theorem open_ints {lv : Nat → Prop} (hlv : ∀ b, b < W.heap.size → ¬ lv b) (h : DataW.trod enc Tryz.prog W 0 sp held fuel 62 cs = some x) :
    ∃ (l : List Int) (v : Value), cs = [v] ∧ C lv 0 W (intsA l) v ∧ l.length ≤ maxLen ∧ ∀ n ∈ l, True :=
  open_sl (V := fun n : Int => [.int .i64 n]) (K := inC) (Q := fun _ => True) Tryz.underlying62 (by kernel_rfl) (by omega) (fun _ _ _ h => by obtain ⟨n, e⟩ := open_int1 h; exact ⟨n, e, trivial⟩) (fun a => ⟨rfl, rfl, rfl⟩) hlv h
theorem C.sl_one {lv : Nat → Prop} {lo sz : Nat} {w : World} {es : List (List AV)} {v : Value} (h : C lv lo w (.sl sz es) v) : v.oneCell' = true := by
  cases h
  rfl
def BlobOk (d : BD) : Prop := d.safe.length ≤ maxLen ∧ d.fresh.length ≤ maxLen
theorem open_blob {lv : Nat → Prop} (hlv : ∀ b, b < W.heap.size → ¬ lv b) (h : DataW.trod enc Tryz.prog W 0 sp held fuel 70 cs = some x) :
    ∃ a : {vs : List Value // vs.length = 3 ∧ vs.all Value.oneCell' = true}, cs = a.1 ∧ ∃ d : BD, BlobOk d ∧ ∀ (j : Nat) y, (bC d)[j]? = some y → ∃ u, a.1[j]? = some u ∧ C lv 0 W y u := by
  obtain ⟨xs, n, rfl, rfl, hl, hlen, hf⟩ := DataW.trod_struct Tryz.underlying70 h
  rw [show Tryz.prog.cellsOf 70 = 3 by kernel_rfl] at hl
  obtain ⟨a, b, c, rfl⟩ := three_of hl
  obtain ⟨y0, y1, y2, rfl⟩ := three_of hlen
  have h0 := hf 0 _ rfl
  have h1 := hf 1 _ rfl
  have h2 := hf 2 _ rfl
  simp only [show Tryz.prog.cellsOf 3 = 1 by kernel_rfl, show Tryz.prog.cellsOf 62 = 1 by kernel_rfl, List.drop, List.take, List.getElem?_cons_zero, List.getElem?_cons_succ] at h0 h1 h2
  obtain ⟨nm, e1⟩ := open_int1 h0
  obtain ⟨l1, v1, e2, c1, b1, _⟩ := open_ints hlv h1
  obtain ⟨l2, v2, e3, c2, b2, _⟩ := open_ints hlv h2
  cases e1
  cases e2
  cases e3
  refine ⟨⟨[.int .i64 nm, b, c], rfl, by simp [c1.sl_one, c2.sl_one]; rfl⟩, rfl, ⟨nm, l1, l2⟩, ⟨b1, b2⟩, fun j y hy => ?_⟩
  rcases j with _ | _ | _ | j
  · cases hy; exact ⟨_, rfl, .v⟩
  · cases hy; exact ⟨_, rfl, c1⟩
  · cases hy; exact ⟨_, rfl, c2⟩
  · simp [bC] at hy
theorem open_blobs {lv : Nat → Prop} (hlv : ∀ b, b < W.heap.size → ¬ lv b) (h : DataW.trod enc Tryz.prog W 0 sp held fuel 22 cs = some x) :
    ∃ (l : List BD) (v : Value), cs = [v] ∧ C lv 0 W (blsA l) v ∧ l.length ≤ maxLen ∧ ∀ d ∈ l, BlobOk d := by
  obtain ⟨l, v, h1, h2, h3, h4⟩ := open_sl (α := {vs : List Value // vs.length = 3 ∧ vs.all Value.oneCell' = true}) (V := fun a => a.1) (K := fun a => a.1.map .v) (Q := fun a => ∃ d : BD, BlobOk d ∧ ∀ (j : Nat) y, (bC d)[j]? = some y → ∃ u, a.1[j]? = some u ∧ C lv 0 W y u) Tryz.underlying22 (by kernel_rfl) (by omega)
    (fun _ _ _ h => open_blob hlv h) (fun a => ⟨a.2.1, a.2.2, rfl⟩) hlv h
  obtain ⟨bs, g1, g2⟩ := choose_list (n := l.length) (p := fun i (d : BD) => BlobOk d ∧ ∃ a, l[i]? = some a ∧ ∀ (j : Nat) y, (bC d)[j]? = some y → ∃ u, a.1[j]? = some u ∧ C lv 0 W y u) fun i hi => by
    obtain ⟨d, k1, k2⟩ := h4 l[i] (List.getElem_mem hi)
    exact ⟨d, k1, l[i], List.getElem?_eq_getElem hi, k2⟩
  refine ⟨bs, v, h1, h2.sl_re (by simp [g1]) fun k e2 he => ?_, by omega, fun d hd => ?_⟩
  · rw [List.getElem?_map, Option.map_eq_some_iff] at he
    obtain ⟨d, hd, rfl⟩ := he
    obtain ⟨_, a, k1, k2⟩ := g2 k d hd
    refine ⟨a.1.map .v, by rw [List.getElem?_map, k1]; rfl, by rw [List.length_map, a.2.1]; rfl, fun j y hy => ?_⟩
    obtain ⟨u, k3, k4⟩ := k2 j y hy
    exact ⟨u, by rw [List.getElem?_map, k3]; rfl, k4⟩
  · obtain ⟨i, hi⟩ := List.getElem?_of_mem hd
    exact (g2 i d hi).1
end
end Go.Proofs.YtccifbbjbnjcfaaGreatDoor
/- The element types' rows; slices.Clone at []int; l31Copy. -/
namespace Go.Proofs.YtccifbbjbnjcfaaGreatDoor
open Go Go.RowKit

theorem info_int : (Tryz.prog.info? 3).map (fun i => (i.zero, i.size, i.bytes)) = some (some (.int .i64 0), 1, 8) := by kernel_rfl
theorem und_ints : Tryz.prog.underlying 62 = some (.slice 3) := by kernel_rfl

set_option maxHeartbeats 400000 in
set_option maxRecDepth 100000 in
theorem cloneInts_any (v : Value) (xs : List Int) (w : World) (hs : Sl w 0 1 v xs.length (ints xs)) (hn : xs.length ≤ 4194304) :
    Calls Tryz.prog 129 #[v] w fun e w' => ∃ v', e = .returned v' ∧ w'.ownsRow w.heap.size 3 1 v' xs.length (ints xs) ∧ Below w.heap.size w w' := by
  obtain ⟨i0, hi, hz0, hz1, hz2⟩ := info_parts info_int
  obtain ⟨A, c, rfl, hc1, hc2, hr⟩ := hs
  have HR := Lib.hid hr
  clear hr
  unfold maxLen at hc2
  have HN := Lib.hid (show xs.length ≤ maxLen from by unfold maxLen; omega)
  have hq := fun (W : World) (A : Option Addr) (n c : Nat) => Lib.run_eql_slice_nil (P := Tryz.prog) W 62 3 A n c 0 0 und_ints
  rcases A with _ | ad
  · go_enter Tryz.func129, Tryz.ntmps129
    go_wp2
    go_ret
    have h0 : xs.length = 0 := by
      rcases Nat.eq_zero_or_pos xs.length with h | h
      · exact h
      · obtain ⟨_, _, h1, _⟩ := HR.out.2 h; cases h1
    refine ⟨_, rfl, ?_, Below.refl _ _⟩
    rw [List.eq_nil_of_length_eq_zero h0]
    exact World.ownsRow_nil _ _ _ _
  · go_enter Tryz.func129, Tryz.ntmps129
    go_wp2_with (at_builtin; go_loud (refine wpList_append_rd _ rfl _ _ 62 rfl w.heap.size 3 i0 (.int .i64 0) 1 8 und_ints hi hz0 hz1 hz2 rfl (by decide) (.slice (some ⟨w.heap.size, 0, none⟩) 0 0) 0 [] rfl (World.ownsRow_made w #[] 0 (Nat.le_refl _) (by decide) rfl) 0 _ _ _ (ints xs) rfl (HR.out.alloc _) (ints_one xs) ?c1 ?c2 ?c3 ?_); (case c1 => rw [Nat.zero_add]; exact HN.out); (case c2 => omega); (case c3 => simp); intro v' w1 hown hg hblk)
    go_ret
    rw [Nat.zero_add, List.nil_append] at hown
    refine ⟨v', rfl, hown, ?_⟩
    refine ((Below.refl _ _).alloc (Nat.le_refl _) (.cells #[] 3)).trans (below_grown hg (by simp) ?_)
    simp [Value.ownBlock]

end Go.Proofs.YtccifbbjbnjcfaaGreatDoor
/-
  Walks: disks: slices.Clone, slices.Grow at nil (by the shelf's way), slices.Concat; copies of disks.
-/
namespace Go.Proofs.YtccifbbjbnjcfaaGreatDoor
open Go Go.RowKit Go.Proofs
theorem ints_of {lv : Nat → Prop} {lo : Nat} {w : World} {xs : List Int} {v : Value} (h : C lv lo w (intsA xs) v) : Sl w lo 1 v xs.length (ints xs) := by
  generalize hx : intsA xs = x at h
  cases h with
  | @sl sz es A c ys u hr hlv hc hm hl hy hg =>
    cases hx
    simp only [List.length_map] at hr hc
    have e : ys = ints xs := by
      apply List.ext_getElem?
      intro k
      rcases Nat.lt_or_ge k xs.length with hk | hk
      · have h1 := map_get inC (List.getElem?_eq_getElem hk)
        have h2 := (hy k _ 0 h1 (by simp [inC])).1
        have h3 := hg k _ 0 (iA xs[k]) h1 rfl
        simp only [Nat.mul_one, Nat.add_zero] at h2
        generalize u k 0 = z at h2 h3
        cases h3
        rw [h2]
        simp [ints, List.getElem?_eq_getElem hk]
      · rw [List.getElem?_eq_none (by rw [hr.1]; omega), List.getElem?_eq_none (by simp [ints]; omega)]
    subst e
    exact ⟨A, c, by simp, hc, hm, hr⟩
  | _ => cases hx
/-- A function that answers a new row of integers. -/
theorem pc_ints {P : Program} {f : FuncId} {args : List AV} {E : TypeId} {l : List Int} (hen : ∀ (vs : Array Value) (W : World), (callFunc f vs).run P W = .ok (.enter f vs) W)
    (h : ∀ (w : World) (fb : Nat → Prop) (vs : Array Value), vs.size = args.length → (∀ (j : Nat) x, args[j]? = some x → C fb 0 w x (vs.getD j undef)) → Calls P f vs w fun e w' => ∃ v, e = .returned v ∧ w'.ownsRow w.heap.size E 1 v l.length (ints l) ∧ Below w.heap.size w w') :
    PC P f args (rX (.o 0 l.length) [⟨E, 1, l.map inC, true⟩]) := by
  refine ⟨hen, fun w fb vs hfb hvs hg => (h w fb vs hvs hg).mono ?_⟩
  rintro e w' ⟨v, rfl, ho, hb⟩
  have hget0 : hget (hpOf 0 [(⟨E, 1, l.map inC, true⟩ : Row)]) 0 = some ⟨E, 1, l.map inC, true⟩ := rfl
  have hone : ∀ r row, hget (hpOf 0 [(⟨E, 1, l.map inC, true⟩ : Row)]) r = some row → r = 0 ∧ row = ⟨E, 1, l.map inC, true⟩ := fun r row hr => by
    rcases r with _ | r
    · cases hr; exact ⟨rfl, rfl⟩
    · simp [hpOf, hget] at hr
  have hcell : ∀ (loc : Loc) (k : Nat) (e : List AV) (j : Nat) (x : AV), (l.map inC)[k]? = some e → e[j]? = some x → ∃ u, (ints l)[k * 1 + j]? = some u ∧ u.oneCell' = true ∧ G (hpOf 0 [(⟨E, 1, l.map inC, true⟩ : Row)]) loc w' x u ∧ (true = true → C (Live (hpOf 0 [(⟨E, 1, l.map inC, true⟩ : Row)]) loc) 0 w' x u) := fun loc k e j x he hx => by
    rw [List.getElem?_map, Option.map_eq_some_iff] at he
    obtain ⟨n, hn, rfl⟩ := he
    rcases j with _ | j
    · cases hx
      exact ⟨.int .i64 n, by simp [ints, hn], rfl, .cl .v, fun _ => .v⟩
    · simp [inC] at hx
  have hlen : ∀ (k : Nat) (e : List AV), (l.map inC)[k]? = some e → e.length = 1 := fun k e he => by
    rw [List.getElem?_map, Option.map_eq_some_iff] at he
    obtain ⟨n, _, rfl⟩ := he
    rfl
  rcases ho.2 with ⟨rfl, h0⟩ | ⟨g, cap, cur, rfl, h1, h2, h3, h4, h5, h6⟩
  · refine ⟨_, _, _, ⟨rfl, rfl⟩, rfl, hb, ⟨fun _ => none, fb⟩, rfl, ?_, ?_, ?_, ?_⟩
    · rw [h0]; exact .onil hget0 rfl
    · intro r row hr
      obtain ⟨rfl, rfl⟩ := hone r row hr
      exact ⟨rfl, hlen, ints l, ⟨by simp [ints], .inl ⟨by simp [rowVal], by simpa using h0⟩⟩, hcell _⟩
    · intro r r' row row' b c1 c2 _ _ hl; cases hl
    · intro r row b c1 _ hl; cases hl
  · refine ⟨_, _, _, ⟨rfl, rfl⟩, rfl, hb, ⟨fun r => if r = 0 then some (g, cap) else none, fb⟩, rfl, ?_, ?_, ?_, ?_⟩
    · exact .o hget0 (by rfl) (by simp)
    · intro r row hr
      obtain ⟨rfl, rfl⟩ := hone r row hr
      exact ⟨rfl, hlen, ints l, ⟨by simp [ints], .inr ⟨g, cap, cur, by simp [rowVal], Nat.zero_le _, h2, by simpa using h3, h4, h5, by simpa using h6⟩⟩, hcell _⟩
    · intro r r' row row' b c1 c2 hr hr' _ _
      rw [(hone r row hr).1, (hone r' row' hr').1]
    · intro r row b c1 hr hl
      obtain ⟨rfl, rfl⟩ := hone r row hr
      cases hl
      exact h1
set_option maxRecDepth 100000
theorem cloneInts_pc (xs : List Int) (hn : xs.length ≤ 4194304) : PC Tryz.prog 129 [intsA xs] (rX (.o 0 xs.length) [rowZ xs]) := by
  refine pc_ints (enters_of Tryz.func129 (by kernel_rfl) rfl) fun w fb vs hs hg => ?_
  have h0 := ints_of (hg 0 _ rfl)
  obtain ⟨v, rfl⟩ : ∃ v, vs = #[v] := by
    obtain ⟨l⟩ := vs
    match l, hs with
    | [a], _ => exact ⟨a, rfl⟩
  exact cloneInts_any v xs w h0 hn
theorem wpList_append_run {P : Program} (w : World) {ops : Array Oper} {rest : List Oper} {o : Oper} {a : Act} {Q : Exit → Act → World → Prop} (hgd : o.guard = none) (s x : Operand) (ats : Array TypeId)
    (ho : o.op = .call { callee := .builtin .append, args := #[s, x], argTypes := ats }) (u v v' : Value) (w' : World) (hs : a.eval s = u) (hx : a.eval x = v)
    (hrun : (Builtin.append_ ats o.type #[u, v]).run P w = .ok v' w') (h : wpList P ops Q rest (a.put o.dst v') w') : wpList P ops Q (o :: rest) a w :=
  wpList_plain hgd fun _ hK => by
    unfold Oper.wp execOp
    simp only [ho, resolve, invoke, builtin, Sem.run_bind, Sem.run_pure, Result.andThen_ok, List.map_toArray, List.map_cons, List.map_nil, hs, hx, hrun]
    exact hK _ _ h
theorem und_int : Tryz.prog.underlying 3 = some (.int .i64) := by kernel_rfl
set_option maxHeartbeats 1000000 in
set_option maxRecDepth 100000 in
theorem growNil_any (n : Nat) (w : World) (hn : n ≤ 4194304) :
    Calls Tryz.prog 113 #[.slice none 0 0, .int .i64 n] w fun e w' => ∃ v, e = .returned v ∧ w'.ownsRow w.heap.size 3 1 v 0 [] ∧ Below w.heap.size w w' := by
  obtain ⟨i0, hi, hz0, hz1, hz2⟩ := info_parts info_int
  have h1 : ¬ ((n : Int) < 0) := by omega
  by_cases h0 : n = 0
  · subst h0
    go_enter Tryz.func113, Tryz.ntmps113
    go_wp2
    go_ret
    exact ⟨_, rfl, World.ownsRow_nil _ _ _ _, Below.refl _ _⟩
  · have h4 : (n : Int) > 0 := by omega
    have hGn : n ≤ grownCap w n 0 3 := grownCap_ge w _ _ _
    have hG63 : grownCap w n 0 3 ≤ maxLen := grownCap_le_maxLen w n 0 3 (by unfold maxLen; omega)
    have hrz : ∀ ty, (Builtin.append_ #[62, 3] ty #[.slice none 0 0, .int .i64 n]).run Tryz.prog w =
        .ok (.slice (some ⟨w.heap.size, 0, none⟩) n (grownCap w n 0 3)) (w.drew.alloc (.cells (Builtin.zeroCells #[.int .i64 0] n ++ Builtin.zeroCells #[.int .i64 0] (grownCap w n 0 3 - n)) 3)) := fun ty => by
      have h := Lib.run_append_grow_zeros w 62 3 ty 3 i0 (.int .i64 0) .i64 .i64 und_ints und_int hi hz0 none 0 0 [] (run_firstCells_none _ _ _ _ _) n (by omega) (by omega) (by omega) (by omega) (by rw [hz2]; omega)
        (growslice_fits (by omega) (by rw [hz2]; omega))
      simpa [Value.cells] using h
    have HRZ := Lib.hid hrz
    clear hrz
    have HOWN := Lib.hid (show (w.drew.alloc (.cells (Builtin.zeroCells #[.int .i64 0] n ++ Builtin.zeroCells #[.int .i64 0] (grownCap w n 0 3 - n)) 3)).ownsRow w.heap.size 3 1 (.slice (some ⟨w.heap.size, 0, none⟩) 0 (grownCap w n 0 3)) 0 [] from
      World.ownsRow_made w.drew _ _ (Nat.le_refl _) hG63 (by simp [size_zeroCells]; omega))
    have HB := Lib.hid (show Below w.heap.size w (w.drew.alloc (.cells (Builtin.zeroCells #[.int .i64 0] n ++ Builtin.zeroCells #[.int .i64 0] (grownCap w n 0 3 - n)) 3)) from (Below.refl _ _).drew.alloc (Nat.le_refl _) _)
    generalize grownCap w n 0 3 = G at *
    generalize Obj.cells (Builtin.zeroCells #[.int .i64 0] n ++ Builtin.zeroCells #[.int .i64 0] (G - n)) 3 = O at *
    unfold maxLen at hG63
    go_enter Tryz.func113, Tryz.ntmps113
    go_wp2_with (at_builtin; go_loud (refine wpList_append_run _ rfl _ _ #[62, 3] rfl (.slice none 0 0) (.int .i64 n) _ _ rfl rfl (HRZ.out _) ?_))
    go_ret
    exact ⟨_, rfl, HOWN.out, HB.out⟩

theorem Grow_pc (n : Nat) (hn : n ≤ 4194304) : PC Tryz.prog 113 [.v (.slice none 0 0), iA n] (rX (.o 0 0) [rowZ []]) := by
  have := pc_ints (P := Tryz.prog) (f := 113) (args := [.v (.slice none 0 0), iA n]) (E := 3) (l := []) (enters_of Tryz.func113 (by kernel_rfl) rfl) fun w fb vs hs hg => ?_
  · exact this
  · have h0 := hg 0 _ rfl
    have h1 := hg 1 _ rfl
    obtain ⟨a, b, rfl⟩ : ∃ a b, vs = #[a, b] := by
      obtain ⟨l⟩ := vs
      match l, hs with
      | [a, b], _ => exact ⟨a, b, rfl⟩
    have h0' : C fb 0 w (.v (.slice none 0 0)) a := h0
    have h1' : C fb 0 w (iA n) b := h1
    cases h0'
    cases h1'
    exact growNil_any n w hn
end Go.Proofs.YtccifbbjbnjcfaaGreatDoor
/-
  Walks: disks: slices.Concat; the place of a file; DiskRead.
-/
namespace Go.Proofs.YtccifbbjbnjcfaaGreatDoor
open Go Go.RowKit Go.Proofs
def szC (xs : List Int) : List AV := [intsA xs]
theorem flat_take_le (xss : List (List Int)) (k : Nat) : (xss.take k).flatten.length ≤ xss.flatten.length := by
  have h := congrArg List.length (congrArg List.flatten (List.take_append_drop k xss))
  simp only [List.flatten_append, List.length_append] at h
  omega
theorem flat_take_succ {xss : List (List Int)} {k : Nat} {x : List Int} (h : xss[k]? = some x) : (xss.take (k + 1)).flatten = (xss.take k).flatten ++ x := by
  rw [List.take_add_one, h]; simp
attribute [local irreducible] RWp AW run kPe pe Kt effA gd gu br retR RDp runD kPeD brW gW effD
set_option maxRecDepth 100000
theorem Concat_pc (xss : List (List Int)) (hm : xss.length ≤ 1000) (ht : xss.flatten.length ≤ 4194304) : PC Tryz.prog 75 [.sl 1 (xss.map szC)] (rX (.o 0 xss.flatten.length) [rowZ xss.flatten]) := by
  have hG := Grow_pc xss.flatten.length ht
  refine pc_enter Tryz.func75 rfl rfl fun w0 fb => go_on ?_; (try simp only [Tryz.ntmps75, push_cast, simprocAttr])
  refine at_loop (X := Nat) (fun k => [(3, iA ((xss.take k).flatten.length : Nat)), (11, iA k)]) (fun _ => [(2, ⟨3, 1, [], true⟩)]) (fun k => k ≤ xss.length) (fun k => xss.length - k) 0 (Nat.zero_le _) ?_ ?_
  · (refine wk_ok ?_ ?_ ?_ ?_ <;> simp [leL, leH, idsL, idsA, idsR, inH, hget, sameRow, upA, hvA, dsts, dstO, setA_0, setA_1, setA_8, List.append, List.cons_append, List.nil_append])
  · intro k hk
    simp only [upA, hvA, dsts, dstO, setA_0, setA_1, setA_8, List.append, List.cons_append, List.nil_append]
    refine go_on ?_
    (try simp only [List.length_map, push_cast, simprocAttr])
    have hle := flat_take_le xss k
    have hle1 := flat_take_le xss (k + 1)
    refine at_b (fun hg => ?_) (fun hg => ?_)
    · have hlt := lt_tt hg
      obtain ⟨x, hx⟩ := get_of_lt hlt
      have i1 := ix_n hx
      have i2 := map_get szC hx
      simp only [szC] at i2
      have e := flat_take_succ hx
      have el : (xss.take (k + 1)).flatten.length = (xss.take k).flatten.length + x.length := by rw [e, List.length_append]
      have w1 := wr ((k : Int) + 1) (by omega)
      have w2 : IntKind.i64.wrap (((xss.take k).flatten.length : Int) + x.length) = (((xss.take (k + 1)).flatten.length : Nat) : Int) := by rw [wr _ (by omega), el]; omega
      obtain ⟨m, hmm⟩ : ∃ m, m = (xss.take (k + 1)).flatten.length := ⟨_, rfl⟩
      rw [← hmm] at w2
      have i3 : ltI (m : Int) 0 = false := ltI_f (by omega)
      (try simp only [hg, i1, i2, List.length_map, w2, i3, w1, push_cast, simprocAttr])
      refine at_fin ⟨k + 1, by omega, by omega, ?_⟩
      rw [← hmm]
      (refine wk_ok ?_ ?_ ?_ ?_ <;> simp [leL, leH, idsL, idsA, idsR, inH, hget, sameRow, upA, hvA, dsts, dstO, setA_0, setA_1, setA_8, List.append, List.cons_append, List.nil_append])
    · have h3 := lt_ff hg
      have hk' : k = xss.length := by omega
      have hT : xss.take k = xss := by rw [hk', List.take_length]
      rw [hT]
      (try simp only [hg, push_cast, simprocAttr])
      (refine at_call ?_; (try simp only [push_cast, simprocAttr]); refine rwc_r (hG) rfl (flat_i _) (by simp [frB, baseOf]) (go_on ?_); (try simp only [push_cast, simprocAttr]))
      refine at_loop (X := Nat) (fun j => [(6, .o 25000 (xss.take j).flatten.length), (27, iA j), (24, .any)]) (fun j => [(2, ⟨3, 1, [], true⟩), (25000, rowZ (xss.take j).flatten)]) (fun j => j ≤ xss.length) (fun j => xss.length - j) 0 (Nat.zero_le _) ?_ ?_
      · (refine wk_ok ?_ ?_ ?_ ?_ <;> simp [leL, leH, idsL, idsA, idsR, inH, hget, sameRow, upA, hvA, dsts, dstO, setA_0, setA_1, setA_8, List.append, List.cons_append, List.nil_append])
      · intro j hj
        simp only [upA, hvA, dsts, dstO, setA_0, setA_1, setA_8, List.append, List.cons_append, List.nil_append]
        refine go_on ?_
        (try simp only [List.length_map, push_cast, simprocAttr])
        have hle := flat_take_le xss j
        have hle1 := flat_take_le xss (j + 1)
        refine at_b (fun hg => ?_) (fun hg => ?_)
        · have hlt := lt_tt hg
          obtain ⟨x, hx⟩ := get_of_lt hlt
          have i1 := ix_n hx
          have i2 := map_get szC hx
          simp only [szC] at i2
          have e := flat_take_succ hx
          have el : (xss.take (j + 1)).flatten.length = (xss.take j).flatten.length + x.length := by rw [e, List.length_append]
          have w1 := wr ((j : Int) + 1) (by omega)
          (try simp only [hg, i1, i2, push_cast, simprocAttr])
          refine at_chk (by omega) ?_
          (try simp only [w1, push_cast, simprocAttr])
          refine at_fin ⟨j + 1, by omega, by omega, ?_⟩
          rw [el, e]
          (refine wk_ok ?_ ?_ ?_ ?_ <;> simp [leL, leH, idsL, idsA, idsR, inH, hget, sameRow, upA, hvA, dsts, dstO, setA_0, setA_1, setA_8, List.append, List.cons_append, List.nil_append])
        · have h3 := lt_ff hg
          have hj' : j = xss.length := by omega
          have hT : xss.take j = xss := by rw [hj', List.take_length]
          rw [hT]
          (try simp only [hg, push_cast, simprocAttr])
          refine at_ret ?_; simp only [Tryz.results75, push_cast, simprocAttr]
          simp [rX, ixOf]
end Go.Proofs.YtccifbbjbnjcfaaGreatDoor
/-
  The abstract machine: what a call leaves, read as data.
-/
namespace Go.Proofs.YtccifbbjbnjcfaaGreatDoor
open Go Go.RowKit
theorem PC.frzX {P : Program} {f : FuncId} {args : List AV} {x : AV} {rows : List Row} (h : PC P f args (rX x rows)) : PC P f args (vX (viewN 3 (hpOf 0 rows) x)) :=
  h.frz fun rv rs ⟨e1, e2⟩ => by subst e1; subst e2; exact ⟨rfl, rfl⟩
theorem G.nil2 {h : Hp} {loc : Loc} {w : World} {v : Value} {n : Nat} (hg : G h loc w (.v (.slice none 0 0)) v) : G h loc w (.sl n []) v := by
  rw [hg.v_inv]
  exact .cl (.nilsl _)
theorem PC.args {P : Program} {f : FuncId} {args args' : List AV} {D : AV → List Row → Prop} (h : PC P f args D) (hl : args'.length = args.length)
    (hc : ∀ (j : Nat) x y, args'[j]? = some x → args[j]? = some y → ∀ lv w u, C lv 0 w x u → C lv 0 w y u) : PC P f args' D :=
  ⟨h.1, fun w fb vs h1 h2 h3 => h.2 w fb vs h1 (by omega) fun j y hy => by
    have hj := lt_of_some hy
    exact hc j _ y (List.getElem?_eq_getElem (show j < args'.length by omega)) hy _ _ _ (h3 j _ (List.getElem?_eq_getElem (show j < args'.length by omega)))⟩
end Go.Proofs.YtccifbbjbnjcfaaGreatDoor
/-
  Walks: the draws' reader: a number, a text out of a list.
-/
namespace Go.Proofs.YtccifbbjbnjcfaaGreatDoor
open Go Go.RowKit Go.Proofs
def byC (n : Int) : List AV := [.v (.int .u8 n)]
abbrev byA (z : List Int) : AV := .sl 1 (z.map byC)
structure BytesOk (z : List Int) : Prop where
  len : z.length ≤ maxLen
  by_ : ∀ n ∈ z, 0 ≤ n ∧ n ≤ 255
def rdR (z : List Int) (p : Nat) : Row := ⟨120, 2, [[byA z, iA p]], true⟩
structure RdOk (z : List Int) (p : Nat) : Prop where
  by_ : BytesOk z
  l : z.length ≤ 2000
  p : p ≤ 1000000
def rowS (l : List Str) : Row := ⟨9, 1, l.map sC, true⟩
theorem RdOk.le {z : List Int} {p q : Nat} (h : RdOk z q) (hp : p ≤ q) : RdOk z p := ⟨h.by_, h.l, Nat.le_trans hp h.p⟩
attribute [local irreducible] RWp AW run kPe pe Kt effA gd gu br retR RDp runD kPeD brW gW effD
set_option maxRecDepth 100000
end Go.Proofs.YtccifbbjbnjcfaaGreatDoor
/-
  Walks: the draws: a text, a content.
-/
namespace Go.Proofs.YtccifbbjbnjcfaaGreatDoor
open Go Go.RowKit Go.Proofs
attribute [local irreducible] RWp AW run kPe pe Kt effA gd gu br retR RDp runD kPeD brW gW effD
set_option maxRecDepth 100000
end Go.Proofs.YtccifbbjbnjcfaaGreatDoor
/-
  Walks: the draws: a tree, a path in a tree, a command.
-/
namespace Go.Proofs.YtccifbbjbnjcfaaGreatDoor
open Go Go.RowKit Go.Proofs
attribute [local irreducible] RWp AW run kPe pe Kt effA gd gu br retR RDp runD kPeD brW gW effD
set_option maxRecDepth 100000
end Go.Proofs.YtccifbbjbnjcfaaGreatDoor
/-
  Walks: the draws: a log, a broken log.
-/
namespace Go.Proofs.YtccifbbjbnjcfaaGreatDoor
open Go Go.RowKit Go.Proofs
structure LogS (l : List Cm) : Prop where
  n : l.length ≤ 21
  p : ∀ c ∈ l, c.p.length ≤ 10
attribute [local irreducible] RWp AW run kPe pe Kt effA gd gu br retR RDp runD kPeD brW gW effD
set_option maxRecDepth 100000
end Go.Proofs.YtccifbbjbnjcfaaGreatDoor
/-
  Walks: the draws: a broken log.
-/
namespace Go.Proofs.YtccifbbjbnjcfaaGreatDoor
open Go Go.RowKit Go.Proofs
theorem LogS.set {l : List Cm} (h : LogS l) (k : Nat) (x : Cm) (hx : x.p.length ≤ 10) : LogS (l.set k x) := by
  refine ⟨by simpa using h.n, fun c hc => ?_⟩
  rcases List.mem_or_eq_of_mem_set hc with hc | rfl
  · exact h.p c hc
  · exact hx
theorem effD_app2 {P : Program} {o : SO} {l : List SO} {evs : List E} {s : AS} {go : List E → AS → RD} (x y : Operand) (t : TypeId) :
    effD P o l evs s go (.call ⟨.builtin .append, ⟨[x, y]⟩, ⟨[t, t]⟩⟩) = apD o evs s go (apE P s o.dst t (evA s.t x) (evA s.t y)) := effD_app _ _ _ _ _ _ (.assign (.tmp 0)) x y t
theorem at_chkD {P : Program} {K : List E → AS → Prop} {φ : Prop} {r : RD} (hφ : φ) (h : RDp P K r) : RDp P K (.chk φ r) := ⟨hφ, h⟩
attribute [local irreducible] RWp AW run kPe pe Kt effA gd gu br retR RDp runD kPeD brW gW effD
set_option maxRecDepth 100000
end Go.Proofs.YtccifbbjbnjcfaaGreatDoor
/-
  Walks: the draws: a side.
-/
namespace Go.Proofs.YtccifbbjbnjcfaaGreatDoor
open Go Go.RowKit Go.Proofs
structure StS (s : St) : Prop where
  b : tV s.base = true
  l : LogS s.log
attribute [local irreducible] RWp AW run kPe pe Kt effA gd gu br retR RDp runD kPeD brW gW effD
set_option maxRecDepth 100000
end Go.Proofs.YtccifbbjbnjcfaaGreatDoor
/-
  Walks: the sides that the laws draw.
-/
namespace Go.Proofs.YtccifbbjbnjcfaaGreatDoor
open Go Go.RowKit Go.Proofs
theorem BytesOk.tk {z : List Int} (h : BytesOk z) : BytesOk (z.take 2000) := ⟨by have := h.len; rw [List.length_take]; omega, fun n hn => h.by_ n (List.mem_of_mem_take hn)⟩
end Go.Proofs.YtccifbbjbnjcfaaGreatDoor
/-
  Walks: a side's tree, twice; equality of trees and of logs by the laws' own loops.
-/
namespace Go.Proofs.YtccifbbjbnjcfaaGreatDoor
open Go Go.RowKit Go.Proofs
attribute [local irreducible] RWp AW run kPe pe Kt effA gd gu br retR RDp runD kPeD brW gW effD
set_option maxRecDepth 100000
end Go.Proofs.YtccifbbjbnjcfaaGreatDoor
/-
  Walks: what the drawn sides keep.
-/
namespace Go.Proofs.YtccifbbjbnjcfaaGreatDoor
open Go Go.RowKit Go.Proofs
theorem StS.sm {s : St} (h : StS s) : SmS s := ⟨sm_tv ((tV_iff _).1 h.b), ⟨by have := h.l.n; omega, fun c hc => by have := h.l.p c hc; omega⟩⟩
attribute [local irreducible] RWp AW run kPe pe Kt effA gd gu br retR RDp runD kPeD brW gW effD
set_option maxRecDepth 100000
end Go.Proofs.YtccifbbjbnjcfaaGreatDoor
/-
  Walks: copies of sides; impl.CommandApply; equality of sides by the laws' own loops.
-/
namespace Go.Proofs.YtccifbbjbnjcfaaGreatDoor
open Go Go.RowKit Go.Proofs
attribute [local irreducible] RWp AW run kPe pe Kt effA gd gu br retR RDp runD kPeD brW gW effD
set_option maxRecDepth 100000
end Go.Proofs.YtccifbbjbnjcfaaGreatDoor
/-
  Walks: disks: the place of a file; copies; DiskRead.
-/
namespace Go.Proofs.YtccifbbjbnjcfaaGreatDoor
open Go Go.RowKit Go.Proofs
theorem flat_z2 {E : TypeId} {sz : Nat} {cl : Bool} (a b : List Int) : FlatR [⟨E, sz, a.map inC, cl⟩, ⟨E, sz, b.map inC, cl⟩] := by
  intro row hr e he x hx
  simp only [List.mem_cons, List.not_mem_nil, or_false] at hr
  rcases hr with rfl | rfl
  · exact flat_i (E := E) (sz := sz) (cl := cl) a _ (by simp) e he x hx
  · exact flat_i (E := E) (sz := sz) (cl := cl) b _ (by simp) e he x hx
attribute [local irreducible] RWp AW run kPe pe Kt effA gd gu br retR RDp runD kPeD brW gW effD
set_option maxRecDepth 100000
theorem IndexFuncB_pc (l : List BD) (hl : l.length < 4294967281) (g : FuncId) (caps : List AV) (hc : caps.all isC = true) (p : BD → Bool) (hp : ∀ n ∈ l, PC Tryz.prog g (blobA n :: caps) (vB (p n))) :
    PC Tryz.prog 101 [blsA l, .fn g caps] (vI (idxF p 0 l)) := by
  refine pc_enter Tryz.func101 rfl rfl fun w0 fb => go_on ?_; (try simp only [Tryz.ntmps101, push_cast, simprocAttr])
  refine at_loop (X := Nat) (fun k => [(8, iA k)]) (fun _ => []) (fun k => k ≤ l.length ∧ idxF p 0 l = idxF p k (l.drop k)) (fun k => l.length - k) 0 ⟨Nat.zero_le _, rfl⟩ ?_ ?_
  · (refine wk_ok ?_ ?_ ?_ ?_ <;> simp [closed_ids hc, leL, leH, idsL, idsA, idsR, inH, hget, sameRow, upA, hvA, dsts, dstO, setA_0, setA_1, setA_8, List.append, List.cons_append, List.nil_append])
  · rintro k ⟨h1, h2⟩
    simp only [upA, hvA, dsts, dstO, setA_0, setA_1, setA_8, List.append, List.cons_append, List.nil_append]
    refine go_on ?_
    (try simp only [push_cast, simprocAttr])
    refine at_b (fun hg => ?_) (fun hg => ?_)
    · have hlt := lt_tt hg
      obtain ⟨x, hk⟩ := get_of_lt hlt
      have i1 := ix_n hk
      have i2 := map_get bC hk
      simp only [bC] at i2
      rw [drop_of_get hk] at h2
      have hx := hp x (mem_of_get hk)
      unfold blobA bC at hx
      (try simp only [hg, i1, i2, push_cast, simprocAttr])
      refine at_call ?_
      simp only [List.map_cons, closed_view hc]
      (try simp only [push_cast, simprocAttr])
      refine rwc_v hx (go_on ?_)
      (try simp only [push_cast, simprocAttr])
      refine at_b (fun hn => ?_) (fun hn => ?_)
      · (try simp only [hn, push_cast, simprocAttr])
        refine at_ret ?_; simp only [Tryz.results101, push_cast, simprocAttr]
        simp [vX, h2, idxF, hn]
      · have w1 := wr ((k : Int) + 1) (by omega)
        (try simp only [hn, w1, push_cast, simprocAttr])
        refine at_fin ⟨k + 1, ⟨by omega, ?_⟩, by omega, ?_⟩
        · rw [h2]; simp [idxF, hn]
        · (refine wk_ok ?_ ?_ ?_ ?_ <;> simp [closed_ids hc, leL, leH, idsL, idsA, idsR, inH, hget, sameRow, upA, hvA, dsts, dstO, setA_0, setA_1, setA_8, List.append, List.cons_append, List.nil_append])
    · have h3 := lt_ff hg
      (try simp only [hg, push_cast, simprocAttr])
      refine at_ret ?_; simp only [Tryz.results101, push_cast, simprocAttr]
      rw [List.drop_of_length_le h3] at h2
      simp [vX, h2, idxF]
theorem file1_pc (d : BD) (nm : Int) : PC Tryz.prog 123 [blobA d, .ip [iA nm]] (vB (eqI d.name nm)) := by
  unfold blobA bC
  refine pc_enter Tryz.func123 rfl rfl fun w0 fb => go_on ?_; (try simp only [Tryz.ntmps123, push_cast, simprocAttr])
  refine at_ret ?_; simp only [Tryz.results123, push_cast, simprocAttr]
  simp [vX]
abbrev ixB (bs : List BD) (nm : Int) : Int := idxF (fun d => decide (d.name = nm)) 0 bs
theorem file_pc (bs : List BD) (hl : bs.length < 4294967281) (nm : Int) : PC Tryz.prog 93 [blsA bs, iA nm] (vI (ixB bs nm)) := by
  refine pc_enter Tryz.func93 rfl rfl fun w0 fb => go_on ?_; (try simp only [Tryz.ntmps93, push_cast, simprocAttr])
  (refine at_call ?_; (try simp only [push_cast, simprocAttr]); refine rwc_v (IndexFuncB_pc bs hl 123 [.ip [iA nm]] rfl (fun d => decide (d.name = nm)) (fun d _ => by rw [← eqI_d]; exact file1_pc d nm)) (go_on ?_); (try simp only [push_cast, simprocAttr]))
  refine at_ret ?_; simp only [Tryz.results93, push_cast, simprocAttr]
  simp [vX]
theorem ixB_cases (bs : List BD) (nm : Int) : (ixB bs nm = -1 ∧ getB bs nm = none) ∨ ∃ (j : Nat) (d : BD), ixB bs nm = (j : Int) ∧ bs[j]? = some d ∧ getB bs nm = some d := by
  rcases idxF_spec (fun d : BD => decide (d.name = nm)) bs 0 with ⟨h1, h2⟩ | ⟨j, d, h1, h2, h3⟩
  · exact .inl ⟨h1, h2⟩
  · exact .inr ⟨j, d, by rw [Nat.zero_add] at h1; exact h1, h2, h3⟩
theorem blobClone_pc (d : BD) (h : SmD d) : PC Tryz.prog 102 [blobA d] (rX (.agg [iA d.name, .o 0 d.safe.length, .o 1 d.fresh.length]) [rowZ d.safe, rowZ d.fresh]) := by
  unfold blobA bC
  refine pc_enter Tryz.func102 rfl rfl fun w0 fb => go_on ?_; (try simp only [Tryz.ntmps102, push_cast, simprocAttr])
  refine at_draw rfl (by kernel_rfl) ?_; simp only [push_cast, simprocAttr]
  (refine at_callD (by simp [clB, idsL, idsA, hget]) ?_; (try simp only [push_cast, simprocAttr]); refine rcd_r (cloneInts_pc d.safe h.s) (by simp [flatV, flatL]) (flat_i _) (by simp [frB, baseOf]) ?_; (try simp only [push_cast, simprocAttr]))
  (refine at_callD (by simp [clB, idsL, idsA, hget]) ?_; (try simp only [push_cast, simprocAttr]); refine rcd_r (cloneInts_pc d.fresh h.f) (by simp [flatV, flatL]) (flat_i _) (by simp [frB, baseOf]) ?_; (try simp only [push_cast, simprocAttr]))
  refine at_done (by kernel_rfl) (by kernel_rfl) (go_on ?_)
  (try simp only [push_cast, simprocAttr])
  refine at_ret ?_; simp only [Tryz.results102, push_cast, simprocAttr]
  simp [rX, ixOf]
theorem blobClone_d (d : BD) (h : SmD d) : PC Tryz.prog 102 [blobA d] (vX (blobA d)) := by
  have := (blobClone_pc d h).frzX
  unfold blobA bC at *
  simpa [viewN, hpOf, hget, isC, tk] using this
theorem cloneDisk_pc (bs : List BD) (hs : SmB bs) : PC Tryz.prog 62 [blsA bs] (rX (.o 0 bs.length) [rowB bs]) := by
  have hn := hs.n
  refine pc_enter Tryz.func62 rfl rfl fun w0 fb => go_on ?_; (try simp only [Tryz.ntmps62, push_cast, simprocAttr])
  refine at_loop (X := Nat) (fun k => [(3, .o 3 k), (8, iA k)]) (fun k => [(2, ⟨79, 3, [], true⟩), (3, rowB (bs.take k))]) (fun k => k ≤ bs.length) (fun k => bs.length - k) 0 (Nat.zero_le _) ?_ ?_
  · (refine wk_ok ?_ ?_ ?_ ?_ <;> simp [leL, leH, idsL, idsA, idsR, inH, hget, sameRow, upA, hvA, dsts, dstO, setA_0, setA_1, setA_8, List.append, List.cons_append, List.nil_append])
  · intro k hk
    simp only [upA, hvA, dsts, dstO, setA_0, setA_1, setA_8, List.append, List.cons_append, List.nil_append]
    refine go_on ?_
    (try simp only [List.length_map, push_cast, simprocAttr])
    refine at_b (fun hg => ?_) (fun hg => ?_)
    · have hlt := lt_tt hg
      obtain ⟨x, hx⟩ := get_of_lt hlt
      have i1 := ix_n hx
      have i2 := map_get bC hx
      have hC := blobClone_d x (hs.d x (mem_of_get hx))
      unfold blobA at hC
      simp only [bC] at i2 hC
      have e : bs.take (k + 1) = bs.take k ++ [x] := by rw [List.take_add_one, hx]; rfl
      have el : (bs.take k).length = k := by rw [List.length_take]; omega
      have w1 := wr ((k : Int) + 1) (by omega)
      (try simp only [hg, i1, i2, push_cast, simprocAttr])
      ((try simp only [push_cast, simprocAttr]); refine at_share2 (by simp [isC2, isC]) (by first | rfl | simp [ren]) (hC) (go_on ?_); (try simp only [push_cast, simprocAttr]))
      refine at_chk (by omega) ?_
      (try simp only [w1, push_cast, simprocAttr])
      refine at_fin ⟨k + 1, by omega, by omega, ?_⟩
      rw [e]
      (refine wk_ok ?_ ?_ ?_ ?_ <;> simp [bC, el, List.take_take, leL, leH, idsL, idsA, idsR, inH, hget, sameRow, upA, hvA, dsts, dstO, setA_0, setA_1, setA_8, List.append, List.cons_append, List.nil_append])
    · have h3 := lt_ff hg
      have hk' : k = bs.length := by omega
      subst hk'
      (try simp only [hg, push_cast, simprocAttr])
      refine at_ret ?_; simp only [Tryz.results62, push_cast, simprocAttr]
      simp [rX, ixOf]
end Go.Proofs.YtccifbbjbnjcfaaGreatDoor
/-
  Walks: slices.SortFunc at files: the order.
-/
namespace Go.Proofs.YtccifbbjbnjcfaaGreatDoor
open Go Go.RowKit Go.Proofs
open Go.Sort (grow SWO PermIn SortedIn)
/-- A file and the values of its two lists. -/
def BV : Type := {x : BD × Value × Value // (0 ≤ x.1.name ∧ x.1.name ≤ 3) ∧ x.2.1.oneCell' = true ∧ x.2.2.oneCell' = true}
instance : Inhabited BV := ⟨⟨(⟨0, [], []⟩, .bool false, .bool false), ⟨by decide, by decide⟩, rfl, rfl⟩⟩
def encV (x : BV) : List Value := [.int .i64 x.1.1.name, x.1.2.1, x.1.2.2]
def cfB (x y : BV) : Int := x.1.1.name - y.1.1.name
theorem ltOf_cfB (x y : BV) : ltOf cfB x y = decide (x.1.1.name < y.1.1.name) := by
  unfold ltOf cfB
  rw [Bool.eq_iff_iff]
  simp only [decide_eq_true_eq]
  omega
theorem swoB : SWO (ltOf cfB) where
  irrefl x := by rw [ltOf_cfB]; simp
  trans x y z h1 h2 := by simp only [ltOf_cfB, decide_eq_true_eq] at *; omega
  ntrans x y z h1 h2 := by simp only [ltOf_cfB, decide_eq_false_iff_not] at *; omega
set_option maxRecDepth 100000
set_option maxHeartbeats 1000000
theorem sorted1_c (x y : BV) (W : World) : Calls Tryz.prog 128 #[.agg #[.int .i64 x.1.1.name, x.1.2.1, x.1.2.2], .agg #[.int .i64 y.1.1.name, y.1.2.1, y.1.2.2]] W fun e w' =>
    e = .returned (.int .i64 (cfB x y)) ∧ ∃ q os', w' = grow (W.drewN q) os' := by
  obtain ⟨hx, hx1, hx2⟩ := x.2
  obtain ⟨hy, hy1, hy2⟩ := y.2
  have hw : IntKind.i64.wrap (x.1.1.name - y.1.1.name) = x.1.1.name - y.1.1.name := wr _ (by omega)
  unfold cfB
  generalize x.1.1.name = a at *
  generalize y.1.1.name = b at *
  generalize x.1.2.1 = x1 at *
  generalize x.1.2.2 = x2 at *
  generalize y.1.2.1 = y1 at *
  generalize y.1.2.2 = y2 at *
  clear x y hx hy
  go_enter Tryz.func128, Tryz.ntmps128
  go_wp2
  all_goals go_ret
  all_goals exact ⟨rfl, 0, _, by simp only [Go.Sort.alloc_eq_grow, Go.Sort.grow_grow]; rfl⟩
theorem lays_b (blk off size : Nat) (w : World) : CmpLays Tryz.prog 128 #[] encV 3 cfB blk off size w := fun _ _ _ _ x y => sorted1_c x y _
end Go.Proofs.YtccifbbjbnjcfaaGreatDoor
/-
  Walks: slices.SortFunc at files: a contract with a lent row.
-/
namespace Go.Proofs.YtccifbbjbnjcfaaGreatDoor
open Go Go.RowKit Go.Proofs
open Go.Sort (grow SWO PermIn SortedIn)
theorem chooseL2 {α β : Type} {p : Nat → α → β → Prop} : ∀ (cs : List α) (n : Nat), (∀ (j : Nat) a, cs[j]? = some a → ∃ v, p (n + j) a v) → ∃ vs : List β, vs.length = cs.length ∧ ∀ (j : Nat) a, cs[j]? = some a → ∃ v, vs[j]? = some v ∧ p (n + j) a v
  | [], n, _ => ⟨[], rfl, fun j a h => by simp at h⟩
  | x :: cs, n, h => by
    obtain ⟨v, hv⟩ := h 0 x rfl
    obtain ⟨vs, hl, hvs⟩ := chooseL2 cs (n + 1) (fun j a ha => by have := h (j + 1) a (by simpa using ha); rwa [show n + 1 + j = n + (j + 1) from by omega])
    refine ⟨v :: vs, by simp [hl], fun j a ha => ?_⟩
    cases j with
    | zero => simp at ha; subst ha; exact ⟨v, rfl, hv⟩
    | succ j =>
      obtain ⟨v', h1, h2⟩ := hvs j a (by simpa using ha)
      exact ⟨v', by simpa using h1, by rwa [show n + (j + 1) = n + 1 + j from by omega]⟩
def srtD (l : List BD) (rv : AV) (lr' rows : List Row) : Prop := ∃ l' : List BD, l'.Perm l ∧ l'.Pairwise (fun a b => a.name ≤ b.name) ∧ rv = .tup [] ∧ lr' = [rowB l'] ∧ rows = []
theorem encV_bd (x : BV) (j : Nat) (a : AV) (h : (bC x.1.1)[j]? = some a) : ((encV x)[j]!).oneCell' = true ∧ j < 3 ∧ ((encV x)[j]? = some ((encV x)[j]!)) := by
  rcases j with _ | _ | _ | j
  · exact ⟨rfl, by omega, rfl⟩
  · exact ⟨x.2.2.1, by omega, rfl⟩
  · exact ⟨x.2.2.2, by omega, rfl⟩
  · simp [bC] at h
theorem encV_one (x : BV) (v : Value) (hv : v ∈ encV x) : v.oneCell' = true := by
  simp only [encV, List.mem_cons, List.not_mem_nil, or_false] at hv
  rcases hv with rfl | rfl | rfl
  · rfl
  · exact x.2.2.1
  · exact x.2.2.2
set_option maxRecDepth 100000
set_option maxHeartbeats 1000000
theorem SortB_pcl (l : List BD) (hl : l.length < 4294967281) (hnm : ∀ d ∈ l, 0 ≤ d.name ∧ d.name ≤ 3) : PCL Tryz.prog 127 [rowB l] (mvF none) [.o 0 l.length, .fn 128 []] (srtD l) := by
  refine ⟨fun vs W => enters_of Tryz.func127 (by kernel_rfl) rfl vs W, fun w fb loc vs hlw hs hg => ?_⟩
  have h0 := hg 0 _ rfl
  have h1 := hg 1 _ rfl
  obtain ⟨cs, hv1, hcs, _⟩ := h1.fn_inv
  obtain rfl : cs = #[] := Array.eq_empty_of_size_eq_zero hcs
  have hvs : vs = #[vs.getD 0 undef, vs.getD 1 undef] := by
    apply Array.ext
    · simpa using hs
    · intro i h1 h2
      have : i < 2 := by simpa using h2
      rcases i with _ | _ | i
      · simp [Array.getD, h1]
      · simp [Array.getD, h1]
      · omega
  rw [hv1] at hvs
  generalize vs.getD 0 undef = v0 at h0 hvs
  subst hvs
  clear hs hg hv1 h1 hcs
  have hrow : hget (hpOf 0 [rowB l]) 0 = some (rowB l) := rfl
  generalize hL : l.length = L at h0
  cases h0 with
  | cl hc => cases hc
  | @onil _ row hr hl' =>
    obtain rfl : l = [] := List.eq_nil_of_length_eq_zero hL
    have hcon := AnyF.slices_SortFunc_none Tryz.sortC none 0 (.func (.func 128) #[] #[]) w
    change Calls Tryz.prog 127 _ _ _ at hcon
    refine hcon.mono ?_
    rintro e w' ⟨rfl, rfl⟩
    refine ⟨.tup [], [rowB []], [], _, loc, ⟨[], List.Perm.refl _, List.Pairwise.nil, rfl, rfl, rfl⟩, rfl, ⟨rfl, rfl, rfl, rfl, Nat.le_refl _, fun _ _ _ => rfl, hlw.fbe, fun _ _ _ => rfl, .tup #[] rfl (fun j a ha => by simp at ha), hlw.rw, hlw.inj, fun r row b c h1 h2 => .inr ⟨r, row, c, h1, h2⟩⟩⟩
  | @o _ _ row b c hr hl' hn =>
    subst hL
    rw [hrow] at hr
    cases hr
    obtain ⟨hlen, hn', hm, cur, hh, hsz, hcells⟩ := (hlw.rw 0 _ hrow).2.open hl'
    simp only [List.length_map] at hn hn'
    -- the files and the values of their lists
    obtain ⟨xs, hxl, hxs⟩ := chooseL2 (p := fun k (d : BD) (x : BV) => x.1.1 = d ∧ (∀ j, j < 3 → cur[k * 3 + j]? = some ((encV x)[j]!)) ∧ C (Live (hpOf 0 [rowB l]) loc) 0 w (intsA d.safe) x.1.2.1 ∧ C (Live (hpOf 0 [rowB l]) loc) 0 w (intsA d.fresh) x.1.2.2) l 0 fun k d hd => by
      rw [Nat.zero_add]
      have he : (rowB l).es[k]? = some (bC d) := by simp [hd]
      obtain ⟨u0, g0, _, g2, _⟩ := hcells k _ 0 _ he rfl
      obtain ⟨u1, g3, g4, _, g5⟩ := hcells k _ 1 _ he rfl
      obtain ⟨u2, g6, g7, _, g8⟩ := hcells k _ 2 _ he rfl
      refine ⟨⟨(d, u1, u2), hnm d (List.mem_of_getElem? hd), g4, g7⟩, rfl, fun j hj => ?_, g5 rfl, g8 rfl⟩
      rcases j with _ | _ | _ | j
      · rw [g0, g2.v_inv]; rfl
      · exact g3
      · exact g6
      · omega
    have hmap : xs.map (fun x => x.1.1) = l := by
      apply List.ext_getElem?
      intro k
      rw [List.getElem?_map]
      rcases Nat.lt_or_ge k l.length with hk | hk
      · obtain ⟨x, h1, h2, _⟩ := hxs k _ (List.getElem?_eq_getElem hk)
        rw [h1, List.getElem?_eq_getElem hk, ← h2]; rfl
      · rw [List.getElem?_eq_none (by omega), List.getElem?_eq_none hk]; rfl
    have hxC : ∀ x ∈ xs, C (Live (hpOf 0 [rowB l]) loc) 0 w (intsA x.1.1.safe) x.1.2.1 ∧ C (Live (hpOf 0 [rowB l]) loc) 0 w (intsA x.1.1.fresh) x.1.2.2 := fun x hx => by
      obtain ⟨k, hk, rfl⟩ := List.mem_iff_getElem.1 hx
      obtain ⟨y, h1, h2, _, h3⟩ := hxs k _ (List.getElem?_eq_getElem (by omega : k < l.length))
      rw [List.getElem?_eq_getElem hk] at h1
      cases h1
      rw [h2]; exact h3
    have hcm : ∀ (k : Nat) (hk : k < xs.length) (j : Nat), j < 3 → cur[k * 3 + j]? = some ((encV xs[k])[j]!) := fun k hk j hj => by
      obtain ⟨y, h1, _, h3, _⟩ := hxs k _ (List.getElem?_eq_getElem (by omega : k < l.length))
      rw [List.getElem?_eq_getElem hk] at h1
      cases h1
      rw [Nat.zero_add] at h3
      exact h3 j hj
    have hH : Go.Sort.HoldsK encV 3 w b 0 xs.toArray := by
      intro j hj
      rw [Go.Sort.size_flatK] at hj
      have hj' : j < xs.length * 3 := by simpa using hj
      have hk : j / 3 < xs.length := by omega
      rw [Nat.zero_add]
      refine ⟨?_, by simp [World.frozen?, hh]⟩
      have := hcm (j / 3) hk (j % 3) (by omega)
      rw [show j / 3 * 3 + j % 3 = j by omega] at this
      simp only [World.cell?, hh, Option.isSome_none, Bool.false_eq_true, if_false, id]
      rw [this, Go.Sort.get_flatK _ _ _ _ hj]
      congr 3
      simp [hk]
    have hblk : b < w.heap.size := by
      rcases Nat.lt_or_ge b w.heap.size with h | h
      · exact h
      · rw [Array.getElem?_eq_none h] at hh; cases hh
    have eg : ∀ args w, (callFunc 128 args).run Tryz.prog w = .ok (.enter 128 args) w := enters_of Tryz.func128 (by kernel_rfl) rfl
    have hcon := AnyQ.slices_SortFunc Tryz.sortC 3 Tryz.isAgg79 Tryz.sizeOf79 encV (fun _ => rfl) encV_one cfB swoB 128 #[] b 0 c xs.toArray w eg (lays_b b 0 _ w) hH hblk (by simp; omega)
    change Calls Tryz.prog 127 _ _ _ at hcon
    rw [show xs.toArray.size = l.length from by simp [hxl]] at hcon
    refine hcon.mono ?_
    rintro e w' ⟨rfl, d', n, os, hp, hsd, rfl⟩
    obtain ⟨hps, _, hpp⟩ := hp
    have hps' : d'.size = l.length := by simpa [hxl] using hps
    have hperm0 : d'.toList.Perm xs := by
      have e1 : d'.extract 0 l.length = d' := by rw [← hps']; simp
      have e2 : xs.toArray.extract 0 l.length = xs.toArray := by rw [← hxl]; simp
      rw [e1, e2] at hpp
      simpa using hpp
    obtain ⟨l', hl0⟩ : ∃ l', l' = d'.toList.map (fun x => x.1.1) := ⟨_, rfl⟩
    have hperm : l'.Perm l := by rw [hl0, ← hmap]; exact hperm0.map _
    have hord : l'.Pairwise (fun a b => a.name ≤ b.name) := by
      rw [hl0, List.pairwise_map, List.pairwise_iff_getElem]
      intro i j hi hj hij
      have := hsd i j (Nat.zero_le _) hij (by simpa [hps'] using hj)
      rw [ltOf_cfB] at this
      simp only [Array.length_toList] at hi hj
      have h2 : ¬ (d'[j]).1.1.name < (d'[i]).1.1.name := by simpa [hi, hj] using this
      simp only [Array.getElem_toList]
      omega
    have hdl : l'.length = l.length := hperm.length_eq
    have hdC : ∀ x ∈ d'.toList, C (Live (hpOf 0 [rowB l]) loc) 0 w (intsA x.1.1.safe) x.1.2.1 ∧ C (Live (hpOf 0 [rowB l]) loc) 0 w (intsA x.1.1.fresh) x.1.2.2 := fun x hx => hxC x (hperm0.mem_iff.1 hx)
    refine ⟨.tup [], [rowB l'], [], _, loc, ⟨l', hperm, hord, rfl, rfl, rfl⟩, rfl, ?_⟩
    have hbh : (sortWorldK encV 3 w b 0 n d' os).heap[b]? = some (.cells (Go.Sort.putCells id 0 (Go.Sort.flatK encV 3 d') cur) 79 (0, 0)) := by
      unfold sortWorldK
      show ((Go.Sort.putRowK encV 3 (Go.Sort.ahead w n) b 0 d').heap ++ os)[b]? = _
      rw [Array.getElem?_append_left (by rw [Go.Sort.size_putRowK]; exact hblk)]
      unfold Go.Sort.putRowK Go.Sort.putRow Go.Sort.mapBlock
      simp only [Array.getElem?_modify, if_true]
      show Option.map _ w.heap[b]? = _
      rw [hh]
      rfl
    have hbk : ∀ k, k < w.heap.size → k ≠ b → (sortWorldK encV 3 w b 0 n d' os).heap[k]? = w.heap[k]? := fun k hk hne => by
      unfold sortWorldK
      show ((Go.Sort.putRowK encV 3 (Go.Sort.ahead w n) b 0 d').heap ++ os)[k]? = _
      rw [Array.getElem?_append_left (by rw [Go.Sort.size_putRowK]; exact hk)]
      unfold Go.Sort.putRowK Go.Sort.putRow Go.Sort.mapBlock
      simp only [Array.getElem?_modify]
      rw [if_neg (fun e => hne e.symm)]
      rfl
    have hsize : w.heap.size ≤ (sortWorldK encV 3 w b 0 n d' os).heap.size := by
      unfold sortWorldK
      show w.heap.size ≤ ((Go.Sort.putRowK encV 3 (Go.Sort.ahead w n) b 0 d').heap ++ os).size
      rw [Array.size_append, Go.Sort.size_putRowK]
      exact Nat.le_add_right _ _
    have hone : ∀ r row, hget (hpOf 0 [rowB l']) r = some row → r = 0 ∧ row = rowB l' := fun r row h => by
      rcases r with _ | r
      · cases h; exact ⟨rfl, rfl⟩
      · simp [hpOf, hget] at h
    have hlive : ∀ k, Live (hpOf 0 [rowB l']) loc k → Live (hpOf 0 [rowB l]) loc k := by
      rintro k (⟨r, row, c', g1, g2⟩ | hf)
      · obtain ⟨rfl, rfl⟩ := hone r row g1
        exact .inl ⟨0, _, c', hrow, g2⟩
      · exact .inr hf
    have hCC : ∀ x u, C (Live (hpOf 0 [rowB l]) loc) 0 w x u → C (Live (hpOf 0 [rowB l']) loc) 0 (sortWorldK encV 3 w b 0 n d' os) x u := fun x u hx => hx.mono (Nat.le_refl _) hsize fun k _ hk hnl => ⟨fun h => hnl (hlive k h), hbk k hk fun e => hnl (.inl ⟨0, _, c, hrow, by rw [e]; exact hl'⟩)⟩
    have hcell : ∀ (k : Nat) (e : List AV) (j : Nat) (x : AV), (rowB l').es[k]? = some e → e[j]? = some x → ∃ u, (Go.Sort.putCells id 0 (Go.Sort.flatK encV 3 d') cur)[k * 3 + j]? = some u ∧ u.oneCell' = true ∧ C (Live (hpOf 0 [rowB l']) loc) 0 (sortWorldK encV 3 w b 0 n d' os) x u := fun k e j x he hx => by
      rw [List.getElem?_map, Option.map_eq_some_iff] at he
      obtain ⟨y, hy, rfl⟩ := he
      have hk := lt_of_some hy
      rw [hl0, List.getElem?_map, Option.map_eq_some_iff] at hy
      obtain ⟨z, hz, rfl⟩ := hy
      obtain ⟨g1, g2, _⟩ := encV_bd z j x hx
      obtain ⟨c1, c2⟩ := hdC z (List.mem_of_getElem? hz)
      refine ⟨(encV z)[j]!, ?_, g1, ?_⟩
      · have hin : k * 3 + j < (Go.Sort.flatK encV 3 d').size := by rw [Go.Sort.size_flatK, hps']; omega
        have hcu : k * 3 + j < cur.size := by rw [hsz]; show _ < c * 3; omega
        unfold Go.Sort.putCells
        rw [Array.getElem?_mapIdx, Array.getElem?_eq_getElem hcu]
        simp only [Option.map_some, Option.some.injEq]
        rw [if_pos ⟨by omega, by omega⟩, Nat.sub_zero, Go.Sort.get_flatK _ _ _ _ (by rw [Go.Sort.size_flatK] at hin; exact hin)]
        rw [show (k * 3 + j) / 3 = k by omega, show (k * 3 + j) % 3 = j by omega]
        have : d'[k]! = z := by
          rw [Array.getElem?_toList] at hz
          rw [Array.getElem!_eq_getD, Array.getD_eq_getD_getElem?, hz]
          rfl
        rw [this]
        rfl
      · rcases j with _ | _ | _ | j
        · cases hx; exact .v
        · cases hx; exact hCC _ _ c1
        · cases hx; exact hCC _ _ c2
        · omega
    have hc3 : (Go.Sort.putCells id 0 (Go.Sort.flatK encV 3 d') cur).size = c * 3 := by
      unfold Go.Sort.putCells
      rw [Array.size_mapIdx]
      exact hsz
    refine ⟨rfl, rfl, rfl, rfl, hsize, fun k hk hnl => hbk k hk fun e => hnl ⟨0, _, c, hrow, by rw [e]; exact hl'⟩, hlw.fbe, fun _ _ _ => rfl, .tup #[] rfl (fun j a ha => by simp at ha), fun r row h => ?_, fun r r' row row' _ _ _ h h' _ _ => ?_, fun r row b' c' h h' => ?_⟩
    · obtain ⟨rfl, rfl⟩ := hone r row h
      refine ⟨rfl, RowOk.mk' hl' (fun k e he => ?_) (by rw [List.length_map, hdl]; exact hn') hm hbh hc3 fun k e j x he hx => ?_⟩
      · rw [List.getElem?_map, Option.map_eq_some_iff] at he
        obtain ⟨y, _, rfl⟩ := he
        rfl
      · obtain ⟨u, g1, g2, g3⟩ := hcell k e j x he hx
        exact ⟨u, g1, g2, .cl g3, fun _ => g3⟩
    · rw [(hone r row h).1, (hone r' row' h').1]
    · obtain ⟨rfl, rfl⟩ := hone r row h
      rw [hl'] at h'
      cases h'
      exact .inr ⟨0, _, c, hrow, hl'⟩
end Go.Proofs.YtccifbbjbnjcfaaGreatDoor
/-
  Walks: disks: sorted.
-/
namespace Go.Proofs.YtccifbbjbnjcfaaGreatDoor
open Go Go.RowKit Go.Proofs
theorem fall_retL {P : Program} {w0 : World} {fb : Nat → Prop} {lr : List Row} {mv : Nat → Bool} {loc0 : Loc} {fn : Func} {D : AV → List Row → List Row → Prop} {s : AS} (h : RWL P w0 fb lr mv loc0 fn D (.ret s)) : RWL P w0 fb lr mv loc0 fn D (.fall s) := fun loc a w hR => h loc a w hR
attribute [local irreducible] RWp AW run kPe pe Kt effA gd gu br retR RDp runD kPeD brW gW effD
set_option maxRecDepth 100000
theorem sorted_pcl (l : List BD) (hl : l.length < 4294967281) (hnm : ∀ d ∈ l, 0 ≤ d.name ∧ d.name ≤ 3) : PCL Tryz.prog 97 [rowB l] (mvF none) [.o 0 l.length] (srtD l) := by
  refine pcl_enter Tryz.func97 rfl rfl (by simp) fun w0 fb loc => go_on ?_; simp only [Tryz.ntmps97, hpL, nmL, mvF, renL, decide_true, decide_false, push_cast, simprocAttr]
  (try simp only [push_cast, simprocAttr]); refine call_lend [500000] none (lr := [rowB l]) (by simp [ndB]) (by first | rfl | simp [rowsOf, hget, rdR, rowS, rowN, rowC, sC, ndC, cmC]) (by simp [idsL, idsA]) (by simp [mvN]) (by simpa [rnA, ixOf] using SortB_pcl l hl hnm) ?_
  rintro rv lr' rows ⟨l', h1, h2, rfl, rfl, rfl⟩
  have hn := h1.length_eq
  (refine ⟨by simp [shB, mvF, hn], by simp [frB, baseOf], go_on ?_⟩; simp only [killA, killH, killRow, push_cast, simprocAttr])
  have hfin : srtD l (.tup []) [rowB l'] [] := ⟨l', h1, h2, rfl, rfl, rfl⟩
  refine fall_retL ?_
  (refine at_retL ?_; simp only [Tryz.results97, retL, push_cast, simprocAttr]; simp [show List.range 1 = [0] from rfl, show List.range 2 = [0, 1] from rfl, show List.range 3 = [0, 1, 2] from rfl, nmL, mvF, ndB, ixOf, rowsOf, hget, rdR, rowS, rowN, rowC]; exact  hfin)
end Go.Proofs.YtccifbbjbnjcfaaGreatDoor
/-
  Plain: sorted files are a disk with a file in its place.
-/
namespace Go.Proofs.YtccifbbjbnjcfaaGreatDoor
open Go Go.RowKit

theorem asc_get : ∀ {x : List BD} {d : BD}, ascB x = true → d ∈ x → getB x d.name = some d
  | [], _, _, h => by simp at h
  | y :: r, d, ha, h => by
    simp only [ascB, Bool.and_eq_true, List.all_eq_true, decide_eq_true_eq] at ha
    unfold getB
    rcases List.mem_cons.1 h with rfl | h
    · rw [List.find?_cons_of_pos (by simp)]
    · have := ha.1 d h
      rw [List.find?_cons_of_neg (by simp; omega)]
      exact asc_get ha.2 h
theorem ext_mem {x y : List BD} (hx : ascB x = true) (hy : ascB y = true) (h : ∀ d, d ∈ x ↔ d ∈ y) : x = y := by
  refine ext_asc hx hy fun nm => ?_
  cases hg : getB x nm with
  | some d =>
    obtain ⟨h1, h2⟩ := getB_name hg
    rw [← h1]; exact (asc_get hy ((h d).1 h2)).symm
  | none =>
    cases hg2 : getB y nm with
    | none => rfl
    | some d =>
      obtain ⟨h1, h2⟩ := getB_name hg2
      exact absurd h1 (getB_none hg d ((h d).2 h2))
theorem ascB_of : ∀ {l : List BD}, l.Pairwise (fun a b => a.name ≤ b.name) → l.Pairwise (fun a b => a.name ≠ b.name) → ascB l = true
  | [], _, _ => rfl
  | d :: r, h1, h2 => by
    rw [List.pairwise_cons] at h1 h2
    simp only [ascB, Bool.and_eq_true, List.all_eq_true, decide_eq_true_eq]
    exact ⟨fun x hx => by have := h1.1 x hx; have := h2.1 x hx; omega, ascB_of h1.2 h2.2⟩
/-- Files in order, of which no two bear a number. -/
theorem srt_eq {l l' y : List BD} (hp : l'.Perm l) (ho : l'.Pairwise (fun a b => a.name ≤ b.name)) (hn : l.Pairwise (fun a b => a.name ≠ b.name)) (hy : ascB y = true) (hm : ∀ d, d ∈ l ↔ d ∈ y) : l' = y := by
  have hn' : l'.Pairwise (fun a b => a.name ≠ b.name) := hp.symm.pairwise hn fun h => Ne.symm h
  exact ext_mem (ascB_of ho hn') hy fun d => (hp.mem_iff).trans (hm d)
theorem asc_pw : ∀ {bs : List BD}, ascB bs = true → bs.Pairwise (fun a b => a.name ≠ b.name)
  | [], _ => List.Pairwise.nil
  | d :: r, h => by
    simp only [ascB, Bool.and_eq_true, List.all_eq_true, decide_eq_true_eq] at h
    exact List.pairwise_cons.2 ⟨fun x hx => by have := h.1 x hx; omega, asc_pw h.2⟩
theorem asc_uniq {bs : List BD} (h : ascB bs = true) {x y : BD} (hx : x ∈ bs) (hy : y ∈ bs) (e : x.name = y.name) : x = y := by
  have h1 := asc_get h hx
  have h2 := asc_get h hy
  rw [e, h2] at h1
  exact (Option.some.inj h1).symm
theorem mem_with {bs : List BD} {d x : BD} : x ∈ withB bs d ↔ x = d ∨ (x ∈ bs ∧ x.name ≠ d.name) := by
  unfold withB
  rw [mem_ins, List.mem_filter]
  simp
/-! ### DiskRename -/
def rnF (a b : Int) (d : BD) : List BD := if d.name = a then [⟨b, d.safe, d.fresh⟩] else if d.name = b then [] else [d]
theorem mem_rnF {a b : Int} {d x : BD} : x ∈ rnF a b d ↔ (d.name = a ∧ x = ⟨b, d.safe, d.fresh⟩) ∨ (d.name ≠ a ∧ d.name ≠ b ∧ x = d) := by
  unfold rnF
  split
  · rename_i h; simp [h]
  · rename_i h
    split
    · rename_i h2
      constructor
      · intro hx; cases hx
      · rintro (⟨h3, _⟩ | ⟨_, h3, _⟩)
        · exact absurd h3 h
        · exact absurd h2 h3
    · rename_i h2; simp [h, h2]
theorem rnF_pw (a b : Int) : ∀ {bs : List BD}, ascB bs = true → (bs.flatMap (rnF a b)).Pairwise (fun x y => x.name ≠ y.name)
  | [], _ => List.Pairwise.nil
  | d :: r, h => by
    have h0 := h
    simp only [ascB, Bool.and_eq_true, List.all_eq_true, decide_eq_true_eq] at h
    rw [List.flatMap_cons, List.pairwise_append]
    refine ⟨?_, rnF_pw a b h.2, fun x hx y hy => ?_⟩
    · unfold rnF
      split
      · simp
      · split <;> simp
    · rw [List.mem_flatMap] at hy
      obtain ⟨e, he, hy⟩ := hy
      have hlt := h.1 e he
      rcases mem_rnF.1 hx with ⟨h1, rfl⟩ | ⟨h1, h2, rfl⟩ <;> rcases mem_rnF.1 hy with ⟨h3, rfl⟩ | ⟨h3, h4, rfl⟩
      · omega
      · simp only; omega
      · simp only; omega
      · omega
theorem ren_out {bs : List BD} {a b : Int} {d0 : BD} (h : diskB bs = true) (hg : getB bs a = some d0) (hb : inB b 1 3 = true) {l' : List BD} (hp : l'.Perm (bs.flatMap (rnF a b))) (ho : l'.Pairwise (fun a b => a.name ≤ b.name)) :
    l' = withB (bs.filter fun x => decide (x.name ≠ a)) ⟨b, d0.safe, d0.fresh⟩ := by
  have ha := ((diskB_iff _).1 h).2
  obtain ⟨hn, hm⟩ := getB_name hg
  have hok := disk_okF h hm
  have hy : diskB (withB (bs.filter fun x => decide (x.name ≠ a)) ⟨b, d0.safe, d0.fresh⟩) = true := disk_with (disk_filter _ h) (by
    simp only [okF, Bool.and_eq_true] at hok ⊢
    exact ⟨⟨⟨hb, hok.1.1.2⟩, hok.1.2⟩, hok.2⟩)
  refine srt_eq hp ho (rnF_pw a b ha) ((diskB_iff _).1 hy).2 fun x => ?_
  rw [mem_with, List.mem_flatMap, List.mem_filter]
  constructor
  · rintro ⟨d, hd, hx⟩
    rcases mem_rnF.1 hx with ⟨h1, rfl⟩ | ⟨h1, h2, rfl⟩
    · rw [asc_uniq ha hd hm (h1.trans hn.symm)]; exact .inl rfl
    · exact .inr ⟨⟨hd, by simpa using h1⟩, h2⟩
  · rintro (rfl | ⟨⟨h1, h2⟩, h3⟩)
    · exact ⟨d0, hm, mem_rnF.2 (.inl ⟨hn, rfl⟩)⟩
    · exact ⟨x, h1, mem_rnF.2 (.inr ⟨by simpa using h2, h3, rfl⟩)⟩
/-! ### DiskWrite -/
theorem set_pw {bs : List BD} {k : Nat} {d d' : BD} (h : ascB bs = true) (hd : bs[k]? = some d) (hn : d'.name = d.name) : (bs.set k d').Pairwise (fun a b => a.name ≠ b.name) := by
  have hp := asc_pw h
  rw [List.pairwise_iff_getElem] at hp ⊢
  intro i j hi hj hij
  simp only [List.length_set] at hi hj
  have := hp i j hi hj hij
  rw [List.getElem_set, List.getElem_set]
  have hk : ∀ (q : Nat) (hq : q < bs.length), k = q → d'.name = (bs[q]).name := fun q hq e => by
    subst e
    rw [List.getElem?_eq_getElem hq] at hd
    cases hd
    exact hn
  split
  · rename_i e
    split
    · omega
    · rw [hk i hi e]; exact this
  · split
    · rename_i e
      rw [hk j hj e]; exact this
    · exact this
theorem wr_old {bs : List BD} {nm : Int} {xs : List Int} {k : Nat} {d : BD} (h : diskB bs = true) (hd : bs[k]? = some d) (hg : getB bs nm = some d) {l' : List BD} (hp : l'.Perm (bs.set k ⟨d.name, d.safe, d.fresh ++ xs⟩)) (ho : l'.Pairwise (fun a b => a.name ≤ b.name)) :
    l' = withB bs (wrB bs nm xs) := by
  have ha := ((diskB_iff _).1 h).2
  obtain ⟨hn, hm⟩ := getB_name hg
  have hw : wrB bs nm xs = ⟨nm, d.safe, d.fresh ++ xs⟩ := by unfold wrB; rw [hg]
  have hk := lt_of_get hd
  have hy : ascB (withB bs (wrB bs nm xs)) = true := by
    unfold withB
    exact ascB_ins (ascB_sub _ ha) fun x hx => by simpa using (List.mem_filter.1 hx).2
  refine srt_eq hp ho (set_pw ha hd rfl) hy fun x => ?_
  rw [mem_with, hw]
  simp only [hn]
  constructor
  · intro hx
    obtain ⟨i, hi, e⟩ := List.mem_iff_getElem.1 hx
    simp only [List.length_set] at hi
    rw [List.getElem_set] at e
    split at e
    · exact .inl e.symm
    · rename_i hki
      refine .inr ⟨List.mem_iff_getElem.2 ⟨i, hi, e⟩, fun hxn => ?_⟩
      have hp := List.pairwise_iff_getElem.1 (asc_pw ha)
      have hdk : bs[k] = d := by rw [List.getElem?_eq_getElem hk] at hd; exact Option.some.inj hd
      rcases Nat.lt_or_gt_of_ne hki with h1 | h1
      · exact hp k i hk hi h1 (by rw [hdk, e, hn, hxn])
      · exact hp i k hi hk h1 (by rw [hdk, e, hn, hxn])
  · rintro (rfl | ⟨h1, h2⟩)
    · exact List.mem_iff_getElem.2 ⟨k, by simpa using hk, by simp [hn]⟩
    · obtain ⟨i, hi, e⟩ := List.mem_iff_getElem.1 h1
      refine List.mem_iff_getElem.2 ⟨i, by simpa using hi, ?_⟩
      rw [List.getElem_set, if_neg, e]
      rintro rfl
      rw [List.getElem?_eq_getElem hi, e] at hd
      cases hd
      exact h2 hn
theorem wr_new {bs : List BD} {nm : Int} {xs : List Int} (h : diskB bs = true) (hg : getB bs nm = none) {l' : List BD} (hp : l'.Perm (bs ++ [⟨nm, [], xs⟩])) (ho : l'.Pairwise (fun a b => a.name ≤ b.name)) :
    l' = withB bs (wrB bs nm xs) := by
  have ha := ((diskB_iff _).1 h).2
  have hw : wrB bs nm xs = ⟨nm, [], xs⟩ := by unfold wrB; rw [hg]
  have hy : ascB (withB bs (wrB bs nm xs)) = true := by
    unfold withB
    exact ascB_ins (ascB_sub _ ha) fun x hx => by simpa using (List.mem_filter.1 hx).2
  refine srt_eq hp ho ?_ hy fun x => ?_
  · rw [List.pairwise_append]
    exact ⟨asc_pw ha, by simp, fun x hx y hy => by simp at hy; subst hy; exact getB_none hg x hx⟩
  · rw [mem_with, hw, List.mem_append, List.mem_singleton]
    constructor
    · rintro (h1 | rfl)
      · exact .inr ⟨h1, getB_none hg x h1⟩
      · exact .inl rfl
    · rintro (rfl | ⟨h1, _⟩)
      · exact .inr rfl
      · exact .inl h1
end Go.Proofs.YtccifbbjbnjcfaaGreatDoor
/-
  Walks: disks: DiskRename.
-/
namespace Go.Proofs.YtccifbbjbnjcfaaGreatDoor
open Go Go.RowKit Go.Proofs
theorem asc_ix {bs : List BD} (h : ascB bs = true) {i j : Nat} {x y : BD} (hi : bs[i]? = some x) (hj : bs[j]? = some y) (e : x.name = y.name) : i = j := by
  have hp := List.pairwise_iff_getElem.1 (asc_pw h)
  have h1 := lt_of_some hi
  have h2 := lt_of_some hj
  rw [List.getElem?_eq_getElem h1] at hi
  rw [List.getElem?_eq_getElem h2] at hj
  cases hi; cases hj
  rcases Nat.lt_trichotomy i j with h3 | h3 | h3
  · exact absurd e (hp i j h1 h2 h3)
  · exact h3
  · exact absurd e.symm (hp j i h2 h1 h3)
theorem take_fm {α β : Type} {f : α → List β} {l : List α} {k : Nat} {x : α} (h : l[k]? = some x) : (l.take (k + 1)).flatMap f = (l.take k).flatMap f ++ f x := by
  rw [List.take_add_one, h]; simp
theorem rnF_le (a b : Int) (d : BD) : (rnF a b d).length ≤ 1 := by
  unfold rnF
  split
  · simp
  · split <;> simp
theorem fm_le (a b : Int) : ∀ l : List BD, (l.flatMap (rnF a b)).length ≤ l.length
  | [] => by simp
  | d :: r => by
    have h1 := rnF_le a b d
    have h2 := fm_le a b r
    simp only [List.flatMap_cons, List.length_append, List.length_cons]; omega
theorem disk_le3 : ∀ {bs : List BD} {last : Int}, 0 ≤ last → diskFrom last bs = true → bs.length + last ≤ 3 ∨ bs = []
  | [], _, _, _ => .inr rfl
  | d :: r, last, h0, h => by
    simp only [diskFrom, blobB, inB, Bool.and_eq_true, decide_eq_true_eq] at h
    refine .inl ?_
    rcases disk_le3 (last := d.name) (by omega) h.2 with h1 | rfl
    · simp only [List.length_cons]; omega
    · simp; omega
theorem disk_len {bs : List BD} (h : diskB bs = true) : bs.length ≤ 3 := by
  rcases disk_le3 (last := 0) (by omega) h with h1 | rfl
  · omega
  · simp
theorem disk_sm {bs : List BD} (h : diskB bs = true) : SmB bs := by
  have := disk_len h
  refine ⟨by omega, fun d hd => ?_⟩
  have := disk_okF h hd
  simp only [okF, Bool.and_eq_true, decide_eq_true_eq] at this
  exact ⟨by omega, by omega⟩
attribute [local irreducible] RWp AW run kPe pe Kt effA gd gu br retR RDp runD kPeD brW gW effD
set_option maxRecDepth 100000
end Go.Proofs.YtccifbbjbnjcfaaGreatDoor
/-
  Walks: disks: the reference's small functions; DiskValid.
-/
namespace Go.Proofs.YtccifbbjbnjcfaaGreatDoor
open Go Go.RowKit Go.Proofs
attribute [local irreducible] RWp AW run kPe pe Kt effA gd gu br retR RDp runD kPeD brW gW effD
set_option maxRecDepth 100000
theorem l4Bytes_pc (l : List Int) (hl : l.length < 4294967281) : PC Tryz.prog 85 [intsA l] (vB (bytesB l)) := by
  refine pc_enter Tryz.func85 rfl rfl fun w0 fb => go_on ?_; (try simp only [Tryz.ntmps85, push_cast, simprocAttr])
  refine at_loop (X := Nat) (fun k => [(3, iA k)]) (fun _ => []) (fun k => k ≤ l.length ∧ bytesB l = bytesB (l.drop k)) (fun k => l.length - k) 0 ⟨Nat.zero_le _, rfl⟩ ?_ ?_
  · (refine wk_ok ?_ ?_ ?_ ?_ <;> simp [leL, leH, idsL, idsA, idsR, inH, hget, sameRow, upA, hvA, dsts, dstO, setA_0, setA_1, setA_8, List.append, List.cons_append, List.nil_append])
  · rintro k ⟨h1, h2⟩
    simp only [upA, hvA, dsts, dstO, setA_0, setA_1, setA_8, List.append, List.cons_append, List.nil_append]
    refine go_on ?_
    (try simp only [List.length_map, push_cast, simprocAttr])
    refine at_b (fun hg => ?_) (fun hg => ?_)
    · have hlt := lt_tt hg
      obtain ⟨x, hk⟩ := get_of_lt hlt
      have i1 := ix_n hk
      have i2 := map_get inC hk
      simp only [inC] at i2
      rw [drop_of_get hk] at h2
      have hI := l6In_pc x 0 255
      have w1 := wr ((k : Int) + 1) (by omega)
      have e0 : bytesB (x :: l.drop (k + 1)) = (inR x 0 255 && bytesB (l.drop (k + 1))) := rfl
      rw [e0] at h2
      (try simp only [hg, i1, i2, push_cast, simprocAttr])
      (refine at_call ?_; (try simp only [push_cast, simprocAttr]); refine rwc_v (hI) (go_on ?_); (try simp only [push_cast, simprocAttr]))
      cases e : inR x 0 255 with
      | false =>
        (try simp only [e, Bool.not_false, push_cast, simprocAttr])
        refine at_ret ?_; simp only [Tryz.results85, push_cast, simprocAttr]
        simp [vX, h2, e]
      | true =>
        (try simp only [e, Bool.not_true, w1, push_cast, simprocAttr])
        refine at_fin ⟨k + 1, ⟨by omega, by rw [h2, e]; rfl⟩, by omega, ?_⟩
        (refine wk_ok ?_ ?_ ?_ ?_ <;> simp [leL, leH, idsL, idsA, idsR, inH, hget, sameRow, upA, hvA, dsts, dstO, setA_0, setA_1, setA_8, List.append, List.cons_append, List.nil_append])
    · have h3 := lt_ff hg
      (try simp only [hg, push_cast, simprocAttr])
      refine at_ret ?_; simp only [Tryz.results85, push_cast, simprocAttr]
      rw [List.drop_of_length_le h3] at h2
      have h2' : bytesB l = true := by rw [h2]; rfl
      simp [vX, h2']
theorem specDiskValid_pc (bs : List BD) (hs : SmB bs) : PC Tryz.prog 56 [blsA bs] (vB (diskB bs)) := by
  have hn := hs.n
  refine pc_enter Tryz.func56 rfl rfl fun w0 fb => go_on ?_; (try simp only [Tryz.ntmps56, push_cast, simprocAttr])
  refine at_loop (X := Nat × Int) (fun x => [(3, iA x.1)]) (fun _ => []) (fun x => x.1 ≤ bs.length ∧ 0 ≤ x.2 ∧ x.2 ≤ 3 ∧ diskB bs = diskFrom x.2 (bs.drop x.1) ∧ (x.1 = 0 ∧ x.2 = 0 ∨ ∃ m d, x.1 = m + 1 ∧ bs[m]? = some d ∧ d.name = x.2)) (fun x => bs.length - x.1) (0, 0) ⟨Nat.zero_le _, by simp, by simp, rfl, .inl ⟨rfl, rfl⟩⟩ ?_ ?_
  · (refine wk_ok ?_ ?_ ?_ ?_ <;> simp [leL, leH, idsL, idsA, idsR, inH, hget, sameRow, upA, hvA, dsts, dstO, setA_0, setA_1, setA_8, List.append, List.cons_append, List.nil_append])
  · rintro ⟨k, last⟩ ⟨h1, h2, h3, h4, h5⟩
    simp only at h1 h2 h3 h4 h5
    simp only [upA, hvA, dsts, dstO, setA_0, setA_1, setA_8, List.append, List.cons_append, List.nil_append]
    refine go_on ?_
    (try simp only [List.length_map, push_cast, simprocAttr])
    refine at_b (fun hg => ?_) (fun hg => ?_)
    · have hlt := lt_tt hg
      obtain ⟨d, hk⟩ := get_of_lt hlt
      have i1 := ix_n hk
      have i2 := map_get bC hk
      simp only [bC] at i2
      obtain ⟨hds, hdf⟩ := hs.d d (mem_of_get hk)
      have hI := l6In_pc d.name 1 3
      have hS := l4Bytes_pc d.safe (by omega)
      have hF := l4Bytes_pc d.fresh (by omega)
      have w1 := wr ((k : Int) + 1) (by omega)
      have w3 := wr ((d.safe.length : Int) + d.fresh.length) (by omega)
      rw [drop_of_get hk] at h4
      simp only [diskFrom, blobB] at h4
      have eI : inB d.name (last + 1) 3 = (inR d.name 1 3 && decide (last < d.name)) := by
        unfold inB inR
        rw [Bool.eq_iff_iff]
        simp only [Bool.and_eq_true, decide_eq_true_eq]
        omega
      rw [eI] at h4
      (try simp only [hg, i1, i2, push_cast, simprocAttr])
      cases e1 : inR d.name 1 3 with
      | false =>
        refine at_draw rfl (by kernel_rfl) ?_; simp only [push_cast, simprocAttr]
        repeat' first | (refine at_bWn (fun hb => ?_) (fun hb => ?_) <;> simp only [e1, Bool.not_false, hb, push_cast, simprocAttr]) | (refine at_bW (fun hb => ?_) (fun hb => ?_) <;> simp only [e1, Bool.not_false, hb, push_cast, simprocAttr]) | (refine at_callD (by simp [clB, idsL, idsA, hget]) ?_; (try simp only [push_cast, simprocAttr]); first | (refine rcd_v (hI) ?_; simp only [e1, Bool.not_false, push_cast, simprocAttr]) | (refine rcd_d (hI) (by simp [flatV, flatL, ctC, ndC, cmC]) (by simp [ren, ctC, ndC, cmC]) ?_; simp only [e1, Bool.not_false, push_cast, simprocAttr])) | (refine at_done (by kernel_rfl) (by kernel_rfl) (go_on ?_); (try simp only [e1, Bool.not_false, push_cast, simprocAttr]))
        (try simp only [e1, Bool.not_false, push_cast, simprocAttr])
        refine at_ret ?_; simp only [Tryz.results56, push_cast, simprocAttr]
        simp [vX, h4, e1]
      | true =>
        have hnm : 1 ≤ d.name ∧ d.name ≤ 3 := by simp only [inR, Bool.and_eq_true, decide_eq_true_eq] at e1; omega
        cases e2 : bytesB d.safe with
        | false =>
          refine at_draw rfl (by kernel_rfl) ?_; simp only [push_cast, simprocAttr]
          repeat' first | (refine at_bWn (fun hb => ?_) (fun hb => ?_) <;> simp only [e1, e2, Bool.not_false, Bool.not_true, hb, push_cast, simprocAttr]) | (refine at_bW (fun hb => ?_) (fun hb => ?_) <;> simp only [e1, e2, Bool.not_false, Bool.not_true, hb, push_cast, simprocAttr]) | (refine at_callD (by simp [clB, idsL, idsA, hget]) ?_; (try simp only [push_cast, simprocAttr]); first | (refine rcd_v (hI) ?_; simp only [e1, e2, Bool.not_false, Bool.not_true, push_cast, simprocAttr]) | (refine rcd_d (hI) (by simp [flatV, flatL, ctC, ndC, cmC]) (by simp [ren, ctC, ndC, cmC]) ?_; simp only [e1, e2, Bool.not_false, Bool.not_true, push_cast, simprocAttr]) | (refine rcd_v (hS) ?_; simp only [e1, e2, Bool.not_false, Bool.not_true, push_cast, simprocAttr]) | (refine rcd_d (hS) (by simp [flatV, flatL, ctC, ndC, cmC]) (by simp [ren, ctC, ndC, cmC]) ?_; simp only [e1, e2, Bool.not_false, Bool.not_true, push_cast, simprocAttr])) | (refine at_done (by kernel_rfl) (by kernel_rfl) (go_on ?_); (try simp only [e1, e2, Bool.not_false, Bool.not_true, push_cast, simprocAttr]))
          (try simp only [Bool.not_false, push_cast, simprocAttr])
          refine at_ret ?_; simp only [Tryz.results56, push_cast, simprocAttr]
          simp [vX, h4, e2]
        | true =>
          cases e3 : bytesB d.fresh with
          | false =>
            refine at_draw rfl (by kernel_rfl) ?_; simp only [push_cast, simprocAttr]
            repeat' first | (refine at_bWn (fun hb => ?_) (fun hb => ?_) <;> simp only [e1, e2, e3, Bool.not_false, Bool.not_true, hb, push_cast, simprocAttr]) | (refine at_bW (fun hb => ?_) (fun hb => ?_) <;> simp only [e1, e2, e3, Bool.not_false, Bool.not_true, hb, push_cast, simprocAttr]) | (refine at_callD (by simp [clB, idsL, idsA, hget]) ?_; (try simp only [push_cast, simprocAttr]); first | (refine rcd_v (hI) ?_; simp only [e1, e2, e3, Bool.not_false, Bool.not_true, push_cast, simprocAttr]) | (refine rcd_d (hI) (by simp [flatV, flatL, ctC, ndC, cmC]) (by simp [ren, ctC, ndC, cmC]) ?_; simp only [e1, e2, e3, Bool.not_false, Bool.not_true, push_cast, simprocAttr]) | (refine rcd_v (hS) ?_; simp only [e1, e2, e3, Bool.not_false, Bool.not_true, push_cast, simprocAttr]) | (refine rcd_d (hS) (by simp [flatV, flatL, ctC, ndC, cmC]) (by simp [ren, ctC, ndC, cmC]) ?_; simp only [e1, e2, e3, Bool.not_false, Bool.not_true, push_cast, simprocAttr]) | (refine rcd_v (hF) ?_; simp only [e1, e2, e3, Bool.not_false, Bool.not_true, push_cast, simprocAttr]) | (refine rcd_d (hF) (by simp [flatV, flatL, ctC, ndC, cmC]) (by simp [ren, ctC, ndC, cmC]) ?_; simp only [e1, e2, e3, Bool.not_false, Bool.not_true, push_cast, simprocAttr])) | (refine at_done (by kernel_rfl) (by kernel_rfl) (go_on ?_); (try simp only [e1, e2, e3, Bool.not_false, Bool.not_true, push_cast, simprocAttr]))
            (try simp only [Bool.not_false, push_cast, simprocAttr])
            refine at_ret ?_; simp only [Tryz.results56, push_cast, simprocAttr]
            simp [vX, h4, e3]
          | true =>
            by_cases h400 : d.safe.length + d.fresh.length ≤ 400
            · have e4 : ltI 400 ((d.safe.length : Int) + d.fresh.length) = false := ltI_f (by omega)
              rcases h5 with ⟨rfl, rfl⟩ | ⟨m, p, hkm, hm, hpl⟩
              · have e5 : ltI 0 ((0 : Nat) : Int) = false := rfl
                refine at_draw rfl (by kernel_rfl) ?_; simp only [push_cast, simprocAttr]
                repeat' first | (refine at_bWn (fun hb => ?_) (fun hb => ?_) <;> simp only [e1, e2, e3, e4, e5, show ltI 0 0 = false from rfl, w3, List.length_map, Bool.not_false, Bool.not_true, hb, push_cast, simprocAttr]) | (refine at_bW (fun hb => ?_) (fun hb => ?_) <;> simp only [e1, e2, e3, e4, e5, show ltI 0 0 = false from rfl, w3, List.length_map, Bool.not_false, Bool.not_true, hb, push_cast, simprocAttr]) | (refine at_callD (by simp [clB, idsL, idsA, hget]) ?_; (try simp only [push_cast, simprocAttr]); first | (refine rcd_v (hI) ?_; simp only [e1, e2, e3, e4, e5, show ltI 0 0 = false from rfl, w3, List.length_map, Bool.not_false, Bool.not_true, push_cast, simprocAttr]) | (refine rcd_d (hI) (by simp [flatV, flatL, ctC, ndC, cmC]) (by simp [ren, ctC, ndC, cmC]) ?_; simp only [e1, e2, e3, e4, e5, show ltI 0 0 = false from rfl, w3, List.length_map, Bool.not_false, Bool.not_true, push_cast, simprocAttr]) | (refine rcd_v (hS) ?_; simp only [e1, e2, e3, e4, e5, show ltI 0 0 = false from rfl, w3, List.length_map, Bool.not_false, Bool.not_true, push_cast, simprocAttr]) | (refine rcd_d (hS) (by simp [flatV, flatL, ctC, ndC, cmC]) (by simp [ren, ctC, ndC, cmC]) ?_; simp only [e1, e2, e3, e4, e5, show ltI 0 0 = false from rfl, w3, List.length_map, Bool.not_false, Bool.not_true, push_cast, simprocAttr]) | (refine rcd_v (hF) ?_; simp only [e1, e2, e3, e4, e5, show ltI 0 0 = false from rfl, w3, List.length_map, Bool.not_false, Bool.not_true, push_cast, simprocAttr]) | (refine rcd_d (hF) (by simp [flatV, flatL, ctC, ndC, cmC]) (by simp [ren, ctC, ndC, cmC]) ?_; simp only [e1, e2, e3, e4, e5, show ltI 0 0 = false from rfl, w3, List.length_map, Bool.not_false, Bool.not_true, push_cast, simprocAttr])) | (refine at_done (by kernel_rfl) (by kernel_rfl) (go_on ?_); (try simp only [e1, e2, e3, e4, e5, show ltI 0 0 = false from rfl, w3, List.length_map, Bool.not_false, Bool.not_true, push_cast, simprocAttr]))
                (try simp only [w1, show IntKind.i64.wrap (0 + 1) = 1 from rfl, show IntKind.i64.wrap 1 = 1 from rfl, push_cast, simprocAttr])
                refine at_fin ⟨(0 + 1, d.name), ⟨by dsimp only; omega, by dsimp only; omega, by dsimp only; omega, ?_, .inr ⟨0, d, rfl, hk, rfl⟩⟩, by dsimp only; omega, ?_⟩
                · rw [h4]
                  have : decide ((0 : Int) < d.name) = true := by simp; omega
                  simp [e1, e2, e3, h400, this]
                · (refine wk_ok ?_ ?_ ?_ ?_ <;> simp [show IntKind.i64.wrap 1 = 1 from rfl, leL, leH, idsL, idsA, idsR, inH, hget, sameRow, upA, hvA, dsts, dstO, setA_0, setA_1, setA_8, List.append, List.cons_append, List.nil_append])
              · have e5 : ltI 0 (k : Int) = true := ltI_t (by omega)
                have w2 : IntKind.i64.wrap ((k : Int) - 1) = (m : Int) := by rw [wr _ (by omega)]; omega
                have j1 := ix_n hm
                have j2 := map_get bC hm
                simp only [bC] at j2
                by_cases hlt2 : last < d.name
                · have e6 : leI d.name p.name = false := leI_f (by omega)
                  refine at_draw rfl (by kernel_rfl) ?_; simp only [push_cast, simprocAttr]
                  repeat' first | (refine at_bWn (fun hb => ?_) (fun hb => ?_) <;> simp only [e1, e2, e3, e4, e5, e6, w2, w3, j1, j2, List.length_map, Bool.not_false, Bool.not_true, hb, push_cast, simprocAttr]) | (refine at_bW (fun hb => ?_) (fun hb => ?_) <;> simp only [e1, e2, e3, e4, e5, e6, w2, w3, j1, j2, List.length_map, Bool.not_false, Bool.not_true, hb, push_cast, simprocAttr]) | (refine at_callD (by simp [clB, idsL, idsA, hget]) ?_; (try simp only [push_cast, simprocAttr]); first | (refine rcd_v (hI) ?_; simp only [e1, e2, e3, e4, e5, e6, w2, w3, j1, j2, List.length_map, Bool.not_false, Bool.not_true, push_cast, simprocAttr]) | (refine rcd_d (hI) (by simp [flatV, flatL, ctC, ndC, cmC]) (by simp [ren, ctC, ndC, cmC]) ?_; simp only [e1, e2, e3, e4, e5, e6, w2, w3, j1, j2, List.length_map, Bool.not_false, Bool.not_true, push_cast, simprocAttr]) | (refine rcd_v (hS) ?_; simp only [e1, e2, e3, e4, e5, e6, w2, w3, j1, j2, List.length_map, Bool.not_false, Bool.not_true, push_cast, simprocAttr]) | (refine rcd_d (hS) (by simp [flatV, flatL, ctC, ndC, cmC]) (by simp [ren, ctC, ndC, cmC]) ?_; simp only [e1, e2, e3, e4, e5, e6, w2, w3, j1, j2, List.length_map, Bool.not_false, Bool.not_true, push_cast, simprocAttr]) | (refine rcd_v (hF) ?_; simp only [e1, e2, e3, e4, e5, e6, w2, w3, j1, j2, List.length_map, Bool.not_false, Bool.not_true, push_cast, simprocAttr]) | (refine rcd_d (hF) (by simp [flatV, flatL, ctC, ndC, cmC]) (by simp [ren, ctC, ndC, cmC]) ?_; simp only [e1, e2, e3, e4, e5, e6, w2, w3, j1, j2, List.length_map, Bool.not_false, Bool.not_true, push_cast, simprocAttr])) | (refine at_done (by kernel_rfl) (by kernel_rfl) (go_on ?_); (try simp only [e1, e2, e3, e4, e5, e6, w2, w3, j1, j2, List.length_map, Bool.not_false, Bool.not_true, push_cast, simprocAttr]))
                  (try simp only [w1, push_cast, simprocAttr])
                  refine at_fin ⟨(k + 1, d.name), ⟨by dsimp only; omega, by dsimp only; omega, by dsimp only; omega, ?_, .inr ⟨k, d, rfl, hk, rfl⟩⟩, by dsimp only; omega, ?_⟩
                  · rw [h4]; simp [e1, e2, e3, h400, hlt2]
                  · (refine wk_ok ?_ ?_ ?_ ?_ <;> simp [leL, leH, idsL, idsA, idsR, inH, hget, sameRow, upA, hvA, dsts, dstO, setA_0, setA_1, setA_8, List.append, List.cons_append, List.nil_append])
                · have e6 : leI d.name p.name = true := leI_t (by omega)
                  refine at_draw rfl (by kernel_rfl) ?_; simp only [push_cast, simprocAttr]
                  repeat' first | (refine at_bWn (fun hb => ?_) (fun hb => ?_) <;> simp only [e1, e2, e3, e4, e5, e6, w2, w3, j1, j2, List.length_map, Bool.not_false, Bool.not_true, hb, push_cast, simprocAttr]) | (refine at_bW (fun hb => ?_) (fun hb => ?_) <;> simp only [e1, e2, e3, e4, e5, e6, w2, w3, j1, j2, List.length_map, Bool.not_false, Bool.not_true, hb, push_cast, simprocAttr]) | (refine at_callD (by simp [clB, idsL, idsA, hget]) ?_; (try simp only [push_cast, simprocAttr]); first | (refine rcd_v (hI) ?_; simp only [e1, e2, e3, e4, e5, e6, w2, w3, j1, j2, List.length_map, Bool.not_false, Bool.not_true, push_cast, simprocAttr]) | (refine rcd_d (hI) (by simp [flatV, flatL, ctC, ndC, cmC]) (by simp [ren, ctC, ndC, cmC]) ?_; simp only [e1, e2, e3, e4, e5, e6, w2, w3, j1, j2, List.length_map, Bool.not_false, Bool.not_true, push_cast, simprocAttr]) | (refine rcd_v (hS) ?_; simp only [e1, e2, e3, e4, e5, e6, w2, w3, j1, j2, List.length_map, Bool.not_false, Bool.not_true, push_cast, simprocAttr]) | (refine rcd_d (hS) (by simp [flatV, flatL, ctC, ndC, cmC]) (by simp [ren, ctC, ndC, cmC]) ?_; simp only [e1, e2, e3, e4, e5, e6, w2, w3, j1, j2, List.length_map, Bool.not_false, Bool.not_true, push_cast, simprocAttr]) | (refine rcd_v (hF) ?_; simp only [e1, e2, e3, e4, e5, e6, w2, w3, j1, j2, List.length_map, Bool.not_false, Bool.not_true, push_cast, simprocAttr]) | (refine rcd_d (hF) (by simp [flatV, flatL, ctC, ndC, cmC]) (by simp [ren, ctC, ndC, cmC]) ?_; simp only [e1, e2, e3, e4, e5, e6, w2, w3, j1, j2, List.length_map, Bool.not_false, Bool.not_true, push_cast, simprocAttr])) | (refine at_done (by kernel_rfl) (by kernel_rfl) (go_on ?_); (try simp only [e1, e2, e3, e4, e5, e6, w2, w3, j1, j2, List.length_map, Bool.not_false, Bool.not_true, push_cast, simprocAttr]))
                  (try simp only [Bool.not_false, push_cast, simprocAttr])
                  refine at_ret ?_; simp only [Tryz.results56, push_cast, simprocAttr]
                  simp [vX, h4, hlt2]
            · have e4 : ltI 400 ((d.safe.length : Int) + d.fresh.length) = true := ltI_t (by omega)
              refine at_draw rfl (by kernel_rfl) ?_; simp only [push_cast, simprocAttr]
              repeat' first | (refine at_bWn (fun hb => ?_) (fun hb => ?_) <;> simp only [e1, e2, e3, e4, w3, List.length_map, Bool.not_false, Bool.not_true, hb, push_cast, simprocAttr]) | (refine at_bW (fun hb => ?_) (fun hb => ?_) <;> simp only [e1, e2, e3, e4, w3, List.length_map, Bool.not_false, Bool.not_true, hb, push_cast, simprocAttr]) | (refine at_callD (by simp [clB, idsL, idsA, hget]) ?_; (try simp only [push_cast, simprocAttr]); first | (refine rcd_v (hI) ?_; simp only [e1, e2, e3, e4, w3, List.length_map, Bool.not_false, Bool.not_true, push_cast, simprocAttr]) | (refine rcd_d (hI) (by simp [flatV, flatL, ctC, ndC, cmC]) (by simp [ren, ctC, ndC, cmC]) ?_; simp only [e1, e2, e3, e4, w3, List.length_map, Bool.not_false, Bool.not_true, push_cast, simprocAttr]) | (refine rcd_v (hS) ?_; simp only [e1, e2, e3, e4, w3, List.length_map, Bool.not_false, Bool.not_true, push_cast, simprocAttr]) | (refine rcd_d (hS) (by simp [flatV, flatL, ctC, ndC, cmC]) (by simp [ren, ctC, ndC, cmC]) ?_; simp only [e1, e2, e3, e4, w3, List.length_map, Bool.not_false, Bool.not_true, push_cast, simprocAttr]) | (refine rcd_v (hF) ?_; simp only [e1, e2, e3, e4, w3, List.length_map, Bool.not_false, Bool.not_true, push_cast, simprocAttr]) | (refine rcd_d (hF) (by simp [flatV, flatL, ctC, ndC, cmC]) (by simp [ren, ctC, ndC, cmC]) ?_; simp only [e1, e2, e3, e4, w3, List.length_map, Bool.not_false, Bool.not_true, push_cast, simprocAttr])) | (refine at_done (by kernel_rfl) (by kernel_rfl) (go_on ?_); (try simp only [e1, e2, e3, e4, w3, List.length_map, Bool.not_false, Bool.not_true, push_cast, simprocAttr]))
              (try simp only [Bool.not_false, push_cast, simprocAttr])
              refine at_ret ?_; simp only [Tryz.results56, push_cast, simprocAttr]
              simp [vX, h4, h400]
    · have h5 := lt_ff hg
      (try simp only [hg, push_cast, simprocAttr])
      refine at_ret ?_; simp only [Tryz.results56, push_cast, simprocAttr]
      rw [List.drop_of_length_le h5] at h4
      simp [vX, h4, diskFrom]
end Go.Proofs.YtccifbbjbnjcfaaGreatDoor
/-
  Walks: disks: the reference's copies, l31Without, l31With.
-/
namespace Go.Proofs.YtccifbbjbnjcfaaGreatDoor
open Go Go.RowKit Go.Proofs
attribute [local irreducible] RWp AW run kPe pe Kt effA gd gu br retR RDp runD kPeD brW gW effD
set_option maxRecDepth 100000
theorem l31Find_pc (bs : List BD) (hn : bs.length < 4294967281) (nm : Int) : PC Tryz.prog 81 [blsA bs, iA nm] (vI (ixB bs nm)) := by
  refine pc_enter Tryz.func81 rfl rfl fun w0 fb => go_on ?_; (try simp only [Tryz.ntmps81, push_cast, simprocAttr])
  refine at_loop (X := Nat) (fun k => [(5, iA k)]) (fun _ => []) (fun k => k ≤ bs.length ∧ ixB bs nm = idxF (fun d => decide (d.name = nm)) k (bs.drop k)) (fun k => bs.length - k) 0 ⟨Nat.zero_le _, rfl⟩ ?_ ?_
  · (refine wk_ok ?_ ?_ ?_ ?_ <;> simp [leL, leH, idsL, idsA, idsR, inH, hget, sameRow, upA, hvA, dsts, dstO, setA_0, setA_1, setA_8, List.append, List.cons_append, List.nil_append])
  · rintro k ⟨h1, h2⟩
    simp only [upA, hvA, dsts, dstO, setA_0, setA_1, setA_8, List.append, List.cons_append, List.nil_append]
    refine go_on ?_
    (try simp only [List.length_map, push_cast, simprocAttr])
    refine at_b (fun hg => ?_) (fun hg => ?_)
    · have hlt := lt_tt hg
      obtain ⟨x, hk⟩ := get_of_lt hlt
      have i1 := ix_n hk
      have i2 := map_get bC hk
      simp only [bC] at i2
      rw [drop_of_get hk] at h2
      have w1 := wr ((k : Int) + 1) (by omega)
      (try simp only [hg, i1, i2, push_cast, simprocAttr])
      by_cases hx : x.name = nm
      · have e := eqI_t hx
        (try simp only [e, push_cast, simprocAttr])
        refine at_ret ?_; simp only [Tryz.results81, push_cast, simprocAttr]
        rw [h2]
        simp [vX, idxF, hx]
      · have e := eqI_f hx
        (try simp only [e, w1, push_cast, simprocAttr])
        refine at_fin ⟨k + 1, ⟨by omega, by rw [h2]; simp [idxF, hx]⟩, by omega, ?_⟩
        (refine wk_ok ?_ ?_ ?_ ?_ <;> simp [leL, leH, idsL, idsA, idsR, inH, hget, sameRow, upA, hvA, dsts, dstO, setA_0, setA_1, setA_8, List.append, List.cons_append, List.nil_append])
    · have h3 := lt_ff hg
      (try simp only [hg, push_cast, simprocAttr])
      refine at_ret ?_; simp only [Tryz.results81, push_cast, simprocAttr]
      rw [List.drop_of_length_le h3] at h2
      rw [h2]
      simp [vX, idxF]
theorem l31Copy_pc (d : BD) (h : SmD d) : PC Tryz.prog 86 [blobA d] (rX (.agg [iA d.name, .o 0 d.safe.length, .o 1 d.fresh.length]) [rowZ d.safe, rowZ d.fresh]) := by
  have h1 := h.s
  have h2 := h.f
  unfold blobA bC
  refine pc_enter Tryz.func86 rfl rfl fun w0 fb => go_on ?_; (try simp only [Tryz.ntmps86, push_cast, simprocAttr])
  refine at_draw rfl (by kernel_rfl) ?_; simp only [push_cast, simprocAttr]
  (try simp only [effD_app2, push_cast, simprocAttr])
  refine at_chkD (by omega) ?_
  (try simp only [effD_app2, push_cast, simprocAttr])
  refine at_chkD (by omega) ?_
  (try simp only [push_cast, simprocAttr])
  refine at_done (by kernel_rfl) (by kernel_rfl) (go_on ?_)
  (try simp only [push_cast, simprocAttr])
  refine at_ret ?_; simp only [Tryz.results86, push_cast, simprocAttr]
  simp [rX, ixOf]
theorem l31Copy_d (d : BD) (h : SmD d) : PC Tryz.prog 86 [blobA d] (vX (blobA d)) := by
  have := (l31Copy_pc d h).frzX
  unfold blobA bC at *
  simpa [viewN, hpOf, hget, isC, tk] using this
theorem l31Without_pc (bs : List BD) (hs : SmB bs) (nm : Int) : PC Tryz.prog 57 [blsA bs, iA nm] (rX (.o 0 (bs.filter fun x => decide (x.name ≠ nm)).length) [rowB (bs.filter fun x => decide (x.name ≠ nm))]) := by
  have hn := hs.n
  refine pc_enter Tryz.func57 rfl rfl fun w0 fb => go_on ?_; (try simp only [Tryz.ntmps57, push_cast, simprocAttr])
  refine at_loop (X := Nat) (fun k => [(5, .o 7 ((bs.take k).filter fun x => decide (x.name ≠ nm)).length), (6, iA k), (7, .any)]) (fun k => [(4, ⟨79, 3, [], true⟩), (7, rowB ((bs.take k).filter fun x => decide (x.name ≠ nm)))]) (fun k => k ≤ bs.length) (fun k => bs.length - k) 0 (Nat.zero_le _) ?_ ?_
  · (refine wk_ok ?_ ?_ ?_ ?_ <;> simp [leL, leH, idsL, idsA, idsR, inH, hget, sameRow, upA, hvA, dsts, dstO, setA_0, setA_1, setA_8, List.append, List.cons_append, List.nil_append])
  · rintro k hk
    simp only [upA, hvA, dsts, dstO, setA_0, setA_1, setA_8, List.append, List.cons_append, List.nil_append]
    refine go_on ?_
    (try simp only [List.length_map, push_cast, simprocAttr])
    have hfl := List.length_filter_le (fun x : BD => decide (x.name ≠ nm)) (bs.take k)
    have hfl2 : (bs.take k).length ≤ k := by rw [List.length_take]; omega
    refine at_b (fun hg => ?_) (fun hg => ?_)
    · have hlt := lt_tt hg
      obtain ⟨x, hx⟩ := get_of_lt hlt
      have i1 := ix_n hx
      have i2 := map_get bC hx
      have hC := l31Copy_d x (hs.d x (mem_of_get hx))
      unfold blobA at hC
      simp only [bC] at i2 hC
      have w1 := wr ((k : Int) + 1) (by omega)
      have e : bs.take (k + 1) = bs.take k ++ [x] := by rw [List.take_add_one, hx]; rfl
      (try simp only [hg, i1, i2, push_cast, simprocAttr])
      by_cases hxn : x.name = nm
      · have e1 := eqI_t hxn
        have ef : (bs.take (k + 1)).filter (fun x => decide (x.name ≠ nm)) = (bs.take k).filter (fun x => decide (x.name ≠ nm)) := by rw [e, List.filter_append]; simp [hxn]
        (try simp only [e1, Bool.not_true, w1, push_cast, simprocAttr])
        refine at_fin ⟨k + 1, by omega, by omega, ?_⟩
        rw [ef]
        (refine wk_ok ?_ ?_ ?_ ?_ <;> simp [leL, leH, idsL, idsA, idsR, inH, hget, sameRow, upA, hvA, dsts, dstO, setA_0, setA_1, setA_8, List.append, List.cons_append, List.nil_append])
      · have e1 := eqI_f hxn
        have ef : (bs.take (k + 1)).filter (fun x => decide (x.name ≠ nm)) = (bs.take k).filter (fun x => decide (x.name ≠ nm)) ++ [x] := by rw [e, List.filter_append]; simp [hxn]
        (try simp only [e1, Bool.not_false, i1, i2, push_cast, simprocAttr])
        ((try simp only [push_cast, simprocAttr]); refine at_share2 (by simp [isC2, isC]) (by first | rfl | simp [ren]) (hC) (go_on ?_); (try simp only [push_cast, simprocAttr]))
        refine at_chk (by omega) ?_
        (try simp only [w1, push_cast, simprocAttr])
        refine at_fin ⟨k + 1, by omega, by omega, ?_⟩
        rw [ef, List.length_append]
        (refine wk_ok ?_ ?_ ?_ ?_ <;> simp [bC, leL, leH, idsL, idsA, idsR, inH, hget, sameRow, upA, hvA, dsts, dstO, setA_0, setA_1, setA_8, List.append, List.cons_append, List.nil_append])
    · have h3 := lt_ff hg
      have hk' : k = bs.length := by omega
      have hT : bs.take k = bs := by rw [hk', List.take_length]
      rw [hT]
      (try simp only [hg, push_cast, simprocAttr])
      refine at_ret ?_; simp only [Tryz.results57, push_cast, simprocAttr]
      simp [rX, ixOf]
theorem l31Without_d (bs : List BD) (hs : SmB bs) (nm : Int) : PC Tryz.prog 57 [blsA bs, iA nm] (vX (blsA (bs.filter fun x => decide (x.name ≠ nm)))) := by
  have := (l31Without_pc bs hs nm).frzX
  simpa [viewN, hpOf, hget, isC, tk] using this
end Go.Proofs.YtccifbbjbnjcfaaGreatDoor
/-
  Walks: disks: l31With; the reference's DiskRename, DiskWrite.
-/
namespace Go.Proofs.YtccifbbjbnjcfaaGreatDoor
open Go Go.RowKit Go.Proofs
theorem insB_len (d : BD) : ∀ l : List BD, (insB d l).length = l.length + 1
  | [] => rfl
  | x :: r => by
    unfold insB
    split
    · simp
    · simp [insB_len d r]
theorem smB_filter {bs : List BD} (h : SmB bs) (p : BD → Bool) : SmB (bs.filter p) := by
  have := List.length_filter_le p bs
  have := h.n
  exact ⟨by omega, fun d hd => h.d d (List.mem_filter.1 hd).1⟩
attribute [local irreducible] RWp AW run kPe pe Kt effA gd gu br retR RDp runD kPeD brW gW effD
set_option maxRecDepth 100000
theorem l31With_d (bs : List BD) (hs : SmB bs) (hn : bs.length ≤ 1000) (d : BD) (hd : SmD d) : PC Tryz.prog 87 [blsA bs, blobA d] (vX (blsA (withB bs d))) := by
  have hW := l31Without_d bs hs d.name
  have hC := l31Copy_d d hd
  obtain ⟨R, hR⟩ : ∃ R, R = bs.filter fun x => decide (x.name ≠ d.name) := ⟨_, rfl⟩
  have hRn : R.length ≤ 1000 := by rw [hR]; have := List.length_filter_le (fun x : BD => decide (x.name ≠ d.name)) bs; omega
  have hwb : withB bs d = insB d R := by rw [hR]; rfl
  rw [← hR] at hW
  rw [hwb]
  have hf : PC Tryz.prog 87 [blsA bs, blobA d] (rX (.o 0 (insB d R).length) [rowB (insB d R)]) := by
    unfold blobA at *
    simp only [bC] at *
    refine pc_enter Tryz.func87 rfl rfl fun w0 fb => go_on ?_; (try simp only [Tryz.ntmps87, push_cast, simprocAttr])
    ((try simp only [push_cast, simprocAttr]); refine at_share2 (by simp [isC2, isC]) (by first | rfl | simp [ren]) (hW) (go_on ?_); (try simp only [push_cast, simprocAttr]))
    refine at_loop (X := Nat × Bool × List BD) (fun x => [(5, .o 9 x.2.2.length), (7, bA x.2.1), (8, iA x.1), (9, .any)]) (fun x => [(3, ⟨79, 3, [bC d], true⟩), (4, ⟨79, 3, [], true⟩), (9, rowB x.2.2)])
      (fun x => x.1 ≤ R.length ∧ x.2.2 ++ (if x.2.1 = true then R.drop x.1 else insB d (R.drop x.1)) = insB d R) (fun x => R.length - x.1) (0, false, []) ⟨Nat.zero_le _, by simp⟩ ?_ ?_
    · (refine wk_ok ?_ ?_ ?_ ?_ <;> simp [bC, leL, leH, idsL, idsA, idsR, inH, hget, sameRow, upA, hvA, dsts, dstO, setA_0, setA_1, setA_8, List.append, List.cons_append, List.nil_append])
    · rintro ⟨k, dn, out⟩ ⟨h1, h2⟩
      simp only at h1 h2
      simp only [upA, hvA, dsts, dstO, setA_0, setA_1, setA_8, List.append, List.cons_append, List.nil_append]
      refine go_on ?_
      (try simp only [List.length_map, push_cast, simprocAttr])
      have hil := insB_len d R
      have hol : out.length ≤ 1001 := by
        have := congrArg List.length h2
        rw [List.length_append, hil] at this
        omega
      refine at_b (fun hg => ?_) (fun hg => ?_)
      · have hlt := lt_tt hg
        obtain ⟨x, hx⟩ := get_of_lt hlt
        have i1 := ix_n hx
        have i2 := map_get bC hx
        simp only [bC] at i2
        have w1 := wr ((k : Int) + 1) (by omega)
        rw [drop_of_get hx] at h2
        (try simp only [hg, push_cast, simprocAttr])
        cases dn with
        | true =>
          simp only [if_true] at h2
          refine at_draw rfl (by kernel_rfl) ?_; simp only [push_cast, simprocAttr]
          (try simp only [i1, i2, bC, Bool.not_true, push_cast, simprocAttr])
          repeat' first | (refine at_bWn (fun hb => ?_) (fun hb => ?_) <;> simp only [i1, i2, bC, Bool.not_true, hb, push_cast, simprocAttr]) | (refine at_bW (fun hb => ?_) (fun hb => ?_) <;> simp only [i1, i2, bC, Bool.not_true, hb, push_cast, simprocAttr])  | (refine at_done (by kernel_rfl) (by kernel_rfl) (go_on ?_); (try simp only [i1, i2, bC, Bool.not_true, push_cast, simprocAttr]))
          (try simp only [i1, i2, push_cast, simprocAttr])
          refine at_chk (by omega) ?_
          (try simp only [w1, push_cast, simprocAttr])
          refine at_fin ⟨(k + 1, true, out ++ [x]), ⟨by dsimp only; omega, by simpa using h2⟩, by dsimp only; omega, ?_⟩
          (refine wk_ok ?_ ?_ ?_ ?_ <;> simp [bC, leL, leH, idsL, idsA, idsR, inH, hget, sameRow, upA, hvA, dsts, dstO, setA_0, setA_1, setA_8, List.append, List.cons_append, List.nil_append])
        | false =>
          simp only [Bool.false_eq_true, if_false] at h2
          by_cases hl : d.name < x.name
          · have e1 : ltI d.name x.name = true := ltI_t hl
            have h3 : out ++ (d :: x :: R.drop (k + 1)) = insB d R := by rw [← h2]; simp [insB, hl]
            have hTk : List.take (out.length + 1) (List.map bC out ++ [[iA d.name, intsA d.safe, intsA d.fresh]]) = List.map bC out ++ [[iA d.name, intsA d.safe, intsA d.fresh]] := List.take_of_length_le (by simp)
            refine at_draw rfl (by kernel_rfl) ?_; simp only [push_cast, simprocAttr]
            (try simp only [i1, i2, e1, bC, Bool.not_false, push_cast, simprocAttr])
            repeat' first | (refine at_bWn (fun hb => ?_) (fun hb => ?_) <;> simp only [i1, i2, e1, bC, Bool.not_false, hb, push_cast, simprocAttr]) | (refine at_bW (fun hb => ?_) (fun hb => ?_) <;> simp only [i1, i2, e1, bC, Bool.not_false, hb, push_cast, simprocAttr])  | (refine at_done (by kernel_rfl) (by kernel_rfl) (go_on ?_); (try simp only [i1, i2, e1, bC, Bool.not_false, push_cast, simprocAttr]))
            (try simp only [bC, push_cast, simprocAttr])
            ((try simp only [push_cast, simprocAttr]); refine at_share2 (by simp [isC2, isC]) (by first | rfl | simp [ren]) (hC) (go_on ?_); (try simp only [push_cast, simprocAttr]))
            refine at_chk (by omega) ?_
            (try simp only [i1, i2, push_cast, simprocAttr])
            refine at_chk (by omega) ?_
            (try simp only [w1, push_cast, simprocAttr])
            refine at_fin ⟨(k + 1, true, out ++ [d, x]), ⟨by dsimp only; omega, by simpa using h3⟩, by dsimp only; omega, ?_⟩
            (refine wk_ok ?_ ?_ ?_ ?_ <;> simp [bC, hTk, leL, leH, idsL, idsA, idsR, inH, hget, sameRow, upA, hvA, dsts, dstO, setA_0, setA_1, setA_8, List.append, List.cons_append, List.nil_append])
          · have e1 : ltI d.name x.name = false := ltI_f (by omega)
            have h3 : out ++ (x :: insB d (R.drop (k + 1))) = insB d R := by rw [← h2]; simp [insB, hl]
            refine at_draw rfl (by kernel_rfl) ?_; simp only [push_cast, simprocAttr]
            (try simp only [i1, i2, e1, bC, Bool.not_false, push_cast, simprocAttr])
            repeat' first | (refine at_bWn (fun hb => ?_) (fun hb => ?_) <;> simp only [i1, i2, e1, bC, Bool.not_false, hb, push_cast, simprocAttr]) | (refine at_bW (fun hb => ?_) (fun hb => ?_) <;> simp only [i1, i2, e1, bC, Bool.not_false, hb, push_cast, simprocAttr])  | (refine at_done (by kernel_rfl) (by kernel_rfl) (go_on ?_); (try simp only [i1, i2, e1, bC, Bool.not_false, push_cast, simprocAttr]))
            (try simp only [i1, i2, push_cast, simprocAttr])
            refine at_chk (by omega) ?_
            (try simp only [w1, push_cast, simprocAttr])
            refine at_fin ⟨(k + 1, false, out ++ [x]), ⟨by dsimp only; omega, by simpa using h3⟩, by dsimp only; omega, ?_⟩
            (refine wk_ok ?_ ?_ ?_ ?_ <;> simp [bC, leL, leH, idsL, idsA, idsR, inH, hget, sameRow, upA, hvA, dsts, dstO, setA_0, setA_1, setA_8, List.append, List.cons_append, List.nil_append])
      · have h3 := lt_ff hg
        rw [List.drop_of_length_le h3] at h2
        (try simp only [hg, push_cast, simprocAttr])
        cases dn with
        | true =>
          simp only [if_true, List.append_nil] at h2
          (try simp only [Bool.not_true, push_cast, simprocAttr])
          refine at_ret ?_; simp only [Tryz.results87, push_cast, simprocAttr]
          rw [← h2]
          simp [rX, ixOf]
        | false =>
          simp only [Bool.false_eq_true, if_false, insB] at h2
          (try simp only [Bool.not_false, bC, push_cast, simprocAttr])
          ((try simp only [push_cast, simprocAttr]); refine at_share2 (by simp [isC2, isC]) (by first | rfl | simp [ren]) (hC) (go_on ?_); (try simp only [push_cast, simprocAttr]))
          refine at_chk (by omega) ?_
          (try simp only [push_cast, simprocAttr])
          refine at_ret ?_; simp only [Tryz.results87, push_cast, simprocAttr]
          rw [← h2]
          simp [rX, ixOf, bC]
  have := hf.frzX
  simpa [viewN, hpOf, hget, isC, tk] using this
end Go.Proofs.YtccifbbjbnjcfaaGreatDoor
/-
  Walks: disks: the reference's DiskRename, DiskWrite.
-/
namespace Go.Proofs.YtccifbbjbnjcfaaGreatDoor
open Go Go.RowKit Go.Proofs
theorem at_shareE {P : Program} {K : List E → AS → Prop} {f : FuncId} {args : List AV} {o : SO} {l : List SO} {evs : List E} {s : AS} {x : AV} (hc : args.all isC2 = true) (hx : ren (baseOf o.dst) x = x) (hpc : PC P f args (vX x))
    (hk : RDp P K (runD P l (evs ++ [mkE o s x none []]) (s.put o.dst x))) : RDp P K (.call f args o l evs s) := by
  refine ⟨x, [], .inr ⟨hc, hpc⟩, frB_0 _ _, ?_⟩
  rw [hx]
  exact runD_sound _ _ _ (by simpa only [hpOf, hsets] using hk)
attribute [local irreducible] RWp AW run kPe pe Kt effA gd gu br retR RDp runD kPeD brW gW effD
set_option maxRecDepth 100000
theorem specDiskRename_d (bs : List BD) (hs : SmB bs) (a b : Int) : PC Tryz.prog 58 [blsA bs, iA a, iA b] (vX (.tup [blsA (renD bs a b).1, bA (renD bs a b).2])) := by
  have hV := specDiskValid_pc bs hs
  have hF := l31Find_pc bs hs.n a
  have hI := l6In_pc b 1 3
  have hn := hs.n
  have eI : inB b 1 3 = inR b 1 3 := rfl
  cases hv : diskB bs with
  | false =>
    have hr : renD bs a b = ([], false) := by simp [renD, hv]
    rw [hr]
    have hf : PC Tryz.prog 58 [blsA bs, iA a, iA b] (rX (.tup [.o 0 0, bA false]) [rowB []]) := by
      refine pc_enter Tryz.func58 rfl rfl fun w0 fb => go_on ?_; (try simp only [Tryz.ntmps58, push_cast, simprocAttr])
      (refine at_call ?_; (try simp only [push_cast, simprocAttr]); refine rwc_v (hV) (go_on ?_); (try simp only [push_cast, simprocAttr]))
      (try simp only [hv, Bool.not_false, push_cast, simprocAttr])
      refine at_ret ?_; simp only [Tryz.results58, push_cast, simprocAttr]
      simp [rX, ixOf]
    have := hf.frzX
    simp [viewN, hpOf, hget, isC, tk] at this
    exact this
  | true =>
    rcases ixB_cases bs a with ⟨h1, h2⟩ | ⟨j, d, h1, h2, h3⟩
    · have hr : renD bs a b = ([], false) := by cases hb : inB b 1 3 <;> simp [renD, hv, h2, hb]
      rw [hr]
      have hf : PC Tryz.prog 58 [blsA bs, iA a, iA b] (rX (.tup [.o 0 0, bA false]) [rowB []]) := by
        refine pc_enter Tryz.func58 rfl rfl fun w0 fb => go_on ?_; (try simp only [Tryz.ntmps58, push_cast, simprocAttr])
        (refine at_call ?_; (try simp only [push_cast, simprocAttr]); refine rwc_v (hV) (go_on ?_); (try simp only [push_cast, simprocAttr]))
        (try simp only [hv, Bool.not_true, push_cast, simprocAttr])
        (refine at_call ?_; (try simp only [push_cast, simprocAttr]); refine rwc_v (hF) (go_on ?_); (try simp only [push_cast, simprocAttr]))
        (try simp only [h1, show ltI (-1) 0 = true from rfl, push_cast, simprocAttr])
        refine at_ret ?_; simp only [Tryz.results58, push_cast, simprocAttr]
        simp [rX, ixOf]
      have := hf.frzX
      simp [viewN, hpOf, hget, isC, tk] at this
      exact this
    · have hjl := lt_of_some h2
      have i1 := ix_n h2
      have i2 := map_get bC h2
      have i3 : ltI (j : Int) 0 = false := ltI_f (by omega)
      cases hb : inR b 1 3 with
      | false =>
        have hr : renD bs a b = ([], false) := by simp [renD, eI, hb]
        rw [hr]
        have hf : PC Tryz.prog 58 [blsA bs, iA a, iA b] (rX (.tup [.o 0 0, bA false]) [rowB []]) := by
          refine pc_enter Tryz.func58 rfl rfl fun w0 fb => go_on ?_; (try simp only [Tryz.ntmps58, push_cast, simprocAttr])
          (refine at_call ?_; (try simp only [push_cast, simprocAttr]); refine rwc_v (hV) (go_on ?_); (try simp only [push_cast, simprocAttr]))
          (try simp only [hv, Bool.not_true, push_cast, simprocAttr])
          (refine at_call ?_; (try simp only [push_cast, simprocAttr]); refine rwc_v (hF) (go_on ?_); (try simp only [push_cast, simprocAttr]))
          (try simp only [h1, i3, push_cast, simprocAttr])
          (refine at_call ?_; (try simp only [push_cast, simprocAttr]); refine rwc_v (hI) (go_on ?_); (try simp only [push_cast, simprocAttr]))
          (try simp only [hb, Bool.not_false, push_cast, simprocAttr])
          refine at_ret ?_; simp only [Tryz.results58, push_cast, simprocAttr]
          simp [rX, ixOf]
        have := hf.frzX
        simp [viewN, hpOf, hget, isC, tk] at this
        exact this
      | true =>
        have hr : renD bs a b = (withB (bs.filter fun x => decide (x.name ≠ a)) ⟨b, d.safe, d.fresh⟩, true) := by unfold renD; rw [hv, eI, hb, h3]; rfl
        rw [hr]
        have hC := l31Copy_d d (hs.d d (mem_of_get h2))
        have hO := l31Without_d bs hs a
        have h3n := disk_len hv
        have hfl := List.length_filter_le (fun x : BD => decide (x.name ≠ a)) bs
        have hW := l31With_d (bs.filter fun x => decide (x.name ≠ a)) (smB_filter hs _) (by omega) ⟨b, d.safe, d.fresh⟩ ⟨(hs.d d (mem_of_get h2)).s, (hs.d d (mem_of_get h2)).f⟩
        obtain ⟨R, hR⟩ : ∃ R, R = bs.filter fun x => decide (x.name ≠ a) := ⟨_, rfl⟩
        rw [← hR] at hO hW ⊢
        unfold blobA at hC hW
        simp only [bC] at i2 hC hW
        refine pc_enter Tryz.func58 rfl rfl fun w0 fb => go_on ?_; (try simp only [Tryz.ntmps58, push_cast, simprocAttr])
        (refine at_call ?_; (try simp only [push_cast, simprocAttr]); refine rwc_v (hV) (go_on ?_); (try simp only [push_cast, simprocAttr]))
        (try simp only [hv, Bool.not_true, push_cast, simprocAttr])
        (refine at_call ?_; (try simp only [push_cast, simprocAttr]); refine rwc_v (hF) (go_on ?_); (try simp only [push_cast, simprocAttr]))
        (try simp only [h1, i3, push_cast, simprocAttr])
        (refine at_call ?_; (try simp only [push_cast, simprocAttr]); refine rwc_v (hI) (go_on ?_); (try simp only [push_cast, simprocAttr]))
        (try simp only [hb, Bool.not_true, push_cast, simprocAttr])
        (refine at_call ?_; (try simp only [push_cast, simprocAttr]); refine rwc_v (hF) (go_on ?_); (try simp only [push_cast, simprocAttr]))
        (try simp only [h1, i1, i2, push_cast, simprocAttr])
        ((try simp only [push_cast, simprocAttr]); refine at_share2 (by simp [isC2, isC]) (by first | rfl | simp [ren]) (hC) (go_on ?_); (try simp only [push_cast, simprocAttr]))
        refine at_draw rfl (by kernel_rfl) ?_; simp only [push_cast, simprocAttr]
        (refine at_shareE (by simp [isC2, isC]) (by first | rfl | simp [ren]) hO ?_; (try simp only [push_cast, simprocAttr]))
        (refine at_shareE (by simp [isC2, isC]) (by first | rfl | simp [ren]) hW ?_; (try simp only [push_cast, simprocAttr]))
        refine at_done (by kernel_rfl) (by kernel_rfl) (go_on ?_)
        (try simp only [push_cast, simprocAttr])
        refine at_ret ?_; simp only [Tryz.results58, push_cast, simprocAttr]
        simp [vX]
end Go.Proofs.YtccifbbjbnjcfaaGreatDoor
/-
  The abstract machine: a region that draws its order, one call within that borrows rows.
-/
namespace Go.Proofs.YtccifbbjbnjcfaaGreatDoor
open Go Go.RowKit

section
variable {P : Program}
variable {w0 : World} {lent : Lent} {Q : Exit → Act → World → Prop}
end

end Go.Proofs.YtccifbbjbnjcfaaGreatDoor
/-
  The abstract machine: a drawn region with one call that borrows a row, run as its text stands.
-/
namespace Go.Proofs.YtccifbbjbnjcfaaGreatDoor
open Go Go.RowKit

section
variable {P : Program} {w0 : World} {lent : Lent} {Q : Exit → Act → World → Prop}
end

end Go.Proofs.YtccifbbjbnjcfaaGreatDoor
/-
  The abstract machine: a region that draws its order, several calls within that borrow a row, and operations that wait for none of them.
-/
namespace Go.Proofs.YtccifbbjbnjcfaaGreatDoor
open Go Go.RowKit

/-! ### Moves of slots that nothing writes: they see no row -/
section
variable {P : Program} {w0 : World} {lent : Lent} {Q : Exit → Act → World → Prop}
end

end Go.Proofs.YtccifbbjbnjcfaaGreatDoor
/-
  The abstract machine: what a call that was lent rows leaves anew, read as data.
-/
namespace Go.Proofs.YtccifbbjbnjcfaaGreatDoor
open Go Go.RowKit

end Go.Proofs.YtccifbbjbnjcfaaGreatDoor
/-
  Walks: disks: the draws.
-/
namespace Go.Proofs.YtccifbbjbnjcfaaGreatDoor
open Go Go.RowKit Go.Proofs
structure DrB (l : List BD) : Prop where
  n : l.length ≤ 4
  d : ∀ d ∈ l, d.safe.length ≤ 200 ∧ d.fresh.length ≤ 200
theorem DrB.sm {l : List BD} (h : DrB l) : SmB l := ⟨by have := h.n; omega, fun d hd => ⟨by have := h.d d hd; omega, by have := h.d d hd; omega⟩⟩
attribute [local irreducible] RWp AW run kPe pe Kt effA gd gu br retR RDp runD kPeD brW gW effD
set_option maxRecDepth 100000
end Go.Proofs.YtccifbbjbnjcfaaGreatDoor
/-
  Walks: disks: the draws: a disk, a number; DrawDiskRename, DrawDiskWrite.
-/
namespace Go.Proofs.YtccifbbjbnjcfaaGreatDoor
open Go Go.RowKit Go.Proofs
attribute [local irreducible] RWp AW run kPe pe Kt effA gd gu br retR RDp runD kPeD brW gW effD
set_option maxRecDepth 100000
end Go.Proofs.YtccifbbjbnjcfaaGreatDoor
/-
  Walks: disks: laws.sameInts, laws.sameDisk at equal things.
-/
namespace Go.Proofs.YtccifbbjbnjcfaaGreatDoor
open Go Go.RowKit Go.Proofs
attribute [local irreducible] RWp AW run kPe pe Kt effA gd gu br retR RDp runD kPeD brW gW effD
set_option maxRecDepth 100000
end Go.Proofs.YtccifbbjbnjcfaaGreatDoor
