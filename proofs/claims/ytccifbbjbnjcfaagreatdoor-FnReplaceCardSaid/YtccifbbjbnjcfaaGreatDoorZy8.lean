/- A part of the proof of FnReplace: texts VFnReplace. -/
import Derived.Test.YtccifbbjbnjcfaaGreatDoorZy7
import Derived.Test.YtccifbbjbnjcfaaGreatDoorZy4
set_option linter.unusedSimpArgs false
set_option linter.unusedVariables false
/-
  Walks: FnReplace.
-/
namespace Go.Proofs.YtccifbbjbnjcfaaGreatDoor
open Go Go.RowKit Go.Proofs
theorem stepsP_no {bs : List BD} {b : Bk} (h : (stepsP bs b).2 = false) : stepsP bs b = ([], false) := by
  cases h1 : ((bookB b).2 && diskB bs) with
  | false => exact stepsP_f h1
  | true =>
    cases h2 : (writeD (bs.filter fun x => decide (x.name ≠ 2)) 2 (bookB b).1).2 with
    | false => exact stepsP_w h1 h2
    | true => rw [stepsP_t h1 h2] at h; cases h
attribute [local irreducible] RWp AW run kPe pe Kt effA gd gu br retR RDp runD kPeD brW gW effD
set_option maxRecDepth 100000
theorem FnReplace_pc (z : List Int) (hz : BytesOk z) : PC Tryz.prog 5 [byA z] (vB true) := by
  refine pc_enter Tryz.func5 rfl rfl fun w0 fb => go_on ?_; (try simp only [Tryz.ntmps5, push_cast, simprocAttr])
  refine at_b (fun hb => ?_) (fun hb => ?_)
  · (try simp only [hb, push_cast, simprocAttr])
    refine at_ret ?_; simp only [Tryz.results5, push_cast, simprocAttr]
    simp [vX]
  · (try simp only [hb, push_cast, simprocAttr])
    refine call_share (by simp [isC]) (DrawBookSteps_pc z hz) ?_
    rintro rv rows ⟨bs, b, hs, hl, rfl, rfl⟩
    have hI := BookSteps_d bs hs b hl
    have hS := specBookSteps_d bs hs b hl
    obtain ⟨⟨Y, ok⟩, hY⟩ : ∃ y, y = stepsP bs b := ⟨_, rfl⟩
    have hno := stepsP_no (bs := bs) (b := b)
    have hlaw := law_bookSteps (bs := bs) (b := b)
    rw [← hY] at hI hS hlaw hno
    unfold bkA bkC at hI hS ⊢
    refine ⟨by simp [frB, baseOf], go_on ?_⟩
    (try simp only [push_cast, simprocAttr])
    cases ok with
    | false =>
      have hY0 := hno rfl
      obtain rfl : Y = [] := (Prod.mk.inj hY0).1
      ((try simp only [push_cast, simprocAttr]); refine at_share2 (by simp [isC2, isC]) (by first | rfl | simp [ren]) (hI) (go_on ?_); (try simp only [push_cast, simprocAttr]))
      ((try simp only [push_cast, simprocAttr]); refine at_share2 (by simp [isC2, isC]) (by first | rfl | simp [ren]) (hS) (go_on ?_); (try simp only [push_cast, simprocAttr]))
      (try simp only [List.map_nil, List.length_nil, show eqI 0 0 = true from rfl, push_cast, simprocAttr])
      refine at_loop (X := Unit) (fun _ => [(9, bA true), (10, iA 0)]) (fun _ => [(4, ⟨49, 2, [[iA b.ep, cmA b.log]], true⟩)]) (fun _ => True) (fun _ => 0) () trivial ?_ ?_
      · (refine wk_ok ?_ ?_ ?_ ?_ <;> simp [leL, leH, idsL, idsA, idsR, inH, hget, sameRow, upA, hvA, dsts, dstO, setA_0, setA_1, setA_8, List.append, List.cons_append, List.nil_append])
      · rintro ⟨⟩ _
        simp only [upA, hvA, dsts, dstO, setA_0, setA_1, setA_8, List.append, List.cons_append, List.nil_append]
        refine go_on ?_
        (try simp only [List.map_nil, List.length_nil, show ltI 0 0 = false from rfl, beq_self_eq_true, Bool.not_true, Bool.not_false, push_cast, simprocAttr])
        refine at_ret ?_; simp only [Tryz.results5, push_cast, simprocAttr]
        simp [vX]
    | true =>
      obtain ⟨w, s, y, l1, l2, l3, l4, l5, l6, l7, l8, l9⟩ := hlaw rfl
      simp only at l1
      subst l1
      have hsm : ∀ d ∈ [w, s, y], SmB d := by
        intro d hd
        simp only [List.mem_cons, List.not_mem_nil, or_false] at hd
        rcases hd with rfl | rfl | rfl
        · exact disk_sm l6
        · exact disk_sm l7
        · exact disk_sm (bookO_some l2).2.2.1
      obtain ⟨L, hL⟩ : ∃ L, L = [w, s, y] := ⟨_, rfl⟩
      have hys := hsm y (by simp)
      rw [← hL] at hI hS hsm
      have hLl : L.length = 3 := by rw [hL]; rfl
      have hO1 := BookOpen_pc y hys
      have hC := (DiskCrash_o y hys [] (by simp)).db
      obtain ⟨⟨W, okc⟩, hW⟩ : ∃ y', y' = crashP y [] := ⟨_, rfl⟩
      rw [← hW] at l3 l4 hC
      simp only at l3 l4 hC
      subst l3
      have hWs := (disk_tot (crashP_disk hW)).1
      have hO2 := BookOpen_pc W hWs
      rw [l2] at hO1
      rw [l4] at hO2
      unfold bkR bkA bkC at hO1 hO2
      simp only [Option.getD_some, Option.isSome_some] at hO1 hO2
      have hn := book_n l2
      have hB := sameBook_pc b b (by omega)
      rw [decide_eq_true rfl] at hB
      unfold bkA bkC at hB
      have e0 : eqI (L.length : Int) L.length = true := eqI_t rfl
      ((try simp only [push_cast, simprocAttr]); refine at_share2 (by simp [isC2, isC]) (by first | rfl | simp [ren]) (hI) (go_on ?_); (try simp only [push_cast, simprocAttr]))
      ((try simp only [push_cast, simprocAttr]); refine at_share2 (by simp [isC2, isC]) (by first | rfl | simp [ren]) (hS) (go_on ?_); (try simp only [push_cast, simprocAttr]))
      (try simp only [List.length_map, e0, push_cast, simprocAttr])
      refine at_loop (X := Nat) (fun k => [(9, bA true), (10, iA k)]) (fun _ => [(4, ⟨49, 2, [[iA b.ep, cmA b.log]], true⟩)]) (fun k => k ≤ L.length) (fun k => L.length - k) 0 (by omega) ?_ ?_
      · (refine wk_ok ?_ ?_ ?_ ?_ <;> simp [leL, leH, idsL, idsA, idsR, inH, hget, sameRow, upA, hvA, dsts, dstO, setA_0, setA_1, setA_8, List.append, List.cons_append, List.nil_append])
      · intro k hk
        simp only [upA, hvA, dsts, dstO, setA_0, setA_1, setA_8, List.append, List.cons_append, List.nil_append]
        refine go_on ?_
        (try simp only [List.length_map, push_cast, simprocAttr])
        by_cases hlt : k < L.length
        · obtain ⟨d, hd⟩ := get_of_lt hlt
          have i0 : ltI (k : Int) L.length = true := ltI_t (by omega)
          have i1 := ix_n hd
          have i2 := map_get dC hd
          simp only [dC] at i2
          have w1 := wr ((k : Int) + 1) (by omega)
          have hE := sameDisk_pc d (hsm d (mem_of_get hd))
          (try simp only [i0, push_cast, simprocAttr])
          refine at_draw rfl (by kernel_rfl) ?_
          (try simp only [i0, i1, i2, push_cast, simprocAttr])
          (refine at_callD (by simp [clB, idsL, idsA, hget]) ?_; (try simp only [viewN, push_cast, simprocAttr]); refine rcd_v hE ?_; (try simp only [push_cast, simprocAttr]))
          refine at_done (by kernel_rfl) (by kernel_rfl) (go_on ?_)
          (try simp only [w1, push_cast, simprocAttr])
          refine at_fin ⟨k + 1, by omega, by omega, ?_⟩
          (refine wk_ok ?_ ?_ ?_ ?_ <;> simp [leL, leH, idsL, idsA, idsR, inH, hget, sameRow, upA, hvA, dsts, dstO, setA_0, setA_1, setA_8, List.append, List.cons_append, List.nil_append])
        · have i0 : ltI (k : Int) L.length = false := ltI_f (by omega)
          have i1 : toIx 2 L.length = some 2 := by rw [hLl]; rfl
          have i2 : (L.map dC)[2]? = some [blsA y] := by rw [hL]; rfl
          have w3 : IntKind.i64.wrap ((L.length : Int) - 1) = 2 := by rw [hLl]; rfl
          have e3 : eqI (L.length : Int) 3 = true := eqI_t (by omega)
          (try simp only [i0, beq_self_eq_true, Bool.not_true, Bool.not_false, w3, i1, i2, List.length_map, push_cast, simprocAttr])
          ((try simp only [push_cast, simprocAttr]); refine at_share2 (by simp [isC2, isC]) (by first | rfl | simp [ren]) (hO1) (go_on ?_); (try simp only [push_cast, simprocAttr]))
          (try simp only [w3, i1, i2, List.length_map, push_cast, simprocAttr])
          (refine at_callW [94] (by refine wk_frz ?_ ?_ ?_ ?_ <;> simp [frwS, frwH, frwRow, frzT, hasN, delL, hdel, leF, leHF, rowF, frzB, idsL, idsA, idsR, inH, hget, sameRow, viewN, tk]) ?_; simp only [frwS, frwH, frwRow, frzT, hasN, delL, hdel, idsA, idsL, viewN, hget, tk, isC, List.map_cons, List.map_nil, List.all_cons, List.all_nil, List.append_nil, List.drop, List.getElem?_cons_zero, List.getElem?_cons_succ, Bool.not_false, Bool.not_true, Bool.and_true, if_true, if_false, Nat.zero_add, List.length_map, simprocAttr])
          ((try simp only [push_cast, simprocAttr]); refine at_share2 (by simp [isC2, isC]) (by first | rfl | simp [ren]) (hC) (go_on ?_); (try simp only [push_cast, simprocAttr]))
          ((try simp only [push_cast, simprocAttr]); refine at_share2 (by simp [isC2, isC]) (by first | rfl | simp [ren]) (hO2) (go_on ?_); (try simp only [push_cast, simprocAttr]))
          (try simp only [e3, List.length_map, push_cast, simprocAttr])
          (refine at_call ?_; (try simp only [push_cast, simprocAttr]); refine rwc_v (hB) (go_on ?_); (try simp only [push_cast, simprocAttr]))
          (refine at_call ?_; (try simp only [push_cast, simprocAttr]); refine rwc_v (hB) (go_on ?_); (try simp only [push_cast, simprocAttr]))
          refine at_ret ?_; simp only [Tryz.results5, push_cast, simprocAttr]
          simp [vX]
end Go.Proofs.YtccifbbjbnjcfaaGreatDoor
