/- A part of the proof of FnReplaceCrash: texts VFnReplaceCrash. -/
import Derived.Test.YtccifbbjbnjcfaaGreatDoorZw7
set_option linter.unusedSimpArgs false
set_option linter.unusedVariables false
/-
  Walks: FnReplaceCrash.
-/
namespace Go.Proofs.YtccifbbjbnjcfaaGreatDoor
open Go Go.RowKit Go.Proofs
attribute [local irreducible] RWp AW run kPe pe Kt effA gd gu br retR RDp runD kPeD brW gW effD
set_option maxRecDepth 100000
theorem FnReplaceCrash_pc (z : List Int) (hz : BytesOk z) (z2 : List Int) (hz2 : BytesOk z2) : PC Tryz.prog 6 [byA z, byA z2] (vB true) := by
  refine pc_enter Tryz.func6 rfl rfl fun w0 fb => go_on ?_; (try simp only [Tryz.ntmps6, push_cast, simprocAttr])
  cases h1 : ltI 1048576 (z.length : Int) with
  | true =>
    (try simp only [h1, push_cast, simprocAttr])
    refine at_ret ?_; simp only [Tryz.results6, push_cast, simprocAttr]
    simp [vX]
  | false =>
  cases h2 : ltI 1048576 (z2.length : Int) with
  | true =>
    (try simp only [h1, h2, push_cast, simprocAttr])
    refine at_ret ?_; simp only [Tryz.results6, push_cast, simprocAttr]
    simp [vX]
  | false =>
    (try simp only [h1, h2, push_cast, simprocAttr])
    refine call_share (by simp [isC]) (DrawBookSteps_pc z hz) ?_
    rintro rv rows ⟨bs, b, hs, hl, rfl, rfl⟩
    have hI := BookSteps_d bs hs b hl
    have hS := specBookSteps_d bs hs b hl
    obtain ⟨⟨Y, ok⟩, hY⟩ : ∃ y, y = stepsP bs b := ⟨_, rfl⟩
    have hno := stepsP_no (bs := bs) (b := b)
    have hlaw := law_bookSteps (bs := bs) (b := b)
    rw [← hY] at hI hS hlaw hno
    unfold bkA bkC at hI hS ⊢
    refine ⟨by simp [frB, baseOf], go_on ?_⟩
    (try simp only [push_cast, simprocAttr])
    cases ok with
    | false =>
      have hY0 := hno rfl
      obtain rfl : Y = [] := (Prod.mk.inj hY0).1
      ((try simp only [push_cast, simprocAttr]); refine at_share2 (by simp [isC2, isC]) (by first | rfl | simp [ren]) (hI) (go_on ?_); (try simp only [push_cast, simprocAttr]))
      ((try simp only [push_cast, simprocAttr]); refine at_share2 (by simp [isC2, isC]) (by first | rfl | simp [ren]) (hS) (go_on ?_); (try simp only [push_cast, simprocAttr]))
      (try simp only [List.map_nil, List.length_nil, show eqI 0 0 = true from rfl, push_cast, simprocAttr])
      refine at_loop (X := Unit) (fun _ => [(11, bA true), (12, iA 0)]) (fun _ => [(6, ⟨49, 2, [[iA b.ep, cmA b.log]], true⟩)]) (fun _ => True) (fun _ => 0) () trivial ?_ ?_
      · (refine wk_ok ?_ ?_ ?_ ?_ <;> simp [leL, leH, idsL, idsA, idsR, inH, hget, sameRow, upA, hvA, dsts, dstO, setA_0, setA_1, setA_8, List.append, List.cons_append, List.nil_append])
      · rintro ⟨⟩ _
        simp only [upA, hvA, dsts, dstO, setA_0, setA_1, setA_8, List.append, List.cons_append, List.nil_append]
        refine go_on ?_
        (try simp only [List.map_nil, List.length_nil, show ltI 0 0 = false from rfl, beq_self_eq_true, Bool.not_true, Bool.not_false, push_cast, simprocAttr])
        refine at_ret ?_; simp only [Tryz.results6, push_cast, simprocAttr]
        simp [vX]
    | true =>
      obtain ⟨w, s, y, l1, l2, l3, l4, l5, l6, l7, l8, l9⟩ := hlaw rfl
      simp only at l1
      subst l1
      have hsm : ∀ d ∈ [w, s, y], SmB d := by
        intro d hd
        simp only [List.mem_cons, List.not_mem_nil, or_false] at hd
        rcases hd with rfl | rfl | rfl
        · exact disk_sm l6
        · exact disk_sm l7
        · exact disk_sm (bookO_some l2).2.2.1
      obtain ⟨L, hL⟩ : ∃ L, L = [w, s, y] := ⟨_, rfl⟩
      rw [← hL] at hI hS hsm
      have hLl : L.length = 3 := by rw [hL]; rfl
      have hfa : ∀ (k : Nat) d, k + 1 < 3 → L[k]? = some d → diskB d = true ∧ getB d 1 = getB bs 1 := fun k d hk hd => by
        rw [hL] at hd
        rcases k with _ | _ | k
        · cases hd; exact ⟨l6, l8⟩
        · cases hd; exact ⟨l7, l9⟩
        · omega
      have e0 : eqI (L.length : Int) L.length = true := eqI_t rfl
      ((try simp only [push_cast, simprocAttr]); refine at_share2 (by simp [isC2, isC]) (by first | rfl | simp [ren]) (hI) (go_on ?_); (try simp only [push_cast, simprocAttr]))
      ((try simp only [push_cast, simprocAttr]); refine at_share2 (by simp [isC2, isC]) (by first | rfl | simp [ren]) (hS) (go_on ?_); (try simp only [push_cast, simprocAttr]))
      (try simp only [List.length_map, e0, push_cast, simprocAttr])
      refine at_loop (X := Nat) (fun k => [(11, bA true), (12, iA k)]) (fun _ => [(6, ⟨49, 2, [[iA b.ep, cmA b.log]], true⟩)]) (fun k => k ≤ L.length) (fun k => L.length - k) 0 (by omega) ?_ ?_
      · (refine wk_ok ?_ ?_ ?_ ?_ <;> simp [leL, leH, idsL, idsA, idsR, inH, hget, sameRow, upA, hvA, dsts, dstO, setA_0, setA_1, setA_8, List.append, List.cons_append, List.nil_append])
      · intro k hk
        simp only [upA, hvA, dsts, dstO, setA_0, setA_1, setA_8, List.append, List.cons_append, List.nil_append]
        refine go_on ?_
        (try simp only [List.length_map, push_cast, simprocAttr])
        by_cases hlt : k < L.length
        · obtain ⟨d, hd⟩ := get_of_lt hlt
          have i0 : ltI (k : Int) L.length = true := ltI_t (by omega)
          have i1 := ix_n hd
          have i2 := map_get dC hd
          simp only [dC] at i2
          have w1 := wr ((k : Int) + 1) (by omega)
          have hE := sameDisk_pc d (hsm d (mem_of_get hd))
          (try simp only [i0, push_cast, simprocAttr])
          refine at_draw rfl (by kernel_rfl) ?_
          (try simp only [i0, i1, i2, push_cast, simprocAttr])
          (refine at_callD (by simp [clB, idsL, idsA, hget]) ?_; (try simp only [viewN, push_cast, simprocAttr]); refine rcd_v hE ?_; (try simp only [push_cast, simprocAttr]))
          refine at_done (by kernel_rfl) (by kernel_rfl) (go_on ?_)
          (try simp only [w1, push_cast, simprocAttr])
          refine at_fin ⟨k + 1, by omega, by omega, ?_⟩
          (refine wk_ok ?_ ?_ ?_ ?_ <;> simp [leL, leH, idsL, idsA, idsR, inH, hget, sameRow, upA, hvA, dsts, dstO, setA_0, setA_1, setA_8, List.append, List.cons_append, List.nil_append])
        · have i0 : ltI (k : Int) L.length = false := ltI_f (by omega)
          obtain ⟨m, hm⟩ : ∃ m, (z2.length : Int).tmod 400 = m := ⟨_, rfl⟩
          have hm0 : 0 ≤ m ∧ m ≤ 400 := by
            rw [← hm]
            exact ⟨Int.tmod_nonneg _ (by omega), by have := Int.tmod_lt_of_pos (z2.length : Int) (b := 400) (by omega); omega⟩
          have hkp : okK [0, m, 0] = true := by simp [okK, inR]; omega
          (try simp only [i0, beq_self_eq_true, Bool.not_true, Bool.not_false, List.length_map, hm, push_cast, simprocAttr])
          (refine at_callW [91] (by refine wk_frz ?_ ?_ ?_ ?_ <;> simp [frwS, frwH, frwRow, frzT, hasN, delL, hdel, leF, leHF, rowF, frzB, idsL, idsA, idsR, inH, hget, sameRow, viewN, tk]) ?_; simp only [frwS, frwH, frwRow, frzT, hasN, delL, hdel, idsA, idsL, viewN, hget, tk, isC, List.map_cons, List.map_nil, List.all_cons, List.all_nil, List.append_nil, List.drop, List.getElem?_cons_zero, List.getElem?_cons_succ, Bool.not_false, Bool.not_true, Bool.and_true, if_true, if_false, Nat.zero_add, List.length_map, simprocAttr])
          have hC := (DiskCrash_o bs hs [0, m, 0] (by simp)).db
          obtain ⟨⟨A, okA⟩, hA⟩ : ∃ y', y' = crashP bs [0, m, 0] := ⟨_, rfl⟩
          have hA2 : okA = true := by
            rw [crashP_ok (by rw [l5, hkp]; rfl)] at hA
            exact (Prod.mk.inj hA).2
          subst hA2
          rw [← hA] at hC
          simp only at hC
          have hAs := (disk_tot (crashP_disk hA)).1
          have hO := BookOpen_pc A hAs
          obtain ⟨o, ho⟩ : ∃ o, o = bookO A := ⟨_, rfl⟩
          rw [← ho] at hO
          have hon : (o.getD bk0).log.length ≤ 20 := by
            cases h : o with
            | none => simp [bk0]
            | some b' => rw [h] at ho; exact book_n ho.symm
          obtain ⟨a, ha⟩ : ∃ a, a = o.getD bk0 := ⟨_, rfl⟩
          unfold bkR at hO
          rw [← ha] at hO hon
          have hB := sameBook_pc a a (by omega)
          rw [decide_eq_true rfl] at hB
          unfold bkA bkC at hO hB
          ((try simp only [push_cast, simprocAttr]); refine at_share2 (by simp [isC2, isC]) (by first | rfl | simp [ren]) (hC) (go_on ?_); (try simp only [push_cast, simprocAttr]))
          ((try simp only [push_cast, simprocAttr]); refine at_share2 (by simp [isC2, isC]) (by first | rfl | simp [ren]) (hO) (go_on ?_); (try simp only [push_cast, simprocAttr]))
          refine at_loop (X := Nat) (fun k => [(18, iA k)]) (fun _ => [(6, ⟨49, 2, [[iA b.ep, cmA b.log]], true⟩), (16, ⟨49, 2, [[iA a.ep, cmA a.log]], true⟩)]) (fun k => k ≤ 2) (fun k => 2 - k) 0 (by omega) ?_ ?_
          · (refine wk_ok ?_ ?_ ?_ ?_ <;> simp [leL, leH, idsL, idsA, idsR, inH, hget, sameRow, upA, hvA, dsts, dstO, setA_0, setA_1, setA_8, List.append, List.cons_append, List.nil_append])
          · intro k hk
            simp only [upA, hvA, dsts, dstO, setA_0, setA_1, setA_8, List.append, List.cons_append, List.nil_append]
            refine go_on ?_
            have w1 := wr ((k : Int) + 1) (by omega)
            (try simp only [List.length_map, w1, push_cast, simprocAttr])
            by_cases hlt : k < 2
            · obtain ⟨d, hd⟩ := get_of_lt (l := L) (k := k) (by omega)
              obtain ⟨d1, d2⟩ := hfa k d (by omega) hd
              have i0 : ltI ((k : Int) + 1) L.length = true := ltI_t (by omega)
              have i1 := ix_n hd
              have i2 := map_get dC hd
              simp only [dC] at i2
              have hCd := (DiskCrash_o d (hsm d (mem_of_get hd)) [0, m, 0] (by simp)).db
              obtain ⟨e1, e2⟩ := law_bookCrash d1 l5 hkp d2
              rw [← hA] at e2
              simp only at e2
              obtain ⟨⟨D, okD⟩, hD⟩ : ∃ y', y' = crashP d [0, m, 0] := ⟨_, rfl⟩
              rw [← hD] at hCd e1 e2
              simp only at hCd e1 e2
              subst e1
              have hOd := BookOpen_pc D (disk_tot (crashP_disk hD)).1
              rw [e2, ← ho] at hOd
              unfold bkR at hOd
              rw [← ha] at hOd
              unfold bkA bkC at hOd
              (try simp only [i0, i1, i2, List.length_map, push_cast, simprocAttr])
              ((try simp only [push_cast, simprocAttr]); refine at_share2 (by simp [isC2, isC]) (by first | rfl | simp [ren]) (hCd) (go_on ?_); (try simp only [push_cast, simprocAttr]))
              ((try simp only [push_cast, simprocAttr]); refine at_share2 (by simp [isC2, isC]) (by first | rfl | simp [ren]) (hOd) (go_on ?_); (try simp only [push_cast, simprocAttr]))
              (try simp only [beq_self_eq_true, Bool.not_true, push_cast, simprocAttr])
              (refine at_call ?_; (try simp only [push_cast, simprocAttr]); refine rwc_v (hB) (go_on ?_); (try simp only [push_cast, simprocAttr]))
              (try simp only [Bool.not_true, w1, push_cast, simprocAttr])
              refine at_fin ⟨k + 1, by omega, by omega, ?_⟩
              (refine wk_ok ?_ ?_ ?_ ?_ <;> simp [leL, leH, idsL, idsA, idsR, inH, hget, sameRow, upA, hvA, dsts, dstO, setA_0, setA_1, setA_8, List.append, List.cons_append, List.nil_append])
            · have i0 : ltI ((k : Int) + 1) L.length = false := ltI_f (by omega)
              (try simp only [i0, List.length_map, push_cast, simprocAttr])
              refine at_ret ?_; simp only [Tryz.results6, push_cast, simprocAttr]
              simp [vX]
end Go.Proofs.YtccifbbjbnjcfaaGreatDoor
