/- A part of the proof of FnAdd: texts VFnAdd. -/
import Derived.Test.YtccifbbjbnjcfaaGreatDoorZx7
import Derived.Test.YtccifbbjbnjcfaaGreatDoorZx4
set_option linter.unusedSimpArgs false
set_option linter.unusedVariables false
/-
  Walks: FnAdd.
-/
namespace Go.Proofs.YtccifbbjbnjcfaaGreatDoor
open Go Go.RowKit Go.Proofs
attribute [local irreducible] RWp AW run kPe pe Kt effA gd gu br retR RDp runD kPeD brW gW effD
set_option maxRecDepth 100000
theorem FnAdd_pc (z : List Int) (hz : BytesOk z) : PC Tryz.prog 7 [byA z] (vB true) := by
  refine pc_enter Tryz.func7 rfl rfl fun w0 fb => go_on ?_; (try simp only [Tryz.ntmps7, push_cast, simprocAttr])
  refine at_b (fun hb => ?_) (fun hb => ?_)
  · (try simp only [hb, push_cast, simprocAttr])
    refine at_ret ?_; simp only [Tryz.results7, push_cast, simprocAttr]
    simp [vX]
  · (try simp only [hb, push_cast, simprocAttr])
    refine call_share (by simp [isC]) (DrawBookAdd_pc z hz) ?_
    rintro rv rows ⟨bs, c, hs, hc, rfl, rfl⟩
    have hI := BookAdd_d bs hs c (by omega)
    have hS := specBookAdd_d bs hs c (by omega)
    obtain ⟨⟨Y, ok⟩, hY⟩ : ∃ y, y = addP bs c := ⟨_, rfl⟩
    have hYv := addP_disk hY
    have hYs := (disk_tot hYv).1
    have hE := sameDisk_pc Y hYs
    have hlaw := law_bookAdd (bs := bs) (c := c)
    rw [← hY] at hI hS hlaw
    unfold cmdA cmC at hI hS ⊢
    refine ⟨by simp [frB, baseOf], go_on ?_⟩
    (try simp only [push_cast, simprocAttr])
    cases ok with
    | false =>
      ((try simp only [push_cast, simprocAttr]); refine at_share2 (by simp [isC2, isC]) (by first | rfl | simp [ren]) (hI) (go_on ?_); (try simp only [push_cast, simprocAttr]))
      ((try simp only [push_cast, simprocAttr]); refine at_share2 (by simp [isC2, isC]) (by first | rfl | simp [ren]) (hS) (go_on ?_); (try simp only [push_cast, simprocAttr]))
      (try simp only [beq_self_eq_true, Bool.not_true, push_cast, simprocAttr])
      (refine at_call ?_; (try simp only [push_cast, simprocAttr]); refine rwc_v (hE) (go_on ?_); (try simp only [push_cast, simprocAttr]))
      (try simp only [Bool.not_true, Bool.not_false, beq_self_eq_true, push_cast, simprocAttr])
      (refine at_call ?_; (try simp only [push_cast, simprocAttr]); refine rwc_v (hE) (go_on ?_); (try simp only [push_cast, simprocAttr]))
      refine at_ret ?_; simp only [Tryz.results7, push_cast, simprocAttr]
      simp [vX]
    | true =>
      obtain ⟨b, l1, l2, l3, l4⟩ := hlaw rfl
      simp only at l2 l3 l4
      have hO1 := BookOpen_pc bs hs
      have hO2 := BookOpen_pc Y hYs
      have hC := (DiskCrash_o Y hYs [] (by simp)).db
      obtain ⟨⟨W, okc⟩, hW⟩ : ∃ y, y = crashP Y [] := ⟨_, rfl⟩
      rw [← hW] at l3 l4 hC
      simp only at l3 l4 hC
      subst l3
      have hWs := (disk_tot (crashP_disk hW)).1
      have hO3 := BookOpen_pc W hWs
      rw [l1] at hO1
      rw [l2] at hO2
      rw [l4] at hO3
      unfold bkR bkA bkC at hO1 hO2 hO3
      simp only [Option.getD_some, Option.isSome_some] at hO1 hO2 hO3
      have hn := book_n l1
      have hL := sameLog_pc (b.log ++ [c]) (b.log ++ [c]) (by simp; omega)
      have hB := sameBook_pc ⟨b.ep, b.log ++ [c]⟩ ⟨b.ep, b.log ++ [c]⟩ (by simp; omega)
      rw [decide_eq_true rfl] at hL hB
      unfold bkA bkC at hB
      ((try simp only [push_cast, simprocAttr]); refine at_share2 (by simp [isC2, isC]) (by first | rfl | simp [ren]) (hI) (go_on ?_); (try simp only [push_cast, simprocAttr]))
      ((try simp only [push_cast, simprocAttr]); refine at_share2 (by simp [isC2, isC]) (by first | rfl | simp [ren]) (hS) (go_on ?_); (try simp only [push_cast, simprocAttr]))
      (try simp only [beq_self_eq_true, Bool.not_true, push_cast, simprocAttr])
      (refine at_call ?_; (try simp only [push_cast, simprocAttr]); refine rwc_v (hE) (go_on ?_); (try simp only [push_cast, simprocAttr]))
      (try simp only [Bool.not_true, push_cast, simprocAttr])
      ((try simp only [push_cast, simprocAttr]); refine at_share2 (by simp [isC2, isC]) (by first | rfl | simp [ren]) (hO1) (go_on ?_); (try simp only [push_cast, simprocAttr]))
      ((try simp only [push_cast, simprocAttr]); refine at_share2 (by simp [isC2, isC]) (by first | rfl | simp [ren]) (hO2) (go_on ?_); (try simp only [push_cast, simprocAttr]))
      (refine at_callW [70] (by refine wk_frz ?_ ?_ ?_ ?_ <;> simp [frwS, frwH, frwRow, frzT, hasN, delL, hdel, leF, leHF, rowF, frzB, idsL, idsA, idsR, inH, hget, sameRow, viewN, tk]) ?_; simp only [frwS, frwH, frwRow, frzT, hasN, delL, hdel, idsA, idsL, viewN, hget, tk, isC, List.map_cons, List.map_nil, List.all_cons, List.all_nil, List.append_nil, List.drop, List.getElem?_cons_zero, List.getElem?_cons_succ, Bool.not_false, Bool.not_true, Bool.and_true, if_true, if_false, Nat.zero_add, List.length_map, simprocAttr])
      ((try simp only [push_cast, simprocAttr]); refine at_share2 (by simp [isC2, isC]) (by first | rfl | simp [ren]) (hC) (go_on ?_); (try simp only [push_cast, simprocAttr]))
      ((try simp only [push_cast, simprocAttr]); refine at_share2 (by simp [isC2, isC]) (by first | rfl | simp [ren]) (hO3) (go_on ?_); (try simp only [push_cast, simprocAttr]))
      have hLe : (b.log ++ [c]).map cmC = b.log.map cmC ++ [[sA c.p, iA c.a.k, iA c.a.v, iA c.b.k, iA c.b.v]] := by rw [List.map_append]; rfl
      have hL2 : PC Tryz.prog 32 [cmA (b.log ++ [c]), .sl 5 (b.log.map cmC ++ [[sA c.p, iA c.a.k, iA c.a.v, iA c.b.k, iA c.b.v]])] (vB true) := by rw [← hLe]; exact hL
      have hT : List.take (0 + b.log.length) (List.map cmC b.log) = List.map cmC b.log := List.take_of_length_le (by simp)
      have e0 : eqI b.ep b.ep = true := eqI_t rfl
      refine at_draw rfl (by kernel_rfl) ?_
      (try simp only [e0, effD_app2, push_cast, simprocAttr])
      refine at_chkD (by simp; omega) ?_
      (try simp only [effD_app2, push_cast, simprocAttr])
      refine at_chkD (by simp; omega) ?_
      (try simp only [push_cast, simprocAttr])
      (refine at_callD (by simp [clB, idsL, idsA, hget]) ?_; (try simp only [hT, viewN, hget, tk, isC, List.map_cons, List.map_nil, List.length_append, List.length_map, List.length_cons, List.length_nil, Nat.zero_add, Nat.reduceAdd, if_true, reduceIte, push_cast, simprocAttr]); refine rcd_v hL2 ?_; (try simp only [push_cast, simprocAttr]))
      (refine at_callD (by simp [clB, idsL, idsA, hget]) ?_; (try simp only [viewN, push_cast, simprocAttr]); refine rcd_v hB ?_; (try simp only [push_cast, simprocAttr]))
      refine at_done (by kernel_rfl) (by kernel_rfl) (go_on ?_)
      (try simp only [push_cast, simprocAttr])
      refine at_ret ?_; simp only [Tryz.results7, push_cast, simprocAttr]
      simp [vX]
end Go.Proofs.YtccifbbjbnjcfaaGreatDoor
