/- A part of the proof of FnRenameBack: texts VFnRename VFnRenameBack. -/
import Derived.Test.YtepcabenjikhgaaZt4
set_option linter.unusedSimpArgs false
set_option linter.unusedVariables false
/-
  Walks: FnRename.
-/
namespace Go.Proofs.Ytepcabenjikhgaa
open Go Go.RowKit Go.Proofs
theorem renD_false {bs : List BD} {a b : Int} (h : (renD bs a b).2 = false) : renD bs a b = ([], false) := by
  unfold renD at h ⊢
  split at h
  · rename_i hc
    rw [if_pos hc]
    cases hg : getB bs a with
    | none => rfl
    | some d => rw [hg] at h; cases h
  · rename_i hc
    rw [if_neg hc]
theorem readD_len {bs : List BD} (nm : Int) : (readD bs nm).1.length ≤ 400 := by
  unfold readD
  split
  · rename_i hv
    cases hg : getB bs nm with
    | none => simp
    | some d =>
      have := disk_okF hv (getB_name hg).2
      simp only [okF, Bool.and_eq_true, decide_eq_true_eq] at this
      simp only [List.length_append]
      omega
  · simp
attribute [local irreducible] RWp AW run kPe pe Kt effA gd gu br retR RDp runD kPeD brW gW effD
set_option maxRecDepth 100000
theorem FnRename_pc (z : List Int) (hz : BytesOk z) : PC Try.prog 6 [byA z] (vB true) := by
  refine pc_enter Try.func6 rfl rfl fun w0 fb => go_on ?_; (try simp only [Try.ntmps6, push_cast, simprocAttr])
  refine at_b (fun hb => ?_) (fun hb => ?_)
  · (try simp only [hb, push_cast, simprocAttr])
    refine at_ret ?_; simp only [Try.results6, push_cast, simprocAttr]
    simp [vX]
  · (try simp only [hb, push_cast, simprocAttr])
    refine call_share (by simp [isC]) (DrawDiskRename_pc z hz) ?_
    rintro rv rows ⟨bs, a, b, hd, rfl, rfl⟩
    have hs := hd.sm
    have hI := DiskRename_d bs hs a b
    have hS := specDiskRename_d bs hs a b
    refine ⟨by simp [frB, baseOf], go_on ?_⟩
    (try simp only [push_cast, simprocAttr])
    cases hok : (renD bs a b).2 with
    | false =>
      rw [renD_false hok] at hI hS
      have hE := sameDisk_pc [] ⟨by simp, by simp⟩
      ((try simp only [push_cast, simprocAttr]); refine at_share2 (by simp [isC2, isC]) (by first | rfl | simp [ren]) (hI) (go_on ?_); (try simp only [push_cast, simprocAttr]))
      ((try simp only [push_cast, simprocAttr]); refine at_share2 (by simp [isC2, isC]) (by first | rfl | simp [ren]) (hS) (go_on ?_); (try simp only [push_cast, simprocAttr]))
      (try simp only [beq_self_eq_true, Bool.not_true, push_cast, simprocAttr])
      (refine at_call ?_; (try simp only [push_cast, simprocAttr]); refine rwc_v (hE) (go_on ?_); (try simp only [push_cast, simprocAttr]))
      (try simp only [Bool.not_true, Bool.not_false, beq_self_eq_true, push_cast, simprocAttr])
      (refine at_call ?_; (try simp only [push_cast, simprocAttr]); refine rwc_v (hE) (go_on ?_); (try simp only [push_cast, simprocAttr]))
      refine at_ret ?_; simp only [Try.results6, push_cast, simprocAttr]
      simp [vX]
    | true =>
      obtain ⟨d, h1, h2, h3, h4, h5⟩ := renD_ok hok
      obtain ⟨e1, e2, e3, e4, e5⟩ := law_ren hok
      obtain ⟨out, hout⟩ : ∃ out, out = (renD bs a b).1 := ⟨_, rfl⟩
      have hso := disk_sm h5
      rw [hok] at hI hS
      rw [← hout] at hI hS e2 e3 e4 e5 hso
      have hE := sameDisk_pc out hso
      have hX := DiskRead_d bs hs a
      have hY := DiskRead_d out hso b
      have hZ := DiskRead_d out hso a
      obtain ⟨x, hx⟩ : ∃ x, x = (readD bs a).1 := ⟨_, rfl⟩
      have hxl : x.length < 4294967281 := by rw [hx]; have := readD_len (bs := bs) a; omega
      have hXY := sameInts_pc x hxl
      rw [e1, ← hx] at hX
      rw [e2, ← e3, ← hx] at hY
      rw [e4] at hZ
      ((try simp only [push_cast, simprocAttr]); refine at_share2 (by simp [isC2, isC]) (by first | rfl | simp [ren]) (hI) (go_on ?_); (try simp only [push_cast, simprocAttr]))
      ((try simp only [push_cast, simprocAttr]); refine at_share2 (by simp [isC2, isC]) (by first | rfl | simp [ren]) (hS) (go_on ?_); (try simp only [push_cast, simprocAttr]))
      (try simp only [beq_self_eq_true, Bool.not_true, push_cast, simprocAttr])
      (refine at_call ?_; (try simp only [push_cast, simprocAttr]); refine rwc_v (hE) (go_on ?_); (try simp only [push_cast, simprocAttr]))
      (try simp only [Bool.not_true, push_cast, simprocAttr])
      ((try simp only [push_cast, simprocAttr]); refine at_share2 (by simp [isC2, isC]) (by first | rfl | simp [ren]) (hX) (go_on ?_); (try simp only [push_cast, simprocAttr]))
      ((try simp only [push_cast, simprocAttr]); refine at_share2 (by simp [isC2, isC]) (by first | rfl | simp [ren]) (hY) (go_on ?_); (try simp only [push_cast, simprocAttr]))
      ((try simp only [push_cast, simprocAttr]); refine at_share2 (by simp [isC2, isC]) (by first | rfl | simp [ren]) (hZ) (go_on ?_); (try simp only [push_cast, simprocAttr]))
      have hfe : ((decide ((a : Int) = (b : Int))) == eqI (a : Int) b) = true := by rw [eqI_d]; simp
      refine at_loop (X := Nat) (fun o => [(16, iA o)]) (fun _ => []) (fun o => 1 ≤ o ∧ o ≤ 4) (fun o => 4 - o) 1 ⟨by omega, by omega⟩ ?_ ?_
      · (refine wk_ok ?_ ?_ ?_ ?_ <;> simp [leL, leH, idsL, idsA, idsR, inH, hget, sameRow, upA, hvA, dsts, dstO, setA_0, setA_1, setA_8, List.append, List.cons_append, List.nil_append])
      · rintro o ⟨o1, o2⟩
        simp only [upA, hvA, dsts, dstO, setA_0, setA_1, setA_8, List.append, List.cons_append, List.nil_append]
        refine go_on ?_
        (try simp only [push_cast, simprocAttr])
        by_cases ho : o ≤ 3
        · have i0 : leI (o : Int) 3 = true := leI_t (by omega)
          have w1 := wr ((o : Int) + 1) (by omega)
          have hU := DiskRead_d bs hs o
          have hW := DiskRead_d out hso o
          have hUl := readD_len (bs := bs) o
          (try simp only [i0, push_cast, simprocAttr])
          ((try simp only [push_cast, simprocAttr]); refine at_share2 (by simp [isC2, isC]) (by first | rfl | simp [ren]) (hU) (go_on ?_); (try simp only [push_cast, simprocAttr]))
          ((try simp only [push_cast, simprocAttr]); refine at_share2 (by simp [isC2, isC]) (by first | rfl | simp [ren]) (hW) (go_on ?_); (try simp only [push_cast, simprocAttr]))
          by_cases g1 : (o : Int) = a
          · have j1 : eqI (o : Int) a = true := eqI_t g1
            (try simp only [j1, Bool.not_true, w1, push_cast, simprocAttr])
            refine at_fin ⟨o + 1, ⟨by omega, by omega⟩, by omega, ?_⟩
            (refine wk_ok ?_ ?_ ?_ ?_ <;> simp [leL, leH, idsL, idsA, idsR, inH, hget, sameRow, upA, hvA, dsts, dstO, setA_0, setA_1, setA_8, List.append, List.cons_append, List.nil_append])
          · have j1 : eqI (o : Int) a = false := eqI_f g1
            by_cases g2 : (o : Int) = b
            · have j2 : eqI (o : Int) b = true := eqI_t g2
              (try simp only [j1, j2, Bool.not_true, Bool.not_false, w1, push_cast, simprocAttr])
              refine at_fin ⟨o + 1, ⟨by omega, by omega⟩, by omega, ?_⟩
              (refine wk_ok ?_ ?_ ?_ ?_ <;> simp [leL, leH, idsL, idsA, idsR, inH, hget, sameRow, upA, hvA, dsts, dstO, setA_0, setA_1, setA_8, List.append, List.cons_append, List.nil_append])
            · have j2 : eqI (o : Int) b = false := eqI_f g2
              have e6 := e5 o g1 g2
              have hUU := sameInts_pc (readD bs o).1 (by omega)
              rw [← e6]
              (try simp only [j1, j2, Bool.not_false, beq_self_eq_true, Bool.not_true, push_cast, simprocAttr])
              (refine at_call ?_; (try simp only [push_cast, simprocAttr]); refine rwc_v (hUU) (go_on ?_); (try simp only [push_cast, simprocAttr]))
              (try simp only [Bool.not_true, w1, push_cast, simprocAttr])
              refine at_fin ⟨o + 1, ⟨by omega, by omega⟩, by omega, ?_⟩
              (refine wk_ok ?_ ?_ ?_ ?_ <;> simp [leL, leH, idsL, idsA, idsR, inH, hget, sameRow, upA, hvA, dsts, dstO, setA_0, setA_1, setA_8, List.append, List.cons_append, List.nil_append])
        · have i0 : leI (o : Int) 3 = false := leI_f (by omega)
          (try simp only [i0, push_cast, simprocAttr])
          (refine at_call ?_; (try simp only [push_cast, simprocAttr]); refine rwc_v (hXY) (go_on ?_); (try simp only [push_cast, simprocAttr]))
          (try simp only [hfe, push_cast, simprocAttr])
          refine at_ret ?_; simp only [Try.results6, push_cast, simprocAttr]
          simp [vX]
end Go.Proofs.Ytepcabenjikhgaa
/-
  Walks: FnRenameBack.
-/
namespace Go.Proofs.Ytepcabenjikhgaa
open Go Go.RowKit Go.Proofs
attribute [local irreducible] RWp AW run kPe pe Kt effA gd gu br retR RDp runD kPeD brW gW effD
set_option maxRecDepth 100000
theorem FnRenameBack_pc (z : List Int) (hz : BytesOk z) : PC Try.prog 7 [byA z] (vB true) := by
  refine pc_enter Try.func7 rfl rfl fun w0 fb => go_on ?_; (try simp only [Try.ntmps7, push_cast, simprocAttr])
  refine at_b (fun hb => ?_) (fun hb => ?_)
  · (try simp only [hb, push_cast, simprocAttr])
    refine at_ret ?_; simp only [Try.results7, push_cast, simprocAttr]
    simp [vX]
  · (try simp only [hb, push_cast, simprocAttr])
    refine call_share (by simp [isC]) (DrawDiskRename_pc z hz) ?_
    rintro rv rows ⟨bs, a, b, hd, rfl, rfl⟩
    have hs := hd.sm
    have hI := DiskRename_d bs hs a b
    have hS := specDiskRename_d bs hs a b
    refine ⟨by simp [frB, baseOf], go_on ?_⟩
    (try simp only [push_cast, simprocAttr])
    cases hok : (renD bs a b).2 with
    | false =>
      rw [renD_false hok] at hI hS
      have hE := sameDisk_pc [] ⟨by simp, by simp⟩
      ((try simp only [push_cast, simprocAttr]); refine at_share2 (by simp [isC2, isC]) (by first | rfl | simp [ren]) (hI) (go_on ?_); (try simp only [push_cast, simprocAttr]))
      ((try simp only [push_cast, simprocAttr]); refine at_share2 (by simp [isC2, isC]) (by first | rfl | simp [ren]) (hS) (go_on ?_); (try simp only [push_cast, simprocAttr]))
      (try simp only [beq_self_eq_true, Bool.not_true, push_cast, simprocAttr])
      (refine at_call ?_; (try simp only [push_cast, simprocAttr]); refine rwc_v (hE) (go_on ?_); (try simp only [push_cast, simprocAttr]))
      (try simp only [Bool.not_true, Bool.not_false, beq_self_eq_true, push_cast, simprocAttr])
      (refine at_call ?_; (try simp only [push_cast, simprocAttr]); refine rwc_v (hE) (go_on ?_); (try simp only [push_cast, simprocAttr]))
      refine at_ret ?_; simp only [Try.results7, push_cast, simprocAttr]
      simp [vX]
    | true =>
      obtain ⟨d, h1, h2, h3, h4, h5⟩ := renD_ok hok
      have hlaw := law_back hok
      obtain ⟨out, hout⟩ : ∃ out, out = (renD bs a b).1 := ⟨_, rfl⟩
      have hso := disk_sm h5
      rw [hok] at hI hS
      rw [← hout] at hI hS hlaw hso
      have hE := sameDisk_pc out hso
      have hX := DiskRead_d bs hs b
      have hR := DiskRename_d out hso b a
      have hB := sameDisk_pc bs hs
      cases hth : (readD bs b).2 with
      | true =>
        rw [hth] at hX
        ((try simp only [push_cast, simprocAttr]); refine at_share2 (by simp [isC2, isC]) (by first | rfl | simp [ren]) (hI) (go_on ?_); (try simp only [push_cast, simprocAttr]))
        ((try simp only [push_cast, simprocAttr]); refine at_share2 (by simp [isC2, isC]) (by first | rfl | simp [ren]) (hS) (go_on ?_); (try simp only [push_cast, simprocAttr]))
        (try simp only [beq_self_eq_true, Bool.not_true, push_cast, simprocAttr])
        (refine at_call ?_; (try simp only [push_cast, simprocAttr]); refine rwc_v (hE) (go_on ?_); (try simp only [push_cast, simprocAttr]))
        (try simp only [Bool.not_true, push_cast, simprocAttr])
        ((try simp only [push_cast, simprocAttr]); refine at_share2 (by simp [isC2, isC]) (by first | rfl | simp [ren]) (hX) (go_on ?_); (try simp only [push_cast, simprocAttr]))
        ((try simp only [push_cast, simprocAttr]); refine at_share2 (by simp [isC2, isC]) (by first | rfl | simp [ren]) (hR) (go_on ?_); (try simp only [push_cast, simprocAttr]))
        refine at_ret ?_; simp only [Try.results7, push_cast, simprocAttr]
        simp [vX]
      | false =>
        rw [hth] at hX hlaw
        obtain ⟨g1, g2⟩ := hlaw.resolve_left (by simp)
        rw [g1, g2] at hR
        ((try simp only [push_cast, simprocAttr]); refine at_share2 (by simp [isC2, isC]) (by first | rfl | simp [ren]) (hI) (go_on ?_); (try simp only [push_cast, simprocAttr]))
        ((try simp only [push_cast, simprocAttr]); refine at_share2 (by simp [isC2, isC]) (by first | rfl | simp [ren]) (hS) (go_on ?_); (try simp only [push_cast, simprocAttr]))
        (try simp only [beq_self_eq_true, Bool.not_true, push_cast, simprocAttr])
        (refine at_call ?_; (try simp only [push_cast, simprocAttr]); refine rwc_v (hE) (go_on ?_); (try simp only [push_cast, simprocAttr]))
        (try simp only [Bool.not_true, push_cast, simprocAttr])
        ((try simp only [push_cast, simprocAttr]); refine at_share2 (by simp [isC2, isC]) (by first | rfl | simp [ren]) (hX) (go_on ?_); (try simp only [push_cast, simprocAttr]))
        ((try simp only [push_cast, simprocAttr]); refine at_share2 (by simp [isC2, isC]) (by first | rfl | simp [ren]) (hR) (go_on ?_); (try simp only [push_cast, simprocAttr]))
        (try simp only [push_cast, simprocAttr])
        (refine at_call ?_; (try simp only [push_cast, simprocAttr]); refine rwc_v (hB) (go_on ?_); (try simp only [push_cast, simprocAttr]))
        refine at_ret ?_; simp only [Try.results7, push_cast, simprocAttr]
        simp [vX]
end Go.Proofs.Ytepcabenjikhgaa
