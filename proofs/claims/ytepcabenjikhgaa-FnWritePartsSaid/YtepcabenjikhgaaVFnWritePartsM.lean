/- A part of the proof of FnWriteParts: texts VFnRename VFnWrite VFnWriteParts. -/
import Derived.Test.YtepcabenjikhgaaZt4
import Derived.Test.YtepcabenjikhgaaZt5
set_option linter.unusedSimpArgs false
set_option linter.unusedVariables false
/-
  Walks: FnRename.
-/
namespace Go.Proofs.Ytepcabenjikhgaa
open Go Go.RowKit Go.Proofs
theorem readD_len {bs : List BD} (nm : Int) : (readD bs nm).1.length ≤ 400 := by
  unfold readD
  split
  · rename_i hv
    cases hg : getB bs nm with
    | none => simp
    | some d =>
      have := disk_okF hv (getB_name hg).2
      simp only [okF, Bool.and_eq_true, decide_eq_true_eq] at this
      simp only [List.length_append]
      omega
  · simp
attribute [local irreducible] RWp AW run kPe pe Kt effA gd gu br retR RDp runD kPeD brW gW effD
set_option maxRecDepth 100000
end Go.Proofs.Ytepcabenjikhgaa
/-
  Walks: FnWrite.
-/
namespace Go.Proofs.Ytepcabenjikhgaa
open Go Go.RowKit Go.Proofs
theorem writeD_no {bs : List BD} {nm : Int} {xs : List Int} (h : (writeD bs nm xs).2 = false) : writeD bs nm xs = ([], false) := by
  unfold writeD at h ⊢
  split at h
  · cases h
  · rename_i hc
    rw [if_neg hc]
attribute [local irreducible] RWp AW run kPe pe Kt effA gd gu br retR RDp runD kPeD brW gW effD
set_option maxRecDepth 100000
theorem FnWrite_pc (z : List Int) (hz : BytesOk z) : PC Try.prog 9 [byA z] (vB true) := by
  refine pc_enter Try.func9 rfl rfl fun w0 fb => go_on ?_; (try simp only [Try.ntmps9, push_cast, simprocAttr])
  refine at_b (fun hb => ?_) (fun hb => ?_)
  · (try simp only [hb, push_cast, simprocAttr])
    refine at_ret ?_; simp only [Try.results9, push_cast, simprocAttr]
    simp [vX]
  · (try simp only [hb, push_cast, simprocAttr])
    refine call_share (by simp [isC]) (DrawDiskWrite_pc z hz) ?_
    rintro rv rows ⟨bs, a, xs, hd, hxl, rfl, rfl⟩
    have hs := hd.sm
    have hI := DiskWrite_d bs hs a xs (by omega)
    have hS := specDiskWrite_d bs hs a xs (by omega) (fun d hm => by have := (hd.d d hm).2; omega)
    refine ⟨by simp [frB, baseOf], go_on ?_⟩
    (try simp only [push_cast, simprocAttr])
    cases hok : (writeD bs a xs).2 with
    | false =>
      rw [writeD_no hok] at hI hS
      have hE := sameDisk_pc [] ⟨by simp, by simp⟩
      ((try simp only [push_cast, simprocAttr]); refine at_share2 (by simp [isC2, isC]) (by first | rfl | simp [ren]) (hI) (go_on ?_); (try simp only [push_cast, simprocAttr]))
      ((try simp only [push_cast, simprocAttr]); refine at_share2 (by simp [isC2, isC]) (by first | rfl | simp [ren]) (hS) (go_on ?_); (try simp only [push_cast, simprocAttr]))
      (try simp only [beq_self_eq_true, Bool.not_true, push_cast, simprocAttr])
      (refine at_call ?_; (try simp only [push_cast, simprocAttr]); refine rwc_v (hE) (go_on ?_); (try simp only [push_cast, simprocAttr]))
      (try simp only [Bool.not_true, Bool.not_false, beq_self_eq_true, push_cast, simprocAttr])
      (refine at_call ?_; (try simp only [push_cast, simprocAttr]); refine rwc_v (hE) (go_on ?_); (try simp only [push_cast, simprocAttr]))
      refine at_ret ?_; simp only [Try.results9, push_cast, simprocAttr]
      simp [vX]
    | true =>
      obtain ⟨h1, h2, h3, h4, h5⟩ := writeD_ok hok
      obtain ⟨e2, e3, e5⟩ := law_write hok
      obtain ⟨out, hout⟩ : ∃ out, out = (writeD bs a xs).1 := ⟨_, rfl⟩
      rw [← h5, ← hout] at h4
      have hso := disk_sm h4
      rw [hok] at hI hS
      rw [← hout] at hI hS e2 e3 e5
      have hE := sameDisk_pc out hso
      have hX := DiskRead_d bs hs a
      have hY := DiskRead_d out hso a
      obtain ⟨x, hx⟩ : ∃ x, x = (readD bs a).1 := ⟨_, rfl⟩
      have hxl : x.length ≤ 400 := by rw [hx]; exact readD_len a
      have hXY := sameInts_pc (x ++ xs) (by rw [List.length_append]; omega)
      rw [← hx] at hX e3
      rw [e2, e3] at hY
      ((try simp only [push_cast, simprocAttr]); refine at_share2 (by simp [isC2, isC]) (by first | rfl | simp [ren]) (hI) (go_on ?_); (try simp only [push_cast, simprocAttr]))
      ((try simp only [push_cast, simprocAttr]); refine at_share2 (by simp [isC2, isC]) (by first | rfl | simp [ren]) (hS) (go_on ?_); (try simp only [push_cast, simprocAttr]))
      (try simp only [beq_self_eq_true, Bool.not_true, push_cast, simprocAttr])
      (refine at_call ?_; (try simp only [push_cast, simprocAttr]); refine rwc_v (hE) (go_on ?_); (try simp only [push_cast, simprocAttr]))
      (try simp only [Bool.not_true, push_cast, simprocAttr])
      ((try simp only [push_cast, simprocAttr]); refine at_share2 (by simp [isC2, isC]) (by first | rfl | simp [ren]) (hX) (go_on ?_); (try simp only [push_cast, simprocAttr]))
      ((try simp only [push_cast, simprocAttr]); refine at_share2 (by simp [isC2, isC]) (by first | rfl | simp [ren]) (hY) (go_on ?_); (try simp only [push_cast, simprocAttr]))
      refine at_loop (X := Nat) (fun o => [(14, iA o)]) (fun _ => []) (fun o => 1 ≤ o ∧ o ≤ 4) (fun o => 4 - o) 1 ⟨by omega, by omega⟩ ?_ ?_
      · (refine wk_ok ?_ ?_ ?_ ?_ <;> simp [leL, leH, idsL, idsA, idsR, inH, hget, sameRow, upA, hvA, dsts, dstO, setA_0, setA_1, setA_8, List.append, List.cons_append, List.nil_append])
      · rintro o ⟨o1, o2⟩
        simp only [upA, hvA, dsts, dstO, setA_0, setA_1, setA_8, List.append, List.cons_append, List.nil_append]
        refine go_on ?_
        (try simp only [push_cast, simprocAttr])
        by_cases ho : o ≤ 3
        · have i0 : leI (o : Int) 3 = true := leI_t (by omega)
          have w1 := wr ((o : Int) + 1) (by omega)
          have hU := DiskRead_d bs hs o
          have hW := DiskRead_d out hso o
          have hUl := readD_len (bs := bs) o
          (try simp only [i0, push_cast, simprocAttr])
          ((try simp only [push_cast, simprocAttr]); refine at_share2 (by simp [isC2, isC]) (by first | rfl | simp [ren]) (hU) (go_on ?_); (try simp only [push_cast, simprocAttr]))
          ((try simp only [push_cast, simprocAttr]); refine at_share2 (by simp [isC2, isC]) (by first | rfl | simp [ren]) (hW) (go_on ?_); (try simp only [push_cast, simprocAttr]))
          by_cases g1 : (o : Int) = a
          · have j1 : eqI (o : Int) a = true := eqI_t g1
            (try simp only [j1, Bool.not_true, w1, push_cast, simprocAttr])
            refine at_fin ⟨o + 1, ⟨by omega, by omega⟩, by omega, ?_⟩
            (refine wk_ok ?_ ?_ ?_ ?_ <;> simp [leL, leH, idsL, idsA, idsR, inH, hget, sameRow, upA, hvA, dsts, dstO, setA_0, setA_1, setA_8, List.append, List.cons_append, List.nil_append])
          · have j1 : eqI (o : Int) a = false := eqI_f g1
            have e6 := e5 o g1
            have hUU := sameInts_pc (readD bs o).1 (by omega)
            rw [← e6]
            (try simp only [j1, Bool.not_false, beq_self_eq_true, Bool.not_true, push_cast, simprocAttr])
            (refine at_call ?_; (try simp only [push_cast, simprocAttr]); refine rwc_v (hUU) (go_on ?_); (try simp only [push_cast, simprocAttr]))
            (try simp only [Bool.not_true, w1, push_cast, simprocAttr])
            refine at_fin ⟨o + 1, ⟨by omega, by omega⟩, by omega, ?_⟩
            (refine wk_ok ?_ ?_ ?_ ?_ <;> simp [leL, leH, idsL, idsA, idsR, inH, hget, sameRow, upA, hvA, dsts, dstO, setA_0, setA_1, setA_8, List.append, List.cons_append, List.nil_append])
        · have i0 : leI (o : Int) 3 = false := leI_f (by omega)
          have hT : List.take x.length (List.map inC x) = List.map inC x := List.take_of_length_le (by simp)
          (try simp only [i0, Nat.zero_add, hT, push_cast, simprocAttr])
          refine at_chk (by omega) ?_
          refine at_chk (by omega) ?_
          (refine at_call ?_; simp only [← List.map_append, List.length_append, viewN, hget, tk, isC, List.map_cons, List.map_nil, List.length_map, List.length_cons, List.length_nil, Nat.reduceAdd, Nat.reduceEqDiff, if_true, if_false, reduceIte, simprocAttr]; refine rwc_v (hXY) (go_on ?_); (try simp only [push_cast, simprocAttr]))
          refine at_ret ?_; simp only [Try.results9, push_cast, simprocAttr]
          simp [vX]
end Go.Proofs.Ytepcabenjikhgaa
/-
  Walks: FnWriteParts.
-/
namespace Go.Proofs.Ytepcabenjikhgaa
open Go Go.RowKit Go.Proofs
attribute [local irreducible] RWp AW run kPe pe Kt effA gd gu br retR RDp runD kPeD brW gW effD
set_option maxRecDepth 100000
theorem FnWriteParts_pc (z : List Int) (hz : BytesOk z) (u : List Int) (hu : BytesOk u) : PC Try.prog 5 [byA z, byA u] (vB true) := by
  refine pc_enter Try.func5 rfl rfl fun w0 fb => go_on ?_; (try simp only [Try.ntmps5, push_cast, simprocAttr])
  refine at_b (fun hb => ?_) (fun hb => ?_)
  · (try simp only [hb, push_cast, simprocAttr])
    refine at_ret ?_; simp only [Try.results5, push_cast, simprocAttr]
    simp [vX]
  · (try simp only [hb, push_cast, simprocAttr])
    refine at_b (fun hb2 => ?_) (fun hb2 => ?_)
    · (try simp only [hb, hb2, push_cast, simprocAttr])
      refine at_ret ?_; simp only [Try.results5, push_cast, simprocAttr]
      simp [vX]
    (try simp only [hb, hb2, push_cast, simprocAttr])
    refine call_share (by simp [isC]) (DrawDiskWrite_pc z hz) ?_
    rintro rv rows ⟨bs, a, xs, hd, hxl, rfl, rfl⟩
    have hs := hd.sm
    have hI := DiskWrite_d bs hs a xs (by omega)
    have hS := specDiskWrite_d bs hs a xs (by omega) (fun d hm => by have := (hd.d d hm).2; omega)
    refine ⟨by simp [frB, baseOf], go_on ?_⟩
    (try simp only [push_cast, simprocAttr])
    cases hok : (writeD bs a xs).2 with
    | false =>
      rw [writeD_no hok] at hI hS
      have hE := sameDisk_pc [] ⟨by simp, by simp⟩
      ((try simp only [push_cast, simprocAttr]); refine at_share2 (by simp [isC2, isC]) (by first | rfl | simp [ren]) (hI) (go_on ?_); (try simp only [push_cast, simprocAttr]))
      ((try simp only [push_cast, simprocAttr]); refine at_share2 (by simp [isC2, isC]) (by first | rfl | simp [ren]) (hS) (go_on ?_); (try simp only [push_cast, simprocAttr]))
      (try simp only [beq_self_eq_true, Bool.not_true, push_cast, simprocAttr])
      (refine at_call ?_; (try simp only [push_cast, simprocAttr]); refine rwc_v (hE) (go_on ?_); (try simp only [push_cast, simprocAttr]))
      (try simp only [Bool.not_true, Bool.not_false, beq_self_eq_true, push_cast, simprocAttr])
      (refine at_call ?_; (try simp only [push_cast, simprocAttr]); refine rwc_v (hE) (go_on ?_); (try simp only [push_cast, simprocAttr]))
      refine at_ret ?_; simp only [Try.results5, push_cast, simprocAttr]
      simp [vX]
    | true =>
      obtain ⟨h1, h2, h3, h4, h5⟩ := writeD_ok hok
      obtain ⟨k, hk⟩ : ∃ k, k = u.length % (xs.length + 1) := ⟨_, rfl⟩
      have hkl : k ≤ xs.length := by rw [hk]; have := Nat.mod_lt u.length (show 0 < xs.length + 1 by omega); omega
      have hparts := law_parts (bs := bs) (nm := a) (xs := xs.take k) (ys := xs.drop k) (by rw [List.take_append_drop]; exact hok)
      rw [List.take_append_drop] at hparts
      obtain ⟨e1, e2, e3⟩ := hparts
      have h4' := (writeD_ok e1).2.2.2
      rw [← h4'.2] at h4'
      obtain ⟨out, hout⟩ : ∃ out, out = (writeD bs a xs).1 := ⟨_, rfl⟩
      obtain ⟨mid, hmid⟩ : ∃ mid, mid = (writeD bs a (xs.take k)).1 := ⟨_, rfl⟩
      rw [← h5, ← hout] at h4
      have hso := disk_sm h4
      rw [← hmid] at h4' e2 e3
      have hsm := disk_sm h4'.1
      have hX := DiskWrite_d bs hs a (xs.take k) (by rw [List.length_take]; omega)
      have hY := DiskWrite_d mid hsm a (xs.drop k) (by rw [List.length_drop]; omega)
      rw [e1, ← hmid] at hX
      rw [e2, e3, ← hout] at hY
      rw [hok] at hI hS
      rw [← hout] at hI hS
      have hE := sameDisk_pc out hso
      ((try simp only [push_cast, simprocAttr]); refine at_share2 (by simp [isC2, isC]) (by first | rfl | simp [ren]) (hI) (go_on ?_); (try simp only [push_cast, simprocAttr]))
      ((try simp only [push_cast, simprocAttr]); refine at_share2 (by simp [isC2, isC]) (by first | rfl | simp [ren]) (hS) (go_on ?_); (try simp only [push_cast, simprocAttr]))
      (try simp only [beq_self_eq_true, Bool.not_true, push_cast, simprocAttr])
      (refine at_call ?_; (try simp only [push_cast, simprocAttr]); refine rwc_v (hE) (go_on ?_); (try simp only [push_cast, simprocAttr]))
      have w0 : IntKind.i64.wrap ((xs.length : Int) + 1) = (xs.length : Int) + 1 := wr _ (by omega)
      have w1 : ((xs.length : Int) + 1 = 0) = False := eq_false (by omega)
      have w2 : (u.length : Int).tmod ((xs.length : Int) + 1) = (k : Int) := by rw [hk]; rfl
      have w3 : ((k : Int) ≤ (xs.length : Int)) = True := eq_true (by omega)
      have w5 : List.drop k (List.map inC xs) = List.map inC (List.drop k xs) := by rw [List.map_drop]
      have w6 : List.take k (List.map inC xs) = List.map inC (List.take k xs) := by rw [List.map_take]
      (try simp only [Bool.not_true, w0, w1, w2, w3, w6, push_cast, simprocAttr])
      ((try simp only [push_cast, simprocAttr]); refine at_share2 (by simp [isC2, isC]) (by first | rfl | simp [ren]) (hX) (go_on ?_); (try simp only [push_cast, simprocAttr]))
      (try simp only [w3, w5, push_cast, simprocAttr])
      ((try simp only [push_cast, simprocAttr]); refine at_share2 (by simp [isC2, isC]) (by first | rfl | simp [ren]) (hY) (go_on ?_); (try simp only [push_cast, simprocAttr]))
      (try simp only [Bool.not_true, push_cast, simprocAttr])
      (refine at_call ?_; (try simp only [push_cast, simprocAttr]); refine rwc_v (hE) (go_on ?_); (try simp only [push_cast, simprocAttr]))
      refine at_ret ?_; simp only [Try.results5, push_cast, simprocAttr]
      simp [vX]
end Go.Proofs.Ytepcabenjikhgaa
