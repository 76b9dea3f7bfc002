/- A part of the proof of FnReplaceCrash: texts N8 N9 N10 N11 N12 M31 M32 M34 M35 N13 N14 N15 M36 M45 N16 M46 N21 N22 Y1 N23 N24 N25 N26 N27 J3. -/
import Derived.Test.YtccifbbjbnjcfaaGreatDoorZw4
import Derived.Test.YtccifbbjbnjcfaaGreatDoorZw3
set_option linter.unusedSimpArgs false
set_option linter.unusedVariables false
/-
  Walks: disks: DiskRename.
-/
namespace Go.Proofs.YtccifbbjbnjcfaaGreatDoor
open Go Go.RowKit Go.Proofs
theorem asc_ix {bs : List BD} (h : ascB bs = true) {i j : Nat} {x y : BD} (hi : bs[i]? = some x) (hj : bs[j]? = some y) (e : x.name = y.name) : i = j := by
  have hp := List.pairwise_iff_getElem.1 (asc_pw h)
  have h1 := lt_of_some hi
  have h2 := lt_of_some hj
  rw [List.getElem?_eq_getElem h1] at hi
  rw [List.getElem?_eq_getElem h2] at hj
  cases hi; cases hj
  rcases Nat.lt_trichotomy i j with h3 | h3 | h3
  · exact absurd e (hp i j h1 h2 h3)
  · exact h3
  · exact absurd e.symm (hp j i h2 h1 h3)
theorem take_fm {α β : Type} {f : α → List β} {l : List α} {k : Nat} {x : α} (h : l[k]? = some x) : (l.take (k + 1)).flatMap f = (l.take k).flatMap f ++ f x := by
  rw [List.take_add_one, h]; simp
theorem rnF_le (a b : Int) (d : BD) : (rnF a b d).length ≤ 1 := by
  unfold rnF
  split
  · simp
  · split <;> simp
theorem fm_le (a b : Int) : ∀ l : List BD, (l.flatMap (rnF a b)).length ≤ l.length
  | [] => by simp
  | d :: r => by
    have h1 := rnF_le a b d
    have h2 := fm_le a b r
    simp only [List.flatMap_cons, List.length_append, List.length_cons]; omega
theorem disk_le3 : ∀ {bs : List BD} {last : Int}, 0 ≤ last → diskFrom last bs = true → bs.length + last ≤ 3 ∨ bs = []
  | [], _, _, _ => .inr rfl
  | d :: r, last, h0, h => by
    simp only [diskFrom, blobB, inB, Bool.and_eq_true, decide_eq_true_eq] at h
    refine .inl ?_
    rcases disk_le3 (last := d.name) (by omega) h.2 with h1 | rfl
    · simp only [List.length_cons]; omega
    · simp; omega
theorem disk_len {bs : List BD} (h : diskB bs = true) : bs.length ≤ 3 := by
  rcases disk_le3 (last := 0) (by omega) h with h1 | rfl
  · omega
  · simp
theorem disk_sm {bs : List BD} (h : diskB bs = true) : SmB bs := by
  have := disk_len h
  refine ⟨by omega, fun d hd => ?_⟩
  have := disk_okF h hd
  simp only [okF, Bool.and_eq_true, decide_eq_true_eq] at this
  exact ⟨by omega, by omega⟩
attribute [local irreducible] RWp AW run kPe pe Kt effA gd gu br retR RDp runD kPeD brW gW effD
set_option maxRecDepth 100000
theorem DiskRename_pc (bs : List BD) (hs : SmB bs) (a b : Int) : PC Tryz.prog 64 [blsA bs, iA a, iA b] (rX (.tup [.o 0 (renD bs a b).1.length, bA (renD bs a b).2]) [rowB (renD bs a b).1]) := by
  have hV := DiskValid_pc bs hs
  have hF := file_pc bs hs.n a
  have hI := in_pc b 1 3
  have hn := hs.n
  have eI : inB b 1 3 = inR b 1 3 := rfl
  refine pc_enter Tryz.func64 rfl rfl fun w0 fb => go_on ?_; (try simp only [Tryz.ntmps64, push_cast, simprocAttr])
  refine at_call ?_
  (try simp only [push_cast, simprocAttr])
  refine rwc_v hF ?_
  (try simp only [push_cast, simprocAttr])
  (refine at_dropS [6] (by refine wk_ok ?_ ?_ ?_ ?_ <;> simp [dropS, dropT, hasN, delL, hdel, leL, leH, idsL, idsA, idsR, inH, hget, sameRow]) ?_; simp only [dropS, dropT, hasN, delL, hdel, idsA, idsL, hget, List.map_cons, List.map_nil, List.all_cons, List.all_nil, List.append_nil, Bool.not_false, Bool.not_true, Bool.and_true, if_true, if_false, simprocAttr])
  refine go_on ?_
  (try simp only [push_cast, simprocAttr])
  (refine at_call ?_; (try simp only [push_cast, simprocAttr]); refine rwc_v (hV) (go_on ?_); (try simp only [push_cast, simprocAttr]))
  cases hv : diskB bs with
  | false =>
    (try simp only [hv, Bool.not_false, push_cast, simprocAttr])
    refine at_ret ?_; simp only [Tryz.results64, push_cast, simprocAttr]
    simp [rX, ixOf, renD, hv]
  | true =>
    (try simp only [hv, Bool.not_true, push_cast, simprocAttr])
    rcases ixB_cases bs a with ⟨h1, h2⟩ | ⟨j, d, h1, h2, h3⟩
    · (try simp only [h1, show ltI (-1) 0 = true from rfl, push_cast, simprocAttr])
      refine at_ret ?_; simp only [Tryz.results64, push_cast, simprocAttr]
      cases hb : inB b 1 3 <;> simp [rX, ixOf, renD, hv, h2, hb]
    · have hjl := lt_of_some h2
      have i3 : ltI (j : Int) 0 = false := ltI_f (by omega)
      (try simp only [h1, i3, push_cast, simprocAttr])
      (refine at_call ?_; (try simp only [push_cast, simprocAttr]); refine rwc_v (hI) (go_on ?_); (try simp only [push_cast, simprocAttr]))
      cases hb : inR b 1 3 with
      | false =>
        (try simp only [hb, Bool.not_false, push_cast, simprocAttr])
        refine at_ret ?_; simp only [Tryz.results64, push_cast, simprocAttr]
        simp [rX, ixOf, renD, eI, hb]
      | true =>
        have ha := ((diskB_iff _).1 hv).2
        have h3n := disk_len hv
        obtain ⟨hdn, hdm⟩ := getB_name h3
        have hb3 : 1 ≤ b ∧ b ≤ 3 := by simp only [inR, Bool.and_eq_true, decide_eq_true_eq] at hb; exact hb
        have hr : renD bs a b = (withB (bs.filter fun x => decide (x.name ≠ a)) ⟨b, d.safe, d.fresh⟩, true) := by unfold renD; rw [hv, eI, hb, h3]; rfl
        rw [hr]
        (try simp only [hb, Bool.not_true, push_cast, simprocAttr])
        refine at_loop (X := Nat) (fun k => [(9, .o 9 ((bs.take k).flatMap (rnF a b)).length), (29, iA k)]) (fun k => [(9, rowB ((bs.take k).flatMap (rnF a b)))]) (fun k => k ≤ bs.length) (fun k => bs.length - k) 0 (Nat.zero_le _) ?_ ?_
        · (refine wk_ok ?_ ?_ ?_ ?_ <;> simp [leL, leH, idsL, idsA, idsR, inH, hget, sameRow, upA, hvA, dsts, dstO, setA_0, setA_1, setA_8, List.append, List.cons_append, List.nil_append])
        · intro k hk
          simp only [upA, hvA, dsts, dstO, setA_0, setA_1, setA_8, List.append, List.cons_append, List.nil_append]
          refine go_on ?_
          (try simp only [List.length_map, push_cast, simprocAttr])
          have hfl := fm_le a b (bs.take k)
          have hfl2 : (bs.take k).length ≤ k := by rw [List.length_take]; omega
          refine at_b (fun hg => ?_) (fun hg => ?_)
          · have hlt := lt_tt hg
            obtain ⟨x, hx⟩ := get_of_lt hlt
            have i1 := ix_n hx
            have i2 := map_get bC hx
            have hC := blobClone_d x (hs.d x (mem_of_get hx))
            unfold blobA at hC
            simp only [bC] at i2 hC
            have w1 := wr ((k : Int) + 1) (by omega)
            have e := take_fm (f := rnF a b) hx
            (try simp only [hg, i1, i2, push_cast, simprocAttr])
            by_cases hkj : k = j
            · have hxa : x.name = a := by
                rw [hkj, h2] at hx
                cases hx
                exact hdn
              have es : rnF a b x = [⟨b, x.safe, x.fresh⟩] := by unfold rnF; rw [if_pos hxa]
              have g1 : eqI (k : Int) j = true := eqI_t (by omega)
              (try simp only [g1, push_cast, simprocAttr])
              ((try simp only [push_cast, simprocAttr]); refine at_share2 (by simp [isC2, isC]) (by first | rfl | simp [ren]) (hC) (go_on ?_); (try simp only [push_cast, simprocAttr]))
              refine at_chk (by omega) ?_
              (try simp only [w1, push_cast, simprocAttr])
              refine at_fin ⟨k + 1, by omega, by omega, ?_⟩
              rw [e, es, List.length_append]
              (refine wk_ok ?_ ?_ ?_ ?_ <;> simp [bC, leL, leH, idsL, idsA, idsR, inH, hget, sameRow, upA, hvA, dsts, dstO, setA_0, setA_1, setA_8, List.append, List.cons_append, List.nil_append])
            · have hxa : x.name ≠ a := fun h => hkj (asc_ix ha hx h2 (h.trans hdn.symm))
              have g1 : eqI (k : Int) j = false := eqI_f (by omega)
              by_cases hxb : x.name = b
              · have es : rnF a b x = [] := by unfold rnF; rw [if_neg hxa, if_pos hxb]
                have g2 : eqI x.name b = true := eqI_t hxb
                (try simp only [g1, g2, Bool.not_true, w1, push_cast, simprocAttr])
                refine at_fin ⟨k + 1, by omega, by omega, ?_⟩
                rw [e, es, List.append_nil]
                (refine wk_ok ?_ ?_ ?_ ?_ <;> simp [leL, leH, idsL, idsA, idsR, inH, hget, sameRow, upA, hvA, dsts, dstO, setA_0, setA_1, setA_8, List.append, List.cons_append, List.nil_append])
              · have es : rnF a b x = [x] := by unfold rnF; rw [if_neg hxa, if_neg hxb]
                have g2 : eqI x.name b = false := eqI_f hxb
                (try simp only [g1, g2, Bool.not_false, push_cast, simprocAttr])
                ((try simp only [push_cast, simprocAttr]); refine at_share2 (by simp [isC2, isC]) (by first | rfl | simp [ren]) (hC) (go_on ?_); (try simp only [push_cast, simprocAttr]))
                refine at_chk (by omega) ?_
                (try simp only [w1, push_cast, simprocAttr])
                refine at_fin ⟨k + 1, by omega, by omega, ?_⟩
                rw [e, es, List.length_append]
                (refine wk_ok ?_ ?_ ?_ ?_ <;> simp [bC, leL, leH, idsL, idsA, idsR, inH, hget, sameRow, upA, hvA, dsts, dstO, setA_0, setA_1, setA_8, List.append, List.cons_append, List.nil_append])
          · have h5 := lt_ff hg
            have hk' : k = bs.length := by omega
            have hT : bs.take k = bs := by rw [hk', List.take_length]
            rw [hT]
            have hfl3 := fm_le a b bs
            obtain ⟨L, hL⟩ : ∃ L, L = bs.flatMap (rnF a b) := ⟨_, rfl⟩
            have hS := sorted_pcl L (by rw [hL]; omega) fun y hy => by
              rw [hL, List.mem_flatMap] at hy
              obtain ⟨z, hz, hy⟩ := hy
              have hz := disk_okF hv hz
              simp only [okF, inB, Bool.and_eq_true, decide_eq_true_eq] at hz
              rcases mem_rnF.1 hy with ⟨_, rfl⟩ | ⟨_, _, rfl⟩
              · simp only; omega
              · omega
            rw [← hL]
            (try simp only [hg, push_cast, simprocAttr])
            (try simp only [push_cast, simprocAttr]); refine call_lend [9] none (lr := [rowB L]) (by simp [ndB]) (by first | rfl | simp [rowsOf, hget, rdR, rowS, rowN, rowC, sC, ndC, cmC]) (by simp [idsL, idsA]) (by simp [mvN]) (by simpa [rnA, ixOf] using hS) ?_
            rintro rv lr' rows ⟨L', g1, g2, rfl, rfl, rfl⟩
            have hll := g1.length_eq
            have hLL := ren_out hv h3 hb (by rw [← hL]; exact g1) g2
            (refine ⟨by simp [shB, mvF, hll], by simp [frB, baseOf], go_on ?_⟩; simp only [killA, killH, killRow, push_cast, simprocAttr])
            refine at_ret ?_; simp only [Tryz.results64, push_cast, simprocAttr]
            rw [← hLL]
            simp [rX, ixOf, hll]
theorem DiskRename_d (bs : List BD) (hs : SmB bs) (a b : Int) : PC Tryz.prog 64 [blsA bs, iA a, iA b] (vX (.tup [blsA (renD bs a b).1, bA (renD bs a b).2])) := by
  have := (DiskRename_pc bs hs a b).frzX
  simpa [viewN, hpOf, hget, isC, tk] using this
end Go.Proofs.YtccifbbjbnjcfaaGreatDoor
/-
  Walks: disks: the reference's small functions; DiskValid.
-/
namespace Go.Proofs.YtccifbbjbnjcfaaGreatDoor
open Go Go.RowKit Go.Proofs
attribute [local irreducible] RWp AW run kPe pe Kt effA gd gu br retR RDp runD kPeD brW gW effD
set_option maxRecDepth 100000
theorem l4Bytes_pc (l : List Int) (hl : l.length < 4294967281) : PC Tryz.prog 85 [intsA l] (vB (bytesB l)) := by
  refine pc_enter Tryz.func85 rfl rfl fun w0 fb => go_on ?_; (try simp only [Tryz.ntmps85, push_cast, simprocAttr])
  refine at_loop (X := Nat) (fun k => [(3, iA k)]) (fun _ => []) (fun k => k ≤ l.length ∧ bytesB l = bytesB (l.drop k)) (fun k => l.length - k) 0 ⟨Nat.zero_le _, rfl⟩ ?_ ?_
  · (refine wk_ok ?_ ?_ ?_ ?_ <;> simp [leL, leH, idsL, idsA, idsR, inH, hget, sameRow, upA, hvA, dsts, dstO, setA_0, setA_1, setA_8, List.append, List.cons_append, List.nil_append])
  · rintro k ⟨h1, h2⟩
    simp only [upA, hvA, dsts, dstO, setA_0, setA_1, setA_8, List.append, List.cons_append, List.nil_append]
    refine go_on ?_
    (try simp only [List.length_map, push_cast, simprocAttr])
    refine at_b (fun hg => ?_) (fun hg => ?_)
    · have hlt := lt_tt hg
      obtain ⟨x, hk⟩ := get_of_lt hlt
      have i1 := ix_n hk
      have i2 := map_get inC hk
      simp only [inC] at i2
      rw [drop_of_get hk] at h2
      have hI := l6In_pc x 0 255
      have w1 := wr ((k : Int) + 1) (by omega)
      have e0 : bytesB (x :: l.drop (k + 1)) = (inR x 0 255 && bytesB (l.drop (k + 1))) := rfl
      rw [e0] at h2
      (try simp only [hg, i1, i2, push_cast, simprocAttr])
      (refine at_call ?_; (try simp only [push_cast, simprocAttr]); refine rwc_v (hI) (go_on ?_); (try simp only [push_cast, simprocAttr]))
      cases e : inR x 0 255 with
      | false =>
        (try simp only [e, Bool.not_false, push_cast, simprocAttr])
        refine at_ret ?_; simp only [Tryz.results85, push_cast, simprocAttr]
        simp [vX, h2, e]
      | true =>
        (try simp only [e, Bool.not_true, w1, push_cast, simprocAttr])
        refine at_fin ⟨k + 1, ⟨by omega, by rw [h2, e]; rfl⟩, by omega, ?_⟩
        (refine wk_ok ?_ ?_ ?_ ?_ <;> simp [leL, leH, idsL, idsA, idsR, inH, hget, sameRow, upA, hvA, dsts, dstO, setA_0, setA_1, setA_8, List.append, List.cons_append, List.nil_append])
    · have h3 := lt_ff hg
      (try simp only [hg, push_cast, simprocAttr])
      refine at_ret ?_; simp only [Tryz.results85, push_cast, simprocAttr]
      rw [List.drop_of_length_le h3] at h2
      have h2' : bytesB l = true := by rw [h2]; rfl
      simp [vX, h2']
theorem specDiskValid_pc (bs : List BD) (hs : SmB bs) : PC Tryz.prog 56 [blsA bs] (vB (diskB bs)) := by
  have hn := hs.n
  refine pc_enter Tryz.func56 rfl rfl fun w0 fb => go_on ?_; (try simp only [Tryz.ntmps56, push_cast, simprocAttr])
  refine at_loop (X := Nat × Int) (fun x => [(3, iA x.1)]) (fun _ => []) (fun x => x.1 ≤ bs.length ∧ 0 ≤ x.2 ∧ x.2 ≤ 3 ∧ diskB bs = diskFrom x.2 (bs.drop x.1) ∧ (x.1 = 0 ∧ x.2 = 0 ∨ ∃ m d, x.1 = m + 1 ∧ bs[m]? = some d ∧ d.name = x.2)) (fun x => bs.length - x.1) (0, 0) ⟨Nat.zero_le _, by simp, by simp, rfl, .inl ⟨rfl, rfl⟩⟩ ?_ ?_
  · (refine wk_ok ?_ ?_ ?_ ?_ <;> simp [leL, leH, idsL, idsA, idsR, inH, hget, sameRow, upA, hvA, dsts, dstO, setA_0, setA_1, setA_8, List.append, List.cons_append, List.nil_append])
  · rintro ⟨k, last⟩ ⟨h1, h2, h3, h4, h5⟩
    simp only at h1 h2 h3 h4 h5
    simp only [upA, hvA, dsts, dstO, setA_0, setA_1, setA_8, List.append, List.cons_append, List.nil_append]
    refine go_on ?_
    (try simp only [List.length_map, push_cast, simprocAttr])
    refine at_b (fun hg => ?_) (fun hg => ?_)
    · have hlt := lt_tt hg
      obtain ⟨d, hk⟩ := get_of_lt hlt
      have i1 := ix_n hk
      have i2 := map_get bC hk
      simp only [bC] at i2
      obtain ⟨hds, hdf⟩ := hs.d d (mem_of_get hk)
      have hI := l6In_pc d.name 1 3
      have hS := l4Bytes_pc d.safe (by omega)
      have hF := l4Bytes_pc d.fresh (by omega)
      have w1 := wr ((k : Int) + 1) (by omega)
      have w3 := wr ((d.safe.length : Int) + d.fresh.length) (by omega)
      rw [drop_of_get hk] at h4
      simp only [diskFrom, blobB] at h4
      have eI : inB d.name (last + 1) 3 = (inR d.name 1 3 && decide (last < d.name)) := by
        unfold inB inR
        rw [Bool.eq_iff_iff]
        simp only [Bool.and_eq_true, decide_eq_true_eq]
        omega
      rw [eI] at h4
      (try simp only [hg, i1, i2, push_cast, simprocAttr])
      cases e1 : inR d.name 1 3 with
      | false =>
        refine at_draw rfl (by kernel_rfl) ?_; simp only [push_cast, simprocAttr]
        repeat' first | (refine at_bWn (fun hb => ?_) (fun hb => ?_) <;> simp only [e1, Bool.not_false, hb, push_cast, simprocAttr]) | (refine at_bW (fun hb => ?_) (fun hb => ?_) <;> simp only [e1, Bool.not_false, hb, push_cast, simprocAttr]) | (refine at_callD (by simp [clB, idsL, idsA, hget]) ?_; (try simp only [push_cast, simprocAttr]); first | (refine rcd_v (hI) ?_; simp only [e1, Bool.not_false, push_cast, simprocAttr]) | (refine rcd_d (hI) (by simp [flatV, flatL, ctC, ndC, cmC]) (by simp [ren, ctC, ndC, cmC]) ?_; simp only [e1, Bool.not_false, push_cast, simprocAttr])) | (refine at_done (by kernel_rfl) (by kernel_rfl) (go_on ?_); (try simp only [e1, Bool.not_false, push_cast, simprocAttr]))
        (try simp only [e1, Bool.not_false, push_cast, simprocAttr])
        refine at_ret ?_; simp only [Tryz.results56, push_cast, simprocAttr]
        simp [vX, h4, e1]
      | true =>
        have hnm : 1 ≤ d.name ∧ d.name ≤ 3 := by simp only [inR, Bool.and_eq_true, decide_eq_true_eq] at e1; omega
        cases e2 : bytesB d.safe with
        | false =>
          refine at_draw rfl (by kernel_rfl) ?_; simp only [push_cast, simprocAttr]
          repeat' first | (refine at_bWn (fun hb => ?_) (fun hb => ?_) <;> simp only [e1, e2, Bool.not_false, Bool.not_true, hb, push_cast, simprocAttr]) | (refine at_bW (fun hb => ?_) (fun hb => ?_) <;> simp only [e1, e2, Bool.not_false, Bool.not_true, hb, push_cast, simprocAttr]) | (refine at_callD (by simp [clB, idsL, idsA, hget]) ?_; (try simp only [push_cast, simprocAttr]); first | (refine rcd_v (hI) ?_; simp only [e1, e2, Bool.not_false, Bool.not_true, push_cast, simprocAttr]) | (refine rcd_d (hI) (by simp [flatV, flatL, ctC, ndC, cmC]) (by simp [ren, ctC, ndC, cmC]) ?_; simp only [e1, e2, Bool.not_false, Bool.not_true, push_cast, simprocAttr]) | (refine rcd_v (hS) ?_; simp only [e1, e2, Bool.not_false, Bool.not_true, push_cast, simprocAttr]) | (refine rcd_d (hS) (by simp [flatV, flatL, ctC, ndC, cmC]) (by simp [ren, ctC, ndC, cmC]) ?_; simp only [e1, e2, Bool.not_false, Bool.not_true, push_cast, simprocAttr])) | (refine at_done (by kernel_rfl) (by kernel_rfl) (go_on ?_); (try simp only [e1, e2, Bool.not_false, Bool.not_true, push_cast, simprocAttr]))
          (try simp only [Bool.not_false, push_cast, simprocAttr])
          refine at_ret ?_; simp only [Tryz.results56, push_cast, simprocAttr]
          simp [vX, h4, e2]
        | true =>
          cases e3 : bytesB d.fresh with
          | false =>
            refine at_draw rfl (by kernel_rfl) ?_; simp only [push_cast, simprocAttr]
            repeat' first | (refine at_bWn (fun hb => ?_) (fun hb => ?_) <;> simp only [e1, e2, e3, Bool.not_false, Bool.not_true, hb, push_cast, simprocAttr]) | (refine at_bW (fun hb => ?_) (fun hb => ?_) <;> simp only [e1, e2, e3, Bool.not_false, Bool.not_true, hb, push_cast, simprocAttr]) | (refine at_callD (by simp [clB, idsL, idsA, hget]) ?_; (try simp only [push_cast, simprocAttr]); first | (refine rcd_v (hI) ?_; simp only [e1, e2, e3, Bool.not_false, Bool.not_true, push_cast, simprocAttr]) | (refine rcd_d (hI) (by simp [flatV, flatL, ctC, ndC, cmC]) (by simp [ren, ctC, ndC, cmC]) ?_; simp only [e1, e2, e3, Bool.not_false, Bool.not_true, push_cast, simprocAttr]) | (refine rcd_v (hS) ?_; simp only [e1, e2, e3, Bool.not_false, Bool.not_true, push_cast, simprocAttr]) | (refine rcd_d (hS) (by simp [flatV, flatL, ctC, ndC, cmC]) (by simp [ren, ctC, ndC, cmC]) ?_; simp only [e1, e2, e3, Bool.not_false, Bool.not_true, push_cast, simprocAttr]) | (refine rcd_v (hF) ?_; simp only [e1, e2, e3, Bool.not_false, Bool.not_true, push_cast, simprocAttr]) | (refine rcd_d (hF) (by simp [flatV, flatL, ctC, ndC, cmC]) (by simp [ren, ctC, ndC, cmC]) ?_; simp only [e1, e2, e3, Bool.not_false, Bool.not_true, push_cast, simprocAttr])) | (refine at_done (by kernel_rfl) (by kernel_rfl) (go_on ?_); (try simp only [e1, e2, e3, Bool.not_false, Bool.not_true, push_cast, simprocAttr]))
            (try simp only [Bool.not_false, push_cast, simprocAttr])
            refine at_ret ?_; simp only [Tryz.results56, push_cast, simprocAttr]
            simp [vX, h4, e3]
          | true =>
            by_cases h400 : d.safe.length + d.fresh.length ≤ 400
            · have e4 : ltI 400 ((d.safe.length : Int) + d.fresh.length) = false := ltI_f (by omega)
              rcases h5 with ⟨rfl, rfl⟩ | ⟨m, p, hkm, hm, hpl⟩
              · have e5 : ltI 0 ((0 : Nat) : Int) = false := rfl
                refine at_draw rfl (by kernel_rfl) ?_; simp only [push_cast, simprocAttr]
                repeat' first | (refine at_bWn (fun hb => ?_) (fun hb => ?_) <;> simp only [e1, e2, e3, e4, e5, show ltI 0 0 = false from rfl, w3, List.length_map, Bool.not_false, Bool.not_true, hb, push_cast, simprocAttr]) | (refine at_bW (fun hb => ?_) (fun hb => ?_) <;> simp only [e1, e2, e3, e4, e5, show ltI 0 0 = false from rfl, w3, List.length_map, Bool.not_false, Bool.not_true, hb, push_cast, simprocAttr]) | (refine at_callD (by simp [clB, idsL, idsA, hget]) ?_; (try simp only [push_cast, simprocAttr]); first | (refine rcd_v (hI) ?_; simp only [e1, e2, e3, e4, e5, show ltI 0 0 = false from rfl, w3, List.length_map, Bool.not_false, Bool.not_true, push_cast, simprocAttr]) | (refine rcd_d (hI) (by simp [flatV, flatL, ctC, ndC, cmC]) (by simp [ren, ctC, ndC, cmC]) ?_; simp only [e1, e2, e3, e4, e5, show ltI 0 0 = false from rfl, w3, List.length_map, Bool.not_false, Bool.not_true, push_cast, simprocAttr]) | (refine rcd_v (hS) ?_; simp only [e1, e2, e3, e4, e5, show ltI 0 0 = false from rfl, w3, List.length_map, Bool.not_false, Bool.not_true, push_cast, simprocAttr]) | (refine rcd_d (hS) (by simp [flatV, flatL, ctC, ndC, cmC]) (by simp [ren, ctC, ndC, cmC]) ?_; simp only [e1, e2, e3, e4, e5, show ltI 0 0 = false from rfl, w3, List.length_map, Bool.not_false, Bool.not_true, push_cast, simprocAttr]) | (refine rcd_v (hF) ?_; simp only [e1, e2, e3, e4, e5, show ltI 0 0 = false from rfl, w3, List.length_map, Bool.not_false, Bool.not_true, push_cast, simprocAttr]) | (refine rcd_d (hF) (by simp [flatV, flatL, ctC, ndC, cmC]) (by simp [ren, ctC, ndC, cmC]) ?_; simp only [e1, e2, e3, e4, e5, show ltI 0 0 = false from rfl, w3, List.length_map, Bool.not_false, Bool.not_true, push_cast, simprocAttr])) | (refine at_done (by kernel_rfl) (by kernel_rfl) (go_on ?_); (try simp only [e1, e2, e3, e4, e5, show ltI 0 0 = false from rfl, w3, List.length_map, Bool.not_false, Bool.not_true, push_cast, simprocAttr]))
                (try simp only [w1, show IntKind.i64.wrap (0 + 1) = 1 from rfl, show IntKind.i64.wrap 1 = 1 from rfl, push_cast, simprocAttr])
                refine at_fin ⟨(0 + 1, d.name), ⟨by dsimp only; omega, by dsimp only; omega, by dsimp only; omega, ?_, .inr ⟨0, d, rfl, hk, rfl⟩⟩, by dsimp only; omega, ?_⟩
                · rw [h4]
                  have : decide ((0 : Int) < d.name) = true := by simp; omega
                  simp [e1, e2, e3, h400, this]
                · (refine wk_ok ?_ ?_ ?_ ?_ <;> simp [show IntKind.i64.wrap 1 = 1 from rfl, leL, leH, idsL, idsA, idsR, inH, hget, sameRow, upA, hvA, dsts, dstO, setA_0, setA_1, setA_8, List.append, List.cons_append, List.nil_append])
              · have e5 : ltI 0 (k : Int) = true := ltI_t (by omega)
                have w2 : IntKind.i64.wrap ((k : Int) - 1) = (m : Int) := by rw [wr _ (by omega)]; omega
                have j1 := ix_n hm
                have j2 := map_get bC hm
                simp only [bC] at j2
                by_cases hlt2 : last < d.name
                · have e6 : leI d.name p.name = false := leI_f (by omega)
                  refine at_draw rfl (by kernel_rfl) ?_; simp only [push_cast, simprocAttr]
                  repeat' first | (refine at_bWn (fun hb => ?_) (fun hb => ?_) <;> simp only [e1, e2, e3, e4, e5, e6, w2, w3, j1, j2, List.length_map, Bool.not_false, Bool.not_true, hb, push_cast, simprocAttr]) | (refine at_bW (fun hb => ?_) (fun hb => ?_) <;> simp only [e1, e2, e3, e4, e5, e6, w2, w3, j1, j2, List.length_map, Bool.not_false, Bool.not_true, hb, push_cast, simprocAttr]) | (refine at_callD (by simp [clB, idsL, idsA, hget]) ?_; (try simp only [push_cast, simprocAttr]); first | (refine rcd_v (hI) ?_; simp only [e1, e2, e3, e4, e5, e6, w2, w3, j1, j2, List.length_map, Bool.not_false, Bool.not_true, push_cast, simprocAttr]) | (refine rcd_d (hI) (by simp [flatV, flatL, ctC, ndC, cmC]) (by simp [ren, ctC, ndC, cmC]) ?_; simp only [e1, e2, e3, e4, e5, e6, w2, w3, j1, j2, List.length_map, Bool.not_false, Bool.not_true, push_cast, simprocAttr]) | (refine rcd_v (hS) ?_; simp only [e1, e2, e3, e4, e5, e6, w2, w3, j1, j2, List.length_map, Bool.not_false, Bool.not_true, push_cast, simprocAttr]) | (refine rcd_d (hS) (by simp [flatV, flatL, ctC, ndC, cmC]) (by simp [ren, ctC, ndC, cmC]) ?_; simp only [e1, e2, e3, e4, e5, e6, w2, w3, j1, j2, List.length_map, Bool.not_false, Bool.not_true, push_cast, simprocAttr]) | (refine rcd_v (hF) ?_; simp only [e1, e2, e3, e4, e5, e6, w2, w3, j1, j2, List.length_map, Bool.not_false, Bool.not_true, push_cast, simprocAttr]) | (refine rcd_d (hF) (by simp [flatV, flatL, ctC, ndC, cmC]) (by simp [ren, ctC, ndC, cmC]) ?_; simp only [e1, e2, e3, e4, e5, e6, w2, w3, j1, j2, List.length_map, Bool.not_false, Bool.not_true, push_cast, simprocAttr])) | (refine at_done (by kernel_rfl) (by kernel_rfl) (go_on ?_); (try simp only [e1, e2, e3, e4, e5, e6, w2, w3, j1, j2, List.length_map, Bool.not_false, Bool.not_true, push_cast, simprocAttr]))
                  (try simp only [w1, push_cast, simprocAttr])
                  refine at_fin ⟨(k + 1, d.name), ⟨by dsimp only; omega, by dsimp only; omega, by dsimp only; omega, ?_, .inr ⟨k, d, rfl, hk, rfl⟩⟩, by dsimp only; omega, ?_⟩
                  · rw [h4]; simp [e1, e2, e3, h400, hlt2]
                  · (refine wk_ok ?_ ?_ ?_ ?_ <;> simp [leL, leH, idsL, idsA, idsR, inH, hget, sameRow, upA, hvA, dsts, dstO, setA_0, setA_1, setA_8, List.append, List.cons_append, List.nil_append])
                · have e6 : leI d.name p.name = true := leI_t (by omega)
                  refine at_draw rfl (by kernel_rfl) ?_; simp only [push_cast, simprocAttr]
                  repeat' first | (refine at_bWn (fun hb => ?_) (fun hb => ?_) <;> simp only [e1, e2, e3, e4, e5, e6, w2, w3, j1, j2, List.length_map, Bool.not_false, Bool.not_true, hb, push_cast, simprocAttr]) | (refine at_bW (fun hb => ?_) (fun hb => ?_) <;> simp only [e1, e2, e3, e4, e5, e6, w2, w3, j1, j2, List.length_map, Bool.not_false, Bool.not_true, hb, push_cast, simprocAttr]) | (refine at_callD (by simp [clB, idsL, idsA, hget]) ?_; (try simp only [push_cast, simprocAttr]); first | (refine rcd_v (hI) ?_; simp only [e1, e2, e3, e4, e5, e6, w2, w3, j1, j2, List.length_map, Bool.not_false, Bool.not_true, push_cast, simprocAttr]) | (refine rcd_d (hI) (by simp [flatV, flatL, ctC, ndC, cmC]) (by simp [ren, ctC, ndC, cmC]) ?_; simp only [e1, e2, e3, e4, e5, e6, w2, w3, j1, j2, List.length_map, Bool.not_false, Bool.not_true, push_cast, simprocAttr]) | (refine rcd_v (hS) ?_; simp only [e1, e2, e3, e4, e5, e6, w2, w3, j1, j2, List.length_map, Bool.not_false, Bool.not_true, push_cast, simprocAttr]) | (refine rcd_d (hS) (by simp [flatV, flatL, ctC, ndC, cmC]) (by simp [ren, ctC, ndC, cmC]) ?_; simp only [e1, e2, e3, e4, e5, e6, w2, w3, j1, j2, List.length_map, Bool.not_false, Bool.not_true, push_cast, simprocAttr]) | (refine rcd_v (hF) ?_; simp only [e1, e2, e3, e4, e5, e6, w2, w3, j1, j2, List.length_map, Bool.not_false, Bool.not_true, push_cast, simprocAttr]) | (refine rcd_d (hF) (by simp [flatV, flatL, ctC, ndC, cmC]) (by simp [ren, ctC, ndC, cmC]) ?_; simp only [e1, e2, e3, e4, e5, e6, w2, w3, j1, j2, List.length_map, Bool.not_false, Bool.not_true, push_cast, simprocAttr])) | (refine at_done (by kernel_rfl) (by kernel_rfl) (go_on ?_); (try simp only [e1, e2, e3, e4, e5, e6, w2, w3, j1, j2, List.length_map, Bool.not_false, Bool.not_true, push_cast, simprocAttr]))
                  (try simp only [Bool.not_false, push_cast, simprocAttr])
                  refine at_ret ?_; simp only [Tryz.results56, push_cast, simprocAttr]
                  simp [vX, h4, hlt2]
            · have e4 : ltI 400 ((d.safe.length : Int) + d.fresh.length) = true := ltI_t (by omega)
              refine at_draw rfl (by kernel_rfl) ?_; simp only [push_cast, simprocAttr]
              repeat' first | (refine at_bWn (fun hb => ?_) (fun hb => ?_) <;> simp only [e1, e2, e3, e4, w3, List.length_map, Bool.not_false, Bool.not_true, hb, push_cast, simprocAttr]) | (refine at_bW (fun hb => ?_) (fun hb => ?_) <;> simp only [e1, e2, e3, e4, w3, List.length_map, Bool.not_false, Bool.not_true, hb, push_cast, simprocAttr]) | (refine at_callD (by simp [clB, idsL, idsA, hget]) ?_; (try simp only [push_cast, simprocAttr]); first | (refine rcd_v (hI) ?_; simp only [e1, e2, e3, e4, w3, List.length_map, Bool.not_false, Bool.not_true, push_cast, simprocAttr]) | (refine rcd_d (hI) (by simp [flatV, flatL, ctC, ndC, cmC]) (by simp [ren, ctC, ndC, cmC]) ?_; simp only [e1, e2, e3, e4, w3, List.length_map, Bool.not_false, Bool.not_true, push_cast, simprocAttr]) | (refine rcd_v (hS) ?_; simp only [e1, e2, e3, e4, w3, List.length_map, Bool.not_false, Bool.not_true, push_cast, simprocAttr]) | (refine rcd_d (hS) (by simp [flatV, flatL, ctC, ndC, cmC]) (by simp [ren, ctC, ndC, cmC]) ?_; simp only [e1, e2, e3, e4, w3, List.length_map, Bool.not_false, Bool.not_true, push_cast, simprocAttr]) | (refine rcd_v (hF) ?_; simp only [e1, e2, e3, e4, w3, List.length_map, Bool.not_false, Bool.not_true, push_cast, simprocAttr]) | (refine rcd_d (hF) (by simp [flatV, flatL, ctC, ndC, cmC]) (by simp [ren, ctC, ndC, cmC]) ?_; simp only [e1, e2, e3, e4, w3, List.length_map, Bool.not_false, Bool.not_true, push_cast, simprocAttr])) | (refine at_done (by kernel_rfl) (by kernel_rfl) (go_on ?_); (try simp only [e1, e2, e3, e4, w3, List.length_map, Bool.not_false, Bool.not_true, push_cast, simprocAttr]))
              (try simp only [Bool.not_false, push_cast, simprocAttr])
              refine at_ret ?_; simp only [Tryz.results56, push_cast, simprocAttr]
              simp [vX, h4, h400]
    · have h5 := lt_ff hg
      (try simp only [hg, push_cast, simprocAttr])
      refine at_ret ?_; simp only [Tryz.results56, push_cast, simprocAttr]
      rw [List.drop_of_length_le h5] at h4
      simp [vX, h4, diskFrom]
end Go.Proofs.YtccifbbjbnjcfaaGreatDoor
/-
  Walks: disks: the reference's copies, l31Without, l31With.
-/
namespace Go.Proofs.YtccifbbjbnjcfaaGreatDoor
open Go Go.RowKit Go.Proofs
attribute [local irreducible] RWp AW run kPe pe Kt effA gd gu br retR RDp runD kPeD brW gW effD
set_option maxRecDepth 100000
theorem l31Find_pc (bs : List BD) (hn : bs.length < 4294967281) (nm : Int) : PC Tryz.prog 81 [blsA bs, iA nm] (vI (ixB bs nm)) := by
  refine pc_enter Tryz.func81 rfl rfl fun w0 fb => go_on ?_; (try simp only [Tryz.ntmps81, push_cast, simprocAttr])
  refine at_loop (X := Nat) (fun k => [(5, iA k)]) (fun _ => []) (fun k => k ≤ bs.length ∧ ixB bs nm = idxF (fun d => decide (d.name = nm)) k (bs.drop k)) (fun k => bs.length - k) 0 ⟨Nat.zero_le _, rfl⟩ ?_ ?_
  · (refine wk_ok ?_ ?_ ?_ ?_ <;> simp [leL, leH, idsL, idsA, idsR, inH, hget, sameRow, upA, hvA, dsts, dstO, setA_0, setA_1, setA_8, List.append, List.cons_append, List.nil_append])
  · rintro k ⟨h1, h2⟩
    simp only [upA, hvA, dsts, dstO, setA_0, setA_1, setA_8, List.append, List.cons_append, List.nil_append]
    refine go_on ?_
    (try simp only [List.length_map, push_cast, simprocAttr])
    refine at_b (fun hg => ?_) (fun hg => ?_)
    · have hlt := lt_tt hg
      obtain ⟨x, hk⟩ := get_of_lt hlt
      have i1 := ix_n hk
      have i2 := map_get bC hk
      simp only [bC] at i2
      rw [drop_of_get hk] at h2
      have w1 := wr ((k : Int) + 1) (by omega)
      (try simp only [hg, i1, i2, push_cast, simprocAttr])
      by_cases hx : x.name = nm
      · have e := eqI_t hx
        (try simp only [e, push_cast, simprocAttr])
        refine at_ret ?_; simp only [Tryz.results81, push_cast, simprocAttr]
        rw [h2]
        simp [vX, idxF, hx]
      · have e := eqI_f hx
        (try simp only [e, w1, push_cast, simprocAttr])
        refine at_fin ⟨k + 1, ⟨by omega, by rw [h2]; simp [idxF, hx]⟩, by omega, ?_⟩
        (refine wk_ok ?_ ?_ ?_ ?_ <;> simp [leL, leH, idsL, idsA, idsR, inH, hget, sameRow, upA, hvA, dsts, dstO, setA_0, setA_1, setA_8, List.append, List.cons_append, List.nil_append])
    · have h3 := lt_ff hg
      (try simp only [hg, push_cast, simprocAttr])
      refine at_ret ?_; simp only [Tryz.results81, push_cast, simprocAttr]
      rw [List.drop_of_length_le h3] at h2
      rw [h2]
      simp [vX, idxF]
theorem l31Copy_pc (d : BD) (h : SmD d) : PC Tryz.prog 86 [blobA d] (rX (.agg [iA d.name, .o 0 d.safe.length, .o 1 d.fresh.length]) [rowZ d.safe, rowZ d.fresh]) := by
  have h1 := h.s
  have h2 := h.f
  unfold blobA bC
  refine pc_enter Tryz.func86 rfl rfl fun w0 fb => go_on ?_; (try simp only [Tryz.ntmps86, push_cast, simprocAttr])
  refine at_draw rfl (by kernel_rfl) ?_; simp only [push_cast, simprocAttr]
  (try simp only [effD_app2, push_cast, simprocAttr])
  refine at_chkD (by omega) ?_
  (try simp only [effD_app2, push_cast, simprocAttr])
  refine at_chkD (by omega) ?_
  (try simp only [push_cast, simprocAttr])
  refine at_done (by kernel_rfl) (by kernel_rfl) (go_on ?_)
  (try simp only [push_cast, simprocAttr])
  refine at_ret ?_; simp only [Tryz.results86, push_cast, simprocAttr]
  simp [rX, ixOf]
theorem l31Copy_d (d : BD) (h : SmD d) : PC Tryz.prog 86 [blobA d] (vX (blobA d)) := by
  have := (l31Copy_pc d h).frzX
  unfold blobA bC at *
  simpa [viewN, hpOf, hget, isC, tk] using this
theorem l31Without_pc (bs : List BD) (hs : SmB bs) (nm : Int) : PC Tryz.prog 57 [blsA bs, iA nm] (rX (.o 0 (bs.filter fun x => decide (x.name ≠ nm)).length) [rowB (bs.filter fun x => decide (x.name ≠ nm))]) := by
  have hn := hs.n
  refine pc_enter Tryz.func57 rfl rfl fun w0 fb => go_on ?_; (try simp only [Tryz.ntmps57, push_cast, simprocAttr])
  refine at_loop (X := Nat) (fun k => [(5, .o 7 ((bs.take k).filter fun x => decide (x.name ≠ nm)).length), (6, iA k), (7, .any)]) (fun k => [(4, ⟨79, 3, [], true⟩), (7, rowB ((bs.take k).filter fun x => decide (x.name ≠ nm)))]) (fun k => k ≤ bs.length) (fun k => bs.length - k) 0 (Nat.zero_le _) ?_ ?_
  · (refine wk_ok ?_ ?_ ?_ ?_ <;> simp [leL, leH, idsL, idsA, idsR, inH, hget, sameRow, upA, hvA, dsts, dstO, setA_0, setA_1, setA_8, List.append, List.cons_append, List.nil_append])
  · rintro k hk
    simp only [upA, hvA, dsts, dstO, setA_0, setA_1, setA_8, List.append, List.cons_append, List.nil_append]
    refine go_on ?_
    (try simp only [List.length_map, push_cast, simprocAttr])
    have hfl := List.length_filter_le (fun x : BD => decide (x.name ≠ nm)) (bs.take k)
    have hfl2 : (bs.take k).length ≤ k := by rw [List.length_take]; omega
    refine at_b (fun hg => ?_) (fun hg => ?_)
    · have hlt := lt_tt hg
      obtain ⟨x, hx⟩ := get_of_lt hlt
      have i1 := ix_n hx
      have i2 := map_get bC hx
      have hC := l31Copy_d x (hs.d x (mem_of_get hx))
      unfold blobA at hC
      simp only [bC] at i2 hC
      have w1 := wr ((k : Int) + 1) (by omega)
      have e : bs.take (k + 1) = bs.take k ++ [x] := by rw [List.take_add_one, hx]; rfl
      (try simp only [hg, i1, i2, push_cast, simprocAttr])
      by_cases hxn : x.name = nm
      · have e1 := eqI_t hxn
        have ef : (bs.take (k + 1)).filter (fun x => decide (x.name ≠ nm)) = (bs.take k).filter (fun x => decide (x.name ≠ nm)) := by rw [e, List.filter_append]; simp [hxn]
        (try simp only [e1, Bool.not_true, w1, push_cast, simprocAttr])
        refine at_fin ⟨k + 1, by omega, by omega, ?_⟩
        rw [ef]
        (refine wk_ok ?_ ?_ ?_ ?_ <;> simp [leL, leH, idsL, idsA, idsR, inH, hget, sameRow, upA, hvA, dsts, dstO, setA_0, setA_1, setA_8, List.append, List.cons_append, List.nil_append])
      · have e1 := eqI_f hxn
        have ef : (bs.take (k + 1)).filter (fun x => decide (x.name ≠ nm)) = (bs.take k).filter (fun x => decide (x.name ≠ nm)) ++ [x] := by rw [e, List.filter_append]; simp [hxn]
        (try simp only [e1, Bool.not_false, i1, i2, push_cast, simprocAttr])
        ((try simp only [push_cast, simprocAttr]); refine at_share2 (by simp [isC2, isC]) (by first | rfl | simp [ren]) (hC) (go_on ?_); (try simp only [push_cast, simprocAttr]))
        refine at_chk (by omega) ?_
        (try simp only [w1, push_cast, simprocAttr])
        refine at_fin ⟨k + 1, by omega, by omega, ?_⟩
        rw [ef, List.length_append]
        (refine wk_ok ?_ ?_ ?_ ?_ <;> simp [bC, leL, leH, idsL, idsA, idsR, inH, hget, sameRow, upA, hvA, dsts, dstO, setA_0, setA_1, setA_8, List.append, List.cons_append, List.nil_append])
    · have h3 := lt_ff hg
      have hk' : k = bs.length := by omega
      have hT : bs.take k = bs := by rw [hk', List.take_length]
      rw [hT]
      (try simp only [hg, push_cast, simprocAttr])
      refine at_ret ?_; simp only [Tryz.results57, push_cast, simprocAttr]
      simp [rX, ixOf]
theorem l31Without_d (bs : List BD) (hs : SmB bs) (nm : Int) : PC Tryz.prog 57 [blsA bs, iA nm] (vX (blsA (bs.filter fun x => decide (x.name ≠ nm)))) := by
  have := (l31Without_pc bs hs nm).frzX
  simpa [viewN, hpOf, hget, isC, tk] using this
end Go.Proofs.YtccifbbjbnjcfaaGreatDoor
/-
  Walks: disks: l31With; the reference's DiskRename, DiskWrite.
-/
namespace Go.Proofs.YtccifbbjbnjcfaaGreatDoor
open Go Go.RowKit Go.Proofs
theorem insB_len (d : BD) : ∀ l : List BD, (insB d l).length = l.length + 1
  | [] => rfl
  | x :: r => by
    unfold insB
    split
    · simp
    · simp [insB_len d r]
theorem smB_filter {bs : List BD} (h : SmB bs) (p : BD → Bool) : SmB (bs.filter p) := by
  have := List.length_filter_le p bs
  have := h.n
  exact ⟨by omega, fun d hd => h.d d (List.mem_filter.1 hd).1⟩
attribute [local irreducible] RWp AW run kPe pe Kt effA gd gu br retR RDp runD kPeD brW gW effD
set_option maxRecDepth 100000
theorem l31With_d (bs : List BD) (hs : SmB bs) (hn : bs.length ≤ 1000) (d : BD) (hd : SmD d) : PC Tryz.prog 87 [blsA bs, blobA d] (vX (blsA (withB bs d))) := by
  have hW := l31Without_d bs hs d.name
  have hC := l31Copy_d d hd
  obtain ⟨R, hR⟩ : ∃ R, R = bs.filter fun x => decide (x.name ≠ d.name) := ⟨_, rfl⟩
  have hRn : R.length ≤ 1000 := by rw [hR]; have := List.length_filter_le (fun x : BD => decide (x.name ≠ d.name)) bs; omega
  have hwb : withB bs d = insB d R := by rw [hR]; rfl
  rw [← hR] at hW
  rw [hwb]
  have hf : PC Tryz.prog 87 [blsA bs, blobA d] (rX (.o 0 (insB d R).length) [rowB (insB d R)]) := by
    unfold blobA at *
    simp only [bC] at *
    refine pc_enter Tryz.func87 rfl rfl fun w0 fb => go_on ?_; (try simp only [Tryz.ntmps87, push_cast, simprocAttr])
    ((try simp only [push_cast, simprocAttr]); refine at_share2 (by simp [isC2, isC]) (by first | rfl | simp [ren]) (hW) (go_on ?_); (try simp only [push_cast, simprocAttr]))
    refine at_loop (X := Nat × Bool × List BD) (fun x => [(5, .o 9 x.2.2.length), (7, bA x.2.1), (8, iA x.1), (9, .any)]) (fun x => [(3, ⟨79, 3, [bC d], true⟩), (4, ⟨79, 3, [], true⟩), (9, rowB x.2.2)])
      (fun x => x.1 ≤ R.length ∧ x.2.2 ++ (if x.2.1 = true then R.drop x.1 else insB d (R.drop x.1)) = insB d R) (fun x => R.length - x.1) (0, false, []) ⟨Nat.zero_le _, by simp⟩ ?_ ?_
    · (refine wk_ok ?_ ?_ ?_ ?_ <;> simp [bC, leL, leH, idsL, idsA, idsR, inH, hget, sameRow, upA, hvA, dsts, dstO, setA_0, setA_1, setA_8, List.append, List.cons_append, List.nil_append])
    · rintro ⟨k, dn, out⟩ ⟨h1, h2⟩
      simp only at h1 h2
      simp only [upA, hvA, dsts, dstO, setA_0, setA_1, setA_8, List.append, List.cons_append, List.nil_append]
      refine go_on ?_
      (try simp only [List.length_map, push_cast, simprocAttr])
      have hil := insB_len d R
      have hol : out.length ≤ 1001 := by
        have := congrArg List.length h2
        rw [List.length_append, hil] at this
        omega
      refine at_b (fun hg => ?_) (fun hg => ?_)
      · have hlt := lt_tt hg
        obtain ⟨x, hx⟩ := get_of_lt hlt
        have i1 := ix_n hx
        have i2 := map_get bC hx
        simp only [bC] at i2
        have w1 := wr ((k : Int) + 1) (by omega)
        rw [drop_of_get hx] at h2
        (try simp only [hg, push_cast, simprocAttr])
        cases dn with
        | true =>
          simp only [if_true] at h2
          refine at_draw rfl (by kernel_rfl) ?_; simp only [push_cast, simprocAttr]
          (try simp only [i1, i2, bC, Bool.not_true, push_cast, simprocAttr])
          repeat' first | (refine at_bWn (fun hb => ?_) (fun hb => ?_) <;> simp only [i1, i2, bC, Bool.not_true, hb, push_cast, simprocAttr]) | (refine at_bW (fun hb => ?_) (fun hb => ?_) <;> simp only [i1, i2, bC, Bool.not_true, hb, push_cast, simprocAttr])  | (refine at_done (by kernel_rfl) (by kernel_rfl) (go_on ?_); (try simp only [i1, i2, bC, Bool.not_true, push_cast, simprocAttr]))
          (try simp only [i1, i2, push_cast, simprocAttr])
          refine at_chk (by omega) ?_
          (try simp only [w1, push_cast, simprocAttr])
          refine at_fin ⟨(k + 1, true, out ++ [x]), ⟨by dsimp only; omega, by simpa using h2⟩, by dsimp only; omega, ?_⟩
          (refine wk_ok ?_ ?_ ?_ ?_ <;> simp [bC, leL, leH, idsL, idsA, idsR, inH, hget, sameRow, upA, hvA, dsts, dstO, setA_0, setA_1, setA_8, List.append, List.cons_append, List.nil_append])
        | false =>
          simp only [Bool.false_eq_true, if_false] at h2
          by_cases hl : d.name < x.name
          · have e1 : ltI d.name x.name = true := ltI_t hl
            have h3 : out ++ (d :: x :: R.drop (k + 1)) = insB d R := by rw [← h2]; simp [insB, hl]
            have hTk : List.take (out.length + 1) (List.map bC out ++ [[iA d.name, intsA d.safe, intsA d.fresh]]) = List.map bC out ++ [[iA d.name, intsA d.safe, intsA d.fresh]] := List.take_of_length_le (by simp)
            refine at_draw rfl (by kernel_rfl) ?_; simp only [push_cast, simprocAttr]
            (try simp only [i1, i2, e1, bC, Bool.not_false, push_cast, simprocAttr])
            repeat' first | (refine at_bWn (fun hb => ?_) (fun hb => ?_) <;> simp only [i1, i2, e1, bC, Bool.not_false, hb, push_cast, simprocAttr]) | (refine at_bW (fun hb => ?_) (fun hb => ?_) <;> simp only [i1, i2, e1, bC, Bool.not_false, hb, push_cast, simprocAttr])  | (refine at_done (by kernel_rfl) (by kernel_rfl) (go_on ?_); (try simp only [i1, i2, e1, bC, Bool.not_false, push_cast, simprocAttr]))
            (try simp only [bC, push_cast, simprocAttr])
            ((try simp only [push_cast, simprocAttr]); refine at_share2 (by simp [isC2, isC]) (by first | rfl | simp [ren]) (hC) (go_on ?_); (try simp only [push_cast, simprocAttr]))
            refine at_chk (by omega) ?_
            (try simp only [i1, i2, push_cast, simprocAttr])
            refine at_chk (by omega) ?_
            (try simp only [w1, push_cast, simprocAttr])
            refine at_fin ⟨(k + 1, true, out ++ [d, x]), ⟨by dsimp only; omega, by simpa using h3⟩, by dsimp only; omega, ?_⟩
            (refine wk_ok ?_ ?_ ?_ ?_ <;> simp [bC, hTk, leL, leH, idsL, idsA, idsR, inH, hget, sameRow, upA, hvA, dsts, dstO, setA_0, setA_1, setA_8, List.append, List.cons_append, List.nil_append])
          · have e1 : ltI d.name x.name = false := ltI_f (by omega)
            have h3 : out ++ (x :: insB d (R.drop (k + 1))) = insB d R := by rw [← h2]; simp [insB, hl]
            refine at_draw rfl (by kernel_rfl) ?_; simp only [push_cast, simprocAttr]
            (try simp only [i1, i2, e1, bC, Bool.not_false, push_cast, simprocAttr])
            repeat' first | (refine at_bWn (fun hb => ?_) (fun hb => ?_) <;> simp only [i1, i2, e1, bC, Bool.not_false, hb, push_cast, simprocAttr]) | (refine at_bW (fun hb => ?_) (fun hb => ?_) <;> simp only [i1, i2, e1, bC, Bool.not_false, hb, push_cast, simprocAttr])  | (refine at_done (by kernel_rfl) (by kernel_rfl) (go_on ?_); (try simp only [i1, i2, e1, bC, Bool.not_false, push_cast, simprocAttr]))
            (try simp only [i1, i2, push_cast, simprocAttr])
            refine at_chk (by omega) ?_
            (try simp only [w1, push_cast, simprocAttr])
            refine at_fin ⟨(k + 1, false, out ++ [x]), ⟨by dsimp only; omega, by simpa using h3⟩, by dsimp only; omega, ?_⟩
            (refine wk_ok ?_ ?_ ?_ ?_ <;> simp [bC, leL, leH, idsL, idsA, idsR, inH, hget, sameRow, upA, hvA, dsts, dstO, setA_0, setA_1, setA_8, List.append, List.cons_append, List.nil_append])
      · have h3 := lt_ff hg
        rw [List.drop_of_length_le h3] at h2
        (try simp only [hg, push_cast, simprocAttr])
        cases dn with
        | true =>
          simp only [if_true, List.append_nil] at h2
          (try simp only [Bool.not_true, push_cast, simprocAttr])
          refine at_ret ?_; simp only [Tryz.results87, push_cast, simprocAttr]
          rw [← h2]
          simp [rX, ixOf]
        | false =>
          simp only [Bool.false_eq_true, if_false, insB] at h2
          (try simp only [Bool.not_false, bC, push_cast, simprocAttr])
          ((try simp only [push_cast, simprocAttr]); refine at_share2 (by simp [isC2, isC]) (by first | rfl | simp [ren]) (hC) (go_on ?_); (try simp only [push_cast, simprocAttr]))
          refine at_chk (by omega) ?_
          (try simp only [push_cast, simprocAttr])
          refine at_ret ?_; simp only [Tryz.results87, push_cast, simprocAttr]
          rw [← h2]
          simp [rX, ixOf, bC]
  have := hf.frzX
  simpa [viewN, hpOf, hget, isC, tk] using this
end Go.Proofs.YtccifbbjbnjcfaaGreatDoor
/-
  Walks: disks: the reference's DiskRename, DiskWrite.
-/
namespace Go.Proofs.YtccifbbjbnjcfaaGreatDoor
open Go Go.RowKit Go.Proofs
theorem at_shareE {P : Program} {K : List E → AS → Prop} {f : FuncId} {args : List AV} {o : SO} {l : List SO} {evs : List E} {s : AS} {x : AV} (hc : args.all isC2 = true) (hx : ren (baseOf o.dst) x = x) (hpc : PC P f args (vX x))
    (hk : RDp P K (runD P l (evs ++ [mkE o s x none []]) (s.put o.dst x))) : RDp P K (.call f args o l evs s) := by
  refine ⟨x, [], .inr ⟨hc, hpc⟩, frB_0 _ _, ?_⟩
  rw [hx]
  exact runD_sound _ _ _ (by simpa only [hpOf, hsets] using hk)
attribute [local irreducible] RWp AW run kPe pe Kt effA gd gu br retR RDp runD kPeD brW gW effD
set_option maxRecDepth 100000
theorem specDiskRename_d (bs : List BD) (hs : SmB bs) (a b : Int) : PC Tryz.prog 58 [blsA bs, iA a, iA b] (vX (.tup [blsA (renD bs a b).1, bA (renD bs a b).2])) := by
  have hV := specDiskValid_pc bs hs
  have hF := l31Find_pc bs hs.n a
  have hI := l6In_pc b 1 3
  have hn := hs.n
  have eI : inB b 1 3 = inR b 1 3 := rfl
  cases hv : diskB bs with
  | false =>
    have hr : renD bs a b = ([], false) := by simp [renD, hv]
    rw [hr]
    have hf : PC Tryz.prog 58 [blsA bs, iA a, iA b] (rX (.tup [.o 0 0, bA false]) [rowB []]) := by
      refine pc_enter Tryz.func58 rfl rfl fun w0 fb => go_on ?_; (try simp only [Tryz.ntmps58, push_cast, simprocAttr])
      (refine at_call ?_; (try simp only [push_cast, simprocAttr]); refine rwc_v (hV) (go_on ?_); (try simp only [push_cast, simprocAttr]))
      (try simp only [hv, Bool.not_false, push_cast, simprocAttr])
      refine at_ret ?_; simp only [Tryz.results58, push_cast, simprocAttr]
      simp [rX, ixOf]
    have := hf.frzX
    simp [viewN, hpOf, hget, isC, tk] at this
    exact this
  | true =>
    rcases ixB_cases bs a with ⟨h1, h2⟩ | ⟨j, d, h1, h2, h3⟩
    · have hr : renD bs a b = ([], false) := by cases hb : inB b 1 3 <;> simp [renD, hv, h2, hb]
      rw [hr]
      have hf : PC Tryz.prog 58 [blsA bs, iA a, iA b] (rX (.tup [.o 0 0, bA false]) [rowB []]) := by
        refine pc_enter Tryz.func58 rfl rfl fun w0 fb => go_on ?_; (try simp only [Tryz.ntmps58, push_cast, simprocAttr])
        (refine at_call ?_; (try simp only [push_cast, simprocAttr]); refine rwc_v (hV) (go_on ?_); (try simp only [push_cast, simprocAttr]))
        (try simp only [hv, Bool.not_true, push_cast, simprocAttr])
        (refine at_call ?_; (try simp only [push_cast, simprocAttr]); refine rwc_v (hF) (go_on ?_); (try simp only [push_cast, simprocAttr]))
        (try simp only [h1, show ltI (-1) 0 = true from rfl, push_cast, simprocAttr])
        refine at_ret ?_; simp only [Tryz.results58, push_cast, simprocAttr]
        simp [rX, ixOf]
      have := hf.frzX
      simp [viewN, hpOf, hget, isC, tk] at this
      exact this
    · have hjl := lt_of_some h2
      have i1 := ix_n h2
      have i2 := map_get bC h2
      have i3 : ltI (j : Int) 0 = false := ltI_f (by omega)
      cases hb : inR b 1 3 with
      | false =>
        have hr : renD bs a b = ([], false) := by simp [renD, eI, hb]
        rw [hr]
        have hf : PC Tryz.prog 58 [blsA bs, iA a, iA b] (rX (.tup [.o 0 0, bA false]) [rowB []]) := by
          refine pc_enter Tryz.func58 rfl rfl fun w0 fb => go_on ?_; (try simp only [Tryz.ntmps58, push_cast, simprocAttr])
          (refine at_call ?_; (try simp only [push_cast, simprocAttr]); refine rwc_v (hV) (go_on ?_); (try simp only [push_cast, simprocAttr]))
          (try simp only [hv, Bool.not_true, push_cast, simprocAttr])
          (refine at_call ?_; (try simp only [push_cast, simprocAttr]); refine rwc_v (hF) (go_on ?_); (try simp only [push_cast, simprocAttr]))
          (try simp only [h1, i3, push_cast, simprocAttr])
          (refine at_call ?_; (try simp only [push_cast, simprocAttr]); refine rwc_v (hI) (go_on ?_); (try simp only [push_cast, simprocAttr]))
          (try simp only [hb, Bool.not_false, push_cast, simprocAttr])
          refine at_ret ?_; simp only [Tryz.results58, push_cast, simprocAttr]
          simp [rX, ixOf]
        have := hf.frzX
        simp [viewN, hpOf, hget, isC, tk] at this
        exact this
      | true =>
        have hr : renD bs a b = (withB (bs.filter fun x => decide (x.name ≠ a)) ⟨b, d.safe, d.fresh⟩, true) := by unfold renD; rw [hv, eI, hb, h3]; rfl
        rw [hr]
        have hC := l31Copy_d d (hs.d d (mem_of_get h2))
        have hO := l31Without_d bs hs a
        have h3n := disk_len hv
        have hfl := List.length_filter_le (fun x : BD => decide (x.name ≠ a)) bs
        have hW := l31With_d (bs.filter fun x => decide (x.name ≠ a)) (smB_filter hs _) (by omega) ⟨b, d.safe, d.fresh⟩ ⟨(hs.d d (mem_of_get h2)).s, (hs.d d (mem_of_get h2)).f⟩
        obtain ⟨R, hR⟩ : ∃ R, R = bs.filter fun x => decide (x.name ≠ a) := ⟨_, rfl⟩
        rw [← hR] at hO hW ⊢
        unfold blobA at hC hW
        simp only [bC] at i2 hC hW
        refine pc_enter Tryz.func58 rfl rfl fun w0 fb => go_on ?_; (try simp only [Tryz.ntmps58, push_cast, simprocAttr])
        (refine at_call ?_; (try simp only [push_cast, simprocAttr]); refine rwc_v (hV) (go_on ?_); (try simp only [push_cast, simprocAttr]))
        (try simp only [hv, Bool.not_true, push_cast, simprocAttr])
        (refine at_call ?_; (try simp only [push_cast, simprocAttr]); refine rwc_v (hF) (go_on ?_); (try simp only [push_cast, simprocAttr]))
        (try simp only [h1, i3, push_cast, simprocAttr])
        (refine at_call ?_; (try simp only [push_cast, simprocAttr]); refine rwc_v (hI) (go_on ?_); (try simp only [push_cast, simprocAttr]))
        (try simp only [hb, Bool.not_true, push_cast, simprocAttr])
        (refine at_call ?_; (try simp only [push_cast, simprocAttr]); refine rwc_v (hF) (go_on ?_); (try simp only [push_cast, simprocAttr]))
        (try simp only [h1, i1, i2, push_cast, simprocAttr])
        ((try simp only [push_cast, simprocAttr]); refine at_share2 (by simp [isC2, isC]) (by first | rfl | simp [ren]) (hC) (go_on ?_); (try simp only [push_cast, simprocAttr]))
        refine at_draw rfl (by kernel_rfl) ?_; simp only [push_cast, simprocAttr]
        (refine at_shareE (by simp [isC2, isC]) (by first | rfl | simp [ren]) hO ?_; (try simp only [push_cast, simprocAttr]))
        (refine at_shareE (by simp [isC2, isC]) (by first | rfl | simp [ren]) hW ?_; (try simp only [push_cast, simprocAttr]))
        refine at_done (by kernel_rfl) (by kernel_rfl) (go_on ?_)
        (try simp only [push_cast, simprocAttr])
        refine at_ret ?_; simp only [Tryz.results58, push_cast, simprocAttr]
        simp [vX]
end Go.Proofs.YtccifbbjbnjcfaaGreatDoor
/-
  The abstract machine: a region that draws its order, one call within that borrows rows.
-/
namespace Go.Proofs.YtccifbbjbnjcfaaGreatDoor
open Go Go.RowKit

section
variable {P : Program}
variable {w0 : World} {lent : Lent} {Q : Exit → Act → World → Prop}
end

end Go.Proofs.YtccifbbjbnjcfaaGreatDoor
/-
  The abstract machine: a drawn region with one call that borrows a row, run as its text stands.
-/
namespace Go.Proofs.YtccifbbjbnjcfaaGreatDoor
open Go Go.RowKit

section
variable {P : Program} {w0 : World} {lent : Lent} {Q : Exit → Act → World → Prop}
end

end Go.Proofs.YtccifbbjbnjcfaaGreatDoor
/-
  The abstract machine: a region that draws its order, several calls within that borrow a row, and operations that wait for none of them.
-/
namespace Go.Proofs.YtccifbbjbnjcfaaGreatDoor
open Go Go.RowKit

/-! ### Moves of slots that nothing writes: they see no row -/
section
variable {P : Program} {w0 : World} {lent : Lent} {Q : Exit → Act → World → Prop}
end

end Go.Proofs.YtccifbbjbnjcfaaGreatDoor
/-
  The abstract machine: what a call that was lent rows leaves anew, read as data.
-/
namespace Go.Proofs.YtccifbbjbnjcfaaGreatDoor
open Go Go.RowKit

theorem hp_app {l l' : List Row} {r : Nat} {row : Row} (h : hget (hpOf 0 l) r = some row) : hget (hpOf 0 (l ++ l')) r = some row := by
  rw [hget_hpOf] at h ⊢
  rw [if_pos (Nat.zero_le _)] at h ⊢
  have := lt_of_some h
  rw [List.getElem?_append_left this]
  exact h
theorem live_app {l l' : List Row} {loc : Loc} {b : Nat} (h : Live (hpOf 0 l) loc b) : Live (hpOf 0 (l ++ l')) loc b := by
  rcases h with ⟨r, row, c, h1, h2⟩ | h
  · exact .inl ⟨r, row, c, hp_app h1, h2⟩
  · exact .inr h
theorem PCL.frz {P : Program} {f : FuncId} {lr : List Row} {mv : Nat → Bool} {args : List AV} {D D' : AV → List Row → List Row → Prop} (h : PCL P f lr mv args D)
    (hd : ∀ rv lr' rows, D rv lr' rows → (idsA rv).all (fun r => decide (lr.length ≤ r)) = true ∧ D' (viewN 3 (hpOf 0 (lr' ++ rows)) rv) lr' []) : PCL P f lr mv args D' := by
  refine ⟨h.1, fun w fb loc vs h1 h2 h3 => (h.2 w fb loc vs h1 h2 h3).mono ?_⟩
  rintro e w' ⟨rv, lr', rows, v, loc', hD, rfl, hL⟩
  obtain ⟨hi, hD'⟩ := hd _ _ _ hD
  have hC : ∀ {x u}, C (Live (hpOf 0 (lr' ++ rows)) loc') 0 w' x u → C (Live (hpOf 0 (lr' ++ [])) loc') 0 w' x u := fun hx => hx.mono (Nat.le_refl _) (Nat.le_refl _) fun b _ _ hnl => ⟨fun hl => by
    rw [List.append_nil] at hl
    exact hnl (live_app hl), rfl⟩
  refine ⟨_, lr', [], v, loc', hD', rfl, ⟨hL.len, hL.os, hL.tape, hL.output, hL.size, hL.keep, hL.fbe, hL.stay, .cl ?_, fun r row hr => ?_, fun r r' row row' b c c' hr hr' => ?_, fun r row b c hr => ?_⟩⟩
  · refine view_frz (fun r row hr => (hL.rw r row hr).2) hL.inj (fun r row b c hr hl hf => ?_) (fun r row' hr => ⟨row', ?_⟩) 3 rv v hL.val ?_
    · rw [hL.fbe] at hf
      obtain ⟨g1, g2⟩ := h1.fbl b hf
      rcases hL.own r row b c hr hl with g3 | g3
      · omega
      · exact g2 g3
    · rw [List.append_nil] at hr
      exact hp_app hr
    · refine List.all_eq_true.2 fun r hr => ?_
      have h4 := of_decide_eq_true (List.all_eq_true.1 hi r hr)
      rw [Bool.and_eq_true]
      refine ⟨?_, ?_⟩
      · have : hget (hpOf 0 (lr' ++ [])) r = none := by
          rw [hget_hpOf, if_pos (Nat.zero_le _), List.append_nil]
          exact List.getElem?_eq_none (by have := hL.len; omega)
        unfold inH
        rw [this]
        rfl
      · cases hg : hget (hpOf 0 (lr' ++ rows)) r with
        | none => rfl
        | some row => exact (hL.rw r row hg).1
  · rw [List.append_nil] at hr
    obtain ⟨g1, g2, xs, g3, g4⟩ := hL.rw r row (hp_app hr)
    refine ⟨g1, g2, xs, g3, fun k e j a he ha => ?_⟩
    obtain ⟨u, g5, g6, _, g8⟩ := g4 k e j a he ha
    have := hC (g8 g1)
    exact ⟨u, g5, g6, .cl this, fun _ => this⟩
  · rw [List.append_nil] at hr hr'
    exact hL.inj r r' row row' b c c' (hp_app hr) (hp_app hr')
  · rw [List.append_nil] at hr
    exact hL.own r row b c (hp_app hr)

end Go.Proofs.YtccifbbjbnjcfaaGreatDoor
/-
  Walks: disks: the draws.
-/
namespace Go.Proofs.YtccifbbjbnjcfaaGreatDoor
open Go Go.RowKit Go.Proofs
def byoD (z : List Int) (p c : Nat) (rv : AV) (lr' rows : List Row) : Prop := ∃ l : List Int, l.length ≤ 200 ∧ rv = .o 1 l.length ∧ RdD z p c lr' ∧ rows = [rowZ l]
def bytD (z : List Int) (p c : Nat) (rv : AV) (lr' rows : List Row) : Prop := ∃ l : List Int, l.length ≤ 200 ∧ rv = intsA l ∧ RdD z p c lr' ∧ rows = []
structure DrB (l : List BD) : Prop where
  n : l.length ≤ 4
  d : ∀ d ∈ l, d.safe.length ≤ 200 ∧ d.fresh.length ≤ 200
theorem DrB.sm {l : List BD} (h : DrB l) : SmB l := ⟨by have := h.n; omega, fun d hd => ⟨by have := h.d d hd; omega, by have := h.d d hd; omega⟩⟩
def dsoD (z : List Int) (p c : Nat) (rv : AV) (lr' rows : List Row) : Prop := ∃ l : List BD, DrB l ∧ rv = .o 1 l.length ∧ RdD z p c lr' ∧ rows = [rowB l]
def dsaD (z : List Int) (p c : Nat) (rv : AV) (lr' rows : List Row) : Prop := ∃ l : List BD, DrB l ∧ rv = blsA l ∧ RdD z p c lr' ∧ rows = []
attribute [local irreducible] RWp AW run kPe pe Kt effA gd gu br retR RDp runD kPeD brW gW effD
set_option maxRecDepth 100000
theorem l92Bytes_pcl0 (z : List Int) (p : Nat) (hr : RdOk z (p + 210)) : PCL Tryz.prog 108 [rdR z p] (mvF none) [.p 0 0 0] (byoD z p 210) := by
  refine pcl_enter Tryz.func108 rfl rfl (by simp) fun w0 fb loc => go_on ?_; simp only [Tryz.ntmps108, hpL, nmL, mvF, renL, decide_true, decide_false, push_cast, simprocAttr]
  (try simp only [push_cast, simprocAttr]); refine call_lend [500000] none (lr := [rdR z p]) (by simp [ndB]) (by first | rfl | simp [rowsOf, hget, rdR, rowS, rowN, rowC, sC, ndC, cmC]) (by simp [idsL, idsA]) (by simp [mvN]) (by simpa [rnA, ixOf] using pick_pcl z p 8 (hr.le (by omega)) (by omega)) ?_
  rintro rv lr' rows ⟨n8, rfl, hn8, rfl, rfl⟩
  have hn8 := hn8 (by omega)
  (refine ⟨by simp [shB, mvF, rdR, rowS, rowN, rowC], by simp [frB, baseOf], go_on ?_⟩; simp only [killA, killH, killRow, push_cast, simprocAttr])
  (try simp only [push_cast, simprocAttr]); refine call_lend [500000] none (lr := [rdR z (p + 1)]) (by simp [ndB]) (by first | rfl | simp [rowsOf, hget, rdR, rowS, rowN, rowC, sC, ndC, cmC]) (by simp [idsL, idsA]) (by simp [mvN]) (by simpa [rnA, ixOf] using pick_pcl z (p + 1) 20 (hr.le (by omega)) (by omega)) ?_
  rintro rv lr' rows ⟨m20, rfl, hm20, rfl, rfl⟩
  (refine ⟨by simp [shB, mvF, rdR, rowS, rowN, rowC], by simp [frB, baseOf], go_on ?_⟩; simp only [killA, killH, killRow, push_cast, simprocAttr])
  have fin : ∀ (l : List Int) (r : Nat), l.length ≤ 200 → p ≤ r → r ≤ p + 210 → byoD z p 210 (.o 1 l.length) [rdR z r] [rowZ l] := fun l r h1 h2 h3 => ⟨l, h1, rfl, ⟨r, rfl, h2, h3⟩, rfl⟩
  refine at_b (fun hb0 => ?_) (fun hb0 => ?_)
  · (try simp only [hb0, push_cast, simprocAttr])
    refine at_loop (X := Nat × List Int × Nat) (fun x => [(3, .o 6 x.2.1.length), (5, iA x.1), (6, .any)]) (fun x => [(2, ⟨3, 1, [], true⟩), (6, rowZ x.2.1), (500000, rdR z x.2.2)])
      (fun x => x.1 ≤ 200 ∧ x.2.1.length = x.1 ∧ p ≤ x.2.2 ∧ x.2.2 = p + 2 + x.1) (fun x => 200 - x.1) (0, [], p + 1 + 1) ⟨by omega, rfl, by first | (dsimp only; done) | (dsimp only; omega), by first | (dsimp only; done) | (dsimp only; omega)⟩ ?_ ?_
    · (refine wk_frz ?_ ?_ ?_ ?_ <;> simp [rdR, leF, leHF, frzB, idsL, idsA, idsR, inH, hget, sameRow, viewN, tk, upA, hvA, dsts, dstO, setA_0, setA_1, setA_8, List.append, List.cons_append, List.nil_append])
    · rintro ⟨i, l, r⟩ ⟨q1, q2, q3, q4⟩
      simp only at q1 q2 q3 q4
      simp only [upA, hvA, dsts, dstO, setA_0, setA_1, setA_8, List.append, List.cons_append, List.nil_append]
      refine go_on ?_
      (try simp only [push_cast, simprocAttr])
      by_cases hlt : i < 200
      · have i0 : ltI (i : Int) 200 = true := ltI_t (by omega)
        have w1 := wr ((i : Int) + 1) (by omega)
        (try simp only [i0, push_cast, simprocAttr])
        (try simp only [push_cast, simprocAttr]); refine call_lend [500000] none (lr := [rdR z r]) (by simp [ndB]) (by first | rfl | simp [rowsOf, hget, rdR, rowS, rowN, rowC, sC, ndC, cmC]) (by simp [idsL, idsA]) (by simp [mvN]) (by simpa [rnA, ixOf] using pick_pcl z r 256 (hr.le (by omega)) (by omega)) ?_
        rintro rv lr' rows ⟨k, rfl, hk, rfl, rfl⟩
        (refine ⟨by simp [shB, mvF, rdR, rowS, rowN, rowC], by simp [frB, baseOf], go_on ?_⟩; simp only [killA, killH, killRow, push_cast, simprocAttr])
        refine at_chk (by omega) ?_
        (try simp only [w1, push_cast, simprocAttr])
        refine at_fin ⟨(i + 1, l ++ [(k : Int)], r + 1), ⟨by dsimp only; omega, by simp [q2], by dsimp only; omega, by dsimp only; omega⟩, by dsimp only; omega, ?_⟩
        simp only [List.length_append, List.length_cons, List.length_nil]
        (refine wk_frz ?_ ?_ ?_ ?_ <;> simp [rdR, inC, leF, leHF, frzB, idsL, idsA, idsR, inH, hget, sameRow, viewN, tk, upA, hvA, dsts, dstO, setA_0, setA_1, setA_8, List.append, List.cons_append, List.nil_append])
      · have i0 : ltI (i : Int) 200 = false := ltI_f (by omega)
        have hin : l.length = 200 := by omega
        (try simp only [i0, push_cast, simprocAttr])
        by_cases hn0 : 0 < 200
        · have j0 : ltI 0 200 = true := ltI_t (by omega)
          (try simp only [j0, push_cast, simprocAttr])
          (try simp only [push_cast, simprocAttr]); refine call_lend [500000] none (lr := [rdR z r]) (by simp [ndB]) (by first | rfl | simp [rowsOf, hget, rdR, rowS, rowN, rowC, sC, ndC, cmC]) (by simp [idsL, idsA]) (by simp [mvN]) (by simpa [rnA, ixOf] using pick_pcl z r 30 (hr.le (by omega)) (by omega)) ?_
          rintro rv lr' rows ⟨m30, rfl, hm30, rfl, rfl⟩
          (refine ⟨by simp [shB, mvF, rdR, rowS, rowN, rowC], by simp [frB, baseOf], go_on ?_⟩; simp only [killA, killH, killRow, push_cast, simprocAttr])
          refine at_b (fun hb => ?_) (fun hb => ?_)
          · (try simp only [hb, push_cast, simprocAttr])
            (try simp only [push_cast, simprocAttr]); refine call_lend [500000] none (lr := [rdR z (r + 1)]) (by simp [ndB]) (by first | rfl | simp [rowsOf, hget, rdR, rowS, rowN, rowC, sC, ndC, cmC]) (by simp [idsL, idsA]) (by simp [mvN]) (by simpa [rnA, ixOf] using pick_pcl z (r + 1) 200 (hr.le (by omega)) (by omega)) ?_
            rintro rv lr' rows ⟨j, rfl, hj, rfl, rfl⟩
            have hj := hj hn0
            (refine ⟨by simp [shB, mvF, rdR, rowS, rowN, rowC], by simp [frB, baseOf], go_on ?_⟩; simp only [killA, killH, killRow, push_cast, simprocAttr])
            (try simp only [push_cast, simprocAttr]); refine call_lend [500000] none (lr := [rdR z (r + 1 + 1)]) (by simp [ndB]) (by first | rfl | simp [rowsOf, hget, rdR, rowS, rowN, rowC, sC, ndC, cmC]) (by simp [idsL, idsA]) (by simp [mvN]) (by simpa [rnA, ixOf] using pick_pcl z (r + 1 + 1) 2 (hr.le (by omega)) (by omega)) ?_
            rintro rv lr' rows ⟨m2, rfl, hm2, rfl, rfl⟩
            have hm2 := hm2 (by omega)
            obtain ⟨e, he⟩ := get_of_lt (l := l) (k := j) (by omega)
            have i2 := ix_n he
            have i3 := map_get inC he
            simp only [inC] at i3
            obtain ⟨v, g1, g2⟩ : ∃ v : Int, toIx (m2 : Int) 2 = some m2 ∧ ([[iA (-1)], [iA 256]] : List (List AV))[m2]? = some [iA v] := by
              rcases (show m2 = 0 ∨ m2 = 1 by omega) with rfl | rfl
              · exact ⟨-1, rfl, rfl⟩
              · exact ⟨256, rfl, rfl⟩
            have hset : (l.map inC).set j [iA v] = (l.set j v).map inC := by rw [List.map_set]; rfl
            have hfin := fin (l.set j v) (r + 1 + 1 + 1) (by simp; omega) (by omega) (by omega)
            rw [List.length_set] at hfin
            unfold rowZ at hfin
            (refine ⟨by simp [shB, mvF, rdR, rowS, rowN, rowC], by simp [frB, baseOf], go_on ?_⟩; simp only [i2, i3, g1, g2, hset, killA, killH, killRow, push_cast, simprocAttr])
            (refine at_retL ?_; simp only [Tryz.results108, retL, push_cast, simprocAttr]; simpa [show List.range 1 = [0] from rfl, show List.range 2 = [0, 1] from rfl, show List.range 3 = [0, 1, 2] from rfl, nmL, mvF, ndB, ixOf, rowsOf, hget, rdR, rowS, rowN, rowC] using  hfin)
          · have hfin := fin l (r + 1) (by omega) (by omega) (by omega)
            (try simp only [hb, push_cast, simprocAttr])
            (refine at_retL ?_; simp only [Tryz.results108, retL, push_cast, simprocAttr]; simpa [show List.range 1 = [0] from rfl, show List.range 2 = [0, 1] from rfl, show List.range 3 = [0, 1, 2] from rfl, nmL, mvF, ndB, ixOf, rowsOf, hget, rdR, rowS, rowN, rowC] using  hfin)
        · have j0 : ltI 0 200 = false := ltI_f (by omega)
          have hfin := fin l r (by omega) (by omega) (by omega)
          (try simp only [j0, push_cast, simprocAttr])
          (refine at_retL ?_; simp only [Tryz.results108, retL, push_cast, simprocAttr]; simp [show List.range 1 = [0] from rfl, show List.range 2 = [0, 1] from rfl, show List.range 3 = [0, 1, 2] from rfl, nmL, mvF, ndB, ixOf, rowsOf, hget, rdR, rowS, rowN, rowC]; exact  hfin)
  · (try simp only [hb0, push_cast, simprocAttr])
    refine at_loop (X := Nat × List Int × Nat) (fun x => [(3, .o 6 x.2.1.length), (5, iA x.1), (6, .any)]) (fun x => [(2, ⟨3, 1, [], true⟩), (6, rowZ x.2.1), (500000, rdR z x.2.2)])
      (fun x => x.1 ≤ n8 ∧ x.2.1.length = x.1 ∧ p ≤ x.2.2 ∧ x.2.2 = p + 2 + x.1) (fun x => n8 - x.1) (0, [], p + 1 + 1) ⟨by omega, rfl, by first | (dsimp only; done) | (dsimp only; omega), by first | (dsimp only; done) | (dsimp only; omega)⟩ ?_ ?_
    · (refine wk_frz ?_ ?_ ?_ ?_ <;> simp [rdR, leF, leHF, frzB, idsL, idsA, idsR, inH, hget, sameRow, viewN, tk, upA, hvA, dsts, dstO, setA_0, setA_1, setA_8, List.append, List.cons_append, List.nil_append])
    · rintro ⟨i, l, r⟩ ⟨q1, q2, q3, q4⟩
      simp only at q1 q2 q3 q4
      simp only [upA, hvA, dsts, dstO, setA_0, setA_1, setA_8, List.append, List.cons_append, List.nil_append]
      refine go_on ?_
      (try simp only [push_cast, simprocAttr])
      by_cases hlt : i < n8
      · have i0 : ltI (i : Int) (n8 : Int) = true := ltI_t (by omega)
        have w1 := wr ((i : Int) + 1) (by omega)
        (try simp only [i0, push_cast, simprocAttr])
        (try simp only [push_cast, simprocAttr]); refine call_lend [500000] none (lr := [rdR z r]) (by simp [ndB]) (by first | rfl | simp [rowsOf, hget, rdR, rowS, rowN, rowC, sC, ndC, cmC]) (by simp [idsL, idsA]) (by simp [mvN]) (by simpa [rnA, ixOf] using pick_pcl z r 256 (hr.le (by omega)) (by omega)) ?_
        rintro rv lr' rows ⟨k, rfl, hk, rfl, rfl⟩
        (refine ⟨by simp [shB, mvF, rdR, rowS, rowN, rowC], by simp [frB, baseOf], go_on ?_⟩; simp only [killA, killH, killRow, push_cast, simprocAttr])
        refine at_chk (by omega) ?_
        (try simp only [w1, push_cast, simprocAttr])
        refine at_fin ⟨(i + 1, l ++ [(k : Int)], r + 1), ⟨by dsimp only; omega, by simp [q2], by dsimp only; omega, by dsimp only; omega⟩, by dsimp only; omega, ?_⟩
        simp only [List.length_append, List.length_cons, List.length_nil]
        (refine wk_frz ?_ ?_ ?_ ?_ <;> simp [rdR, inC, leF, leHF, frzB, idsL, idsA, idsR, inH, hget, sameRow, viewN, tk, upA, hvA, dsts, dstO, setA_0, setA_1, setA_8, List.append, List.cons_append, List.nil_append])
      · have i0 : ltI (i : Int) (n8 : Int) = false := ltI_f (by omega)
        have hin : l.length = n8 := by omega
        (try simp only [i0, push_cast, simprocAttr])
        by_cases hn0 : 0 < n8
        · have j0 : ltI 0 (n8 : Int) = true := ltI_t (by omega)
          (try simp only [j0, push_cast, simprocAttr])
          (try simp only [push_cast, simprocAttr]); refine call_lend [500000] none (lr := [rdR z r]) (by simp [ndB]) (by first | rfl | simp [rowsOf, hget, rdR, rowS, rowN, rowC, sC, ndC, cmC]) (by simp [idsL, idsA]) (by simp [mvN]) (by simpa [rnA, ixOf] using pick_pcl z r 30 (hr.le (by omega)) (by omega)) ?_
          rintro rv lr' rows ⟨m30, rfl, hm30, rfl, rfl⟩
          (refine ⟨by simp [shB, mvF, rdR, rowS, rowN, rowC], by simp [frB, baseOf], go_on ?_⟩; simp only [killA, killH, killRow, push_cast, simprocAttr])
          refine at_b (fun hb => ?_) (fun hb => ?_)
          · (try simp only [hb, push_cast, simprocAttr])
            (try simp only [push_cast, simprocAttr]); refine call_lend [500000] none (lr := [rdR z (r + 1)]) (by simp [ndB]) (by first | rfl | simp [rowsOf, hget, rdR, rowS, rowN, rowC, sC, ndC, cmC]) (by simp [idsL, idsA]) (by simp [mvN]) (by simpa [rnA, ixOf] using pick_pcl z (r + 1) n8 (hr.le (by omega)) (by omega)) ?_
            rintro rv lr' rows ⟨j, rfl, hj, rfl, rfl⟩
            have hj := hj hn0
            (refine ⟨by simp [shB, mvF, rdR, rowS, rowN, rowC], by simp [frB, baseOf], go_on ?_⟩; simp only [killA, killH, killRow, push_cast, simprocAttr])
            (try simp only [push_cast, simprocAttr]); refine call_lend [500000] none (lr := [rdR z (r + 1 + 1)]) (by simp [ndB]) (by first | rfl | simp [rowsOf, hget, rdR, rowS, rowN, rowC, sC, ndC, cmC]) (by simp [idsL, idsA]) (by simp [mvN]) (by simpa [rnA, ixOf] using pick_pcl z (r + 1 + 1) 2 (hr.le (by omega)) (by omega)) ?_
            rintro rv lr' rows ⟨m2, rfl, hm2, rfl, rfl⟩
            have hm2 := hm2 (by omega)
            obtain ⟨e, he⟩ := get_of_lt (l := l) (k := j) (by omega)
            have i2 := ix_n he
            have i3 := map_get inC he
            simp only [inC] at i3
            obtain ⟨v, g1, g2⟩ : ∃ v : Int, toIx (m2 : Int) 2 = some m2 ∧ ([[iA (-1)], [iA 256]] : List (List AV))[m2]? = some [iA v] := by
              rcases (show m2 = 0 ∨ m2 = 1 by omega) with rfl | rfl
              · exact ⟨-1, rfl, rfl⟩
              · exact ⟨256, rfl, rfl⟩
            have hset : (l.map inC).set j [iA v] = (l.set j v).map inC := by rw [List.map_set]; rfl
            have hfin := fin (l.set j v) (r + 1 + 1 + 1) (by simp; omega) (by omega) (by omega)
            rw [List.length_set] at hfin
            unfold rowZ at hfin
            (refine ⟨by simp [shB, mvF, rdR, rowS, rowN, rowC], by simp [frB, baseOf], go_on ?_⟩; simp only [i2, i3, g1, g2, hset, killA, killH, killRow, push_cast, simprocAttr])
            (refine at_retL ?_; simp only [Tryz.results108, retL, push_cast, simprocAttr]; simpa [show List.range 1 = [0] from rfl, show List.range 2 = [0, 1] from rfl, show List.range 3 = [0, 1, 2] from rfl, nmL, mvF, ndB, ixOf, rowsOf, hget, rdR, rowS, rowN, rowC] using  hfin)
          · have hfin := fin l (r + 1) (by omega) (by omega) (by omega)
            (try simp only [hb, push_cast, simprocAttr])
            (refine at_retL ?_; simp only [Tryz.results108, retL, push_cast, simprocAttr]; simpa [show List.range 1 = [0] from rfl, show List.range 2 = [0, 1] from rfl, show List.range 3 = [0, 1, 2] from rfl, nmL, mvF, ndB, ixOf, rowsOf, hget, rdR, rowS, rowN, rowC] using  hfin)
        · have j0 : ltI 0 (n8 : Int) = false := ltI_f (by omega)
          have hfin := fin l r (by omega) (by omega) (by omega)
          (try simp only [j0, push_cast, simprocAttr])
          (refine at_retL ?_; simp only [Tryz.results108, retL, push_cast, simprocAttr]; simp [show List.range 1 = [0] from rfl, show List.range 2 = [0, 1] from rfl, show List.range 3 = [0, 1, 2] from rfl, nmL, mvF, ndB, ixOf, rowsOf, hget, rdR, rowS, rowN, rowC]; exact  hfin)
theorem l92Bytes_pcl (z : List Int) (p : Nat) (hr : RdOk z (p + 210)) : PCL Tryz.prog 108 [rdR z p] (mvF none) [.p 0 0 0] (bytD z p 210) := by
  refine (l92Bytes_pcl0 z p hr).frz ?_
  rintro rv lr' rows ⟨l, h1, rfl, ⟨u, rfl, h2, h3⟩, rfl⟩
  exact ⟨by simp [idsA], l, h1, by simp [viewN, hpOf, hget, isC, tk], ⟨u, rfl, h2, h3⟩, rfl⟩
end Go.Proofs.YtccifbbjbnjcfaaGreatDoor
/-
  Walks: disks: the draws: a disk, a number; DrawDiskRename, DrawDiskWrite.
-/
namespace Go.Proofs.YtccifbbjbnjcfaaGreatDoor
open Go Go.RowKit Go.Proofs
attribute [local irreducible] RWp AW run kPe pe Kt effA gd gu br retR RDp runD kPeD brW gW effD
set_option maxRecDepth 100000
theorem l92Disk_pcl0 (z : List Int) (p : Nat) (hr : RdOk z (p + 2000)) : PCL Tryz.prog 106 [rdR z p] (mvF none) [.p 0 0 0] (dsoD z p 2000) := by
  have fin : ∀ (l : List BD) (r : Nat), DrB l → p ≤ r → r ≤ p + 2000 → dsoD z p 2000 (.o 1 l.length) [rdR z r] [rowB l] := fun l r h1 h2 h3 => ⟨l, h1, rfl, ⟨r, rfl, h2, h3⟩, rfl⟩
  refine pcl_enter Tryz.func106 rfl rfl (by simp) fun w0 fb loc => go_on ?_; simp only [Tryz.ntmps106, hpL, nmL, mvF, renL, decide_true, decide_false, push_cast, simprocAttr]
  refine at_loop (X := Nat × List BD × Nat) (fun x => [(3, .o 6 x.2.1.length), (4, iA x.1), (6, .any)]) (fun x => [(2, ⟨79, 3, [], true⟩), (6, rowB x.2.1), (500000, rdR z x.2.2)])
    (fun x => 1 ≤ x.1 ∧ x.1 ≤ 4 ∧ x.2.1.length + 1 ≤ x.1 ∧ (∀ d ∈ x.2.1, d.safe.length ≤ 200 ∧ d.fresh.length ≤ 200) ∧ p ≤ x.2.2 ∧ x.2.2 + 500 ≤ p + 500 * x.1) (fun x => 4 - x.1) (1, [], p) ⟨by simp, by simp, by simp, by simp, by simp, by dsimp only; omega⟩ ?_ ?_
  · (refine wk_frz ?_ ?_ ?_ ?_ <;> simp [rdR, leF, leHF, frzB, idsL, idsA, idsR, inH, hget, sameRow, viewN, tk, upA, hvA, dsts, dstO, setA_0, setA_1, setA_8, List.append, List.cons_append, List.nil_append])
  · rintro ⟨i, l, r⟩ ⟨q1, q2, q3, q4, q5, q6⟩
    simp only at q1 q2 q3 q4 q5 q6
    simp only [upA, hvA, dsts, dstO, setA_0, setA_1, setA_8, List.append, List.cons_append, List.nil_append]
    refine go_on ?_
    (try simp only [push_cast, simprocAttr])
    by_cases hlt : i ≤ 3
    · have i0 : leI (i : Int) 3 = true := leI_t (by omega)
      have w1 := wr ((i : Int) + 1) (by omega)
      (try simp only [i0, push_cast, simprocAttr])
      (try simp only [push_cast, simprocAttr]); refine call_lend [500000] none (lr := [rdR z r]) (by simp [ndB]) (by first | rfl | simp [rowsOf, hget, rdR, rowS, rowN, rowC, sC, ndC, cmC]) (by simp [idsL, idsA]) (by simp [mvN]) (by simpa [rnA, ixOf] using pick_pcl z r 3 (hr.le (by omega)) (by omega)) ?_
      rintro rv lr' rows ⟨m3, rfl, hm3, rfl, rfl⟩
      (refine ⟨by simp [shB, mvF, rdR, rowS, rowN, rowC], by simp [frB, baseOf], go_on ?_⟩; simp only [killA, killH, killRow, push_cast, simprocAttr])
      refine at_b (fun hb => ?_) (fun hb => ?_)
      · (try simp only [hb, push_cast, simprocAttr])
        (try simp only [push_cast, simprocAttr]); refine call_lend [500000] none (lr := [rdR z (r + 1)]) (by simp [ndB]) (by first | rfl | simp [rowsOf, hget, rdR, rowS, rowN, rowC, sC, ndC, cmC]) (by simp [idsL, idsA]) (by simp [mvN]) (by simpa [rnA, ixOf] using l92Bytes_pcl z (r + 1) (hr.le (by omega))) ?_
        rintro rv lr' rows ⟨s, hs, rfl, ⟨u, rfl, g1, g2⟩, rfl⟩
        (refine ⟨by simp [shB, mvF, rdR, rowS, rowN, rowC], by simp [frB, baseOf], go_on ?_⟩; simp only [killA, killH, killRow, push_cast, simprocAttr])
        (try simp only [push_cast, simprocAttr]); refine call_lend [500000] none (lr := [rdR z u]) (by simp [ndB]) (by first | rfl | simp [rowsOf, hget, rdR, rowS, rowN, rowC, sC, ndC, cmC]) (by simp [idsL, idsA]) (by simp [mvN]) (by simpa [rnA, ixOf] using l92Bytes_pcl z u (hr.le (by omega))) ?_
        rintro rv lr' rows ⟨f, hf, rfl, ⟨v, rfl, g3, g4⟩, rfl⟩
        (refine ⟨by simp [shB, mvF, rdR, rowS, rowN, rowC], by simp [frB, baseOf], go_on ?_⟩; simp only [killA, killH, killRow, push_cast, simprocAttr])
        refine at_chk (by omega) ?_
        (try simp only [w1, push_cast, simprocAttr])
        refine at_fin ⟨(i + 1, l ++ [⟨(i : Int), s, f⟩], v), ⟨by dsimp only; omega, by dsimp only; omega, by simp; omega, fun d hd => ?_, by dsimp only; omega, by dsimp only; omega⟩, by dsimp only; omega, ?_⟩
        · rcases List.mem_append.1 hd with hd | hd
          · exact q4 d hd
          · simp only [List.mem_singleton] at hd
            subst hd
            exact ⟨hs, hf⟩
        · simp only [List.length_append, List.length_cons, List.length_nil]
          (refine wk_frz ?_ ?_ ?_ ?_ <;> simp [rdR, bC, leF, leHF, frzB, idsL, idsA, idsR, inH, hget, sameRow, viewN, tk, upA, hvA, dsts, dstO, setA_0, setA_1, setA_8, List.append, List.cons_append, List.nil_append])
      · (try simp only [hb, w1, push_cast, simprocAttr])
        refine at_fin ⟨(i + 1, l, r + 1), ⟨by dsimp only; omega, by dsimp only; omega, by dsimp only; omega, q4, by dsimp only; omega, by dsimp only; omega⟩, by dsimp only; omega, ?_⟩
        (refine wk_frz ?_ ?_ ?_ ?_ <;> simp [rdR, leF, leHF, frzB, idsL, idsA, idsR, inH, hget, sameRow, viewN, tk, upA, hvA, dsts, dstO, setA_0, setA_1, setA_8, List.append, List.cons_append, List.nil_append])
    · have i0 : leI (i : Int) 3 = false := leI_f (by omega)
      have hD : DrB l := ⟨by omega, q4⟩
      (try simp only [i0, push_cast, simprocAttr])
      by_cases hl0 : l = []
      · subst hl0
        have hfin := fin [] r hD q5 (by omega)
        unfold rowB at hfin
        (try simp only [List.length_nil, show ltI 0 ((0 : Nat) : Int) = false from rfl, show ltI 0 0 = false from rfl, push_cast, simprocAttr])
        (refine at_retL ?_; simp only [Tryz.results106, retL, push_cast, simprocAttr]; simpa [show List.range 1 = [0] from rfl, show List.range 2 = [0, 1] from rfl, show List.range 3 = [0, 1, 2] from rfl, nmL, mvF, ndB, ixOf, rowsOf, hget, rdR, rowS, rowN, rowC] using  hfin)
      · have hl1 : 0 < l.length := List.length_pos_iff.2 hl0
        have j0 : ltI 0 (l.length : Int) = true := ltI_t (by omega)
        obtain ⟨e, he⟩ := get_of_lt (l := l) (k := 0) (by omega)
        have i2 : toIx 0 l.length = some 0 := ix_n he
        have i3 := map_get bC he
        simp only [bC] at i3
        have hem := q4 e (List.mem_of_getElem? he)
        (try simp only [j0, push_cast, simprocAttr])
        (try simp only [push_cast, simprocAttr]); refine call_lend [500000] none (lr := [rdR z r]) (by simp [ndB]) (by first | rfl | simp [rowsOf, hget, rdR, rowS, rowN, rowC, sC, ndC, cmC]) (by simp [idsL, idsA]) (by simp [mvN]) (by simpa [rnA, ixOf] using pick_pcl z r 24 (hr.le (by omega)) (by omega)) ?_
        rintro rv lr' rows ⟨m24, rfl, hm24, rfl, rfl⟩
        (refine ⟨by simp [shB, mvF, rdR, rowS, rowN, rowC], by simp [frB, baseOf], go_on ?_⟩; simp only [killA, killH, killRow, push_cast, simprocAttr])
        refine at_b (fun hb => ?_) (fun hb => ?_)
        · (try simp only [hb, push_cast, simprocAttr])
          (try simp only [push_cast, simprocAttr]); refine call_lend [500000] none (lr := [rdR z (r + 1)]) (by simp [ndB]) (by first | rfl | simp [rowsOf, hget, rdR, rowS, rowN, rowC, sC, ndC, cmC]) (by simp [idsL, idsA]) (by simp [mvN]) (by simpa [rnA, ixOf] using pick_pcl z (r + 1) 3 (hr.le (by omega)) (by omega)) ?_
          rintro rv lr' rows ⟨m3, rfl, hm3, rfl, rfl⟩
          have hm3 := hm3 (by omega)
          obtain ⟨v, g1, g2⟩ : ∃ v : Int, toIx (m3 : Int) 3 = some m3 ∧ ([[iA 0], [iA 3], [iA 4]] : List (List AV))[m3]? = some [iA v] := by
            rcases (show m3 = 0 ∨ m3 = 1 ∨ m3 = 2 by omega) with rfl | rfl | rfl
            · exact ⟨0, rfl, rfl⟩
            · exact ⟨3, rfl, rfl⟩
            · exact ⟨4, rfl, rfl⟩
          have hset : (l.map bC).set 0 [iA v, intsA e.safe, intsA e.fresh] = (l.set 0 ⟨v, e.safe, e.fresh⟩).map bC := by rw [List.map_set]; rfl
          have hfin := fin (l.set 0 ⟨v, e.safe, e.fresh⟩) (r + 1 + 1) ⟨by simp; exact hD.n, fun d hd => by
            rcases List.mem_or_eq_of_mem_set hd with hd | rfl
            · exact q4 d hd
            · exact hem⟩ (by omega) (by omega)
          rw [List.length_set] at hfin
          unfold rowB at hfin
          (refine ⟨by simp [shB, mvF, rdR, rowS, rowN, rowC], by simp [frB, baseOf], go_on ?_⟩; simp only [i2, i3, g1, g2, hset, killA, killH, killRow, push_cast, simprocAttr])
          (refine at_retL ?_; simp only [Tryz.results106, retL, push_cast, simprocAttr]; simpa [show List.range 1 = [0] from rfl, show List.range 2 = [0, 1] from rfl, show List.range 3 = [0, 1, 2] from rfl, nmL, mvF, ndB, ixOf, rowsOf, hget, rdR, rowS, rowN, rowC] using  hfin)
        · (try simp only [hb, push_cast, simprocAttr])
          refine at_b (fun hc => ?_) (fun hc => ?_)
          · have hfin := fin (l ++ [e]) (r + 1) ⟨by simp; omega, fun d hd => by
              rcases List.mem_append.1 hd with hd | hd
              · exact q4 d hd
              · simp only [List.mem_singleton] at hd; subst hd; exact hem⟩ (by omega) (by omega)
            have happ : (l.map bC) ++ [[iA e.name, intsA e.safe, intsA e.fresh]] = (l ++ [e]).map bC := by rw [List.map_append]; rfl
            rw [List.length_append] at hfin
            simp only [List.length_cons, List.length_nil] at hfin
            unfold rowB at hfin
            (try simp only [hc, i2, i3, push_cast, simprocAttr])
            refine at_chk (by omega) ?_
            (try simp only [happ, push_cast, simprocAttr])
            (refine at_retL ?_; simp only [Tryz.results106, retL, push_cast, simprocAttr]; simpa [show List.range 1 = [0] from rfl, show List.range 2 = [0, 1] from rfl, show List.range 3 = [0, 1, 2] from rfl, nmL, mvF, ndB, ixOf, rowsOf, hget, rdR, rowS, rowN, rowC] using  hfin)
          · have hfin := fin l (r + 1) hD (by omega) (by omega)
            (try simp only [hc, push_cast, simprocAttr])
            (refine at_retL ?_; simp only [Tryz.results106, retL, push_cast, simprocAttr]; simpa [show List.range 1 = [0] from rfl, show List.range 2 = [0, 1] from rfl, show List.range 3 = [0, 1, 2] from rfl, nmL, mvF, ndB, ixOf, rowsOf, hget, rdR, rowS, rowN, rowC] using  hfin)
theorem l92Disk_pcl (z : List Int) (p : Nat) (hr : RdOk z (p + 2000)) : PCL Tryz.prog 106 [rdR z p] (mvF none) [.p 0 0 0] (dsaD z p 2000) := by
  refine (l92Disk_pcl0 z p hr).frz ?_
  rintro rv lr' rows ⟨l, h1, rfl, ⟨u, rfl, h2, h3⟩, rfl⟩
  exact ⟨by simp [idsA], l, h1, by simp [viewN, hpOf, hget, isC, tk], ⟨u, rfl, h2, h3⟩, rfl⟩
end Go.Proofs.YtccifbbjbnjcfaaGreatDoor
/-
  Walks: disks: laws.sameInts, laws.sameDisk at equal things.
-/
namespace Go.Proofs.YtccifbbjbnjcfaaGreatDoor
open Go Go.RowKit Go.Proofs
attribute [local irreducible] RWp AW run kPe pe Kt effA gd gu br retR RDp runD kPeD brW gW effD
set_option maxRecDepth 100000
theorem sameInts_pc (l : List Int) (hl : l.length < 4294967281) : PC Tryz.prog 70 [intsA l, intsA l] (vB true) := by
  have e0 : eqI (l.length : Int) l.length = true := eqI_t rfl
  refine pc_enter Tryz.func70 rfl rfl fun w0 fb => go_on ?_; (try simp only [Tryz.ntmps70, push_cast, simprocAttr])
  (try simp only [List.length_map, e0, Bool.not_true, push_cast, simprocAttr])
  refine at_loop (X := Nat) (fun k => [(5, iA k)]) (fun _ => []) (fun k => k ≤ l.length) (fun k => l.length - k) 0 (Nat.zero_le _) ?_ ?_
  · (refine wk_ok ?_ ?_ ?_ ?_ <;> simp [leL, leH, idsL, idsA, idsR, inH, hget, sameRow, upA, hvA, dsts, dstO, setA_0, setA_1, setA_8, List.append, List.cons_append, List.nil_append])
  · rintro k h1
    simp only [upA, hvA, dsts, dstO, setA_0, setA_1, setA_8, List.append, List.cons_append, List.nil_append]
    refine go_on ?_
    (try simp only [List.length_map, push_cast, simprocAttr])
    refine at_b (fun hg => ?_) (fun hg => ?_)
    · have hlt := lt_tt hg
      obtain ⟨x, hk⟩ := get_of_lt hlt
      have i1 := ix_n hk
      have i2 := map_get inC hk
      simp only [inC] at i2
      have e1 : eqI x x = true := eqI_t rfl
      have w1 := wr ((k : Int) + 1) (by omega)
      (try simp only [hg, push_cast, simprocAttr])
      refine at_draw rfl (by kernel_rfl) ?_; simp only [push_cast, simprocAttr]
      (try simp only [i1, i2, e1, Bool.not_true, push_cast, simprocAttr])
      repeat' first | (refine at_bWn (fun hb => ?_) (fun hb => ?_) <;> simp only [i1, i2, e1, Bool.not_true, hb, push_cast, simprocAttr]) | (refine at_bW (fun hb => ?_) (fun hb => ?_) <;> simp only [i1, i2, e1, Bool.not_true, hb, push_cast, simprocAttr])  | (refine at_done (by kernel_rfl) (by kernel_rfl) (go_on ?_); (try simp only [i1, i2, e1, Bool.not_true, push_cast, simprocAttr]))
      (try simp only [w1, push_cast, simprocAttr])
      refine at_fin ⟨k + 1, by omega, by omega, ?_⟩
      (refine wk_ok ?_ ?_ ?_ ?_ <;> simp [leL, leH, idsL, idsA, idsR, inH, hget, sameRow, upA, hvA, dsts, dstO, setA_0, setA_1, setA_8, List.append, List.cons_append, List.nil_append])
    · (try simp only [hg, push_cast, simprocAttr])
      refine at_ret ?_; simp only [Tryz.results70, push_cast, simprocAttr]
      simp [vX]
theorem sameDisk_pc (bs : List BD) (hs : SmB bs) : PC Tryz.prog 27 [blsA bs, blsA bs] (vB true) := by
  have hn := hs.n
  have e0 : eqI (bs.length : Int) bs.length = true := eqI_t rfl
  refine pc_enter Tryz.func27 rfl rfl fun w0 fb => go_on ?_; (try simp only [Tryz.ntmps27, push_cast, simprocAttr])
  (try simp only [List.length_map, e0, Bool.not_true, push_cast, simprocAttr])
  refine at_loop (X := Nat) (fun k => [(5, iA k)]) (fun _ => []) (fun k => k ≤ bs.length) (fun k => bs.length - k) 0 (Nat.zero_le _) ?_ ?_
  · (refine wk_ok ?_ ?_ ?_ ?_ <;> simp [leL, leH, idsL, idsA, idsR, inH, hget, sameRow, upA, hvA, dsts, dstO, setA_0, setA_1, setA_8, List.append, List.cons_append, List.nil_append])
  · rintro k h1
    simp only [upA, hvA, dsts, dstO, setA_0, setA_1, setA_8, List.append, List.cons_append, List.nil_append]
    refine go_on ?_
    (try simp only [List.length_map, push_cast, simprocAttr])
    refine at_b (fun hg => ?_) (fun hg => ?_)
    · have hlt := lt_tt hg
      obtain ⟨x, hk⟩ := get_of_lt hlt
      have i1 := ix_n hk
      have i2 := map_get bC hk
      simp only [bC] at i2
      have e1 : eqI x.name x.name = true := eqI_t rfl
      have hd := hs.d x (mem_of_get hk)
      have hS := sameInts_pc x.safe (by have := hd.s; omega)
      have hF := sameInts_pc x.fresh (by have := hd.f; omega)
      have w1 := wr ((k : Int) + 1) (by omega)
      (try simp only [hg, push_cast, simprocAttr])
      refine at_draw rfl (by kernel_rfl) ?_; simp only [push_cast, simprocAttr]
      (try simp only [i1, i2, e1, Bool.not_true, push_cast, simprocAttr])
      repeat' first | (refine at_bWn (fun hb => ?_) (fun hb => ?_) <;> simp only [i1, i2, e1, Bool.not_true, hb, push_cast, simprocAttr]) | (refine at_bW (fun hb => ?_) (fun hb => ?_) <;> simp only [i1, i2, e1, Bool.not_true, hb, push_cast, simprocAttr]) | (refine at_callD (by simp [clB, idsL, idsA, hget]) ?_; (try simp only [push_cast, simprocAttr]); first | (refine rcd_v (hS) ?_; simp only [i1, i2, e1, Bool.not_true, push_cast, simprocAttr]) | (refine rcd_d (hS) (by simp [flatV, flatL, ctC, ndC, cmC]) (by simp [ren, ctC, ndC, cmC]) ?_; simp only [i1, i2, e1, Bool.not_true, push_cast, simprocAttr]) | (refine rcd_v (hF) ?_; simp only [i1, i2, e1, Bool.not_true, push_cast, simprocAttr]) | (refine rcd_d (hF) (by simp [flatV, flatL, ctC, ndC, cmC]) (by simp [ren, ctC, ndC, cmC]) ?_; simp only [i1, i2, e1, Bool.not_true, push_cast, simprocAttr])) | (refine at_done (by kernel_rfl) (by kernel_rfl) (go_on ?_); (try simp only [i1, i2, e1, Bool.not_true, push_cast, simprocAttr]))
      (try simp only [Bool.not_true, w1, push_cast, simprocAttr])
      refine at_fin ⟨k + 1, by omega, by omega, ?_⟩
      (refine wk_ok ?_ ?_ ?_ ?_ <;> simp [leL, leH, idsL, idsA, idsR, inH, hget, sameRow, upA, hvA, dsts, dstO, setA_0, setA_1, setA_8, List.append, List.cons_append, List.nil_append])
    · (try simp only [hg, push_cast, simprocAttr])
      refine at_ret ?_; simp only [Tryz.results27, push_cast, simprocAttr]
      simp [vX]
end Go.Proofs.YtccifbbjbnjcfaaGreatDoor
/-
  The abstract machine: a slice that is nil, read as an empty one, within rows.
-/
namespace Go.Proofs.YtccifbbjbnjcfaaGreatDoor
open Go Go.RowKit

def nlv (x y : AV) : Prop := x = y ∨ (x = .v (.slice none 0 0) ∧ ∃ n, y = .sl n [])
def nlC : List AV → List AV → Prop
  | [], [] => True
  | x :: l, y :: l' => nlv x y ∧ nlC l l'
  | _, _ => False
def nlE : List (List AV) → List (List AV) → Prop
  | [], [] => True
  | x :: l, y :: l' => nlC x y ∧ nlE l l'
  | _, _ => False
theorem nlC_refl : ∀ l, nlC l l
  | [] => trivial
  | _ :: l => ⟨.inl rfl, nlC_refl l⟩
theorem nlE_refl : ∀ l, nlE l l
  | [] => trivial
  | x :: l => ⟨nlC_refl x, nlE_refl l⟩
theorem nlC_get : ∀ {l l' : List AV}, nlC l l' → l.length = l'.length ∧ ∀ (j : Nat) y, l'[j]? = some y → ∃ x, l[j]? = some x ∧ nlv x y
  | [], [], _ => ⟨rfl, fun j y h => by simp at h⟩
  | x :: l, y :: l', ⟨h1, h2⟩ => by
    obtain ⟨g1, g2⟩ := nlC_get h2
    refine ⟨by simp [g1], fun j z hz => ?_⟩
    cases j with
    | zero => simp at hz; subst hz; exact ⟨x, rfl, h1⟩
    | succ j => exact g2 j z (by simpa using hz)
  | [], _ :: _, h => h.elim
  | _ :: _, [], h => h.elim
theorem nlE_get : ∀ {l l' : List (List AV)}, nlE l l' → l.length = l'.length ∧ ∀ (j : Nat) y, l'[j]? = some y → ∃ x, l[j]? = some x ∧ nlC x y
  | [], [], _ => ⟨rfl, fun j y h => by simp at h⟩
  | x :: l, y :: l', ⟨h1, h2⟩ => by
    obtain ⟨g1, g2⟩ := nlE_get h2
    refine ⟨by simp [g1], fun j z hz => ?_⟩
    cases j with
    | zero => simp at hz; subst hz; exact ⟨x, rfl, h1⟩
    | succ j => exact g2 j z (by simpa using hz)
  | [], _ :: _, h => h.elim
  | _ :: _, [], h => h.elim
def rowN2 (row row' : Row) : Prop := row'.E = row.E ∧ row'.sz = row.sz ∧ nlE row.es row'.es ∧ (row'.cl = true → (row.cl || row.es.all (·.all isC)) = true)
def leN (h : Hp) : Hp → Prop
  | [] => True
  | (r, row') :: l => (match hget h r with | some row => rowN2 row row' | none => False) ∧ leN h l
theorem leN_get {h : Hp} : ∀ {h' : Hp}, leN h h' → ∀ r row', hget h' r = some row' → ∃ row, hget h r = some row ∧ rowN2 row row'
  | [], _, r, row', hr => by simp [hget] at hr
  | (q, row0) :: h', hl, r, row', hr => by
    obtain ⟨h1, h2⟩ := hl
    simp only [hget] at hr
    split at hr
    · rename_i hq
      cases hr
      subst hq
      cases hg : hget h q with
      | none => rw [hg] at h1; exact h1.elim
      | some row => rw [hg] at h1; exact ⟨row, rfl, h1⟩
    · exact leN_get h2 r row' hr
theorem G.sub2 {h h' : Hp} {loc : Loc} {w : World} {x : AV} {u : Value} (hg : G h loc w x u) (hs : ∀ r ∈ idsA x, inH h' r = true) (hh : leN h h') (hC : ∀ x u, C (Live h loc) 0 w x u → C (Live h' loc) 0 w x u) : G h' loc w x u := by
  have hrow : ∀ r row, inH h' r = true → hget h r = some row → ∃ row', hget h' r = some row' ∧ rowN2 row row' := fun r row hi hr => by
    unfold inH at hi
    split at hi
    · rename_i row' hr'
      obtain ⟨row2, h1, h2⟩ := leN_get hh r row' hr'
      rw [hr] at h1
      cases h1
      exact ⟨row', hr', h2⟩
    · cases hi
  induction hg with
  | cl hc => exact .cl (hC _ _ hc)
  | @o r n row b c hr hl hn =>
    obtain ⟨row', h1, h2, h3, h4, _⟩ := hrow r row (hs r (by simp [idsA])) hr
    exact .o h1 hl (by rw [← (nlE_get h4).1]; exact hn)
  | @onil r row hr hl =>
    obtain ⟨row', h1, _⟩ := hrow r row (hs r (by simp [idsA])) hr
    exact .onil h1 hl
  | @p r k off row b c hr hl =>
    obtain ⟨row', h1, h2, h3, h4, _⟩ := hrow r row (hs r (by simp [idsA])) hr
    rw [← h3]
    exact .p h1 hl
  | @q r lo z n row b c A c' hr hl hn =>
    obtain ⟨row', h1, h2, h3, h4, _⟩ := hrow r row (hs r (by simp [idsA])) hr
    exact .q h1 hl hn
  | fn vs hvs hg ih => exact .fn vs hvs fun j a ha => ih j a ha fun r hr => hs r (by simp only [idsA]; exact idsL_mem ha r hr)
  | agg vs hvs hg ih => exact .agg vs hvs fun j a ha => ih j a ha fun r hr => hs r (by simp only [idsA]; exact idsL_mem ha r hr)
  | tup vs hvs hg ih => exact .tup vs hvs fun j a ha => ih j a ha fun r hr => hs r (by simp only [idsA]; exact idsL_mem ha r hr)
theorem wk_nil {s s' : AS} (ht : leL s.t s'.t) (hh : leN s.h s'.h) (hi : (idsL s'.t).all (inH s'.h) = true) (hr : idsR s'.h s'.h = true) : Wk s s' := by
  intro w0 lent loc a w hR
  obtain ⟨g1, g2⟩ := leL_get ht
  have hlive : ∀ b, Live s'.h loc b → Live s.h loc b := by
    rintro b (⟨r, row', c, h1, h2⟩ | hf)
    · obtain ⟨row, h3, _⟩ := leN_get hh r row' h1
      exact .inl ⟨r, row, c, h3, h2⟩
    · exact .inr hf
  have hC : ∀ x u, C (Live s.h loc) 0 w x u → C (Live s'.h loc) 0 w x u := fun x u hx => hx.mono (Nat.le_refl _) (Nat.le_refl _) fun b _ _ hnl => ⟨fun h => hnl (hlive b h), rfl⟩
  refine ⟨loc, hR.tsz.trans g1, fun i y hy => ?_, hR.df, fun r row' h1 => ?_, fun r r' row row' b c c' h1 h2 h3 h4 => ?_, fun r row' b c h1 h2 => ?_, hR.os, hR.tape, hR.output, hR.size, hR.keep, hR.fbe, hR.fbl, hR.pn, hR.pl⟩
  · rcases g2 i y hy with rfl | h
    · exact .cl .any
    · exact (hR.tm i y h).sub2 (fun r hr => List.all_eq_true.1 hi r (idsL_mem hy r hr)) hh hC
  · obtain ⟨row, h2, e1, e2, e3, e4⟩ := leN_get hh r row' h1
    obtain ⟨q1, xs, q2, q3⟩ := hR.rw r row h2
    obtain ⟨f1, f2⟩ := nlE_get e3
    refine ⟨fun k e he => ?_, xs, ?_, fun k e j y he hy => ?_⟩
    · obtain ⟨e0, f3, f4⟩ := f2 k e he
      rw [e2, ← (nlC_get f4).1]; exact q1 k e0 f3
    · rw [e1, e2, ← f1]; exact q2
    · obtain ⟨e0, f3, f4⟩ := f2 k e he
      obtain ⟨x, f5, f6⟩ := (nlC_get f4).2 j y hy
      obtain ⟨u, p1, p2, p3, p4⟩ := q3 k e0 j x f3 f5
      refine ⟨u, by rw [e2]; exact p1, p2, ?_, fun hc => ?_⟩
      · rcases f6 with rfl | ⟨rfl, n, rfl⟩
        · rcases idsR_get hr r row' h1 with hc | hc
          · have := e4 hc
            rw [Bool.or_eq_true] at this
            rcases this with h | h
            · exact .cl (hC _ _ (p4 h))
            · exact .cl (hC _ _ (isC_ok p3 (List.all_eq_true.1 (List.all_eq_true.1 h e0 (List.mem_of_getElem? f3)) x (List.mem_of_getElem? f5))))
          · refine p3.sub2 (fun r' hr' => ?_) hh hC
            have := hc e (List.mem_of_getElem? he)
            exact List.all_eq_true.1 this r' (idsL_mem hy r' hr')
        · have := G.nil2 (n := n) p3
          rw [p3.v_inv]
          exact .cl (.nilsl _)
      · rcases f6 with rfl | ⟨rfl, n, rfl⟩
        · have := e4 hc
          rw [Bool.or_eq_true] at this
          rcases this with h | h
          · exact hC _ _ (p4 h)
          · exact hC _ _ (isC_ok p3 (List.all_eq_true.1 (List.all_eq_true.1 h e0 (List.mem_of_getElem? f3)) x (List.mem_of_getElem? f5)))
        · rw [p3.v_inv]
          exact .nilsl _
  · obtain ⟨row1, g3, _⟩ := leN_get hh r row h1
    obtain ⟨row2, g4, _⟩ := leN_get hh r' row' h2
    exact hR.inj r r' row1 row2 b c c' g3 g4 h3 h4
  · obtain ⟨row1, g3, _⟩ := leN_get hh r row' h1
    exact hR.own r row1 b c g3 h2

end Go.Proofs.YtccifbbjbnjcfaaGreatDoor
/-
  The abstract machine: own rows read as data, whatever rows stand beside them; at a call, too.
-/
namespace Go.Proofs.YtccifbbjbnjcfaaGreatDoor
open Go Go.RowKit Go.Proofs
def frwRow (ids : List Nat) (h : Hp) (row : Row) : Row := if (row.es.all fun e => e.all fun x => (idsA x).all fun r => !hasN ids r) = true then row else ⟨row.E, row.sz, row.es.map (·.map (viewN 3 h)), true⟩
def frwH (ids : List Nat) (h : Hp) : Hp → Hp
  | [] => []
  | (r, row) :: l => (r, frwRow ids h row) :: frwH ids h l
def frwS (ids : List Nat) (s : AS) : AS := ⟨s.t.map (frzT ids s.h), frwH ids s.h (delL s.h ids)⟩
theorem at_callW {P : Program} {w0 : World} {lent : Lent} {Q : Exit → Act → World → Prop} {f : FuncId} {args : List AV} {dst : Option Tmp} {k : List It} {s : AS} (ids : List Nat) (h : Wk ⟨s.t ++ args, s.h⟩ (frwS ids ⟨s.t ++ args, s.h⟩))
    (hk : RWp P w0 lent Q (.call f (args.map (frzT ids s.h)) dst k (frwS ids s))) : RWp P w0 lent Q (.call f args dst k s) := by
  intro loc a w hR vs hs hg
  have hR1 : Rel w0 lent ⟨s.t ++ args, s.h⟩ loc { a with tmps := a.tmps ++ vs } w := by
    refine ⟨by simp [hR.tsz, hs], fun i x hx => ?_, hR.df, hR.rw, hR.inj, hR.own, hR.os, hR.tape, hR.output, hR.size, hR.keep, hR.fbe, hR.fbl, hR.pn, hR.pl⟩
    have htsz := hR.tsz
    rcases Nat.lt_or_ge i s.t.length with h1 | h1
    · rw [List.getElem?_append_left h1] at hx
      have := hR.tm i x hx
      have e : (a.tmps ++ vs).getD i undef = a.tmps.getD i undef := by
        simp only [Array.getD_eq_getD_getElem?]
        rw [Array.getElem?_append_left (by omega)]
      rw [e]; exact this
    · rw [List.getElem?_append_right h1] at hx
      have := hg (i - s.t.length) x hx
      have e : (a.tmps ++ vs).getD i undef = vs.getD (i - s.t.length) undef := by
        simp only [Array.getD_eq_getD_getElem?]
        rw [Array.getElem?_append_right (by omega), htsz]
      rw [e]; exact this
  obtain ⟨loc', hR2⟩ := h w0 lent loc _ w hR1
  have ht : (frwS ids ⟨s.t ++ args, s.h⟩).t = (frwS ids s).t ++ args.map (frzT ids s.h) := by simp [frwS]
  have hh : (frwS ids ⟨s.t ++ args, s.h⟩).h = (frwS ids s).h := rfl
  have hl : (frwS ids s).t.length = s.t.length := by simp [frwS]
  have htsz := hR.tsz
  have hR3 : Rel w0 lent (frwS ids s) loc' a w := by
    refine ⟨by rw [hl]; exact htsz, fun i x hx => ?_, hR.df, hR2.rw, hR2.inj, hR2.own, hR2.os, hR2.tape, hR2.output, hR2.size, hR2.keep, hR2.fbe, hR2.fbl, hR2.pn, hR2.pl⟩
    have hi := lt_of_some hx
    have := hR2.tm i x (by rw [ht, List.getElem?_append_left hi]; exact hx)
    have e : (a.tmps ++ vs).getD i undef = a.tmps.getD i undef := by
      simp only [Array.getD_eq_getD_getElem?]
      rw [Array.getElem?_append_left (by omega)]
    rw [hh] at this
    dsimp only at this
    rw [e] at this; exact this
  refine hk loc' a w hR3 vs (by simp [hs]) fun j x hx => ?_
  have := hR2.tm (s.t.length + j) x (by rw [ht, List.getElem?_append_right (by omega), hl, Nat.add_sub_cancel_left]; exact hx)
  have e : (a.tmps ++ vs).getD (s.t.length + j) undef = vs.getD j undef := by
    simp only [Array.getD_eq_getD_getElem?]
    rw [Array.getElem?_append_right (by omega), htsz, Nat.add_sub_cancel_left]
  rw [hh] at this
  dsimp only at this
  rw [e] at this; exact this
def nlCell (n : Nat) : AV → AV
  | .v (.slice none 0 0) => .sl n []
  | x => x
def nilH (r n : Nat) : Hp → Hp
  | [] => []
  | (k, row) :: l => (k, if k = r then ⟨row.E, row.sz, row.es.map (·.map (nlCell n)), row.cl⟩ else row) :: nilH r n l
def nilR (r n : Nat) (s : AS) : AS := ⟨s.t, nilH r n s.h⟩
/-- The nil slices in a row, read as empty ones. -/
theorem at_nilR {P : Program} {w0 : World} {lent : Lent} {Q : Exit → Act → World → Prop} {k : List It} {s : AS} (r n : Nat) (h : Wk s (nilR r n s)) (h' : AW P w0 lent Q k (nilR r n s)) : AW P w0 lent Q k s := AW.wk h h'
theorem at_callV {P : Program} {w0 : World} {lent : Lent} {Q : Exit → Act → World → Prop} {f : FuncId} {args : List AV} {dst : Option Tmp} {k : List It} {s : AS} (g : AV → AV) (h' : Hp) (h : Wk ⟨s.t ++ args, s.h⟩ ⟨(s.t ++ args).map g, h'⟩)
    (hk : RWp P w0 lent Q (.call f (args.map g) dst k ⟨s.t.map g, h'⟩)) : RWp P w0 lent Q (.call f args dst k s) := by
  intro loc a w hR vs hs hg
  have hR1 : Rel w0 lent ⟨s.t ++ args, s.h⟩ loc { a with tmps := a.tmps ++ vs } w := by
    refine ⟨by simp [hR.tsz, hs], fun i x hx => ?_, hR.df, hR.rw, hR.inj, hR.own, hR.os, hR.tape, hR.output, hR.size, hR.keep, hR.fbe, hR.fbl, hR.pn, hR.pl⟩
    have htsz := hR.tsz
    rcases Nat.lt_or_ge i s.t.length with h1 | h1
    · rw [List.getElem?_append_left h1] at hx
      have := hR.tm i x hx
      have e : (a.tmps ++ vs).getD i undef = a.tmps.getD i undef := by
        simp only [Array.getD_eq_getD_getElem?]
        rw [Array.getElem?_append_left (by omega)]
      rw [e]; exact this
    · rw [List.getElem?_append_right h1] at hx
      have := hg (i - s.t.length) x hx
      have e : (a.tmps ++ vs).getD i undef = vs.getD (i - s.t.length) undef := by
        simp only [Array.getD_eq_getD_getElem?]
        rw [Array.getElem?_append_right (by omega), htsz]
      rw [e]; exact this
  obtain ⟨loc', hR2⟩ := h w0 lent loc _ w hR1
  have ht : (s.t ++ args).map g = s.t.map g ++ args.map g := List.map_append
  have hl : (s.t.map g).length = s.t.length := List.length_map _
  have htsz := hR.tsz
  have hR3 : Rel w0 lent ⟨s.t.map g, h'⟩ loc' a w := by
    refine ⟨by simpa using htsz, fun i x hx => ?_, hR.df, hR2.rw, hR2.inj, hR2.own, hR2.os, hR2.tape, hR2.output, hR2.size, hR2.keep, hR2.fbe, hR2.fbl, hR2.pn, hR2.pl⟩
    have hi := lt_of_some hx
    dsimp only at hi
    rw [hl] at hi
    have := hR2.tm i x (by dsimp only; rw [ht, List.getElem?_append_left (by omega)]; exact hx)
    have e : (a.tmps ++ vs).getD i undef = a.tmps.getD i undef := by
      simp only [Array.getD_eq_getD_getElem?]
      rw [Array.getElem?_append_left (by omega)]
    dsimp only at this
    rw [e] at this; exact this
  refine hk loc' a w hR3 vs (by simp [hs]) fun j x hx => ?_
  have := hR2.tm (s.t.length + j) x (by dsimp only; rw [ht, List.getElem?_append_right (by omega), hl, Nat.add_sub_cancel_left]; exact hx)
  have e : (a.tmps ++ vs).getD (s.t.length + j) undef = vs.getD j undef := by
    simp only [Array.getD_eq_getD_getElem?]
    rw [Array.getElem?_append_right (by omega), htsz, Nat.add_sub_cancel_left]
  dsimp only at this
  rw [e] at this; exact this
theorem at_callN {P : Program} {w0 : World} {lent : Lent} {Q : Exit → Act → World → Prop} {f : FuncId} {args : List AV} {dst : Option Tmp} {k : List It} {s : AS} (r n : Nat) (h : Wk ⟨s.t ++ args, s.h⟩ ⟨s.t ++ args, nilH r n s.h⟩)
    (hk : RWp P w0 lent Q (.call f args dst k (nilR r n s))) : RWp P w0 lent Q (.call f args dst k s) := at_callV id (nilH r n s.h) (by rw [List.map_id]; exact h) (by simpa [nilR] using hk)
end Go.Proofs.YtccifbbjbnjcfaaGreatDoor
/-
  Walks: disks: the reference's DiskWrite.
-/
namespace Go.Proofs.YtccifbbjbnjcfaaGreatDoor
open Go Go.RowKit Go.Proofs
theorem writeD_false {bs : List BD} {nm : Int} {xs : List Int} (h : (diskB bs && bytesB xs && inB nm 1 3 && diskB (withB bs (wrB bs nm xs))) = false) : writeD bs nm xs = ([], false) := by
  unfold writeD; rw [h]; rfl
theorem insB_mem {bs : List BD} {d x : BD} (h : x ∈ withB bs d) : x = d ∨ x ∈ bs := by
  rcases mem_with.1 h with h | h
  · exact .inl h
  · exact .inr h.1
theorem withB_len (bs : List BD) (d : BD) : (withB bs d).length ≤ bs.length + 1 := by
  unfold withB
  rw [insB_len]
  have := List.length_filter_le (fun x : BD => decide (x.name ≠ d.name)) bs
  omega
theorem withB_sm {bs : List BD} {d : BD} (h : SmB bs) (hn : bs.length ≤ 1000) (hd : SmD d) : SmB (withB bs d) := by
  have := withB_len bs d
  refine ⟨by omega, fun x hx => ?_⟩
  rcases insB_mem hx with rfl | hx
  · exact hd
  · exact h.d x hx
attribute [local irreducible] RWp AW run kPe pe Kt effA gd gu br retR RDp runD kPeD brW gW effD
set_option maxRecDepth 100000
theorem specDiskWrite_d (bs : List BD) (hs : SmB bs) (nm : Int) (xs : List Int) (hx : xs.length ≤ 2000000) (hd2 : ∀ d ∈ bs, d.fresh.length ≤ 2000000) : PC Tryz.prog 38 [blsA bs, iA nm, intsA xs] (vX (.tup [blsA (writeD bs nm xs).1, bA (writeD bs nm xs).2])) := by
  have hV := specDiskValid_pc bs hs
  have hB := l4Bytes_pc xs (by omega)
  have hn := hs.n
  have emp : ∀ {q : PC Tryz.prog 38 [blsA bs, iA nm, intsA xs] (rX (.tup [.o 0 0, bA false]) [rowB []])}, PC Tryz.prog 38 [blsA bs, iA nm, intsA xs] (vX (.tup [blsA [], bA false])) := fun {q} => by
    have := q.frzX
    simp [viewN, hpOf, hget, isC, tk] at this
    exact this
  cases hv : diskB bs with
  | false =>
    rw [writeD_false (by simp [hv])]
    refine emp (q := ?_)
    refine pc_enter Tryz.func38 rfl rfl fun w0 fb => go_on ?_; (try simp only [Tryz.ntmps38, push_cast, simprocAttr])
    (refine at_call ?_; (try simp only [push_cast, simprocAttr]); refine rwc_v (hV) (go_on ?_); (try simp only [push_cast, simprocAttr]))
    (try simp only [hv, Bool.not_false, push_cast, simprocAttr])
    refine at_ret ?_; simp only [Tryz.results38, push_cast, simprocAttr]
    simp [rX, ixOf]
  | true =>
    have h3n := disk_len hv
    cases hxb : bytesB xs with
    | false =>
      rw [writeD_false (by simp [hxb])]
      refine emp (q := ?_)
      refine pc_enter Tryz.func38 rfl rfl fun w0 fb => go_on ?_; (try simp only [Tryz.ntmps38, push_cast, simprocAttr])
      (refine at_call ?_; (try simp only [push_cast, simprocAttr]); refine rwc_v (hV) (go_on ?_); (try simp only [push_cast, simprocAttr]))
      (try simp only [hv, Bool.not_true, push_cast, simprocAttr])
      (refine at_call ?_; (try simp only [push_cast, simprocAttr]); refine rwc_v (hB) (go_on ?_); (try simp only [push_cast, simprocAttr]))
      (try simp only [hxb, Bool.not_false, push_cast, simprocAttr])
      refine at_ret ?_; simp only [Tryz.results38, push_cast, simprocAttr]
      simp [rX, ixOf]
    | true =>
      have hF := l31Find_pc bs hs.n nm
      obtain ⟨D, hD⟩ : ∃ D, D = wrB bs nm xs := ⟨_, rfl⟩
      have hDs : SmD D := by
        rw [hD]
        unfold wrB
        cases hg : getB bs nm with
        | none => exact ⟨by simp, by simp only; omega⟩
        | some d =>
          have hm := (getB_name hg).2
          exact ⟨(hs.d d hm).s, by have := hd2 d hm; simp only [List.length_append]; omega⟩
      have hW := l31With_d bs hs (by omega) D hDs
      have hwl := withB_len bs D
      have hws := withB_sm hs (by omega) hDs
      have hV2 := specDiskValid_pc (withB bs D) hws
      have hok : (diskB (withB bs D)) = (diskB bs && bytesB xs && inB nm 1 3 && diskB (withB bs (wrB bs nm xs))) := by
        rw [hv, hxb, ← hD]
        cases h : diskB (withB bs D) with
        | false => simp
        | true =>
          have := disk_with_ok h
          simp only [okF, Bool.and_eq_true] at this
          have e : D.name = nm := by rw [hD]; exact wrB_name bs nm xs
          rw [e] at this
          simp [this.1.1.1]
      rcases ixB_cases bs nm with ⟨h1, h2⟩ | ⟨j, d, h1, h2, h3⟩
      · have hDe : D = ⟨nm, [], xs⟩ := by rw [hD]; unfold wrB; rw [h2]
        rw [hDe] at hW
        unfold blobA at hW
        simp only [bC, List.map_nil] at hW
        rw [← hDe] at hW
        cases hV3 : diskB (withB bs D) with
        | false =>
          rw [writeD_false (by rw [← hok, hV3])]
          refine emp (q := ?_)
          refine pc_enter Tryz.func38 rfl rfl fun w0 fb => go_on ?_; (try simp only [Tryz.ntmps38, push_cast, simprocAttr])
          (refine at_call ?_; (try simp only [push_cast, simprocAttr]); refine rwc_v (hV) (go_on ?_); (try simp only [push_cast, simprocAttr]))
          (try simp only [hv, Bool.not_true, push_cast, simprocAttr])
          (refine at_call ?_; (try simp only [push_cast, simprocAttr]); refine rwc_v (hB) (go_on ?_); (try simp only [push_cast, simprocAttr]))
          (try simp only [hxb, Bool.not_true, push_cast, simprocAttr])
          refine at_call ?_
          (try simp only [push_cast, simprocAttr])
          refine rwc_v hF ?_
          (try simp only [push_cast, simprocAttr])
          refine at_nilR 8 1 (by refine wk_nil ?_ ?_ ?_ ?_ <;> simp [nilR, nilH, nlCell, leL, leN, rowN2, nlE, nlC, nlv, idsL, idsA, idsR, inH, hget]) ?_
          simp only [nilR, nilH, nlCell, Nat.reduceEqDiff, if_true, if_false, List.map_cons, List.map_nil, simprocAttr]
          refine go_on ?_
          (try simp only [h1, show leI 0 (-1) = false from rfl, push_cast, simprocAttr])
          refine at_chk (by simp) ?_
          (try simp only [push_cast, simprocAttr])
          refine at_chk (by omega) ?_
          (try simp only [Nat.zero_add, push_cast, simprocAttr])
          (refine at_callW [32] (by refine wk_frz ?_ ?_ ?_ ?_ <;> simp [frwS, frwH, frwRow, frzT, hasN, delL, hdel, leF, leHF, rowF, frzB, idsL, idsA, idsR, inH, hget, sameRow, viewN, tk]) ?_; simp only [frwS, frwH, frwRow, frzT, hasN, delL, hdel, idsA, idsL, viewN, hget, tk, isC, List.map_cons, List.map_nil, List.all_cons, List.all_nil, List.append_nil, List.drop, List.getElem?_cons_zero, List.getElem?_cons_succ, Bool.not_false, Bool.not_true, Bool.and_true, if_true, if_false, Nat.zero_add, List.length_map, simprocAttr])
          ((try simp only [push_cast, simprocAttr]); refine at_share2 (by simp [isC2, isC]) (by first | rfl | simp [ren]) (hW) (go_on ?_); (try simp only [push_cast, simprocAttr]))
          (refine at_call ?_; (try simp only [push_cast, simprocAttr]); refine rwc_v (hV2) (go_on ?_); (try simp only [push_cast, simprocAttr]))
          (try simp only [hV3, Bool.not_false, push_cast, simprocAttr])
          refine at_ret ?_; simp only [Tryz.results38, push_cast, simprocAttr]
          simp [rX, ixOf]
        | true =>
          have hr : writeD bs nm xs = (withB bs D, true) := by unfold writeD; rw [← hok, hV3, hD]; rfl
          rw [hr]
          refine pc_enter Tryz.func38 rfl rfl fun w0 fb => go_on ?_; (try simp only [Tryz.ntmps38, push_cast, simprocAttr])
          (refine at_call ?_; (try simp only [push_cast, simprocAttr]); refine rwc_v (hV) (go_on ?_); (try simp only [push_cast, simprocAttr]))
          (try simp only [hv, Bool.not_true, push_cast, simprocAttr])
          (refine at_call ?_; (try simp only [push_cast, simprocAttr]); refine rwc_v (hB) (go_on ?_); (try simp only [push_cast, simprocAttr]))
          (try simp only [hxb, Bool.not_true, push_cast, simprocAttr])
          refine at_call ?_
          (try simp only [push_cast, simprocAttr])
          refine rwc_v hF ?_
          (try simp only [push_cast, simprocAttr])
          refine at_nilR 8 1 (by refine wk_nil ?_ ?_ ?_ ?_ <;> simp [nilR, nilH, nlCell, leL, leN, rowN2, nlE, nlC, nlv, idsL, idsA, idsR, inH, hget]) ?_
          simp only [nilR, nilH, nlCell, Nat.reduceEqDiff, if_true, if_false, List.map_cons, List.map_nil, simprocAttr]
          refine go_on ?_
          (try simp only [h1, show leI 0 (-1) = false from rfl, push_cast, simprocAttr])
          refine at_chk (by simp) ?_
          (try simp only [push_cast, simprocAttr])
          refine at_chk (by omega) ?_
          (try simp only [Nat.zero_add, push_cast, simprocAttr])
          (refine at_callW [32] (by refine wk_frz ?_ ?_ ?_ ?_ <;> simp [frwS, frwH, frwRow, frzT, hasN, delL, hdel, leF, leHF, rowF, frzB, idsL, idsA, idsR, inH, hget, sameRow, viewN, tk]) ?_; simp only [frwS, frwH, frwRow, frzT, hasN, delL, hdel, idsA, idsL, viewN, hget, tk, isC, List.map_cons, List.map_nil, List.all_cons, List.all_nil, List.append_nil, List.drop, List.getElem?_cons_zero, List.getElem?_cons_succ, Bool.not_false, Bool.not_true, Bool.and_true, if_true, if_false, Nat.zero_add, List.length_map, simprocAttr])
          ((try simp only [push_cast, simprocAttr]); refine at_share2 (by simp [isC2, isC]) (by first | rfl | simp [ren]) (hW) (go_on ?_); (try simp only [push_cast, simprocAttr]))
          (refine at_call ?_; (try simp only [push_cast, simprocAttr]); refine rwc_v (hV2) (go_on ?_); (try simp only [push_cast, simprocAttr]))
          (try simp only [hV3, Bool.not_true, push_cast, simprocAttr])
          refine at_ret ?_; simp only [Tryz.results38, push_cast, simprocAttr]
          simp [vX]
      · have hDe : D = ⟨nm, d.safe, d.fresh ++ xs⟩ := by rw [hD]; unfold wrB; rw [h3]
        have hdn := (getB_name h3).1
        have hdm := (getB_name h3).2
        have hdf := hd2 d hdm
        have i1 := ix_n h2
        have i2 := map_get bC h2
        have j1 : leI 0 (j : Int) = true := leI_t (by omega)
        have hC := l31Copy_d d (hs.d d hdm)
        rw [hDe] at hW
        unfold blobA at hW hC
        simp only [bC, List.map_append] at hW hC i2
        rw [← hDe, ← hdn] at hW
        cases hV3 : diskB (withB bs D) with
        | false =>
          rw [writeD_false (by rw [← hok, hV3])]
          refine emp (q := ?_)
          refine pc_enter Tryz.func38 rfl rfl fun w0 fb => go_on ?_; (try simp only [Tryz.ntmps38, push_cast, simprocAttr])
          (refine at_call ?_; (try simp only [push_cast, simprocAttr]); refine rwc_v (hV) (go_on ?_); (try simp only [push_cast, simprocAttr]))
          (try simp only [hv, Bool.not_true, push_cast, simprocAttr])
          (refine at_call ?_; (try simp only [push_cast, simprocAttr]); refine rwc_v (hB) (go_on ?_); (try simp only [push_cast, simprocAttr]))
          (try simp only [hxb, Bool.not_true, push_cast, simprocAttr])
          (refine at_call ?_; (try simp only [push_cast, simprocAttr]); refine rwc_v (hF) (go_on ?_); (try simp only [push_cast, simprocAttr]))
          (try simp only [h1, j1, push_cast, simprocAttr])
          (refine at_call ?_; (try simp only [push_cast, simprocAttr]); refine rwc_v (hF) (go_on ?_); (try simp only [push_cast, simprocAttr]))
          (try simp only [h1, i1, i2, push_cast, simprocAttr])
          ((try simp only [push_cast, simprocAttr]); refine at_share2 (by simp [isC2, isC]) (by first | rfl | simp [ren]) (hC) (go_on ?_); (try simp only [push_cast, simprocAttr]))
          refine at_chk (by omega) ?_
          (try simp only [Nat.zero_add, push_cast, simprocAttr])
          refine at_chk (by omega) ?_
          (try simp only [Nat.zero_add, push_cast, simprocAttr])
          (refine at_callW [32] (by refine wk_frz ?_ ?_ ?_ ?_ <;> simp [← List.map_append, List.length_append, eq_self, frwS, frwH, frwRow, frzT, hasN, delL, hdel, leF, leHF, rowF, frzB, idsL, idsA, idsR, inH, hget, sameRow, viewN, tk]) ?_; simp only [← List.map_append, List.length_append, eq_self, frwS, frwH, frwRow, frzT, hasN, delL, hdel, idsA, idsL, viewN, hget, tk, isC, List.map_cons, List.map_nil, List.all_cons, List.all_nil, List.append_nil, List.drop, List.getElem?_cons_zero, List.getElem?_cons_succ, Bool.not_false, Bool.not_true, Bool.and_true, if_true, if_false, Nat.zero_add, List.length_map, simprocAttr])
          ((try simp only [push_cast, simprocAttr]); refine at_share2 (by simp [isC2, isC]) (by first | rfl | simp [ren]) (hW) (go_on ?_); (try simp only [push_cast, simprocAttr]))
          (refine at_call ?_; (try simp only [push_cast, simprocAttr]); refine rwc_v (hV2) (go_on ?_); (try simp only [push_cast, simprocAttr]))
          (try simp only [hV3, Bool.not_false, push_cast, simprocAttr])
          refine at_ret ?_; simp only [Tryz.results38, push_cast, simprocAttr]
          simp [rX, ixOf]
        | true =>
          have hr : writeD bs nm xs = (withB bs D, true) := by unfold writeD; rw [← hok, hV3, hD]; rfl
          rw [hr]
          refine pc_enter Tryz.func38 rfl rfl fun w0 fb => go_on ?_; (try simp only [Tryz.ntmps38, push_cast, simprocAttr])
          (refine at_call ?_; (try simp only [push_cast, simprocAttr]); refine rwc_v (hV) (go_on ?_); (try simp only [push_cast, simprocAttr]))
          (try simp only [hv, Bool.not_true, push_cast, simprocAttr])
          (refine at_call ?_; (try simp only [push_cast, simprocAttr]); refine rwc_v (hB) (go_on ?_); (try simp only [push_cast, simprocAttr]))
          (try simp only [hxb, Bool.not_true, push_cast, simprocAttr])
          (refine at_call ?_; (try simp only [push_cast, simprocAttr]); refine rwc_v (hF) (go_on ?_); (try simp only [push_cast, simprocAttr]))
          (try simp only [h1, j1, push_cast, simprocAttr])
          (refine at_call ?_; (try simp only [push_cast, simprocAttr]); refine rwc_v (hF) (go_on ?_); (try simp only [push_cast, simprocAttr]))
          (try simp only [h1, i1, i2, push_cast, simprocAttr])
          ((try simp only [push_cast, simprocAttr]); refine at_share2 (by simp [isC2, isC]) (by first | rfl | simp [ren]) (hC) (go_on ?_); (try simp only [push_cast, simprocAttr]))
          refine at_chk (by omega) ?_
          (try simp only [Nat.zero_add, push_cast, simprocAttr])
          refine at_chk (by omega) ?_
          (try simp only [Nat.zero_add, push_cast, simprocAttr])
          (refine at_callW [32] (by refine wk_frz ?_ ?_ ?_ ?_ <;> simp [← List.map_append, List.length_append, eq_self, frwS, frwH, frwRow, frzT, hasN, delL, hdel, leF, leHF, rowF, frzB, idsL, idsA, idsR, inH, hget, sameRow, viewN, tk]) ?_; simp only [← List.map_append, List.length_append, eq_self, frwS, frwH, frwRow, frzT, hasN, delL, hdel, idsA, idsL, viewN, hget, tk, isC, List.map_cons, List.map_nil, List.all_cons, List.all_nil, List.append_nil, List.drop, List.getElem?_cons_zero, List.getElem?_cons_succ, Bool.not_false, Bool.not_true, Bool.and_true, if_true, if_false, Nat.zero_add, List.length_map, simprocAttr])
          ((try simp only [push_cast, simprocAttr]); refine at_share2 (by simp [isC2, isC]) (by first | rfl | simp [ren]) (hW) (go_on ?_); (try simp only [push_cast, simprocAttr]))
          (refine at_call ?_; (try simp only [push_cast, simprocAttr]); refine rwc_v (hV2) (go_on ?_); (try simp only [push_cast, simprocAttr]))
          (try simp only [hV3, Bool.not_true, push_cast, simprocAttr])
          refine at_ret ?_; simp only [Tryz.results38, push_cast, simprocAttr]
          simp [vX]
end Go.Proofs.YtccifbbjbnjcfaaGreatDoor
/-
  The abstract machine: memory set aside ('fb'), and the world anew: calls that make or write memory of which no row speaks.
-/
namespace Go.Proofs.YtccifbbjbnjcfaaGreatDoor
open Go Go.RowKit

def nf : List It → Bool
  | [] => true
  | .fin _ :: _ => false
  | _ :: k => nf k
theorem Kt_nf {P : Program} {w0 w1 : World} {lent lent1 : Lent} {Q : Exit → Act → World → Prop} : ∀ {k : List It}, nf k = true → Kt P w0 lent Q k = Kt P w1 lent1 Q k
  | [], _ => by funext e a w; simp only [Kt]
  | .fin _ :: _, h => by cases h
  | .code c :: k, h => by
    have ih := Kt_nf (P := P) (w0 := w0) (w1 := w1) (lent := lent) (lent1 := lent1) (Q := Q) (k := k) h
    funext e a w; cases e <;> simp only [Kt, ih]
  | .ops l :: k, h => by
    have ih := Kt_nf (P := P) (w0 := w0) (w1 := w1) (lent := lent) (lent1 := lent1) (Q := Q) (k := k) h
    funext e a w; cases e <;> simp only [Kt, ih]
  | .inBlock id :: k, h => by
    have ih := Kt_nf (P := P) (w0 := w0) (w1 := w1) (lent := lent) (lent1 := lent1) (Q := Q) (k := k) h
    funext e a w; cases e <;> simp only [Kt, ih]
/-- Only these blocks were written. -/
structure Mut (X : Nat → Prop) (w w' : World) : Prop where
  os : w'.os = w.os
  tape : w'.tape = w.tape
  output : w'.output = w.output
  size : w.heap.size ≤ w'.heap.size
  keep : ∀ b, b < w.heap.size → ¬ X b → w'.heap[b]? = w.heap[b]?
/-- What the base of a relation owes an older world; 'X': what may have been written of that. -/
structure ChX (X : Nat → Prop) (w0 w1 : World) (lent : Lent) : Prop where
  os : w1.os = w0.os
  tape : w1.tape = w0.tape
  output : w1.output = w0.output
  size : w0.heap.size ≤ w1.heap.size
  keep : ∀ b, b < w0.heap.size → ¬ X b → w1.heap[b]? = w0.heap[b]?
  bk : ∀ b, lent.bk b → X b ∨ w0.heap.size ≤ b
  fb : ∀ b, lent.fb b → X b ∨ w0.heap.size ≤ b
abbrev Ch (w0 w1 : World) (lent : Lent) : Prop := ChX (fun _ => False) w0 w1 lent
theorem Ch.refl (w : World) : Ch w w ⟨fun _ => False, fun _ => False, fun _ => none⟩ := ⟨rfl, rfl, rfl, Nat.le_refl _, fun _ _ _ => rfl, fun _ h => h.elim, fun _ h => h.elim⟩
section
variable {P : Program} {w0 w1 : World} {lent1 : Lent} {Q : Exit → Act → World → Prop} {s : AS} {loc : Loc} {a : Act} {w : World}
theorem ChX.mut {X : Nat → Prop} (h : ChX X w0 w1 lent1) (hR : Rel w1 lent1 s loc a w) : Mut X w0 w :=
  ⟨hR.os.trans h.os, hR.tape.trans h.tape, hR.output.trans h.output, Nat.le_trans h.size hR.size, fun b hb hx => (hR.keep b (Nat.lt_of_lt_of_le hb h.size) fun hk => (h.bk b hk).elim hx fun h2 => by omega).trans (h.keep b hb hx)⟩
theorem ChX.below (h : Ch w0 w1 lent1) (hR : Rel w1 lent1 s loc a w) : Below w0.heap.size w0 w := by
  have := h.mut hR
  exact ⟨this.os, this.tape, this.output, this.size, fun b hb => this.keep b hb fun h => h⟩
theorem ChX.fb' (h : Ch w0 w1 lent1) {b : Nat} (hb : lent1.fb b) : w0.heap.size ≤ b := (h.fb b hb).resolve_left fun h => h
theorem ChX.bk' (h : Ch w0 w1 lent1) {b : Nat} (hb : lent1.bk b) : w0.heap.size ≤ b := (h.bk b hb).resolve_left fun h => h
theorem ChX.own {X : Nat → Prop} (h : ChX X w0 w1 lent1) (hR : Rel w1 lent1 s loc a w) {r : Nat} {row : Row} {b c : Nat} (h1 : hget s.h r = some row) (h2 : loc r = some (b, c)) : X b ∨ w0.heap.size ≤ b := by
  rcases hR.own r row b c h1 h2 with h4 | h4
  · exact .inr (Nat.le_trans h.size h4)
  · exact h.bk b h4
theorem Rel.fbk (hR : Rel w1 lent1 s loc a w) {b : Nat} (hb : lent1.fb b) : w.heap[b]? = w1.heap[b]? := hR.keep b (hR.fbl b hb).1 (hR.fbl b hb).2
theorem Rel.nfb (hR : Rel w1 lent1 s loc a w) {r : Nat} {row : Row} {b c : Nat} (h1 : hget s.h r = some row) (h2 : loc r = some (b, c)) : ¬ lent1.fb b := fun hf => by
  obtain ⟨h3, h4⟩ := hR.fbl b hf
  rcases hR.own r row b c h1 h2 with h5 | h5
  · omega
  · exact h4 h5
theorem Rel.liveLt (hR : Rel w1 lent1 s loc a w) {b : Nat} (hb : Live s.h loc b) : b < w.heap.size := by
  rcases hb with hb | hb
  · exact Live.lt hR.rw hb
  · rw [hR.fbe] at hb
    exact Nat.lt_of_lt_of_le (hR.fbl b hb).1 hR.size
theorem AW.re {k : List It} (hk : nf k = true) (h : ∀ loc a w, Rel w1 lent1 s loc a w → ∃ w2 lent2 s2 loc2, Rel w2 lent2 s2 loc2 a w ∧ AW P w2 lent2 Q k s2) : AW P w1 lent1 Q k s := fun loc a w hR => by
  obtain ⟨w2, lent2, s2, loc2, h1, h2⟩ := h loc a w hR
  rw [Kt_nf (w1 := w2) (lent1 := lent2) hk]
  exact h2 loc2 a w h1
theorem loop_re {c : Code} {k : List It} {X : Type} (S : X → AS) (J : X → World → Lent → Prop) (μ : X → Nat) (hk : nf k = true)
    (h0 : ∀ loc a w, Rel w1 lent1 s loc a w → ∃ x w2 lent2 loc2, J x w2 lent2 ∧ Rel w2 lent2 (S x) loc2 a w)
    (hr : ∀ x w2 lent2, J x w2 lent2 → AW P w2 lent2 Q (.code c :: .fin (fun s' => ∀ loc a w, Rel w2 lent2 s' loc a w → ∃ y w3 lent3 loc3, J y w3 lent3 ∧ μ y < μ x ∧ Rel w3 lent3 (S y) loc3 a w) :: k) (S x)) : RWp P w1 lent1 Q (.loop c k s) := by
  intro loc a w hR
  obtain ⟨x0, w2, lent2, loc0, hj, hR0⟩ := h0 loc a w hR
  have least : ∀ p : Nat → Prop, (∃ n, p n) → ∃ n, p n ∧ ∀ m, p m → n ≤ m := by
    intro p ⟨n, hn⟩
    induction n using Nat.strongRecOn with
    | _ n ih =>
      by_cases h : ∃ m, m < n ∧ p m
      · obtain ⟨m, h1, h2⟩ := h
        exact ih m h1 h2
      · exact ⟨n, hn, fun m hm => by
          rcases Nat.lt_or_ge m n with h1 | h1
          · exact absurd ⟨m, h1, hm⟩ h
          · exact h1⟩
  classical
  let p : Act → World → Nat → Prop := fun a w n => ∃ x w2 lent2 loc, J x w2 lent2 ∧ Rel w2 lent2 (S x) loc a w ∧ μ x = n
  let m : Act → World → Nat := fun a w => if h : ∃ n, p a w n then Classical.choose (least _ h) else 0
  have hm : ∀ a w n, p a w n → p a w (m a w) ∧ m a w ≤ n := by
    intro a w n hn
    have h : ∃ n, p a w n := ⟨n, hn⟩
    have hc := Classical.choose_spec (least _ h)
    simp only [m, dif_pos h]
    exact ⟨hc.1, hc.2 n hn⟩
  refine wp_loop (fun a w => ∃ n, p a w n) m ⟨μ x0, x0, w2, lent2, loc0, hj, hR0, rfl⟩ fun a w ⟨n, hn⟩ => ?_
  obtain ⟨⟨x, w2, lent2, loc, hx, hR, hmx⟩, _⟩ := hm a w n hn
  refine wp_mono (hr x w2 lent2 hx loc a w hR) fun e a' w' hkk => ?_
  rw [Kt_nf (w1 := w2) (lent1 := lent2) hk]
  cases e with
  | normal =>
    obtain ⟨s', loc1, hK, hR1⟩ := hkk
    obtain ⟨y, w3, lent3, loc3, hy, hlt, hR2⟩ := hK loc1 a' w' hR1
    have h1 : p a' w' (μ y) := ⟨y, w3, lent3, loc3, hy, hR2, rfl⟩
    exact ⟨⟨_, h1⟩, by have := (hm a' w' _ h1).2; omega⟩
  | _ => exact hkk

theorem at_loopR {c : Code} {k : List It} {X : Type} (f : X → List (Nat × AV)) (g : X → Hp) (J : X → World → Lent → Prop) (μ : X → Nat) (hk : nf k = true)
    (h0 : ∀ loc a w, Rel w1 lent1 s loc a w → ∃ x w2 lent2 loc2, J x w2 lent2 ∧ Rel w2 lent2 ⟨upA (hvA s.t (dsts c)) (f x), g x⟩ loc2 a w)
    (hr : ∀ x w2 lent2, J x w2 lent2 → AW P w2 lent2 Q (.code c :: .fin (fun s' => ∀ loc a w, Rel w2 lent2 s' loc a w → ∃ y w3 lent3 loc3, J y w3 lent3 ∧ μ y < μ x ∧ Rel w3 lent3 ⟨upA (hvA s.t (dsts c)) (f y), g y⟩ loc3 a w) :: k) ⟨upA (hvA s.t (dsts c)) (f x), g x⟩) : RWp P w1 lent1 Q (.loop c k s) :=
  loop_re (fun x => ⟨upA (hvA s.t (dsts c)) (f x), g x⟩) J μ hk h0 hr
theorem from_wk {X : Type} {S : X → AS} {J : X → World → Lent → Prop} (x0 : X) (hj : J x0 w1 lent1) (h : Wk s (S x0)) : ∀ loc a w, Rel w1 lent1 s loc a w → ∃ x w2 lent2 loc2, J x w2 lent2 ∧ Rel w2 lent2 (S x) loc2 a w := fun loc a w hR => by
  obtain ⟨loc', h'⟩ := h w1 lent1 loc a w hR
  exact ⟨x0, w1, lent1, loc', hj, h'⟩
theorem from_wk2 {X : Type} {S : X → AS} {J : X → World → Lent → Prop} {μ : X → Nat} {m : Nat} (hR : Rel w1 lent1 s loc a w) (y : X) (hj : J y w1 lent1) (hm : μ y < m) (h : Wk s (S y)) : ∃ y w3 lent3 loc3, J y w3 lent3 ∧ μ y < m ∧ Rel w3 lent3 (S y) loc3 a w := by
  obtain ⟨loc', h'⟩ := h w1 lent1 loc a w hR
  exact ⟨y, w1, lent1, loc', hj, hm, h'⟩
/-- A relation anew, at the present world: other rows stand for the same memory. -/
theorem Rel.re {s2 : AS} {loc2 : Loc} (hR : Rel w1 lent1 s loc a w) (hlen : s2.t.length = s.t.length) (hlive : ∀ b, Live s2.h loc2 b → Live s.h loc b)
    (ht : ∀ (i : Nat) y, s2.t[i]? = some y → y = .any ∨ ∃ x, s.t[i]? = some x ∧ ((x = y ∧ isC x = true) ∨ ∀ u, G s.h loc w x u → G s2.h loc2 w y u))
    (hrw : ∀ r row, hget s2.h r = some row → RowOk s2.h loc2 w r row)
    (hinj : ∀ r r' row row' b c c', hget s2.h r = some row → hget s2.h r' = some row' → loc2 r = some (b, c) → loc2 r' = some (b, c') → r = r')
    (hfb : ∀ b, loc2.fb b → ¬ LiveR s2.h loc2 b) (pin : Nat → Option (Option (Nat × Nat))) (hpin : ∀ r p, pin r = some p → loc2 r = p ∧ 500000 ≤ r ∧ r < 600000) : Rel w ⟨LiveR s2.h loc2, loc2.fb, pin⟩ s2 loc2 a w := by
  refine ⟨hR.tsz.trans hlen.symm, fun i y hy => ?_, hR.df, hrw, hinj, fun r row b c h1 h2 => .inr ⟨r, row, c, h1, h2⟩, rfl, rfl, rfl, Nat.le_refl _, fun _ _ _ => rfl, rfl, fun b hb => ⟨hR.liveLt (hlive b (.inr hb)), hfb b hb⟩, fun r p hp => (hpin r p hp).1, fun r p hp => (hpin r p hp).2⟩
  rcases ht i y hy with rfl | ⟨x, hx, ⟨rfl, hc⟩ | h⟩
  · exact .cl .any
  · exact .cl ((isC_ok (hR.tm i x hx) hc).mono (Nat.le_refl _) (Nat.le_refl _) fun b _ _ hnl => ⟨fun hl => hnl (hlive b hl), rfl⟩)
  · exact h _ (hR.tm i x hx)
/-- A row whose cells stand for the same values. -/
theorem RowOk.re {h h2 : Hp} {loc2 : Loc} {r r2 : Nat} {row row2 : Row} (ho : RowOk h loc w r row) (hE : row2.E = row.E) (hz : row2.sz = row.sz) (hl : row2.es.length = row.es.length) (hloc : loc2 r2 = loc r)
    (hc : ∀ (k : Nat) e2, row2.es[k]? = some e2 → ∃ e, row.es[k]? = some e ∧ e.length = e2.length ∧ ∀ (j : Nat) y, e2[j]? = some y → ∃ x, e[j]? = some x ∧ ∀ u, G h loc w x u → (row.cl = true → C (Live h loc) 0 w x u) → G h2 loc2 w y u ∧ (row2.cl = true → C (Live h2 loc2) 0 w y u)) : RowOk h2 loc2 w r2 row2 := by
  obtain ⟨q1, xs, q2, q3⟩ := ho
  refine ⟨fun k e2 he => ?_, xs, ?_, fun k e2 j y he hy => ?_⟩
  · obtain ⟨e, h1, h2, _⟩ := hc k e2 he
    rw [hz, ← h2]; exact q1 k e h1
  · have : rowVal loc2 r2 row.es.length = rowVal loc r row.es.length := by simp only [rowVal, hloc]
    rw [hE, hz, hl, this]
    exact q2
  · obtain ⟨e, h1, _, h3⟩ := hc k e2 he
    obtain ⟨x, h4, h5⟩ := h3 j y hy
    obtain ⟨u, p1, p2, p3, p4⟩ := q3 k e j x h1 h4
    obtain ⟨g1, g2⟩ := h5 u p3 p4
    exact ⟨u, by rw [hz]; exact p1, p2, g1, g2⟩

def leQ (q : AV → AV → Prop) : List AV → List AV → Prop
  | [], [] => True
  | x :: l, y :: l' => (y = .any ∨ (x = y ∧ isC x = true) ∨ q x y) ∧ leQ q l l'
  | _, _ => False
theorem leQ_get {q : AV → AV → Prop} : ∀ {l l' : List AV}, leQ q l l' → l'.length = l.length ∧ ∀ (i : Nat) y, l'[i]? = some y → y = .any ∨ ∃ x, l[i]? = some x ∧ ((x = y ∧ isC x = true) ∨ q x y)
  | [], [], _ => ⟨rfl, fun i y h => by simp at h⟩
  | x :: l, y :: l', ⟨h1, h2⟩ => by
    obtain ⟨g1, g2⟩ := leQ_get h2
    refine ⟨by simp [g1], fun i z hz => ?_⟩
    cases i with
    | zero =>
      simp at hz; subst hz
      rcases h1 with h | h
      · exact .inl h
      · exact .inr ⟨x, rfl, h⟩
    | succ i => exact g2 i z (by simpa using hz)
  | [], _ :: _, h => h.elim
  | _ :: _, [], h => h.elim

/-! ### Contracts of functions that return memory set aside -/
def PO (P : Program) (f : FuncId) (args : List AV) (D : World → (Nat → Prop) → AV → Prop) : Prop :=
  (∀ (vs : Array Value) (W : World), (callFunc f vs).run P W = .ok (.enter f vs) W) ∧
  ∀ (w : World) (vs : Array Value), vs.size = args.length → (∀ (j : Nat) x, args[j]? = some x → C (fun _ => False) 0 w x (vs.getD j undef)) →
    Calls P f vs w fun e w' => ∃ x v, e = .returned v ∧ (∀ lv lo W, C lv lo W x v) ∧ Below w.heap.size w w' ∧ D w' (fun b => w.heap.size ≤ b ∧ b < w'.heap.size) x
def POpost (w0 : World) (D : World → (Nat → Prop) → AV → Prop) (e : Ending) (w' : World) : Prop :=
  ∃ x v, e = .returned v ∧ (∀ lv lo W, C lv lo W x v) ∧ Below w0.heap.size w0 w' ∧ D w' (fun b => w0.heap.size ≤ b ∧ b < w'.heap.size) x
theorem po_enter {f : FuncId} {fn : Func} {c : Code} {args : List AV} {D : World → (Nat → Prop) → AV → Prop} (hf : P.funcs[f]? = some fn) (hn : (fn.name == "runtime.NumGoroutine") = false) (hb : fn.body = some c)
    (h : ∀ w0, AW P w0 ⟨fun _ => False, fun _ => False, fun _ => none⟩ (bodyPost P fn (POpost w0 D)) [.code c] ⟨args ++ List.replicate (fn.ntmps - args.length) .any, []⟩) : PO P f args D := by
  have hn' : ¬ fn.name = "runtime.NumGoroutine" := by simpa using hn
  refine ⟨fun vs W => by simp [callFunc, hf, hn', hb], fun w vs hs hg => ?_⟩
  refine calls_of_wp hf hb ?_
  refine h w ⟨fun _ => none, fun _ => False⟩ _ w ⟨?_, fun i x hx => ?_, rfl, fun r row hr => (by cases hr), fun r r' row row' b c c' hr => (by cases hr), fun r row b c hr => (by cases hr), rfl, rfl, rfl, Nat.le_refl _, fun _ _ _ => rfl, rfl, fun b hb => hb.elim, fun r p h => (by cases h), fun r p h => (by cases h)⟩
  · simp [hs]
  · by_cases hi : i < args.length
    · simp only at hx
      rw [List.getElem?_append_left hi] at hx
      refine .cl ?_
      have := hg i x hx
      have e : (vs ++ Array.replicate (fn.ntmps - vs.size) undef).getD i undef = vs.getD i undef := by
        rw [Array.getD_eq_getD_getElem?, Array.getElem?_append, if_pos (by omega), ← Array.getD_eq_getD_getElem?]
      rw [e]
      exact this.mono (Nat.le_refl _) (Nat.le_refl _) fun b _ _ hnl => ⟨fun h => by
        rcases h with ⟨r, row, c, h1, _⟩ | h
        · cases h1
        · exact hnl h, rfl⟩
    · simp only at hx
      rw [List.getElem?_append_right (by omega), List.getElem?_replicate] at hx
      split at hx
      · cases hx; exact .cl .any
      · cases hx
theorem at_retO {fn : Func} {D : World → (Nat → Prop) → AV → Prop} {l : List AV} (hch : Ch w0 w1 lent1) (hl : resL P s fn.results.toList = some l)
    (h : ∀ loc a w v, Rel w1 lent1 s loc a w → G s.h loc w (retV l) v → ∃ x, (∀ lv lo W, C lv lo W x v) ∧ D w (fun b => w0.heap.size ≤ b ∧ b < w.heap.size) x) : RWp P w1 lent1 (bodyPost P fn (POpost w0 D)) (.ret s) := fun loc a w hR => by
  obtain ⟨v, h1, h2⟩ := retV_ok hR hl
  obtain ⟨x, h3, h4⟩ := h loc a w v hR h2
  exact ⟨hR.df, v, h1, x, v, rfl, h3, hch.below hR, h4⟩
/-- Arguments as the callee reads them. -/
def gaOk (w1 : World) (lent1 : Lent) (s : AS) : List AV → List AV → Prop
  | [], [] => True
  | y :: l, x :: l' => (∀ loc a w, Rel w1 lent1 s loc a w → ∀ v, G s.h loc w x v → C (fun _ => False) 0 w y v) ∧ gaOk w1 lent1 s l l'
  | _, _ => False
theorem gaOk_get : ∀ {ga args : List AV}, gaOk w1 lent1 s ga args → ga.length = args.length ∧ ∀ (j : Nat) y, ga[j]? = some y → ∃ x, args[j]? = some x ∧ ∀ loc a w, Rel w1 lent1 s loc a w → ∀ v, G s.h loc w x v → C (fun _ => False) 0 w y v
  | [], [], _ => ⟨rfl, fun j y h => by simp at h⟩
  | y :: l, x :: l', ⟨h1, h2⟩ => by
    obtain ⟨g1, g2⟩ := gaOk_get h2
    refine ⟨by simp [g1], fun j z hz => ?_⟩
    cases j with
    | zero => simp at hz; subst hz; exact ⟨x, rfl, h1⟩
    | succ j => exact g2 j z (by simpa using hz)
  | [], _ :: _, h => h.elim
  | _ :: _, [], h => h.elim
theorem ga_c {x : AV} (hc : isC x = true) : ∀ loc a w, Rel w1 lent1 s loc a w → ∀ v, G s.h loc w x v → C (fun _ => False) 0 w x v := fun _ _ _ _ _ hg =>
  (isC_ok hg hc).mono (Nat.le_refl _) (Nat.le_refl _) fun _ _ _ _ => ⟨fun h => h, rfl⟩
/-- From base to base. -/
structure Nx (w1 : World) (lent1 : Lent) (w2 : World) (lent2 : Lent) (X : Nat → Prop) : Prop where
  ch : ∀ X w0, ChX X w0 w1 lent1 → ChX X w0 w2 lent2
  keep : ∀ b, lent1.fb b → w2.heap[b]? = w1.heap[b]?
  fb : ∀ b, lent1.fb b → lent2.fb b
  xfb : ∀ b, X b → lent2.fb b
  xge : ∀ b, X b → w1.heap.size ≤ b
  flt : ∀ b, lent1.fb b → b < w1.heap.size
  size : w1.heap.size ≤ w2.heap.size
theorem call_PO {f : FuncId} {args : List AV} {dst : Option Tmp} {k : List It} {D : World → (Nat → Prop) → AV → Prop} (hnf : nf k = true) (ga : List AV) (hga : gaOk w1 lent1 s ga args) (hpo : PO P f ga D)
    (hk : ∀ w2 lent2 X x, Nx w1 lent1 w2 lent2 X → D w2 X x → AW P w2 lent2 Q k (AS.put s dst x)) : RWp P w1 lent1 Q (.call f args dst k s) := by
  intro loc a w hR vs hs hg
  obtain ⟨g1, g2⟩ := gaOk_get hga
  refine ⟨hpo.1 vs w, (hpo.2 w vs (by omega) fun j y hy => ?_).mono ?_⟩
  · obtain ⟨x, hx, h⟩ := g2 j y hy
    exact h loc a w hR _ (hg j x hx)
  · rintro e w' ⟨x, v, rfl, hc, hb, hd⟩
    refine ⟨v, rfl, ?_⟩
    let X : Nat → Prop := fun b => w.heap.size ≤ b ∧ b < w'.heap.size
    let loc2 : Loc := ⟨loc.at_, fun b => lent1.fb b ∨ X b⟩
    let lent2 : Lent := ⟨LiveR s.h loc, fun b => lent1.fb b ∨ X b, fun _ => none⟩
    have hfl : ∀ b, lent1.fb b → b < w.heap.size := fun b h => Nat.lt_of_lt_of_le (hR.fbl b h).1 hR.size
    have hnl : ∀ b, b < w.heap.size → ¬ Live s.h loc b → ¬ Live s.h loc2 b ∧ w'.heap[b]? = w.heap[b]? := fun b hb' hn => ⟨fun h => by
      rcases h with h | h | h
      · exact hn (.inl h)
      · exact hn (.inr (by rw [hR.fbe]; exact h))
      · have := h.1; omega, hb.block b hb'⟩
    have hG : ∀ x u, G s.h loc w x u → G s.h loc2 w' x u := fun x u hx => hx.mono hb.size (fun q row hq => ⟨rfl, row, hq, rfl, Nat.le_refl _⟩) hnl
    have hC : ∀ x u, C (Live s.h loc) 0 w x u → C (Live s.h loc2) 0 w' x u := fun x u hx => hx.mono (Nat.le_refl _) hb.size fun b _ hb' hn => hnl b hb' hn
    have hlr : ∀ b, LiveR s.h loc b → b < w.heap.size := fun b h => Live.lt hR.rw h
    have hRel : Rel w' lent2 s loc2 a w' := by
      refine ⟨hR.tsz, fun i x hx => hG _ _ (hR.tm i x hx), hR.df, fun r row hr => ?_, hR.inj, fun r row b c h1 h2 => .inr ⟨r, row, c, h1, h2⟩, rfl, rfl, rfl, Nat.le_refl _, fun _ _ _ => rfl, rfl, fun b h => ⟨?_, fun hl => ?_⟩, fun r p hp => (by cases hp), fun r p hp => (by cases hp)⟩
      · exact row_else (hR.rw r row hr) rfl (fun b c hl => hb.block b (hlr b ⟨r, row, c, hr, hl⟩)) hG hC
      · rcases h with h | h
        · have := hfl b h; have := hb.size; omega
        · exact h.2
      · obtain ⟨r, row, c, h1, h2⟩ := hl
        rcases h with h | h
        · exact hR.nfb h1 h2 h
        · have := hlr b ⟨r, row, c, h1, h2⟩; have := h.1; omega
    rw [Kt_nf (w1 := w') (lent1 := lent2) hnf]
    refine hk w' lent2 X x ⟨fun Y w0 h => ?_, fun b h => (hb.block b (hfl b h)).trans (hR.fbk h), fun b h => .inl h, fun b h => .inr h, fun b h => Nat.le_trans hR.size h.1, fun b h => (hR.fbl b h).1, Nat.le_trans hR.size hb.size⟩ hd loc2 _ w' (hRel.put dst (.cl (hc _ _ _)))
    have h0 := h.mut hR
    have hs0 := h0.size
    refine ⟨hb.os.trans h0.os, hb.tape.trans h0.tape, hb.output.trans h0.output, Nat.le_trans h0.size hb.size, fun b hb' hx => (hb.block b (by omega)).trans (h0.keep b hb' hx), fun b h1 => ?_, fun b h1 => ?_⟩
    · obtain ⟨r, row, c, h2, h3⟩ := h1
      exact h.own hR h2 h3
    · rcases h1 with h1 | h1
      · exact h.fb b h1
      · exact .inr (Nat.le_trans h0.size h1.1)
end
end Go.Proofs.YtccifbbjbnjcfaaGreatDoor
/-
  Trees of files set aside: every slice in a block of its own.
-/
namespace Go.Proofs.YtccifbbjbnjcfaaGreatDoor
open Go Go.RowKit Go.Proofs

theorem own_same {w w' : World} {base : Nat} {e : TypeId} {sz n : Nat} {v : Value} {xs : List Value} (h : w.ownsRow base e sz v n xs) (hs : ∀ g, v.ownBlock = some g → w'.heap[g]? = w.heap[g]?) : w'.ownsRow base e sz v n xs :=
  ⟨h.1, h.2.imp id fun ⟨g, cap, cur, e1, e2, e3, e4⟩ => ⟨g, cap, cur, e1, e2, (hs g (by rw [e1]; rfl)).trans e3, e4⟩⟩
theorem own_lt {w : World} {base : Nat} {e : TypeId} {sz n : Nat} {v : Value} {xs : List Value} (h : w.ownsRow base e sz v n xs) {g : Nat} (hg : v.ownBlock = some g) : g < w.heap.size := (h.lt g hg).2
def vOf (p : Option (Nat × Nat)) (n : Nat) : Value := match p with
  | none => .slice none 0 0
  | some (b, c) => .slice (some ⟨b, 0, none⟩) n c
theorem vOf_blk {p : Option (Nat × Nat)} {n g : Nat} (h : (vOf p n).ownBlock = some g) : ∃ c, p = some (g, c) := by
  unfold vOf at h
  split at h
  · cases h
  · simp only [Value.ownBlock, Option.some.injEq] at h
    subst h
    exact ⟨_, rfl⟩
theorem own_vOf {w : World} {base : Nat} {e : TypeId} {sz n : Nat} {v : Value} {xs : List Value} (h : w.ownsRow base e sz v n xs) : ∃ p, v = vOf p n := by
  rcases h.2 with ⟨rfl, rfl⟩ | ⟨g, cap, cur, rfl, _⟩
  · exact ⟨none, rfl⟩
  · exact ⟨some (g, cap), rfl⟩
/-- A row of plain values lies in memory. -/
theorem row_of {α : Type} {h : Hp} {loc : Loc} {w : World} {r : Nat} {E : TypeId} {sz : Nat} {cl : Bool} (f : α → List Value) (hf : ∀ x, (f x).length = sz) (l : List α) (h1 : ∀ x ∈ l, ∀ v ∈ f x, v.oneCell' = true)
    (ho : w.ownsRow 0 E sz (rowVal loc r l.length) l.length (l.flatMap f)) : RowOk h loc w r ⟨E, sz, l.map fun x => (f x).map .v, cl⟩ := by
  refine ⟨fun k e he => ?_, l.flatMap f, by simpa using ho, fun k e j a he ha => ?_⟩
  · simp only [List.getElem?_map, Option.map_eq_some_iff] at he
    obtain ⟨x, _, rfl⟩ := he
    rw [List.length_map]; exact hf x
  · simp only [List.getElem?_map, Option.map_eq_some_iff] at he
    obtain ⟨x, hx, rfl⟩ := he
    rw [List.getElem?_map, Option.map_eq_some_iff] at ha
    obtain ⟨v, hv, rfl⟩ := ha
    have hj := lt_of_some hv
    rw [hf] at hj
    exact ⟨v, by show (l.flatMap f)[k * sz + j]? = _; rw [flatMap_get f sz hf l k j x hx hj]; exact hv, h1 x (List.mem_of_getElem? hx) v (List.mem_of_getElem? hv), .cl .v, fun _ => .v⟩
theorem of_row {α : Type} {h : Hp} {loc : Loc} {w : World} {r : Nat} {E : TypeId} {sz : Nat} {cl : Bool} (f : α → List Value) (hf : ∀ x, (f x).length = sz) (l : List α) (ho : RowOk h loc w r ⟨E, sz, l.map fun x => (f x).map .v, cl⟩) : w.ownsRow 0 E sz (rowVal loc r l.length) l.length (l.flatMap f) := by
  obtain ⟨q1, vs, q2, q3⟩ := ho
  simp only [List.length_map] at q2
  have e : vs = l.flatMap f := by
    apply List.ext_getElem?
    intro i
    have hl := q2.1
    have hl2 := flatMap_len f sz hf l
    rcases Nat.lt_or_ge i (l.length * sz) with hi | hi
    · have hz : 0 < sz := by
        rcases Nat.eq_zero_or_pos sz with h | h
        · rw [h] at hi; omega
        · exact h
      have hk : i / sz < l.length := Nat.div_lt_of_lt_mul (by rw [Nat.mul_comm]; exact hi)
      have hj := Nat.mod_lt i hz
      have hx := List.getElem?_eq_getElem hk
      have hij : i / sz * sz + i % sz = i := by rw [Nat.mul_comm]; exact Nat.div_add_mod i sz
      have hv : (f l[i / sz])[i % sz]? = some ((f l[i / sz])[i % sz]'(by rw [hf]; exact hj)) := List.getElem?_eq_getElem _
      obtain ⟨u, p1, _, p3, _⟩ := q3 (i / sz) ((f l[i / sz]).map .v) (i % sz) (.v ((f l[i / sz])[i % sz]'(by rw [hf]; exact hj))) (by simp [hx]) (by rw [List.getElem?_map, hv]; rfl)
      dsimp only at p1
      rw [hij] at p1
      have := flatMap_get f sz hf l (i / sz) (i % sz) _ hx hj
      rw [hij, hv] at this
      rw [p1, this, p3.v_inv]
    · rw [List.getElem?_eq_none (by omega), List.getElem?_eq_none (by omega)]
  rw [← e]; exact q2

/-! ### Lists of numbers -/
def OwI (w : World) (X : Nat → Prop) (u : Value) (xs : List Int) : Prop := w.ownsRow 0 3 1 u xs.length (ints xs) ∧ ∀ g, u.ownBlock = some g → X g
theorem ints_fm (xs : List Int) : xs.flatMap (fun n => [Value.int .i64 n]) = ints xs := by
  unfold ints
  induction xs with
  | nil => rfl
  | cons x l ih => rw [List.flatMap_cons, List.map_cons, ih]; rfl
theorem own_rowZ {h : Hp} {loc : Loc} {w : World} {r : Nat} {xs : List Int} (ho : w.ownsRow 0 3 1 (rowVal loc r xs.length) xs.length (ints xs)) : RowOk h loc w r (rowZ xs) :=
  row_of (fun n : Int => [Value.int .i64 n]) (fun _ => rfl) xs (fun x _ v hv => by simp at hv; subst hv; rfl) (by rw [ints_fm]; exact ho)
theorem rowZ_own {h : Hp} {loc : Loc} {w : World} {r : Nat} {xs : List Int} (ho : RowOk h loc w r (rowZ xs)) : w.ownsRow 0 3 1 (rowVal loc r xs.length) xs.length (ints xs) := by
  have := of_row (fun n : Int => [Value.int .i64 n]) (fun _ => rfl) xs ho
  rwa [ints_fm] at this
theorem OwI.same {w w' : World} {X X' : Nat → Prop} {u : Value} {xs : List Int} (h : OwI w X u xs) (hs : ∀ b, X b → w'.heap[b]? = w.heap[b]?) (hx : ∀ b, X b → X' b) : OwI w' X' u xs := ⟨own_same h.1 fun g hg => hs g (h.2 g hg), fun g hg => hx g (h.2 g hg)⟩
theorem OwI.one {w : World} {X : Nat → Prop} {u : Value} {xs : List Int} (h : OwI w X u xs) : u.oneCell' = true := by
  rcases h.1.2 with ⟨rfl, _⟩ | ⟨g, cap, cur, rfl, _⟩ <;> rfl
theorem OwI.c {w : World} {X : Nat → Prop} {u : Value} {xs : List Int} (h : OwI w X u xs) {lv : Nat → Prop} (hx : ∀ b, X b → ¬ lv b) : C lv 0 w (intsA xs) u := by
  have hu : ∃ A c, u = .slice A xs.length c ∧ xs.length ≤ c ∧ c ≤ maxLen ∧ Rd w 0 1 A xs.length (ints xs) ∧ (0 < xs.length → ∀ ad, A = some ad → ¬ lv ad.block) := by
    rcases h.1.2 with ⟨rfl, h0⟩ | ⟨g, cap, cur, rfl, h1, h2, h3, h4, h5, h6⟩
    · have : xs = [] := List.eq_nil_of_length_eq_zero h0
      subst this
      exact ⟨none, 0, rfl, Nat.le_refl _, Nat.zero_le _, ⟨rfl, fun h => absurd h (by simp)⟩, fun h => absurd h (by simp)⟩
    · refine ⟨_, cap, rfl, h3, h4, ⟨h.1.1, fun _ => ⟨g, 0, rfl, Nat.zero_le _, own_lt h.1 rfl, fun j v hv => ?_⟩⟩, fun _ ad had => by cases had; exact hx g (h.2 g rfl)⟩
      rw [Nat.zero_add]
      rw [← h6, List.getElem?_take] at hv
      split at hv
      · simpa [World.cell?, h2] using hv
      · cases hv
  obtain ⟨A, c, rfl, h3, h4, h5, h6⟩ := hu
  have := C.sl (lv := lv) (lo := 0) (w := w) (sz := 1) (es := xs.map inC) (A := A) (c := c) (ints xs) (fun k _ => .int .i64 ((xs[k]?).getD 0)) (by simpa using h5) (by simpa using h6) (by simpa using h3) h4
    (fun k e he => by simp only [List.getElem?_map, Option.map_eq_some_iff] at he; obtain ⟨x, _, rfl⟩ := he; rfl)
    (fun k e j he hj => by
      simp only [List.getElem?_map, Option.map_eq_some_iff] at he
      obtain ⟨x, hx', rfl⟩ := he
      have : j = 0 := by simp [inC] at hj; exact hj
      subst this
      refine ⟨?_, rfl⟩
      simp [ints, hx'])
    (fun k e j a he ha => by
      simp only [List.getElem?_map, Option.map_eq_some_iff] at he
      obtain ⟨x, hx', rfl⟩ := he
      have hj := lt_of_some ha
      have : j = 0 := by simp [inC] at hj; exact hj
      subst this
      simp [inC] at ha
      subst ha
      rw [hx']
      exact .v)
  simpa using this

/-! ### Files -/
abbrev UU := List (Value × Value)
def cellV (x : BD × Value × Value) : List Value := [.int .i64 x.1.name, x.2.1, x.2.2]
def flU (us : UU) : List Value := us.flatMap fun p => [p.1, p.2]
def esT (bs : List BD) (us : UU) : List (List AV) := (bs.zip us).map fun x => (cellV x).map .v
def rowT (bs : List BD) (us : UU) : Row := ⟨79, 3, esT bs us, true⟩
structure Gh (w : World) (X : Nat → Prop) (bs : List BD) (us : UU) : Prop where
  len : us.length = bs.length
  inn : ∀ (k : Nat) d p, bs[k]? = some d → us[k]? = some p → OwI w X p.1 d.safe ∧ OwI w X p.2 d.fresh
  apart : (flU us).Pairwise fun a b => ∀ g, a.ownBlock = some g → b.ownBlock ≠ some g
structure OT (w : World) (X : Nat → Prop) (u : Value) (bs : List BD) (us : UU) : Prop where
  gh : Gh w X bs us
  row : w.ownsRow 0 79 3 u bs.length ((bs.zip us).flatMap cellV)
  blk : ∀ g, u.ownBlock = some g → X g
theorem Gh.same {w w' : World} {X X' : Nat → Prop} {bs : List BD} {us : UU} (h : Gh w X bs us) (hs : ∀ b, X b → w'.heap[b]? = w.heap[b]?) (hx : ∀ b, X b → X' b) : Gh w' X' bs us :=
  ⟨h.len, fun k d p h1 h2 => ⟨(h.inn k d p h1 h2).1.same hs hx, (h.inn k d p h1 h2).2.same hs hx⟩, h.apart⟩
theorem OT.same {w w' : World} {X X' : Nat → Prop} {u : Value} {bs : List BD} {us : UU} (h : OT w X u bs us) (hs : ∀ b, X b → w'.heap[b]? = w.heap[b]?) (hx : ∀ b, X b → X' b) : OT w' X' u bs us :=
  ⟨h.gh.same hs hx, own_same h.row fun g hg => hs g (h.blk g hg), fun g hg => hx g (h.blk g hg)⟩
theorem Gh.at {w : World} {X : Nat → Prop} {bs : List BD} {us : UU} (h : Gh w X bs us) {k : Nat} {d : BD} (hd : bs[k]? = some d) : ∃ p, us[k]? = some p := by
  have := lt_of_some hd
  exact ⟨us[k]'(by rw [h.len]; exact this), List.getElem?_eq_getElem _⟩
theorem Gh.one {w : World} {X : Nat → Prop} {bs : List BD} {us : UU} (h : Gh w X bs us) : ∀ x ∈ bs.zip us, ∀ v ∈ cellV x, v.oneCell' = true := fun x hx v hv => by
  obtain ⟨k, hk, rfl⟩ := List.mem_iff_getElem.1 hx
  have hz := List.getElem?_eq_getElem hk
  rw [List.getElem?_zip_eq_some] at hz
  have := h.inn k _ _ hz.1 hz.2
  simp only [cellV, List.mem_cons, List.not_mem_nil, or_false] at hv
  rcases hv with rfl | rfl | rfl
  · rfl
  · exact this.1.one
  · exact this.2.one
theorem zip_len {bs : List BD} {us : UU} (h : us.length = bs.length) : (bs.zip us).length = bs.length := by rw [List.length_zip]; omega
theorem own_rowT {h : Hp} {loc : Loc} {w : World} {X : Nat → Prop} {r : Nat} {bs : List BD} {us : UU} (hg : Gh w X bs us) (ho : w.ownsRow 0 79 3 (rowVal loc r bs.length) bs.length ((bs.zip us).flatMap cellV)) : RowOk h loc w r (rowT bs us) :=
  row_of cellV (fun _ => rfl) (bs.zip us) hg.one (by rw [zip_len hg.len]; exact ho)
theorem rowT_own {h : Hp} {loc : Loc} {w : World} {r : Nat} {bs : List BD} {us : UU} (hl : us.length = bs.length) (ho : RowOk h loc w r (rowT bs us)) : w.ownsRow 0 79 3 (rowVal loc r bs.length) bs.length ((bs.zip us).flatMap cellV) := by
  have := of_row cellV (fun _ => rfl) (bs.zip us) ho
  rwa [zip_len hl] at this
theorem OT.c {w : World} {X : Nat → Prop} {u : Value} {bs : List BD} {us : UU} (h : OT w X u bs us) {lv : Nat → Prop} (hx : ∀ b, X b → ¬ lv b) : C lv 0 w (blsA bs) u := by
  have hzl := zip_len h.gh.len
  have hu : ∃ A c, u = .slice A bs.length c ∧ bs.length ≤ c ∧ c ≤ maxLen ∧ Rd w 0 3 A bs.length ((bs.zip us).flatMap cellV) ∧ (0 < bs.length → ∀ ad, A = some ad → ¬ lv ad.block) := by
    rcases h.row.2 with ⟨rfl, h0⟩ | ⟨g, cap, cur, rfl, h1, h2, h3, h4, h5, h6⟩
    · have : bs = [] := List.eq_nil_of_length_eq_zero h0
      subst this
      exact ⟨none, 0, rfl, Nat.le_refl _, Nat.zero_le _, ⟨rfl, fun h => absurd h (by simp)⟩, fun h => absurd h (by simp)⟩
    · refine ⟨_, cap, rfl, h3, h4, ⟨h.row.1, fun _ => ⟨g, 0, rfl, Nat.zero_le _, own_lt h.row rfl, fun j v hv => ?_⟩⟩, fun _ ad had => by cases had; exact hx g (h.blk g rfl)⟩
      rw [Nat.zero_add]
      rw [← h6, List.getElem?_take] at hv
      split at hv
      · simpa [World.cell?, h2] using hv
      · cases hv
  obtain ⟨A, c, rfl, h3, h4, h5, h6⟩ := hu
  have key : ∀ (k : Nat) (e : List AV), (bs.map bC)[k]? = some e → ∃ d p, bs[k]? = some d ∧ us[k]? = some p ∧ e = bC d ∧ (bs.zip us)[k]? = some (d, p) := fun k e he => by
    rw [List.getElem?_map, Option.map_eq_some_iff] at he
    obtain ⟨d, hd, rfl⟩ := he
    obtain ⟨p, hp⟩ := h.gh.at hd
    exact ⟨d, p, hd, hp, rfl, by rw [List.getElem?_zip_eq_some]; exact ⟨hd, hp⟩⟩
  have := C.sl (lv := lv) (lo := 0) (w := w) (sz := 3) (es := bs.map bC) (A := A) (c := c) ((bs.zip us).flatMap cellV) (fun k j => (((bs.zip us).flatMap cellV)[k * 3 + j]?).getD undef) (by simpa using h5) (by simpa using h6) (by simpa using h3) h4
    (fun k e he => by obtain ⟨d, p, _, _, rfl, _⟩ := key k e he; rfl)
    (fun k e j he hj => by
      obtain ⟨d, p, h7, h8, rfl, h9⟩ := key k e he
      have hj3 : j < 3 := hj
      have hg := flatMap_get cellV 3 (fun _ => rfl) _ k j _ h9 hj3
      have hlt : (cellV (d, p))[j]? = some ((cellV (d, p))[j]'(by exact hj3)) := List.getElem?_eq_getElem _
      rw [hg, hlt]
      exact ⟨rfl, h.gh.one _ (List.mem_of_getElem? h9) _ (List.mem_of_getElem? hlt)⟩)
    (fun k e j a he ha => by
      obtain ⟨d, p, h7, h8, rfl, h9⟩ := key k e he
      have hj3 : j < 3 := lt_of_some ha
      have hg := flatMap_get cellV 3 (fun _ => rfl) _ k j _ h9 hj3
      have hi := h.gh.inn k d p h7 h8
      rw [hg]
      rcases j with _ | _ | _ | j
      · simp [bC] at ha; subst ha; exact .v
      · simp [bC] at ha; subst ha; exact hi.1.c hx
      · simp [bC] at ha; subst ha; exact hi.2.c hx
      · omega)
  simpa using this
end Go.Proofs.YtccifbbjbnjcfaaGreatDoor
/-
  Trees of files set aside: into rows and back.
-/
namespace Go.Proofs.YtccifbbjbnjcfaaGreatDoor
open Go Go.RowKit Go.Proofs
section
variable {w0 w1 : World} {lent1 : Lent} {s : AS} {loc : Loc} {a : Act} {w : World}

theorem G.o_val {h : Hp} {A n : Nat} {u : Value} (hg : G h loc w (.o A n) u) : u = rowVal loc A n := by
  generalize hx : AV.o A n = x at hg
  cases hg with
  | cl hc => subst hx; cases hc
  | o h1 h2 h3 => cases hx; simp only [rowVal, h2]
  | onil h1 h2 => cases hx; simp only [rowVal, h2]
  | _ => cases hx
/-- A list of numbers in a cell: a row of its own, or none. -/
inductive Lf (h : Hp) : AV → List Int → Prop
  | o {A : Nat} {zs : List Int} : hget h A = some (rowZ zs) → Lf h (.o A zs.length) zs
  | nil : Lf h (.v (.slice none 0 0)) []
theorem Lf.own {x : AV} {zs : List Int} (hR : Rel w1 lent1 s loc a w) (hf : Lf s.h x zs) : ∃ u, (∀ u', G s.h loc w x u' → u' = u) ∧ w.ownsRow 0 3 1 u zs.length (ints zs) ∧ (∀ g, u.ownBlock = some g → ∃ A row c, A ∈ idsA x ∧ hget s.h A = some row ∧ loc A = some (g, c)) ∧
    (∀ A n p, x = .o A n → lent1.pin A = some p → u = vOf p zs.length) := by
  cases hf with
  | @o A _ h =>
    refine ⟨rowVal loc A zs.length, fun u' hg => hg.o_val, rowZ_own (hR.rw A _ h), fun g hg => ?_, fun A' n p e hp => ?_⟩
    · obtain ⟨c, hc⟩ := vOf_blk (show (vOf (loc A) zs.length).ownBlock = some g from hg)
      exact ⟨A, _, c, by simp [idsA], h, hc⟩
    · cases e
      rw [show rowVal loc A zs.length = vOf (loc A) zs.length from rfl, hR.pn A p hp]
  | nil => exact ⟨.slice none 0 0, fun u' hg => hg.v_inv, World.ownsRow_nil _ _ _ _, fun g hg => (by cases hg), fun A n p e => (by cases e)⟩
theorem G.oR {h h2 : Hp} {loc2 : Loc} {R n : Nat} {u : Value} {row row2 : Row} (hg : G h loc w (.o R n) u) (h1 : hget h R = some row) (h2' : hget h2 R = some row2) (hl : loc2 R = loc R) (hn : row.es.length ≤ row2.es.length) : G h2 loc2 w (.o R n) u := by
  cases hg with
  | cl hc => cases hc
  | o g1 g2 g3 => rw [h1] at g1; cases g1; exact .o h2' (hl.trans g2) (by omega)
  | onil g1 g2 => exact .onil h2' (hl.trans g2)
/-- What stays of a slot where but one row stays. -/
def clS (R : Nat) (x : AV) : AV := match x with
  | .o r n => if r = R then .o r n else .any
  | y => if isC y = true then y else .any
theorem leQ_cls {R : Nat} : ∀ t : List AV, leQ (fun p q => ∃ n, p = .o R n ∧ q = .o R n) t (t.map (clS R))
  | [] => trivial
  | x :: l => by
    refine ⟨?_, leQ_cls l⟩
    unfold clS
    split
    · split
      · rename_i n e; subst e; exact .inr (.inr ⟨n, rfl, rfl⟩)
      · exact .inl rfl
    · split
      · rename_i h; exact .inr (.inl ⟨rfl, h⟩)
      · exact .inl rfl
/-- Two lists of a file are set aside. -/
theorem Rel.unlink (hR : Rel w1 lent1 s loc a w) {R : Nat} {row1 : Row} {x y : AV} {nm : Int} {xs ys : List Int} (hr : hget s.h R = some row1) (hE : row1.E = 79) (hz : row1.sz = 3) (hx : Lf s.h x xs) (hy : Lf s.h y ys) (hxy : ∀ q ∈ idsA x, q ∉ idsA y) (hxR : R ∉ idsA x) (hyR : R ∉ idsA y)
    (E2 : Value → Value → List (List AV)) (h2 : ∀ u1 u2, (E2 u1 u2).length = row1.es.length ∧ ∀ (k : Nat) e, (E2 u1 u2)[k]? = some e → (row1.es[k]? = some e ∧ e.all isC = true) ∨ (row1.es[k]? = some [iA nm, x, y] ∧ e = [iA nm, .v u1, .v u2])) :
    ∃ u1 u2 lent2 loc2, Rel w lent2 ⟨s.t.map (clS R), [(R, ⟨79, 3, E2 u1 u2, true⟩)]⟩ loc2 a w ∧ OwI w lent2.fb u1 xs ∧ OwI w lent2.fb u2 ys ∧ (∀ g, u1.ownBlock = some g → u2.ownBlock ≠ some g) ∧ (∀ g, u1.ownBlock = some g → ¬ lent1.fb g) ∧ (∀ g, u2.ownBlock = some g → ¬ lent1.fb g) ∧
      (∀ b, lent1.fb b → lent2.fb b) ∧ (∀ b, lent1.fb b → w.heap[b]? = w1.heap[b]?) ∧ (∀ X w0, ChX X w0 w1 lent1 → ChX X w0 w lent2) ∧ (∀ A n p, x = .o A n → lent1.pin A = some p → u1 = vOf p xs.length) ∧ (∀ A n p, y = .o A n → lent1.pin A = some p → u2 = vOf p ys.length) ∧ lent2.pin = (fun q => if q = R ∧ 500000 ≤ R ∧ R < 600000 then some (loc R) else none) ∧ (∀ p, lent1.pin R = some p → loc R = p) ∧ loc2 R = loc R := by
  obtain ⟨u1, v1, o1, b1, p1⟩ := hx.own hR
  obtain ⟨u2, v2, o2, b2, p2⟩ := hy.own hR
  obtain ⟨e0, e1⟩ := h2 u1 u2
  obtain ⟨t2, ht2⟩ : ∃ t2, t2 = s.t.map (clS R) := ⟨_, rfl⟩
  obtain ⟨g0, g1⟩ := leQ_get (leQ_cls (R := R) s.t)
  rw [← ht2] at g0 g1 ⊢
  let h3 : Hp := [(R, ⟨79, 3, E2 u1 u2, true⟩)]
  let loc2 : Loc := ⟨fun q => if q = R then loc R else none, fun b => lent1.fb b ∨ u1.ownBlock = some b ∨ u2.ownBlock = some b⟩
  have hl2 : ∀ b, LiveR h3 loc2 b → ∃ c, loc R = some (b, c) := by
    rintro b ⟨q, row, c, k1, k2⟩
    simp only [h3, hget] at k1
    split at k1
    · rename_i e; subst e
      exact ⟨c, by simpa [loc2] using k2⟩
    · cases k1
  have hlive : ∀ b, Live h3 loc2 b → Live s.h loc b := by
    rintro b (h | h | h | h)
    · obtain ⟨c, hc⟩ := hl2 b h
      exact .inl ⟨R, _, c, hr, hc⟩
    · exact .inr (by rw [hR.fbe]; exact h)
    · obtain ⟨A, row, c, _, k1, k2⟩ := b1 b h
      exact .inl ⟨A, row, c, k1, k2⟩
    · obtain ⟨A, row, c, _, k1, k2⟩ := b2 b h
      exact .inl ⟨A, row, c, k1, k2⟩
  have hg3 : hget h3 R = some ⟨79, 3, E2 u1 u2, true⟩ := by simp [h3, hget]
  have hnf1 : ∀ g, u1.ownBlock = some g → ¬ lent1.fb g := fun g h => by obtain ⟨A, row, c, _, k1, k2⟩ := b1 g h; exact hR.nfb k1 k2
  have hnf2 : ∀ g, u2.ownBlock = some g → ¬ lent1.fb g := fun g h => by obtain ⟨A, row, c, _, k1, k2⟩ := b2 g h; exact hR.nfb k1 k2
  have hap : ∀ g, u1.ownBlock = some g → u2.ownBlock ≠ some g := fun g k1 k2 => by
    obtain ⟨A, row, c, m1, k3, k4⟩ := b1 g k1
    obtain ⟨B, row', c', m2, k5, k6⟩ := b2 g k2
    have := hR.inj A B row row' g c c' k3 k5 k4 k6
    subst this
    exact hxy A m1 m2
  refine ⟨u1, u2, _, loc2, hR.re (s2 := ⟨t2, h3⟩) (loc2 := loc2) g0 hlive (fun i z hz => ?_) (fun r row hrr => ?_) (fun r r' row row' b c c' k1 k2 k3 k4 => ?_) (fun b hb hl => ?_) (fun q => if q = R ∧ 500000 ≤ R ∧ R < 600000 then some (loc R) else none) (fun r p hp => ?_), ⟨o1, fun g h => .inr (.inl h)⟩, ⟨o2, fun g h => .inr (.inr h)⟩, hap, hnf1, hnf2, fun b h => .inl h, fun b h => hR.fbk h, fun Y w0 h => ?_, p1, p2, rfl, fun p hp => hR.pn R p hp, by simp [loc2]⟩
  · rcases g1 i z hz with h | ⟨z0, k1, k2 | ⟨n, rfl, rfl⟩⟩
    · exact .inl h
    · exact .inr ⟨z0, k1, .inl k2⟩
    · exact .inr ⟨_, k1, .inr fun u hg => hg.oR hr hg3 (by simp [loc2]) (by show row1.es.length ≤ (E2 u1 u2).length; omega)⟩
  · simp only [h3, hget] at hrr
    split at hrr
    · rename_i e
      subst e
      cases hrr
      refine (hR.rw R row1 hr).re hE.symm hz.symm e0 (by simp [loc2]) fun k e2 he2 => ?_
      rcases e1 k e2 he2 with ⟨k1, k2⟩ | ⟨k1, rfl⟩
      · refine ⟨e2, k1, rfl, fun j y' hy' => ⟨y', hy', fun u hg _ => ?_⟩⟩
        have hcy := List.all_eq_true.1 k2 y' (List.mem_of_getElem? hy')
        have := (isC_ok hg hcy).mono (lv' := Live h3 loc2) (Nat.le_refl 0) (Nat.le_refl _) fun b _ _ hnl => ⟨fun hl => hnl (hlive b hl), rfl⟩
        exact ⟨.cl this, fun _ => this⟩
      · refine ⟨_, k1, rfl, fun j y' hy' => ?_⟩
        rcases j with _ | _ | _ | j
        · simp at hy'; subst hy'
          exact ⟨_, rfl, fun u hg _ => by rw [hg.v_inv]; exact ⟨.cl .v, fun _ => .v⟩⟩
        · simp at hy'; subst hy'
          exact ⟨_, rfl, fun u hg _ => by rw [v1 u hg]; exact ⟨.cl .v, fun _ => .v⟩⟩
        · simp at hy'; subst hy'
          exact ⟨_, rfl, fun u hg _ => by rw [v2 u hg]; exact ⟨.cl .v, fun _ => .v⟩⟩
        · simp at hy'
    · cases hrr
  · simp only [h3, hget] at k1 k2
    split at k1
    · split at k2
      · rename_i e1 e2; exact e1.symm.trans e2
      · cases k2
    · cases k1
  · obtain ⟨c, hc⟩ := hl2 b hl
    rcases hb with hb | hb | hb
    · exact hR.nfb hr hc hb
    · obtain ⟨A, row, c', m1, k3, k4⟩ := b1 b hb
      have := hR.inj A R row row1 b c' c k3 hr k4 hc
      subst this; exact hxR m1
    · obtain ⟨A, row, c', m1, k3, k4⟩ := b2 b hb
      have := hR.inj A R row row1 b c' c k3 hr k4 hc
      subst this; exact hyR m1
  · split at hp
    · rename_i e
      cases hp
      exact ⟨by simp [loc2, e.1], by omega⟩
    · cases hp
  · have h0 := h.mut hR
    refine ⟨h0.os, h0.tape, h0.output, h0.size, h0.keep, fun b hb => ?_, fun b hb => ?_⟩
    · obtain ⟨c, hc⟩ := hl2 b hb
      exact h.own hR hr hc
    · rcases hb with hb | hb | hb
      · exact h.fb b hb
      · obtain ⟨A, row, c, _, k1, k2⟩ := b1 b hb; exact h.own hR k1 k2
      · obtain ⟨A, row, c, _, k1, k2⟩ := b2 b hb; exact h.own hR k1 k2
/-- A tree that was set aside: its head as a row. -/
theorem Rel.adopt {t : List AV} (hR : Rel w1 lent1 ⟨t, []⟩ loc a w) {u : Value} {bs : List BD} {us : UU} {X : Nat → Prop} {t2 : List AV} (hO : OT w1 X u bs us) (hX : ∀ b, X b → lent1.fb b) (ht : leQ (fun p q => p = .v u ∧ q = .o 500000 bs.length) t t2) :
    ∃ lent2 loc2, Rel w lent2 ⟨t2, [(500000, rowT bs us)]⟩ loc2 a w ∧ Gh w lent2.fb bs us ∧ (∀ X w0, ChX X w0 w1 lent1 → ChX X w0 w lent2) ∧ (∀ b, lent2.fb b → lent1.fb b) ∧ (∀ b, lent1.fb b → w.heap[b]? = w1.heap[b]?) ∧ (∀ b, lent1.fb b → ¬ X b → lent2.fb b) := by
  have hO2 : OT w lent1.fb u bs us := hO.same (fun b hb => hR.fbk (hX b hb)) hX
  have hrow := hO2.row
  obtain ⟨p, rfl⟩ := own_vOf hrow
  obtain ⟨g0, g1⟩ := leQ_get ht
  let h3 : Hp := [(500000, rowT bs us)]
  let loc2 : Loc := ⟨fun q => if q = 500000 then p else none, fun b => lent1.fb b ∧ (vOf p bs.length).ownBlock ≠ some b⟩
  have hl2 : ∀ b, LiveR h3 loc2 b → ∃ c, p = some (b, c) := by
    rintro b ⟨q, row, c, k1, k2⟩
    simp only [h3, hget] at k1
    split at k1
    · rename_i e; subst e
      exact ⟨c, by simpa [loc2] using k2⟩
    · cases k1
  have hpb : ∀ b c, p = some (b, c) → lent1.fb b := fun b c e => hO2.blk b (by rw [e]; rfl)
  have hlive : ∀ b, Live h3 loc2 b → Live [] loc b := by
    rintro b (h | h)
    · obtain ⟨c, hc⟩ := hl2 b h
      exact .inr (by rw [hR.fbe]; exact hpb b c hc)
    · exact .inr (by rw [hR.fbe]; exact h.1)
  have hg3 : hget h3 500000 = some (rowT bs us) := rfl
  have hes : (rowT bs us).es.length = bs.length := by simp only [rowT, esT, List.length_map]; exact zip_len hO2.gh.len
  have hne : ∀ (k : Nat) d q, bs[k]? = some d → us[k]? = some q → ∀ v, (v = q.1 ∨ v = q.2) → ∀ g, v.ownBlock = some g → (vOf p bs.length).ownBlock ≠ some g := fun k d q hd hq v hv g hg hpg => by
    have hi := hO2.gh.inn k d q hd hq
    have h3 : ∃ n xs, w.ownsRow 0 3 1 v n xs := by
      rcases hv with rfl | rfl
      · exact ⟨_, _, hi.1.1⟩
      · exact ⟨_, _, hi.2.1⟩
    obtain ⟨n, xs, h4⟩ := h3
    rcases h4.2 with ⟨rfl, _⟩ | ⟨g1, cap, cur, rfl, _, e1, _⟩
    · cases hg
    · simp only [Value.ownBlock, Option.some.injEq] at hg
      subst hg
      rcases hrow.2 with ⟨e2, _⟩ | ⟨g2, cap2, cur2, e2, _, e3, _⟩
      · rw [e2] at hpg; cases hpg
      · rw [e2] at hpg
        simp only [Value.ownBlock, Option.some.injEq] at hpg
        subst hpg
        rw [e1] at e3
        cases e3
  refine ⟨_, loc2, hR.re (s2 := ⟨t2, h3⟩) (loc2 := loc2) g0 hlive (fun i z hz => ?_) (fun r row hrr => ?_) (fun r r' row row' b c c' k1 k2 k3 k4 => ?_) (fun b hb hl => ?_) (fun _ => none) (fun r p hp => by cases hp), ⟨hO2.gh.len, fun k d q hd hq => ?_, hO2.gh.apart⟩, fun Y w0 h => ?_, fun b hb => hb.1, fun b hb => hR.fbk hb, fun b hb hx => ⟨hb, fun e => hx (hO.blk b e)⟩⟩
  · rcases g1 i z hz with h | ⟨z0, k1, k2 | ⟨rfl, rfl⟩⟩
    · exact .inl h
    · exact .inr ⟨z0, k1, .inl k2⟩
    · refine .inr ⟨_, k1, .inr fun u hg => ?_⟩
      rw [hg.v_inv]
      cases p with
      | none =>
        rcases hrow.2 with ⟨_, h⟩ | ⟨g, cap, cur, e, _⟩
        · rw [h]; exact .onil hg3 (by simp [loc2])
        · cases e
      | some bc => obtain ⟨b, c⟩ := bc; exact .o hg3 (by simp [loc2]) (by omega)
  · simp only [h3, hget] at hrr
    split at hrr
    · rename_i e
      subst e
      cases hrr
      exact own_rowT hO2.gh hrow
    · cases hrr
  · simp only [h3, hget] at k1 k2
    split at k1
    · split at k2
      · rename_i e1 e2; exact e1.symm.trans e2
      · cases k2
    · cases k1
  · obtain ⟨c, hc⟩ := hl2 b hl
    exact hb.2 (by rw [hc]; rfl)
  · have hi := hO2.gh.inn k d q hd hq
    exact ⟨⟨hi.1.1, fun g hg => ⟨hi.1.2 g hg, hne k d q hd hq _ (.inl rfl) g hg⟩⟩, ⟨hi.2.1, fun g hg => ⟨hi.2.2 g hg, hne k d q hd hq _ (.inr rfl) g hg⟩⟩⟩
  · have h0 := h.mut hR
    refine ⟨h0.os, h0.tape, h0.output, h0.size, h0.keep, fun b hb => ?_, fun b hb => h.fb b hb.1⟩
    obtain ⟨c, hc⟩ := hl2 b hb
    exact h.fb b (hpb b c hc)
theorem G.tupOB {h : Hp} {R n : Nat} {ok : Bool} {v : Value} (hG : G h loc w (.tup [.o R n, .v (.bool ok)]) v) : ∃ v0, v0 = rowVal loc R n ∧ ∀ lv lo W, C lv lo W (.tup [.v v0, .v (.bool ok)]) v := by
  have key : ∀ vs : Array Value, vs.size = 2 → G h loc w (.o R n) (vs.getD 0 undef) → G h loc w (.v (.bool ok)) (vs.getD 1 undef) → ∃ v0, v0 = rowVal loc R n ∧ ∀ lv lo W, C lv lo W (.tup [.v v0, .v (.bool ok)]) (.tuple vs) := fun vs hs h0 h1 => by
    refine ⟨_, rfl, fun lv lo W => .tup vs (by simpa using hs) fun j a ha => ?_⟩
    rcases j with _ | _ | j
    · simp at ha; subst ha; rw [h0.o_val]; exact .v
    · simp at ha; subst ha; rw [h1.v_inv]; exact .v
    · simp at ha
  cases hG with
  | cl hc =>
    cases hc with
    | tup vs hs hg => cases hg 0 _ rfl
  | tup vs hs hg => exact key vs (by simpa using hs) (hg 0 _ rfl) (hg 1 _ rfl)
/-- What is returned: a tree. -/
theorem Rel.toOT (hR : Rel w1 lent1 s loc a w) (hch : Ch w0 w1 lent1) {R : Nat} {bs : List BD} {us : UU} (hr : hget s.h R = some (rowT bs us)) (hgh : Gh w1 lent1.fb bs us) {v : Value} (hv : v = rowVal loc R bs.length) : OT w (fun b => w0.heap.size ≤ b ∧ b < w.heap.size) v bs us := by
  subst hv
  refine ⟨hgh.same (fun b hb => hR.fbk hb) fun b hb => ⟨hch.fb' hb, Nat.lt_of_lt_of_le (hR.fbl b hb).1 hR.size⟩, rowT_own hgh.len (hR.rw R _ hr), fun g hg => ?_⟩
  obtain ⟨c, hc⟩ := vOf_blk (show (vOf (loc R) bs.length).ownBlock = some g from hg)
  refine ⟨?_, Live.lt hR.rw ⟨R, _, c, hr, hc⟩⟩
  rcases hR.own R _ g c hr hc with h4 | h4
  · exact Nat.le_trans hch.size h4
  · exact hch.bk' h4
end
end Go.Proofs.YtccifbbjbnjcfaaGreatDoor
/-
  Walks: the marks that the laws write, and read again.
-/
namespace Go.Proofs.YtccifbbjbnjcfaaGreatDoor
open Go Go.RowKit Go.Proofs
theorem up_set {α : Type} {m l : List α} {i : Nat} {y : α} (hm : m[i]? = some y) (hl : i < l.length) : (m.take i ++ l.drop i).set i y = m.take (i + 1) ++ l.drop (i + 1) := by
  have h := lt_of_some hm
  rw [List.set_append_right _ _ (by simp; omega), List.length_take, Nat.min_eq_left (by omega), Nat.sub_self, List.take_add_one, hm]
  obtain ⟨x, hx⟩ := get_of_lt hl
  rw [drop_of_get hx]
  simp
attribute [local irreducible] RWp AW run kPe pe Kt effA gd gu br retR RDp runD kPeD brW gW effD
set_option maxRecDepth 100000
end Go.Proofs.YtccifbbjbnjcfaaGreatDoor
/-
  Walks: the laws' own helpers at disks: sizes, copies, equalities, what is marked.
-/
namespace Go.Proofs.YtccifbbjbnjcfaaGreatDoor
open Go Go.RowKit Go.Proofs
def tot1 (d : BD) : Nat := 1 + d.safe.length + d.fresh.length
def tot : List BD → Nat
  | [] => 0
  | d :: l => tot1 d + tot l
attribute [local irreducible] RWp AW run kPe pe Kt effA gd gu br retR RDp runD kPeD brW gW effD
set_option maxRecDepth 100000
end Go.Proofs.YtccifbbjbnjcfaaGreatDoor
/-
  Walks: copies of disks, set aside.
-/
namespace Go.Proofs.YtccifbbjbnjcfaaGreatDoor
open Go Go.RowKit Go.Proofs
theorem esT_c {bs : List BD} {us : UU} : ∀ e ∈ esT bs us, e.all isC = true := fun e he => by
  obtain ⟨x, _, rfl⟩ := List.mem_map.1 he
  rfl
theorem esT_len {bs : List BD} {us : UU} (h : us.length = bs.length) : (esT bs us).length = bs.length := by simp only [esT, List.length_map]; exact zip_len h
theorem esT_snoc {bs : List BD} {us : UU} (h : us.length = bs.length) (d : BD) (p : Value × Value) : esT (bs ++ [d]) (us ++ [p]) = esT bs us ++ [[iA d.name, .v p.1, .v p.2]] := by
  unfold esT
  rw [List.zip_append h.symm, List.map_append]
  rfl
theorem set_rel {E0 : List (List AV)} {k : Nat} {z1 z2 : List AV} (hc : ∀ e ∈ E0, e.all isC = true) (hk : k < E0.length) : (E0.set k z2).length = (E0.set k z1).length ∧ ∀ (i : Nat) e, (E0.set k z2)[i]? = some e → ((E0.set k z1)[i]? = some e ∧ e.all isC = true) ∨ ((E0.set k z1)[i]? = some z1 ∧ e = z2) := by
  refine ⟨by simp, fun i e he => ?_⟩
  rw [List.getElem?_set] at he
  rw [List.getElem?_set]
  by_cases e1 : k = i
  · subst e1
    simp only [if_true, hk] at he ⊢
    exact .inr ⟨trivial, (Option.some.inj he).symm⟩
  · rw [if_neg e1] at he ⊢
    exact .inl ⟨he, hc e (List.mem_of_getElem? he)⟩
theorem app_rel {E0 : List (List AV)} {z1 z2 : List AV} (hc : ∀ e ∈ E0, e.all isC = true) : (E0 ++ [z2]).length = (E0 ++ [z1]).length ∧ ∀ (i : Nat) e, (E0 ++ [z2])[i]? = some e → ((E0 ++ [z1])[i]? = some e ∧ e.all isC = true) ∨ ((E0 ++ [z1])[i]? = some z1 ∧ e = z2) := by
  refine ⟨by simp, fun i e he => ?_⟩
  rcases Nat.lt_or_ge i E0.length with h | h
  · rw [List.getElem?_append_left h] at he ⊢
    exact .inl ⟨he, hc e (List.mem_of_getElem? he)⟩
  · rw [List.getElem?_append_right h] at he ⊢
    have : i - E0.length = 0 := by have := lt_of_some he; simp at this; omega
    rw [this] at he ⊢
    exact .inr ⟨rfl, by simp at he; exact he.symm⟩
theorem flU_snoc (us : UU) (p : Value × Value) : flU (us ++ [p]) = flU us ++ [p.1, p.2] := by unfold flU; simp
theorem Gh.mem {w : World} {X : Nat → Prop} {bs : List BD} {us : UU} (h : Gh w X bs us) {v : Value} (hv : v ∈ flU us) {g : Nat} (hg : v.ownBlock = some g) : X g := by
  obtain ⟨p, hp, hv⟩ := List.mem_flatMap.1 hv
  obtain ⟨k, hk, rfl⟩ := List.mem_iff_getElem.1 hp
  have hd := List.getElem?_eq_getElem (show k < bs.length by have := h.len; omega)
  have := h.inn k _ _ hd (List.getElem?_eq_getElem hk)
  simp only [List.mem_cons, List.not_mem_nil, or_false] at hv
  rcases hv with rfl | rfl
  · exact this.1.2 g hg
  · exact this.2.2 g hg
theorem Gh.nil {w : World} {X : Nat → Prop} : Gh w X [] [] := ⟨rfl, fun k d p h => by simp at h, List.Pairwise.nil⟩
theorem Gh.snoc {w1 w : World} {X X' : Nat → Prop} {bs : List BD} {us : UU} {d : BD} {u1 u2 : Value} (h : Gh w1 X bs us) (hs : ∀ b, X b → w.heap[b]? = w1.heap[b]?) (hx : ∀ b, X b → X' b) (o1 : OwI w X' u1 d.safe) (o2 : OwI w X' u2 d.fresh)
    (hap : ∀ g, u1.ownBlock = some g → u2.ownBlock ≠ some g) (n1 : ∀ g, u1.ownBlock = some g → ¬ X g) (n2 : ∀ g, u2.ownBlock = some g → ¬ X g) : Gh w X' (bs ++ [d]) (us ++ [(u1, u2)]) := by
  refine ⟨by simp [h.len], fun k e p h1 h2 => ?_, ?_⟩
  · rcases Nat.lt_or_ge k bs.length with hk | hk
    · rw [List.getElem?_append_left hk] at h1
      rw [List.getElem?_append_left (by have := h.len; omega)] at h2
      have := h.inn k e p h1 h2
      exact ⟨this.1.same hs hx, this.2.same hs hx⟩
    · rw [List.getElem?_append_right hk] at h1
      rw [List.getElem?_append_right (by have := h.len; omega), h.len] at h2
      have : k - bs.length = 0 := by have := lt_of_some h1; simp at this; omega
      rw [this] at h1 h2
      simp at h1 h2
      subst h1; subst h2
      exact ⟨o1, o2⟩
  · rw [flU_snoc, List.pairwise_append]
    refine ⟨h.apart, ?_, fun a ha b hb g hg => ?_⟩
    · simp only [List.pairwise_cons, List.mem_cons, List.not_mem_nil, or_false]
      exact ⟨fun a ha => by subst ha; exact hap, ⟨fun _ h => h.elim, List.Pairwise.nil⟩⟩
    · have hX := h.mem ha hg
      simp only [List.mem_cons, List.not_mem_nil, or_false] at hb
      rcases hb with rfl | rfl
      · exact fun e => n1 g e hX
      · exact fun e => n2 g e hX
def otD (bs : List BD) (w : World) (X : Nat → Prop) (x : AV) : Prop := ∃ u us, x = .v u ∧ OT w X u bs us
def otB (bs : List BD) (ok : Bool) (w : World) (X : Nat → Prop) (x : AV) : Prop := ∃ u us, x = .tup [.v u, bA ok] ∧ OT w X u bs us
theorem flat_z (a b : List Int) : FlatR [rowZ a, rowZ b] := fun row h e he x hx => by
  simp only [List.mem_cons, List.not_mem_nil, or_false] at h
  rcases h with rfl | rfl
  · obtain ⟨n, _, rfl⟩ := List.mem_map.1 he; simp [inC] at hx; subst hx; rfl
  · obtain ⟨n, _, rfl⟩ := List.mem_map.1 he; simp [inC] at hx; subst hx; rfl
attribute [local irreducible] RWp AW run kPe pe Kt effA gd gu br retR RDp runD kPeD brW gW effD
set_option maxRecDepth 100000
/-- Disks that are not too great. -/
structure SzB (bs : List BD) : Prop where
  n : bs.length ≤ 1048576
  d : ∀ d ∈ bs, d.safe.length ≤ 1048576 ∧ d.fresh.length ≤ 1048576
end Go.Proofs.YtccifbbjbnjcfaaGreatDoor
/-
  Walks: cloneDisk, set aside; marks read again.
-/
namespace Go.Proofs.YtccifbbjbnjcfaaGreatDoor
open Go Go.RowKit Go.Proofs
theorem C.vEq {lv : Nat → Prop} {lo : Nat} {w : World} {x u : Value} (h : C lv lo w (.v x) u) : u = x := by
  cases h
  rfl
theorem esT_kill (r : Nat) (bs : List BD) (us : UU) : (esT bs us).map (fun x => x.map (killA r)) = esT bs us := by
  unfold esT
  rw [List.map_map]
  congr 1
  funext x
  simp [cellV, killA]
theorem PO.d {P : Program} {f : FuncId} {args : List AV} {bs : List BD} (h : PO P f args (otD bs)) : PC P f args (vX (blsA bs)) := by
  refine ⟨h.1, fun w fb vs h1 h2 h3 => (h.2 w vs h2 fun j x hx => (h3 j x hx).mono (Nat.le_refl _) (Nat.le_refl _) fun b _ _ _ => ⟨fun h => h, rfl⟩).mono ?_⟩
  rintro e w' ⟨x, v, rfl, hc, hb, u, us, rfl, hO⟩
  have hv : v = u := (hc (fun _ => False) 0 w').vEq
  subst hv
  exact ⟨_, [], v, ⟨rfl, rfl⟩, rfl, hb, ⟨fun _ => none, fb⟩, rfl, .cl (hO.c fun b hb' hl => by
    rcases hl with ⟨r, row, c, h, _⟩ | h
    · cases h
    · have := h1 b h; have := hb'.1; omega), fun r row hr => (by cases hr), fun r r' row row' b c c' hr => (by cases hr), fun r row b c hr => (by cases hr)⟩
theorem PO.db {P : Program} {f : FuncId} {args : List AV} {bs : List BD} {ok : Bool} (h : PO P f args (otB bs ok)) : PC P f args (vX (.tup [blsA bs, bA ok])) := by
  refine ⟨h.1, fun w fb vs h1 h2 h3 => (h.2 w vs h2 fun j x hx => (h3 j x hx).mono (Nat.le_refl _) (Nat.le_refl _) fun b _ _ _ => ⟨fun h => h, rfl⟩).mono ?_⟩
  rintro e w' ⟨x, v, rfl, hc, hb, u, us, rfl, hO⟩
  have hC := hc (fun b => fb b) 0 w'
  have hl : ∀ b, w.heap.size ≤ b ∧ b < w'.heap.size → ¬ Live [] ⟨fun _ => none, fb⟩ b := fun b hb' hl => by
    rcases hl with ⟨r, row, c, h, _⟩ | h
    · cases h
    · have := h1 b h; have := hb'.1; omega
  cases hC with
  | tup vs' hs hg =>
    refine ⟨_, [], _, ⟨rfl, rfl⟩, rfl, hb, ⟨fun _ => none, fb⟩, rfl, .cl (.tup vs' (by simpa using hs) fun j a ha => ?_), fun r row hr => (by cases hr), fun r r' row row' b c c' hr => (by cases hr), fun r row b c hr => (by cases hr)⟩
    rcases j with _ | _ | j
    · simp at ha; subst ha
      have := (hg 0 _ rfl).vEq
      rw [this]
      exact hO.c hl
    · simp at ha; subst ha
      have := (hg 1 _ rfl).vEq
      rw [this]
      exact .v
    · simp at ha
attribute [local irreducible] RWp AW run kPe pe Kt effA gd gu br retR RDp runD kPeD brW gW effD
set_option maxRecDepth 100000
theorem cloneDisk_o (bs : List BD) (hs : SmB bs) : PO Tryz.prog 62 [blsA bs] (otD bs) := by
  have hn := hs.n
  refine po_enter Tryz.func62 rfl rfl fun w0 => go_on ?_; (try simp only [Tryz.ntmps62, push_cast, simprocAttr])
  refine at_loopR (X := Nat × UU) (fun x => [(2, .any), (3, .o 3 x.1), (8, iA x.1)]) (fun x => [(3, ⟨79, 3, esT (bs.take x.1) x.2, true⟩)]) (fun x w lent => x.1 ≤ bs.length ∧ Ch w0 w lent ∧ Gh w lent.fb (bs.take x.1) x.2) (fun x => bs.length - x.1) rfl (from_wk (0, []) ⟨Nat.zero_le _, Ch.refl w0, by simpa using Gh.nil⟩ ?_) ?_
  · (refine wk_ok ?_ ?_ ?_ ?_ <;> simp [esT, leL, leH, idsL, idsA, idsR, inH, hget, sameRow, upA, hvA, dsts, dstO, setA_0, setA_1, setA_8, List.append, List.cons_append, List.nil_append])
  · rintro ⟨k, us⟩ w2 lent2 ⟨h1, hch, hgh⟩
    dsimp only at h1 hgh
    simp only [upA, hvA, dsts, dstO, setA_0, setA_1, setA_8, List.append, List.cons_append, List.nil_append]
    refine go_on ?_
    (try simp only [push_cast, simprocAttr])
    refine at_b (fun hg => ?_) (fun hg => ?_)
    · have hlt := lt_tt hg
      obtain ⟨x, hk⟩ := get_of_lt hlt
      have i1 := ix_n hk
      have i2 := map_get bC hk
      have hT := blobClone_pc x (hs.d x (mem_of_get hk))
      unfold blobA at hT
      simp only [bC] at i2 hT
      have w2' := wr ((k : Int) + 1) (by omega)
      have htk : bs.take (k + 1) = bs.take k ++ [x] := by rw [List.take_add_one, hk]; rfl
      have hel := esT_len hgh.len
      rw [List.length_take, Nat.min_eq_left h1] at hel
      obtain ⟨es, hes⟩ : ∃ es, es = esT (bs.take k) us := ⟨_, rfl⟩
      rw [← hes] at hel
      have hce : ∀ e ∈ es, e.all isC = true := fun e he => by rw [hes] at he; exact esT_c e he
      have hset : ∀ u1 u2, es ++ [[iA x.name, .v u1, .v u2]] = esT (bs.take (k + 1)) (us ++ [(u1, u2)]) := fun u1 u2 => by
        rw [htk, esT_snoc (by rw [hgh.len]), hes]
      rw [← hes]
      (try simp only [hg, i1, i2, push_cast, simprocAttr])
      (refine at_call ?_; (try simp only [push_cast, simprocAttr]); refine rwc_r (hT) (by simp [flatV, flatL]) (flat_z _ _) (by simp [frB, baseOf]) (go_on ?_); (try simp only [push_cast, simprocAttr]))
      refine at_chk (by omega) ?_
      (try simp only [w2', List.take_of_length_le (Nat.le_of_eq hel), push_cast, simprocAttr])
      have hkill : List.map (fun x => List.map (killA 3) x) (es ++ [[iA x.name, .o 15000 x.safe.length, .o 15001 x.fresh.length]]) = es ++ [[iA x.name, .o 15000 x.safe.length, .o 15001 x.fresh.length]] := by
        rw [List.map_append, hes, esT_kill]
        simp [killA]
      rw [hkill]
      refine at_fin fun loc a w hR => ?_
      obtain ⟨u1, u2, lent3, loc3, hR3, o1, o2, hap, n1, n2, hsub, hkp, hch3, _⟩ := hR.unlink (R := 3) (x := .o 15000 x.safe.length) (y := .o 15001 x.fresh.length) (nm := x.name) rfl rfl rfl (.o rfl) (.o rfl) (by simp [idsA]) (by simp [idsA]) (by simp [idsA])
        (fun u1 u2 => es ++ [[iA x.name, .v u1, .v u2]]) (fun u1 u2 => app_rel hce)
      rw [hset] at hR3
      refine from_wk2 hR3 (k + 1, us ++ [(u1, u2)]) ⟨by dsimp only; omega, hch3 _ _ hch, ?_⟩ (by dsimp only; omega) ?_
      · dsimp only
        rw [htk]
        exact hgh.snoc hkp hsub o1 o2 hap n1 n2
      · (refine wk_ok ?_ ?_ ?_ ?_ <;> simp [clS, isC, leL, leH, idsL, idsA, idsR, inH, hget, sameRow, upA, hvA, dsts, dstO, setA_0, setA_1, setA_8, List.append, List.cons_append, List.nil_append])
    · have h3 := lt_ff hg
      have hk : k = bs.length := by omega
      subst hk
      rw [List.take_length] at hgh
      (try simp only [hg, List.take_length, push_cast, simprocAttr])
      (refine at_retO hch (l := [.o 3 bs.length]) (by simp only [Tryz.results62, push_cast, simprocAttr]) ?_)
      exact fun loc a w v hR hG => ⟨.v v, fun _ _ _ => .v, v, us, rfl, hR.toOT hch rfl hgh hG.o_val⟩
end Go.Proofs.YtccifbbjbnjcfaaGreatDoor
/-
  Walks: marks of disks: written into what is set aside, and read again.
-/
namespace Go.Proofs.YtccifbbjbnjcfaaGreatDoor
open Go Go.RowKit Go.Proofs
section
variable {P : Program} {w0 w1 : World} {lent1 : Lent} {s : AS} {loc : Loc} {a : Act} {w : World}
theorem Rel.cls (hR : Rel w1 lent1 s loc a w) (R : Nat) : Rel w1 lent1 ⟨s.t.map (clS R), s.h⟩ loc a w := by
  refine ⟨by simpa using hR.tsz, fun i y hy => ?_, hR.df, hR.rw, hR.inj, hR.own, hR.os, hR.tape, hR.output, hR.size, hR.keep, hR.fbe, hR.fbl, hR.pn, hR.pl⟩
  simp only [List.getElem?_map, Option.map_eq_some_iff] at hy
  obtain ⟨x, hx, rfl⟩ := hy
  have := hR.tm i x hx
  unfold clS
  split
  · split
    · exact this
    · exact .cl .any
  · split
    · exact this
    · exact .cl .any
theorem wk_t {h : Hp} {t t2 : List AV} (hl : leL t t2) : Wk ⟨t, h⟩ ⟨t2, h⟩ := fun w0 lent loc a w hR => by
  obtain ⟨g1, g2⟩ := leL_get hl
  refine ⟨loc, hR.tsz.trans g1, fun i y hy => ?_, hR.df, hR.rw, hR.inj, hR.own, hR.os, hR.tape, hR.output, hR.size, hR.keep, hR.fbe, hR.fbl, hR.pn, hR.pl⟩
  rcases g2 i y hy with rfl | h
  · exact .cl .any
  · exact hR.tm i y h
theorem apart_ne {us : UU} (h : (flU us).Pairwise fun a b => ∀ g, a.ownBlock = some g → b.ownBlock ≠ some g) {i j : Nat} {p q : Value × Value} (hi : us[i]? = some p) (hj : us[j]? = some q) (hne : i ≠ j) {v v' : Value} (hv : v = p.1 ∨ v = p.2) (hv' : v' = q.1 ∨ v' = q.2) : ∀ g, v.ownBlock = some g → v'.ownBlock ≠ some g := by
  have key : ∀ (i : Nat) (p : Value × Value), us[i]? = some p → ∀ v, (v = p.1 ∨ v = p.2) → ∃ c, c < 2 ∧ (flU us)[i * 2 + c]? = some v := fun i p hi v hv => by
    have f := fun c hc => flatMap_get (fun p : Value × Value => [p.1, p.2]) 2 (fun _ => rfl) us i c p hi hc
    rcases hv with rfl | rfl
    · exact ⟨0, by omega, f 0 (by omega)⟩
    · exact ⟨1, by omega, f 1 (by omega)⟩
  obtain ⟨c, hc, h1⟩ := key i p hi v hv
  obtain ⟨d, hd, h2⟩ := key j q hj v' hv'
  rw [List.pairwise_iff_getElem] at h
  have l1 := lt_of_some h1
  have l2 := lt_of_some h2
  rw [List.getElem?_eq_getElem l1] at h1
  rw [List.getElem?_eq_getElem l2] at h2
  cases h1
  cases h2
  intro g e1 e2
  rcases Nat.lt_or_ge (i * 2 + c) (j * 2 + d) with h3 | h3
  · exact h _ _ l1 l2 h3 g e1 e2
  · exact h _ _ l2 l1 (by omega) g e2 e1
end
theorem esT_at {bs : List BD} {us : UU} {i : Nat} {d : BD} {p : Value × Value} (hd : bs[i]? = some d) (hp : us[i]? = some p) : (esT bs us)[i]? = some [iA d.name, .v p.1, .v p.2] := by
  unfold esT
  rw [List.getElem?_map, show (bs.zip us)[i]? = some (d, p) from by rw [List.getElem?_zip_eq_some]; exact ⟨hd, hp⟩]
  rfl
attribute [local irreducible] RWp AW run kPe pe Kt effA gd gu br retR RDp runD kPeD brW gW effD
set_option maxRecDepth 100000
end Go.Proofs.YtccifbbjbnjcfaaGreatDoor
/-
  Trees of files set aside: one file's lists read as data; another file in its place.
-/
namespace Go.Proofs.YtccifbbjbnjcfaaGreatDoor
open Go Go.RowKit Go.Proofs
section
variable {w0 w1 : World} {lent1 : Lent} {s : AS} {loc : Loc} {a : Act} {w : World}
theorem leQ_set {q : AV → AV → Prop} : ∀ {t t2 : List AV} {i : Nat} {x y : AV}, leQ q t t2 → t[i]? = some x → q x y → leQ q t (t2.set i y)
  | [], [], i, x, y, _, h, _ => by simp at h
  | z :: l, z2 :: l2, 0, x, y, ⟨h1, h2⟩, h, hq => by
    simp at h; subst h
    exact ⟨.inr (.inr hq), h2⟩
  | z :: l, z2 :: l2, i + 1, x, y, ⟨h1, h2⟩, h, hq => ⟨h1, leQ_set h2 (by simpa using h) hq⟩
  | [], _ :: _, _, _, _, h, _, _ => h.elim
  | _ :: _, [], _, _, _, h, _, _ => h.elim
/-- Closed slots alone. -/
def cl0 (x : AV) : AV := if isC x = true then x else .any
theorem leQ_cl0 {q : AV → AV → Prop} : ∀ t : List AV, leQ q t (t.map cl0)
  | [] => trivial
  | x :: l => by
    refine ⟨?_, leQ_cl0 l⟩
    unfold cl0
    split
    · rename_i h; exact .inr (.inl ⟨rfl, h⟩)
    · exact .inl rfl
theorem Rel.adopt' {t : List AV} (hR : Rel w1 lent1 ⟨t, []⟩ loc a w) {u : Value} {bs : List BD} {us : UU} {X : Nat → Prop} (i : Nat) (ht : t[i]? = some (.v u)) (hO : OT w1 X u bs us) (hX : ∀ b, X b → lent1.fb b) :
    ∃ lent2 loc2, Rel w lent2 ⟨(t.map cl0).set i (.o 500000 bs.length), [(500000, rowT bs us)]⟩ loc2 a w ∧ Gh w lent2.fb bs us ∧ (∀ X w0, ChX X w0 w1 lent1 → ChX X w0 w lent2) ∧ (∀ b, lent2.fb b → lent1.fb b) ∧ (∀ b, lent1.fb b → w.heap[b]? = w1.heap[b]?) ∧ (∀ b, lent1.fb b → ¬ X b → lent2.fb b) :=
  hR.adopt hO hX (leQ_set (leQ_cl0 t) ht ⟨rfl, rfl⟩)
/-- Two lists of a file, that were set aside, as data; and a nil row. -/
theorem Rel.free (hR : Rel w1 lent1 s loc a w) {R : Nat} {E0 : List (List AV)} {k : Nat} {nm : Int} {u1 u2 : Value} {xs ys : List Int} (hr : hget s.h R = some ⟨79, 3, E0, true⟩) (hRn : R ≠ 500003) (hC0 : ∀ e ∈ E0, e.all isC = true) (hk : E0[k]? = some [iA nm, .v u1, .v u2])
    (h1 : OwI w lent1.fb u1 xs) (h2 : OwI w lent1.fb u2 ys) :
    ∃ lent2 loc2, Rel w lent2 ⟨s.t.map (clS R), [(R, ⟨79, 3, E0.set k [iA nm, intsA xs, intsA ys], true⟩), (500003, rowZ [])]⟩ loc2 a w ∧ lent2.fb = (fun b => lent1.fb b ∧ u1.ownBlock ≠ some b ∧ u2.ownBlock ≠ some b) ∧ (∀ b, lent1.fb b → w.heap[b]? = w1.heap[b]?) ∧ (∀ X w0, ChX X w0 w1 lent1 → ChX X w0 w lent2) ∧ lent2.pin 500003 = some none := by
  obtain ⟨t2, ht2⟩ : ∃ t2, t2 = s.t.map (clS R) := ⟨_, rfl⟩
  obtain ⟨g0, g1⟩ := leQ_get (leQ_cls (R := R) s.t)
  rw [← ht2] at g0 g1 ⊢
  have hkl := lt_of_some hk
  let h3 : Hp := [(R, ⟨79, 3, E0.set k [iA nm, intsA xs, intsA ys], true⟩), (500003, rowZ [])]
  let loc2 : Loc := ⟨fun q => if q = R then loc R else none, fun b => lent1.fb b ∧ u1.ownBlock ≠ some b ∧ u2.ownBlock ≠ some b⟩
  have hl0 : ∀ q b c, loc2 q = some (b, c) → q = R ∧ loc R = some (b, c) := fun q b c k2 => by
    simp only [loc2] at k2
    split at k2
    · rename_i e; exact ⟨e, k2⟩
    · cases k2
  have hl2 : ∀ b, LiveR h3 loc2 b → ∃ c, loc R = some (b, c) := by
    rintro b ⟨q, row, c, k1, k2⟩
    exact ⟨c, (hl0 q b c k2).2⟩
  have hlive : ∀ b, Live h3 loc2 b → Live s.h loc b := by
    rintro b (h | h)
    · obtain ⟨c, hc⟩ := hl2 b h
      exact .inl ⟨R, _, c, hr, hc⟩
    · exact .inr (by rw [hR.fbe]; exact h.1)
  have hg3 : hget h3 R = some ⟨79, 3, E0.set k [iA nm, intsA xs, intsA ys], true⟩ := by simp [h3, hget]
  have hc1 : C (Live h3 loc2) 0 w (intsA xs) u1 := by
    have h1' : OwI w (fun b => u1.ownBlock = some b) u1 xs := ⟨h1.1, fun g hg => hg⟩
    refine h1'.c fun b hb hl => ?_
    rcases hl with hl | hl
    · obtain ⟨c, hc⟩ := hl2 b hl
      exact hR.nfb hr hc (h1.2 b hb)
    · exact hl.2.1 hb
  have hc2 : C (Live h3 loc2) 0 w (intsA ys) u2 := by
    have h2' : OwI w (fun b => u2.ownBlock = some b) u2 ys := ⟨h2.1, fun g hg => hg⟩
    refine h2'.c fun b hb hl => ?_
    rcases hl with hl | hl
    · obtain ⟨c, hc⟩ := hl2 b hl
      exact hR.nfb hr hc (h2.2 b hb)
    · exact hl.2.2 hb
  refine ⟨_, loc2, hR.re (s2 := ⟨t2, h3⟩) (loc2 := loc2) g0 hlive (fun i z hz => ?_) (fun r row hrr => ?_) (fun r r' row row' b c c' k1 k2 k3 k4 => ?_) (fun b hb hl => ?_) (fun q => if q = 500003 then some none else none) (fun r p hp => ?_), rfl, fun b h => hR.fbk h, fun Y w0 h => ?_, by simp⟩
  · rcases g1 i z hz with h | ⟨z0, k1, k2 | ⟨n, rfl, rfl⟩⟩
    · exact .inl h
    · exact .inr ⟨z0, k1, .inl k2⟩
    · exact .inr ⟨_, k1, .inr fun u hg => hg.oR hr hg3 (by simp [loc2]) (by simp)⟩
  · simp only [h3, hget] at hrr
    split at hrr
    · rename_i e
      subst e
      cases hrr
      refine (hR.rw R _ hr).re rfl rfl (by simp) (by simp [loc2]) fun i e2 he2 => ?_
      rw [List.getElem?_set] at he2
      split at he2
      · rename_i hik
        subst hik
        first | rw [if_pos hkl] at he2 | skip
        cases he2
        refine ⟨_, hk, rfl, fun j y' hy' => ?_⟩
        rcases j with _ | _ | _ | j
        · simp at hy'; subst hy'
          exact ⟨_, rfl, fun u hg _ => by rw [hg.v_inv]; exact ⟨.cl .v, fun _ => .v⟩⟩
        · simp at hy'; subst hy'
          exact ⟨_, rfl, fun u hg _ => by rw [hg.v_inv]; exact ⟨.cl hc1, fun _ => hc1⟩⟩
        · simp at hy'; subst hy'
          exact ⟨_, rfl, fun u hg _ => by rw [hg.v_inv]; exact ⟨.cl hc2, fun _ => hc2⟩⟩
        · simp at hy'
      · refine ⟨e2, he2, rfl, fun j y' hy' => ⟨y', hy', fun u hg _ => ?_⟩⟩
        have hcy := List.all_eq_true.1 (hC0 e2 (List.mem_of_getElem? he2)) y' (List.mem_of_getElem? hy')
        have := (isC_ok hg hcy).mono (lv' := Live h3 loc2) (Nat.le_refl 0) (Nat.le_refl _) fun b _ _ hnl => ⟨fun hl => hnl (hlive b hl), rfl⟩
        exact ⟨.cl this, fun _ => this⟩
    · split at hrr
      · rename_i e
        subst e
        cases hrr
        refine own_rowZ ?_
        rw [show rowVal loc2 500003 ([] : List Int).length = .slice none 0 0 by simp [rowVal, loc2, Ne.symm hRn]]
        exact World.ownsRow_nil _ _ _ _
      · cases hrr
  · rw [(hl0 r b c k3).1, (hl0 r' b c' k4).1]
  · obtain ⟨c, hc⟩ := hl2 b hl
    exact hR.nfb hr hc hb.1
  · split at hp
    · rename_i e
      cases hp
      exact ⟨by simp [loc2, e, Ne.symm hRn], by omega⟩
    · cases hp
  · have h0 := h.mut hR
    refine ⟨h0.os, h0.tape, h0.output, h0.size, h0.keep, fun b hb => ?_, fun b hb => h.fb b hb.1⟩
    obtain ⟨c, hc⟩ := hl2 b hb
    exact h.own hR hr hc
theorem aw_storeN {P : Program} {Q : Exit → Act → World → Prop} {lent : Lent} {k : List It} {tD : Tmp} {t ty : TypeId} {l : List SO} (r0 : Nat) {row0 : Row} {h' : Hp} (hpin : lent.pin r0 = some none) (hrow : hget s.h r0 = some row0) (hst : stA P s.h t (getA s.t tD) (.o r0 0) = some h')
    (h : AW P w0 lent Q (.ops l :: k) ⟨s.t, h'⟩) : AW P w0 lent Q (.ops (⟨none, .store t (.tmp tD) (.const (.slice none 0 0)), ty, none⟩ :: l) :: k) s := by
  intro loc a w hR
  obtain ⟨w', hr, hR'⟩ := stA_ok hR (evA_ok hR (.tmp tD)) (.onil hrow (hR.pn r0 none hpin)) hst
  show wpSO P (Kt P w0 lent Q k) _ a w
  unfold wpSO
  simp only
  unfold Oper.wp
  have : (execOp a.eval (SO.oper ⟨none, .store t (.tmp tD) (.const (.slice none 0 0)), ty, none⟩)).run P w = .ok .skip w' := by
    simp only [Act.eval, Array.getD_eq_getD_getElem?] at hr
    simp [execOp, SO.oper, Act.eval, hr]
  rw [this]
  exact h loc _ w' hR'
end
theorem apart_mk : ∀ {us : UU}, (∀ (i : Nat) p, us[i]? = some p → ∀ g, p.1.ownBlock = some g → p.2.ownBlock ≠ some g) → (∀ (i j : Nat) p q, us[i]? = some p → us[j]? = some q → i < j → ∀ v v', (v = p.1 ∨ v = p.2) → (v' = q.1 ∨ v' = q.2) → ∀ g, v.ownBlock = some g → v'.ownBlock ≠ some g) → (flU us).Pairwise fun a b => ∀ g, a.ownBlock = some g → b.ownBlock ≠ some g
  | [], _, _ => List.Pairwise.nil
  | p :: l, h1, h2 => by
    have ih := apart_mk (us := l) (fun i p h => h1 (i + 1) p (by simpa using h)) (fun i j p q hi hj hij => h2 (i + 1) (j + 1) p q (by simpa using hi) (by simpa using hj) (by omega))
    have key : ∀ v ∈ flU l, ∀ v0, (v0 = p.1 ∨ v0 = p.2) → ∀ g, v0.ownBlock = some g → v.ownBlock ≠ some g := fun v hv v0 h0 => by
      obtain ⟨q, hq, hv⟩ := List.mem_flatMap.1 hv
      obtain ⟨j, hj, rfl⟩ := List.mem_iff_getElem.1 hq
      exact h2 0 (j + 1) p l[j] rfl (by rw [List.getElem?_cons_succ]; exact List.getElem?_eq_getElem hj) (by omega) v0 v h0 (by simpa using hv)
    show ([p.1, p.2] ++ flU l).Pairwise _
    rw [List.cons_append, List.cons_append, List.nil_append, List.pairwise_cons, List.pairwise_cons]
    refine ⟨fun v hv => ?_, fun v hv => key v hv _ (.inr rfl), ih⟩
    rcases List.mem_cons.1 hv with rfl | hv
    · exact h1 0 p rfl
    · exact key v hv _ (.inl rfl)
theorem apart_in {us : UU} (h : (flU us).Pairwise fun a b => ∀ g, a.ownBlock = some g → b.ownBlock ≠ some g) {x : Nat} {q : Value × Value} (hq : us[x]? = some q) : ∀ g, q.1.ownBlock = some g → q.2.ownBlock ≠ some g := by
  have f := fun c hc => flatMap_get (fun p : Value × Value => [p.1, p.2]) 2 (fun _ => rfl) us x c q hq hc
  have f0 : (flU us)[x * 2 + 0]? = some q.1 := f 0 (by omega)
  have f1 : (flU us)[x * 2 + 1]? = some q.2 := f 1 (by omega)
  have l0 := lt_of_some f0
  have l1 := lt_of_some f1
  rw [List.getElem?_eq_getElem l0] at f0
  rw [List.getElem?_eq_getElem l1] at f1
  have := (List.pairwise_iff_getElem.1 h) _ _ l0 l1 (by omega)
  rw [Option.some.inj f0, Option.some.inj f1] at this
  exact this
/-- Another file in the place of one. -/
theorem Gh.set {w1 w : World} {X X' : Nat → Prop} {bs : List BD} {us : UU} {j : Nat} {d : BD} {u1 u2 : Value} (hlen : us.length = bs.length) (hj : j < bs.length) (hin : ∀ (i : Nat) e q, bs[i]? = some e → us[i]? = some q → i ≠ j → OwI w1 X q.1 e.safe ∧ OwI w1 X q.2 e.fresh)
    (hap : (flU us).Pairwise fun a b => ∀ g, a.ownBlock = some g → b.ownBlock ≠ some g) (hs : ∀ b, X b → w.heap[b]? = w1.heap[b]?) (hx : ∀ b, X b → X' b) (o1 : OwI w X' u1 d.safe) (o2 : OwI w X' u2 d.fresh)
    (h12 : ∀ g, u1.ownBlock = some g → u2.ownBlock ≠ some g) (n1 : ∀ g, u1.ownBlock = some g → ¬ X g) (n2 : ∀ g, u2.ownBlock = some g → ¬ X g) : Gh w X' (bs.set j d) (us.set j (u1, u2)) := by
  have hju : j < us.length := by omega
  have cs : ∀ (i : Nat) q, (us.set j (u1, u2))[i]? = some q → (i = j ∧ q = (u1, u2)) ∨ (i ≠ j ∧ us[i]? = some q) := fun i q h => by
    by_cases e : i = j
    · subst e
      rw [List.getElem?_set_self hju] at h
      exact .inl ⟨rfl, (Option.some.inj h).symm⟩
    · rw [List.getElem?_set_ne (Ne.symm e)] at h
      exact .inr ⟨e, h⟩
  have inX : ∀ (i : Nat) q, us[i]? = some q → i ≠ j → ∀ v, (v = q.1 ∨ v = q.2) → ∀ g, v.ownBlock = some g → X g := fun i q h hne v hv g hg => by
    have hb := List.getElem?_eq_getElem (show i < bs.length by have := lt_of_some h; omega)
    have := hin i _ q hb h hne
    rcases hv with rfl | rfl
    · exact this.1.2 g hg
    · exact this.2.2 g hg
  refine ⟨by simp [hlen], fun i e q h1 h2 => ?_, apart_mk (fun i p hp => ?_) fun i i' p q hp hq hii v v' hv hv' g hg hg' => ?_⟩
  · rcases cs i q h2 with ⟨rfl, rfl⟩ | ⟨hne, h3⟩
    · rw [List.getElem?_set_self hj] at h1
      cases h1
      exact ⟨o1, o2⟩
    · rw [List.getElem?_set_ne (Ne.symm hne)] at h1
      have := hin i e q h1 h3 hne
      exact ⟨this.1.same hs hx, this.2.same hs hx⟩
  · rcases cs i p hp with ⟨rfl, rfl⟩ | ⟨hne, h3⟩
    · exact h12
    · exact apart_in hap h3
  · rcases cs i p hp with ⟨rfl, rfl⟩ | ⟨hne, h3⟩ <;> rcases cs i' q hq with ⟨e2, rfl⟩ | ⟨hne2, h4⟩
    · omega
    · have hX := inX i' q h4 hne2 v' hv' g hg'
      rcases hv with rfl | rfl
      · exact n1 g hg hX
      · exact n2 g hg hX
    · have hX := inX i p h3 hne v hv g hg
      rcases hv' with rfl | rfl
      · exact n1 g hg' hX
      · exact n2 g hg' hX
    · exact apart_ne hap h3 h4 (by omega) hv hv' g hg hg'
theorem esT_set2 {bs : List BD} {us : UU} {i : Nat} {d : BD} {p : Value × Value} (hlen : us.length = bs.length) (hi : i < bs.length) : (esT bs us).set i [iA d.name, .v p.1, .v p.2] = esT (bs.set i d) (us.set i p) := by
  unfold esT
  apply List.ext_getElem?
  intro j
  rw [List.getElem?_set, List.getElem?_map, List.getElem?_map]
  by_cases e : i = j
  · subst e
    have hl : i < (List.map (fun x => List.map AV.v (cellV x)) (bs.zip us)).length := by simp only [List.length_map, List.length_zip]; omega
    rw [if_pos rfl, if_pos hl]
    rw [show ((bs.set i d).zip (us.set i p))[i]? = some (d, p) from by rw [List.getElem?_zip_eq_some]; exact ⟨by simp [hi], by simp [hlen, hi]⟩]
    rfl
  · rw [if_neg e]
    congr 1
    rw [List.zip_eq_zipWith, List.zip_eq_zipWith, List.getElem?_zipWith, List.getElem?_zipWith, List.getElem?_set_ne e, List.getElem?_set_ne e]
/-! ### Plain: a file in its own place -/
theorem asc_names : ∀ {x y : List BD}, x.map BD.name = y.map BD.name → ascB x = ascB y
  | [], [], _ => rfl
  | [], _ :: _, h => by simp at h
  | _ :: _, [], h => by simp at h
  | d :: r, e :: s, h => by
    simp only [List.map_cons, List.cons.injEq] at h
    have ih := asc_names h.2
    have hall : ∀ (l m : List BD), l.map BD.name = m.map BD.name → (l.all fun x => decide (d.name < x.name)) = (m.all fun x => decide (d.name < x.name)) := fun l => by
      induction l with
      | nil => intro m hm; cases m with
        | nil => rfl
        | cons => simp at hm
      | cons a l ih2 => intro m hm; cases m with
        | nil => simp at hm
        | cons b m =>
          simp only [List.map_cons, List.cons.injEq] at hm
          simp only [List.all_cons, ih2 m hm.2, hm.1]
    unfold ascB
    rw [ih, ← h.1, hall r s h.2]
theorem set_with {bs : List BD} {k : Nat} {d d' : BD} (ha : ascB bs = true) (hd : bs[k]? = some d) (hn : d'.name = d.name) : bs.set k d' = withB bs d' := by
  have hk := lt_of_some hd
  have hdk : bs[k] = d := by rw [List.getElem?_eq_getElem hk] at hd; exact Option.some.inj hd
  have hy : ascB (withB bs d') = true := by
    unfold withB
    exact ascB_ins (ascB_sub _ ha) fun x hx => by simpa using (List.mem_filter.1 hx).2
  have hnm : (bs.set k d').map BD.name = bs.map BD.name := by
    rw [List.map_set]
    apply List.ext_getElem?
    intro i
    rw [List.getElem?_set]
    split
    · rename_i e
      subst e
      simp [hk, hn, hdk]
    · rfl
  refine ext_mem ((asc_names hnm).trans ha) hy fun x => ?_
  rw [mem_with]
  constructor
  · intro hx
    obtain ⟨i, hi, e⟩ := List.mem_iff_getElem.1 hx
    simp only [List.length_set] at hi
    rw [List.getElem_set] at e
    split at e
    · exact .inl e.symm
    · rename_i hki
      refine .inr ⟨List.mem_iff_getElem.2 ⟨i, hi, e⟩, fun hxn => ?_⟩
      have hp := List.pairwise_iff_getElem.1 (asc_pw ha)
      rcases Nat.lt_or_gt_of_ne hki with h1 | h1
      · exact hp k i hk hi h1 (by rw [hdk, e, hxn, hn])
      · exact hp i k hi hk h1 (by rw [hdk, e, hxn, hn])
  · rintro (rfl | ⟨h1, h2⟩)
    · exact List.mem_iff_getElem.2 ⟨k, by simpa using hk, by simp⟩
    · obtain ⟨i, hi, e⟩ := List.mem_iff_getElem.1 h1
      refine List.mem_iff_getElem.2 ⟨i, by simpa using hi, ?_⟩
      rw [List.getElem_set, if_neg, e]
      rintro rfl
      rw [hdk] at e
      rw [← e] at h2
      exact h2 hn.symm
/-- What DiskSync returns. -/
def syncP (bs : List BD) (nm : Int) : List BD × Bool := if diskB bs then (match getB bs nm with
  | some d => (withB bs ⟨nm, d.safe ++ d.fresh, []⟩, true)
  | none => ([], false)) else ([], false)
end Go.Proofs.YtccifbbjbnjcfaaGreatDoor
/-
  Plain laws of disks: a crash.
-/
namespace Go.Proofs.YtccifbbjbnjcfaaGreatDoor
open Go Go.RowKit Go.Proofs
/-- How much of a file's fresh bytes is kept. -/
def keepN (keep : List Int) (d : BD) : Nat := if d.name ≤ keep.length then min ((keep[(d.name - 1).toNat]?).getD 0).toNat d.fresh.length else 0
def crF (keep : List Int) (d : BD) : BD := ⟨d.name, d.safe ++ d.fresh.take (keepN keep d), []⟩
def okK (keep : List Int) : Bool := decide (keep.length ≤ 3) && keep.all fun n => inR n 0 400
/-- What DiskCrash returns. -/
def crashP (bs : List BD) (keep : List Int) : List BD × Bool := if diskB bs && okK keep then (bs.map (crF keep), true) else ([], false)
theorem bytesB_take {l : List Int} (h : bytesB l = true) (n : Nat) : bytesB (l.take n) = true := by
  unfold bytesB at *
  rw [List.all_eq_true] at *
  exact fun x hx => h x (List.mem_of_mem_take hx)
theorem crF_ok {keep : List Int} {d : BD} (h : okF d = true) : okF (crF keep d) = true := by
  unfold crF
  simp only [okF, bytesB_app, Bool.and_eq_true, decide_eq_true_eq] at h ⊢
  obtain ⟨⟨⟨h1, h2⟩, h3⟩, h4⟩ := h
  refine ⟨⟨⟨h1, h2, bytesB_take h3 _⟩, rfl⟩, ?_⟩
  have : (d.fresh.take (keepN keep d)).length ≤ d.fresh.length := by rw [List.length_take]; omega
  simp only [List.length_append, List.length_nil]; omega
theorem crash_valid {bs : List BD} (keep : List Int) (h : diskB bs = true) : diskB (bs.map (crF keep)) = true := by
  rw [diskB_iff] at h ⊢
  refine ⟨?_, ?_⟩
  · rw [List.all_map, List.all_eq_true]
    exact fun d hd => crF_ok (List.all_eq_true.1 h.1 d hd)
  · refine (asc_names ?_).trans h.2
    rw [List.map_map]
    rfl
theorem crashP_disk {bs : List BD} {keep : List Int} {Y : List BD} {ok : Bool} (h : (Y, ok) = crashP bs keep) : diskB Y = true ∨ Y = [] := by
  unfold crashP at h
  split at h
  · rename_i hc
    cases h
    rw [Bool.and_eq_true] at hc
    exact .inl (crash_valid keep hc.1)
  · cases h; exact .inr rfl
theorem crashP_bad {bs : List BD} {keep : List Int} (h : (diskB bs && okK keep) = false) : crashP bs keep = ([], false) := by unfold crashP; rw [h]; rfl
theorem crashP_ok {bs : List BD} {keep : List Int} (h : (diskB bs && okK keep) = true) : crashP bs keep = (bs.map (crF keep), true) := by unfold crashP; rw [h]; rfl
theorem syncP_disk {bs : List BD} {nm : Int} {Y : List BD} {ok : Bool} (h : (Y, ok) = syncP bs nm) : diskB Y = true ∨ Y = [] := by
  unfold syncP at h
  split at h
  · rename_i hv
    split at h
    · rename_i d hg
      cases h
      refine .inl (disk_with hv ?_)
      have hm := getB_name hg
      have := disk_okF hv hm.2
      simp only [okF, bytesB_app, Bool.and_eq_true, decide_eq_true_eq] at this ⊢
      obtain ⟨⟨⟨h1, h2⟩, h3⟩, h4⟩ := this
      rw [hm.1] at h1
      exact ⟨⟨⟨h1, h2, h3⟩, by rfl⟩, by simpa using h4⟩
    · cases h; exact .inr rfl
  · cases h; exact .inr rfl
theorem renD_disk {bs : List BD} {a b : Int} {Y : List BD} {ok : Bool} (h : (Y, ok) = renD bs a b) : diskB Y = true ∨ Y = [] := by
  cases hk : ok with
  | false =>
    refine .inr ?_
    subst hk
    unfold renD at h
    split at h
    · split at h <;> cases h
      rfl
    · cases h; rfl
  | true =>
    subst hk
    have h2 : (renD bs a b).2 = true := by rw [← h]
    obtain ⟨d, h3, h4, h5, h6⟩ := renD_ok h2
    have : Y = (renD bs a b).1 := by rw [← h]
    exact .inl (by rw [this]; exact h6.2)
end Go.Proofs.YtccifbbjbnjcfaaGreatDoor
