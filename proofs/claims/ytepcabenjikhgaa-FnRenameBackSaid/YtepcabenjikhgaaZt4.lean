/- A part of the proof of the session laws: texts N9 N10 N11 N12 M31 M32 M34 M35 N13 N14 N15 O1 O2. -/
import Derived.Test.YtepcabenjikhgaaZt3
import Derived.ChangeArms
import Derived.ChangeSame
import Derived.OpenShut
set_option linter.unusedSimpArgs false
set_option linter.unusedVariables false
/-
  Walks: disks: the reference's small functions; DiskValid.
-/
namespace Go.Proofs.Ytepcabenjikhgaa
open Go Go.RowKit Go.Proofs
attribute [local irreducible] RWp AW run kPe pe Kt effA gd gu br retR RDp runD kPeD brW gW effD
set_option maxRecDepth 100000
theorem l4Bytes_pc (l : List Int) (hl : l.length < 4294967281) : PC Try.prog 54 [intsA l] (vB (bytesB l)) := by
  refine pc_enter Try.func54 rfl rfl fun w0 fb => go_on ?_; (try simp only [Try.ntmps54, push_cast, simprocAttr])
  refine at_loop (X := Nat) (fun k => [(3, iA k)]) (fun _ => []) (fun k => k ≤ l.length ∧ bytesB l = bytesB (l.drop k)) (fun k => l.length - k) 0 ⟨Nat.zero_le _, rfl⟩ ?_ ?_
  · (refine wk_ok ?_ ?_ ?_ ?_ <;> simp [leL, leH, idsL, idsA, idsR, inH, hget, sameRow, upA, hvA, dsts, dstO, setA_0, setA_1, setA_8, List.append, List.cons_append, List.nil_append])
  · rintro k ⟨h1, h2⟩
    simp only [upA, hvA, dsts, dstO, setA_0, setA_1, setA_8, List.append, List.cons_append, List.nil_append]
    refine go_on ?_
    (try simp only [List.length_map, push_cast, simprocAttr])
    refine at_b (fun hg => ?_) (fun hg => ?_)
    · have hlt := lt_tt hg
      obtain ⟨x, hk⟩ := get_of_lt hlt
      have i1 := ix_n hk
      have i2 := map_get inC hk
      simp only [inC] at i2
      rw [drop_of_get hk] at h2
      have hI := l6In_pc x 0 255
      have w1 := wr ((k : Int) + 1) (by omega)
      have e0 : bytesB (x :: l.drop (k + 1)) = (inR x 0 255 && bytesB (l.drop (k + 1))) := rfl
      rw [e0] at h2
      (try simp only [hg, i1, i2, push_cast, simprocAttr])
      (refine at_call ?_; (try simp only [push_cast, simprocAttr]); refine rwc_v (hI) (go_on ?_); (try simp only [push_cast, simprocAttr]))
      cases e : inR x 0 255 with
      | false =>
        (try simp only [e, Bool.not_false, push_cast, simprocAttr])
        refine at_ret ?_; simp only [Try.results54, push_cast, simprocAttr]
        simp [vX, h2, e]
      | true =>
        (try simp only [e, Bool.not_true, w1, push_cast, simprocAttr])
        refine at_fin ⟨k + 1, ⟨by omega, by rw [h2, e]; rfl⟩, by omega, ?_⟩
        (refine wk_ok ?_ ?_ ?_ ?_ <;> simp [leL, leH, idsL, idsA, idsR, inH, hget, sameRow, upA, hvA, dsts, dstO, setA_0, setA_1, setA_8, List.append, List.cons_append, List.nil_append])
    · have h3 := lt_ff hg
      (try simp only [hg, push_cast, simprocAttr])
      refine at_ret ?_; simp only [Try.results54, push_cast, simprocAttr]
      rw [List.drop_of_length_le h3] at h2
      have h2' : bytesB l = true := by rw [h2]; rfl
      simp [vX, h2']
theorem specDiskValid_pc (bs : List BD) (hs : SmB bs) : PC Try.prog 33 [blsA bs] (vB (diskB bs)) := by
  have hn := hs.n
  refine pc_enter Try.func33 rfl rfl fun w0 fb => go_on ?_; (try simp only [Try.ntmps33, push_cast, simprocAttr])
  refine at_loop (X := Nat × Int) (fun x => [(3, iA x.1)]) (fun _ => []) (fun x => x.1 ≤ bs.length ∧ 0 ≤ x.2 ∧ x.2 ≤ 3 ∧ diskB bs = diskFrom x.2 (bs.drop x.1) ∧ (x.1 = 0 ∧ x.2 = 0 ∨ ∃ m d, x.1 = m + 1 ∧ bs[m]? = some d ∧ d.name = x.2)) (fun x => bs.length - x.1) (0, 0) ⟨Nat.zero_le _, by simp, by simp, rfl, .inl ⟨rfl, rfl⟩⟩ ?_ ?_
  · (refine wk_ok ?_ ?_ ?_ ?_ <;> simp [leL, leH, idsL, idsA, idsR, inH, hget, sameRow, upA, hvA, dsts, dstO, setA_0, setA_1, setA_8, List.append, List.cons_append, List.nil_append])
  · rintro ⟨k, last⟩ ⟨h1, h2, h3, h4, h5⟩
    simp only at h1 h2 h3 h4 h5
    simp only [upA, hvA, dsts, dstO, setA_0, setA_1, setA_8, List.append, List.cons_append, List.nil_append]
    refine go_on ?_
    (try simp only [List.length_map, push_cast, simprocAttr])
    refine at_b (fun hg => ?_) (fun hg => ?_)
    · have hlt := lt_tt hg
      obtain ⟨d, hk⟩ := get_of_lt hlt
      have i1 := ix_n hk
      have i2 := map_get bC hk
      simp only [bC] at i2
      obtain ⟨hds, hdf⟩ := hs.d d (mem_of_get hk)
      have hI := l6In_pc d.name 1 3
      have hS := l4Bytes_pc d.safe (by omega)
      have hF := l4Bytes_pc d.fresh (by omega)
      have w1 := wr ((k : Int) + 1) (by omega)
      have w3 := wr ((d.safe.length : Int) + d.fresh.length) (by omega)
      rw [drop_of_get hk] at h4
      simp only [diskFrom, blobB] at h4
      have eI : inB d.name (last + 1) 3 = (inR d.name 1 3 && decide (last < d.name)) := by
        unfold inB inR
        rw [Bool.eq_iff_iff]
        simp only [Bool.and_eq_true, decide_eq_true_eq]
        omega
      rw [eI] at h4
      (try simp only [hg, i1, i2, push_cast, simprocAttr])
      cases e1 : inR d.name 1 3 with
      | false =>
        refine at_draw rfl (by kernel_rfl) ?_; simp only [push_cast, simprocAttr]
        repeat' first | (refine at_bWn (fun hb => ?_) (fun hb => ?_) <;> simp only [e1, Bool.not_false, hb, push_cast, simprocAttr]) | (refine at_bW (fun hb => ?_) (fun hb => ?_) <;> simp only [e1, Bool.not_false, hb, push_cast, simprocAttr]) | (refine at_callD (by simp [clB, idsL, idsA, hget]) ?_; (try simp only [push_cast, simprocAttr]); first | (refine rcd_v (hI) ?_; simp only [e1, Bool.not_false, push_cast, simprocAttr]) | (refine rcd_d (hI) (by simp [flatV, flatL, ctC, ndC, cmC]) (by simp [ren, ctC, ndC, cmC]) ?_; simp only [e1, Bool.not_false, push_cast, simprocAttr])) | (refine at_done (by kernel_rfl) (by kernel_rfl) (go_on ?_); (try simp only [e1, Bool.not_false, push_cast, simprocAttr]))
        (try simp only [e1, Bool.not_false, push_cast, simprocAttr])
        refine at_ret ?_; simp only [Try.results33, push_cast, simprocAttr]
        simp [vX, h4, e1]
      | true =>
        have hnm : 1 ≤ d.name ∧ d.name ≤ 3 := by simp only [inR, Bool.and_eq_true, decide_eq_true_eq] at e1; omega
        cases e2 : bytesB d.safe with
        | false =>
          refine at_draw rfl (by kernel_rfl) ?_; simp only [push_cast, simprocAttr]
          repeat' first | (refine at_bWn (fun hb => ?_) (fun hb => ?_) <;> simp only [e1, e2, Bool.not_false, Bool.not_true, hb, push_cast, simprocAttr]) | (refine at_bW (fun hb => ?_) (fun hb => ?_) <;> simp only [e1, e2, Bool.not_false, Bool.not_true, hb, push_cast, simprocAttr]) | (refine at_callD (by simp [clB, idsL, idsA, hget]) ?_; (try simp only [push_cast, simprocAttr]); first | (refine rcd_v (hI) ?_; simp only [e1, e2, Bool.not_false, Bool.not_true, push_cast, simprocAttr]) | (refine rcd_d (hI) (by simp [flatV, flatL, ctC, ndC, cmC]) (by simp [ren, ctC, ndC, cmC]) ?_; simp only [e1, e2, Bool.not_false, Bool.not_true, push_cast, simprocAttr]) | (refine rcd_v (hS) ?_; simp only [e1, e2, Bool.not_false, Bool.not_true, push_cast, simprocAttr]) | (refine rcd_d (hS) (by simp [flatV, flatL, ctC, ndC, cmC]) (by simp [ren, ctC, ndC, cmC]) ?_; simp only [e1, e2, Bool.not_false, Bool.not_true, push_cast, simprocAttr])) | (refine at_done (by kernel_rfl) (by kernel_rfl) (go_on ?_); (try simp only [e1, e2, Bool.not_false, Bool.not_true, push_cast, simprocAttr]))
          (try simp only [Bool.not_false, push_cast, simprocAttr])
          refine at_ret ?_; simp only [Try.results33, push_cast, simprocAttr]
          simp [vX, h4, e2]
        | true =>
          cases e3 : bytesB d.fresh with
          | false =>
            refine at_draw rfl (by kernel_rfl) ?_; simp only [push_cast, simprocAttr]
            repeat' first | (refine at_bWn (fun hb => ?_) (fun hb => ?_) <;> simp only [e1, e2, e3, Bool.not_false, Bool.not_true, hb, push_cast, simprocAttr]) | (refine at_bW (fun hb => ?_) (fun hb => ?_) <;> simp only [e1, e2, e3, Bool.not_false, Bool.not_true, hb, push_cast, simprocAttr]) | (refine at_callD (by simp [clB, idsL, idsA, hget]) ?_; (try simp only [push_cast, simprocAttr]); first | (refine rcd_v (hI) ?_; simp only [e1, e2, e3, Bool.not_false, Bool.not_true, push_cast, simprocAttr]) | (refine rcd_d (hI) (by simp [flatV, flatL, ctC, ndC, cmC]) (by simp [ren, ctC, ndC, cmC]) ?_; simp only [e1, e2, e3, Bool.not_false, Bool.not_true, push_cast, simprocAttr]) | (refine rcd_v (hS) ?_; simp only [e1, e2, e3, Bool.not_false, Bool.not_true, push_cast, simprocAttr]) | (refine rcd_d (hS) (by simp [flatV, flatL, ctC, ndC, cmC]) (by simp [ren, ctC, ndC, cmC]) ?_; simp only [e1, e2, e3, Bool.not_false, Bool.not_true, push_cast, simprocAttr]) | (refine rcd_v (hF) ?_; simp only [e1, e2, e3, Bool.not_false, Bool.not_true, push_cast, simprocAttr]) | (refine rcd_d (hF) (by simp [flatV, flatL, ctC, ndC, cmC]) (by simp [ren, ctC, ndC, cmC]) ?_; simp only [e1, e2, e3, Bool.not_false, Bool.not_true, push_cast, simprocAttr])) | (refine at_done (by kernel_rfl) (by kernel_rfl) (go_on ?_); (try simp only [e1, e2, e3, Bool.not_false, Bool.not_true, push_cast, simprocAttr]))
            (try simp only [Bool.not_false, push_cast, simprocAttr])
            refine at_ret ?_; simp only [Try.results33, push_cast, simprocAttr]
            simp [vX, h4, e3]
          | true =>
            by_cases h400 : d.safe.length + d.fresh.length ≤ 400
            · have e4 : ltI 400 ((d.safe.length : Int) + d.fresh.length) = false := ltI_f (by omega)
              rcases h5 with ⟨rfl, rfl⟩ | ⟨m, p, hkm, hm, hpl⟩
              · have e5 : ltI 0 ((0 : Nat) : Int) = false := rfl
                refine at_draw rfl (by kernel_rfl) ?_; simp only [push_cast, simprocAttr]
                repeat' first | (refine at_bWn (fun hb => ?_) (fun hb => ?_) <;> simp only [e1, e2, e3, e4, e5, show ltI 0 0 = false from rfl, w3, List.length_map, Bool.not_false, Bool.not_true, hb, push_cast, simprocAttr]) | (refine at_bW (fun hb => ?_) (fun hb => ?_) <;> simp only [e1, e2, e3, e4, e5, show ltI 0 0 = false from rfl, w3, List.length_map, Bool.not_false, Bool.not_true, hb, push_cast, simprocAttr]) | (refine at_callD (by simp [clB, idsL, idsA, hget]) ?_; (try simp only [push_cast, simprocAttr]); first | (refine rcd_v (hI) ?_; simp only [e1, e2, e3, e4, e5, show ltI 0 0 = false from rfl, w3, List.length_map, Bool.not_false, Bool.not_true, push_cast, simprocAttr]) | (refine rcd_d (hI) (by simp [flatV, flatL, ctC, ndC, cmC]) (by simp [ren, ctC, ndC, cmC]) ?_; simp only [e1, e2, e3, e4, e5, show ltI 0 0 = false from rfl, w3, List.length_map, Bool.not_false, Bool.not_true, push_cast, simprocAttr]) | (refine rcd_v (hS) ?_; simp only [e1, e2, e3, e4, e5, show ltI 0 0 = false from rfl, w3, List.length_map, Bool.not_false, Bool.not_true, push_cast, simprocAttr]) | (refine rcd_d (hS) (by simp [flatV, flatL, ctC, ndC, cmC]) (by simp [ren, ctC, ndC, cmC]) ?_; simp only [e1, e2, e3, e4, e5, show ltI 0 0 = false from rfl, w3, List.length_map, Bool.not_false, Bool.not_true, push_cast, simprocAttr]) | (refine rcd_v (hF) ?_; simp only [e1, e2, e3, e4, e5, show ltI 0 0 = false from rfl, w3, List.length_map, Bool.not_false, Bool.not_true, push_cast, simprocAttr]) | (refine rcd_d (hF) (by simp [flatV, flatL, ctC, ndC, cmC]) (by simp [ren, ctC, ndC, cmC]) ?_; simp only [e1, e2, e3, e4, e5, show ltI 0 0 = false from rfl, w3, List.length_map, Bool.not_false, Bool.not_true, push_cast, simprocAttr])) | (refine at_done (by kernel_rfl) (by kernel_rfl) (go_on ?_); (try simp only [e1, e2, e3, e4, e5, show ltI 0 0 = false from rfl, w3, List.length_map, Bool.not_false, Bool.not_true, push_cast, simprocAttr]))
                (try simp only [w1, show IntKind.i64.wrap (0 + 1) = 1 from rfl, show IntKind.i64.wrap 1 = 1 from rfl, push_cast, simprocAttr])
                refine at_fin ⟨(0 + 1, d.name), ⟨by dsimp only; omega, by dsimp only; omega, by dsimp only; omega, ?_, .inr ⟨0, d, rfl, hk, rfl⟩⟩, by dsimp only; omega, ?_⟩
                · rw [h4]
                  have : decide ((0 : Int) < d.name) = true := by simp; omega
                  simp [e1, e2, e3, h400, this]
                · (refine wk_ok ?_ ?_ ?_ ?_ <;> simp [show IntKind.i64.wrap 1 = 1 from rfl, leL, leH, idsL, idsA, idsR, inH, hget, sameRow, upA, hvA, dsts, dstO, setA_0, setA_1, setA_8, List.append, List.cons_append, List.nil_append])
              · have e5 : ltI 0 (k : Int) = true := ltI_t (by omega)
                have w2 : IntKind.i64.wrap ((k : Int) - 1) = (m : Int) := by rw [wr _ (by omega)]; omega
                have j1 := ix_n hm
                have j2 := map_get bC hm
                simp only [bC] at j2
                by_cases hlt2 : last < d.name
                · have e6 : leI d.name p.name = false := leI_f (by omega)
                  refine at_draw rfl (by kernel_rfl) ?_; simp only [push_cast, simprocAttr]
                  repeat' first | (refine at_bWn (fun hb => ?_) (fun hb => ?_) <;> simp only [e1, e2, e3, e4, e5, e6, w2, w3, j1, j2, List.length_map, Bool.not_false, Bool.not_true, hb, push_cast, simprocAttr]) | (refine at_bW (fun hb => ?_) (fun hb => ?_) <;> simp only [e1, e2, e3, e4, e5, e6, w2, w3, j1, j2, List.length_map, Bool.not_false, Bool.not_true, hb, push_cast, simprocAttr]) | (refine at_callD (by simp [clB, idsL, idsA, hget]) ?_; (try simp only [push_cast, simprocAttr]); first | (refine rcd_v (hI) ?_; simp only [e1, e2, e3, e4, e5, e6, w2, w3, j1, j2, List.length_map, Bool.not_false, Bool.not_true, push_cast, simprocAttr]) | (refine rcd_d (hI) (by simp [flatV, flatL, ctC, ndC, cmC]) (by simp [ren, ctC, ndC, cmC]) ?_; simp only [e1, e2, e3, e4, e5, e6, w2, w3, j1, j2, List.length_map, Bool.not_false, Bool.not_true, push_cast, simprocAttr]) | (refine rcd_v (hS) ?_; simp only [e1, e2, e3, e4, e5, e6, w2, w3, j1, j2, List.length_map, Bool.not_false, Bool.not_true, push_cast, simprocAttr]) | (refine rcd_d (hS) (by simp [flatV, flatL, ctC, ndC, cmC]) (by simp [ren, ctC, ndC, cmC]) ?_; simp only [e1, e2, e3, e4, e5, e6, w2, w3, j1, j2, List.length_map, Bool.not_false, Bool.not_true, push_cast, simprocAttr]) | (refine rcd_v (hF) ?_; simp only [e1, e2, e3, e4, e5, e6, w2, w3, j1, j2, List.length_map, Bool.not_false, Bool.not_true, push_cast, simprocAttr]) | (refine rcd_d (hF) (by simp [flatV, flatL, ctC, ndC, cmC]) (by simp [ren, ctC, ndC, cmC]) ?_; simp only [e1, e2, e3, e4, e5, e6, w2, w3, j1, j2, List.length_map, Bool.not_false, Bool.not_true, push_cast, simprocAttr])) | (refine at_done (by kernel_rfl) (by kernel_rfl) (go_on ?_); (try simp only [e1, e2, e3, e4, e5, e6, w2, w3, j1, j2, List.length_map, Bool.not_false, Bool.not_true, push_cast, simprocAttr]))
                  (try simp only [w1, push_cast, simprocAttr])
                  refine at_fin ⟨(k + 1, d.name), ⟨by dsimp only; omega, by dsimp only; omega, by dsimp only; omega, ?_, .inr ⟨k, d, rfl, hk, rfl⟩⟩, by dsimp only; omega, ?_⟩
                  · rw [h4]; simp [e1, e2, e3, h400, hlt2]
                  · (refine wk_ok ?_ ?_ ?_ ?_ <;> simp [leL, leH, idsL, idsA, idsR, inH, hget, sameRow, upA, hvA, dsts, dstO, setA_0, setA_1, setA_8, List.append, List.cons_append, List.nil_append])
                · have e6 : leI d.name p.name = true := leI_t (by omega)
                  refine at_draw rfl (by kernel_rfl) ?_; simp only [push_cast, simprocAttr]
                  repeat' first | (refine at_bWn (fun hb => ?_) (fun hb => ?_) <;> simp only [e1, e2, e3, e4, e5, e6, w2, w3, j1, j2, List.length_map, Bool.not_false, Bool.not_true, hb, push_cast, simprocAttr]) | (refine at_bW (fun hb => ?_) (fun hb => ?_) <;> simp only [e1, e2, e3, e4, e5, e6, w2, w3, j1, j2, List.length_map, Bool.not_false, Bool.not_true, hb, push_cast, simprocAttr]) | (refine at_callD (by simp [clB, idsL, idsA, hget]) ?_; (try simp only [push_cast, simprocAttr]); first | (refine rcd_v (hI) ?_; simp only [e1, e2, e3, e4, e5, e6, w2, w3, j1, j2, List.length_map, Bool.not_false, Bool.not_true, push_cast, simprocAttr]) | (refine rcd_d (hI) (by simp [flatV, flatL, ctC, ndC, cmC]) (by simp [ren, ctC, ndC, cmC]) ?_; simp only [e1, e2, e3, e4, e5, e6, w2, w3, j1, j2, List.length_map, Bool.not_false, Bool.not_true, push_cast, simprocAttr]) | (refine rcd_v (hS) ?_; simp only [e1, e2, e3, e4, e5, e6, w2, w3, j1, j2, List.length_map, Bool.not_false, Bool.not_true, push_cast, simprocAttr]) | (refine rcd_d (hS) (by simp [flatV, flatL, ctC, ndC, cmC]) (by simp [ren, ctC, ndC, cmC]) ?_; simp only [e1, e2, e3, e4, e5, e6, w2, w3, j1, j2, List.length_map, Bool.not_false, Bool.not_true, push_cast, simprocAttr]) | (refine rcd_v (hF) ?_; simp only [e1, e2, e3, e4, e5, e6, w2, w3, j1, j2, List.length_map, Bool.not_false, Bool.not_true, push_cast, simprocAttr]) | (refine rcd_d (hF) (by simp [flatV, flatL, ctC, ndC, cmC]) (by simp [ren, ctC, ndC, cmC]) ?_; simp only [e1, e2, e3, e4, e5, e6, w2, w3, j1, j2, List.length_map, Bool.not_false, Bool.not_true, push_cast, simprocAttr])) | (refine at_done (by kernel_rfl) (by kernel_rfl) (go_on ?_); (try simp only [e1, e2, e3, e4, e5, e6, w2, w3, j1, j2, List.length_map, Bool.not_false, Bool.not_true, push_cast, simprocAttr]))
                  (try simp only [Bool.not_false, push_cast, simprocAttr])
                  refine at_ret ?_; simp only [Try.results33, push_cast, simprocAttr]
                  simp [vX, h4, hlt2]
            · have e4 : ltI 400 ((d.safe.length : Int) + d.fresh.length) = true := ltI_t (by omega)
              refine at_draw rfl (by kernel_rfl) ?_; simp only [push_cast, simprocAttr]
              repeat' first | (refine at_bWn (fun hb => ?_) (fun hb => ?_) <;> simp only [e1, e2, e3, e4, w3, List.length_map, Bool.not_false, Bool.not_true, hb, push_cast, simprocAttr]) | (refine at_bW (fun hb => ?_) (fun hb => ?_) <;> simp only [e1, e2, e3, e4, w3, List.length_map, Bool.not_false, Bool.not_true, hb, push_cast, simprocAttr]) | (refine at_callD (by simp [clB, idsL, idsA, hget]) ?_; (try simp only [push_cast, simprocAttr]); first | (refine rcd_v (hI) ?_; simp only [e1, e2, e3, e4, w3, List.length_map, Bool.not_false, Bool.not_true, push_cast, simprocAttr]) | (refine rcd_d (hI) (by simp [flatV, flatL, ctC, ndC, cmC]) (by simp [ren, ctC, ndC, cmC]) ?_; simp only [e1, e2, e3, e4, w3, List.length_map, Bool.not_false, Bool.not_true, push_cast, simprocAttr]) | (refine rcd_v (hS) ?_; simp only [e1, e2, e3, e4, w3, List.length_map, Bool.not_false, Bool.not_true, push_cast, simprocAttr]) | (refine rcd_d (hS) (by simp [flatV, flatL, ctC, ndC, cmC]) (by simp [ren, ctC, ndC, cmC]) ?_; simp only [e1, e2, e3, e4, w3, List.length_map, Bool.not_false, Bool.not_true, push_cast, simprocAttr]) | (refine rcd_v (hF) ?_; simp only [e1, e2, e3, e4, w3, List.length_map, Bool.not_false, Bool.not_true, push_cast, simprocAttr]) | (refine rcd_d (hF) (by simp [flatV, flatL, ctC, ndC, cmC]) (by simp [ren, ctC, ndC, cmC]) ?_; simp only [e1, e2, e3, e4, w3, List.length_map, Bool.not_false, Bool.not_true, push_cast, simprocAttr])) | (refine at_done (by kernel_rfl) (by kernel_rfl) (go_on ?_); (try simp only [e1, e2, e3, e4, w3, List.length_map, Bool.not_false, Bool.not_true, push_cast, simprocAttr]))
              (try simp only [Bool.not_false, push_cast, simprocAttr])
              refine at_ret ?_; simp only [Try.results33, push_cast, simprocAttr]
              simp [vX, h4, h400]
    · have h5 := lt_ff hg
      (try simp only [hg, push_cast, simprocAttr])
      refine at_ret ?_; simp only [Try.results33, push_cast, simprocAttr]
      rw [List.drop_of_length_le h5] at h4
      simp [vX, h4, diskFrom]
end Go.Proofs.Ytepcabenjikhgaa
/-
  Walks: disks: the reference's copies, l31Without, l31With.
-/
namespace Go.Proofs.Ytepcabenjikhgaa
open Go Go.RowKit Go.Proofs
attribute [local irreducible] RWp AW run kPe pe Kt effA gd gu br retR RDp runD kPeD brW gW effD
set_option maxRecDepth 100000
theorem l31Find_pc (bs : List BD) (hn : bs.length < 4294967281) (nm : Int) : PC Try.prog 44 [blsA bs, iA nm] (vI (ixB bs nm)) := by
  refine pc_enter Try.func44 rfl rfl fun w0 fb => go_on ?_; (try simp only [Try.ntmps44, push_cast, simprocAttr])
  refine at_loop (X := Nat) (fun k => [(5, iA k)]) (fun _ => []) (fun k => k ≤ bs.length ∧ ixB bs nm = idxF (fun d => decide (d.name = nm)) k (bs.drop k)) (fun k => bs.length - k) 0 ⟨Nat.zero_le _, rfl⟩ ?_ ?_
  · (refine wk_ok ?_ ?_ ?_ ?_ <;> simp [leL, leH, idsL, idsA, idsR, inH, hget, sameRow, upA, hvA, dsts, dstO, setA_0, setA_1, setA_8, List.append, List.cons_append, List.nil_append])
  · rintro k ⟨h1, h2⟩
    simp only [upA, hvA, dsts, dstO, setA_0, setA_1, setA_8, List.append, List.cons_append, List.nil_append]
    refine go_on ?_
    (try simp only [List.length_map, push_cast, simprocAttr])
    refine at_b (fun hg => ?_) (fun hg => ?_)
    · have hlt := lt_tt hg
      obtain ⟨x, hk⟩ := get_of_lt hlt
      have i1 := ix_n hk
      have i2 := map_get bC hk
      simp only [bC] at i2
      rw [drop_of_get hk] at h2
      have w1 := wr ((k : Int) + 1) (by omega)
      (try simp only [hg, i1, i2, push_cast, simprocAttr])
      by_cases hx : x.name = nm
      · have e := eqI_t hx
        (try simp only [e, push_cast, simprocAttr])
        refine at_ret ?_; simp only [Try.results44, push_cast, simprocAttr]
        rw [h2]
        simp [vX, idxF, hx]
      · have e := eqI_f hx
        (try simp only [e, w1, push_cast, simprocAttr])
        refine at_fin ⟨k + 1, ⟨by omega, by rw [h2]; simp [idxF, hx]⟩, by omega, ?_⟩
        (refine wk_ok ?_ ?_ ?_ ?_ <;> simp [leL, leH, idsL, idsA, idsR, inH, hget, sameRow, upA, hvA, dsts, dstO, setA_0, setA_1, setA_8, List.append, List.cons_append, List.nil_append])
    · have h3 := lt_ff hg
      (try simp only [hg, push_cast, simprocAttr])
      refine at_ret ?_; simp only [Try.results44, push_cast, simprocAttr]
      rw [List.drop_of_length_le h3] at h2
      rw [h2]
      simp [vX, idxF]
theorem l31Copy_pc (d : BD) (h : SmD d) : PC Try.prog 55 [blobA d] (rX (.agg [iA d.name, .o 0 d.safe.length, .o 1 d.fresh.length]) [rowZ d.safe, rowZ d.fresh]) := by
  have h1 := h.s
  have h2 := h.f
  unfold blobA bC
  refine pc_enter Try.func55 rfl rfl fun w0 fb => go_on ?_; (try simp only [Try.ntmps55, push_cast, simprocAttr])
  refine at_draw rfl (by kernel_rfl) ?_; simp only [push_cast, simprocAttr]
  (try simp only [effD_app2, push_cast, simprocAttr])
  refine at_chkD (by omega) ?_
  (try simp only [effD_app2, push_cast, simprocAttr])
  refine at_chkD (by omega) ?_
  (try simp only [push_cast, simprocAttr])
  refine at_done (by kernel_rfl) (by kernel_rfl) (go_on ?_)
  (try simp only [push_cast, simprocAttr])
  refine at_ret ?_; simp only [Try.results55, push_cast, simprocAttr]
  simp [rX, ixOf]
theorem l31Copy_d (d : BD) (h : SmD d) : PC Try.prog 55 [blobA d] (vX (blobA d)) := by
  have := (l31Copy_pc d h).frzX
  unfold blobA bC at *
  simpa [viewN, hpOf, hget, isC, tk] using this
theorem l31Without_pc (bs : List BD) (hs : SmB bs) (nm : Int) : PC Try.prog 57 [blsA bs, iA nm] (rX (.o 0 (bs.filter fun x => decide (x.name ≠ nm)).length) [rowB (bs.filter fun x => decide (x.name ≠ nm))]) := by
  have hn := hs.n
  refine pc_enter Try.func57 rfl rfl fun w0 fb => go_on ?_; (try simp only [Try.ntmps57, push_cast, simprocAttr])
  refine at_loop (X := Nat) (fun k => [(5, .o 7 ((bs.take k).filter fun x => decide (x.name ≠ nm)).length), (6, iA k), (7, .any)]) (fun k => [(4, ⟨55, 3, [], true⟩), (7, rowB ((bs.take k).filter fun x => decide (x.name ≠ nm)))]) (fun k => k ≤ bs.length) (fun k => bs.length - k) 0 (Nat.zero_le _) ?_ ?_
  · (refine wk_ok ?_ ?_ ?_ ?_ <;> simp [leL, leH, idsL, idsA, idsR, inH, hget, sameRow, upA, hvA, dsts, dstO, setA_0, setA_1, setA_8, List.append, List.cons_append, List.nil_append])
  · rintro k hk
    simp only [upA, hvA, dsts, dstO, setA_0, setA_1, setA_8, List.append, List.cons_append, List.nil_append]
    refine go_on ?_
    (try simp only [List.length_map, push_cast, simprocAttr])
    have hfl := List.length_filter_le (fun x : BD => decide (x.name ≠ nm)) (bs.take k)
    have hfl2 : (bs.take k).length ≤ k := by rw [List.length_take]; omega
    refine at_b (fun hg => ?_) (fun hg => ?_)
    · have hlt := lt_tt hg
      obtain ⟨x, hx⟩ := get_of_lt hlt
      have i1 := ix_n hx
      have i2 := map_get bC hx
      have hC := l31Copy_d x (hs.d x (mem_of_get hx))
      unfold blobA at hC
      simp only [bC] at i2 hC
      have w1 := wr ((k : Int) + 1) (by omega)
      have e : bs.take (k + 1) = bs.take k ++ [x] := by rw [List.take_add_one, hx]; rfl
      (try simp only [hg, i1, i2, push_cast, simprocAttr])
      by_cases hxn : x.name = nm
      · have e1 := eqI_t hxn
        have ef : (bs.take (k + 1)).filter (fun x => decide (x.name ≠ nm)) = (bs.take k).filter (fun x => decide (x.name ≠ nm)) := by rw [e, List.filter_append]; simp [hxn]
        (try simp only [e1, Bool.not_true, w1, push_cast, simprocAttr])
        refine at_fin ⟨k + 1, by omega, by omega, ?_⟩
        rw [ef]
        (refine wk_ok ?_ ?_ ?_ ?_ <;> simp [leL, leH, idsL, idsA, idsR, inH, hget, sameRow, upA, hvA, dsts, dstO, setA_0, setA_1, setA_8, List.append, List.cons_append, List.nil_append])
      · have e1 := eqI_f hxn
        have ef : (bs.take (k + 1)).filter (fun x => decide (x.name ≠ nm)) = (bs.take k).filter (fun x => decide (x.name ≠ nm)) ++ [x] := by rw [e, List.filter_append]; simp [hxn]
        (try simp only [e1, Bool.not_false, i1, i2, push_cast, simprocAttr])
        ((try simp only [push_cast, simprocAttr]); refine at_share2 (by simp [isC2, isC]) (by first | rfl | simp [ren]) (hC) (go_on ?_); (try simp only [push_cast, simprocAttr]))
        refine at_chk (by omega) ?_
        (try simp only [w1, push_cast, simprocAttr])
        refine at_fin ⟨k + 1, by omega, by omega, ?_⟩
        rw [ef, List.length_append]
        (refine wk_ok ?_ ?_ ?_ ?_ <;> simp [bC, leL, leH, idsL, idsA, idsR, inH, hget, sameRow, upA, hvA, dsts, dstO, setA_0, setA_1, setA_8, List.append, List.cons_append, List.nil_append])
    · have h3 := lt_ff hg
      have hk' : k = bs.length := by omega
      have hT : bs.take k = bs := by rw [hk', List.take_length]
      rw [hT]
      (try simp only [hg, push_cast, simprocAttr])
      refine at_ret ?_; simp only [Try.results57, push_cast, simprocAttr]
      simp [rX, ixOf]
theorem l31Without_d (bs : List BD) (hs : SmB bs) (nm : Int) : PC Try.prog 57 [blsA bs, iA nm] (vX (blsA (bs.filter fun x => decide (x.name ≠ nm)))) := by
  have := (l31Without_pc bs hs nm).frzX
  simpa [viewN, hpOf, hget, isC, tk] using this
end Go.Proofs.Ytepcabenjikhgaa
/-
  Walks: disks: l31With; the reference's DiskRename, DiskWrite.
-/
namespace Go.Proofs.Ytepcabenjikhgaa
open Go Go.RowKit Go.Proofs
theorem insB_len (d : BD) : ∀ l : List BD, (insB d l).length = l.length + 1
  | [] => rfl
  | x :: r => by
    unfold insB
    split
    · simp
    · simp [insB_len d r]
theorem smB_filter {bs : List BD} (h : SmB bs) (p : BD → Bool) : SmB (bs.filter p) := by
  have := List.length_filter_le p bs
  have := h.n
  exact ⟨by omega, fun d hd => h.d d (List.mem_filter.1 hd).1⟩
attribute [local irreducible] RWp AW run kPe pe Kt effA gd gu br retR RDp runD kPeD brW gW effD
set_option maxRecDepth 100000
theorem l31With_d (bs : List BD) (hs : SmB bs) (hn : bs.length ≤ 1000) (d : BD) (hd : SmD d) : PC Try.prog 45 [blsA bs, blobA d] (vX (blsA (withB bs d))) := by
  have hW := l31Without_d bs hs d.name
  have hC := l31Copy_d d hd
  obtain ⟨R, hR⟩ : ∃ R, R = bs.filter fun x => decide (x.name ≠ d.name) := ⟨_, rfl⟩
  have hRn : R.length ≤ 1000 := by rw [hR]; have := List.length_filter_le (fun x : BD => decide (x.name ≠ d.name)) bs; omega
  have hwb : withB bs d = insB d R := by rw [hR]; rfl
  rw [← hR] at hW
  rw [hwb]
  have hf : PC Try.prog 45 [blsA bs, blobA d] (rX (.o 0 (insB d R).length) [rowB (insB d R)]) := by
    unfold blobA at *
    simp only [bC] at *
    refine pc_enter Try.func45 rfl rfl fun w0 fb => go_on ?_; (try simp only [Try.ntmps45, push_cast, simprocAttr])
    ((try simp only [push_cast, simprocAttr]); refine at_share2 (by simp [isC2, isC]) (by first | rfl | simp [ren]) (hW) (go_on ?_); (try simp only [push_cast, simprocAttr]))
    refine at_loop (X := Nat × Bool × List BD) (fun x => [(5, .o 9 x.2.2.length), (7, bA x.2.1), (8, iA x.1), (9, .any)]) (fun x => [(3, ⟨55, 3, [bC d], true⟩), (4, ⟨55, 3, [], true⟩), (9, rowB x.2.2)])
      (fun x => x.1 ≤ R.length ∧ x.2.2 ++ (if x.2.1 = true then R.drop x.1 else insB d (R.drop x.1)) = insB d R) (fun x => R.length - x.1) (0, false, []) ⟨Nat.zero_le _, by simp⟩ ?_ ?_
    · (refine wk_ok ?_ ?_ ?_ ?_ <;> simp [bC, leL, leH, idsL, idsA, idsR, inH, hget, sameRow, upA, hvA, dsts, dstO, setA_0, setA_1, setA_8, List.append, List.cons_append, List.nil_append])
    · rintro ⟨k, dn, out⟩ ⟨h1, h2⟩
      simp only at h1 h2
      simp only [upA, hvA, dsts, dstO, setA_0, setA_1, setA_8, List.append, List.cons_append, List.nil_append]
      refine go_on ?_
      (try simp only [List.length_map, push_cast, simprocAttr])
      have hil := insB_len d R
      have hol : out.length ≤ 1001 := by
        have := congrArg List.length h2
        rw [List.length_append, hil] at this
        omega
      refine at_b (fun hg => ?_) (fun hg => ?_)
      · have hlt := lt_tt hg
        obtain ⟨x, hx⟩ := get_of_lt hlt
        have i1 := ix_n hx
        have i2 := map_get bC hx
        simp only [bC] at i2
        have w1 := wr ((k : Int) + 1) (by omega)
        rw [drop_of_get hx] at h2
        (try simp only [hg, push_cast, simprocAttr])
        cases dn with
        | true =>
          simp only [if_true] at h2
          refine at_draw rfl (by kernel_rfl) ?_; simp only [push_cast, simprocAttr]
          (try simp only [i1, i2, bC, Bool.not_true, push_cast, simprocAttr])
          repeat' first | (refine at_bWn (fun hb => ?_) (fun hb => ?_) <;> simp only [i1, i2, bC, Bool.not_true, hb, push_cast, simprocAttr]) | (refine at_bW (fun hb => ?_) (fun hb => ?_) <;> simp only [i1, i2, bC, Bool.not_true, hb, push_cast, simprocAttr])  | (refine at_done (by kernel_rfl) (by kernel_rfl) (go_on ?_); (try simp only [i1, i2, bC, Bool.not_true, push_cast, simprocAttr]))
          (try simp only [i1, i2, push_cast, simprocAttr])
          refine at_chk (by omega) ?_
          (try simp only [w1, push_cast, simprocAttr])
          refine at_fin ⟨(k + 1, true, out ++ [x]), ⟨by dsimp only; omega, by simpa using h2⟩, by dsimp only; omega, ?_⟩
          (refine wk_ok ?_ ?_ ?_ ?_ <;> simp [bC, leL, leH, idsL, idsA, idsR, inH, hget, sameRow, upA, hvA, dsts, dstO, setA_0, setA_1, setA_8, List.append, List.cons_append, List.nil_append])
        | false =>
          simp only [Bool.false_eq_true, if_false] at h2
          by_cases hl : d.name < x.name
          · have e1 : ltI d.name x.name = true := ltI_t hl
            have h3 : out ++ (d :: x :: R.drop (k + 1)) = insB d R := by rw [← h2]; simp [insB, hl]
            have hTk : List.take (out.length + 1) (List.map bC out ++ [[iA d.name, intsA d.safe, intsA d.fresh]]) = List.map bC out ++ [[iA d.name, intsA d.safe, intsA d.fresh]] := List.take_of_length_le (by simp)
            refine at_draw rfl (by kernel_rfl) ?_; simp only [push_cast, simprocAttr]
            (try simp only [i1, i2, e1, bC, Bool.not_false, push_cast, simprocAttr])
            repeat' first | (refine at_bWn (fun hb => ?_) (fun hb => ?_) <;> simp only [i1, i2, e1, bC, Bool.not_false, hb, push_cast, simprocAttr]) | (refine at_bW (fun hb => ?_) (fun hb => ?_) <;> simp only [i1, i2, e1, bC, Bool.not_false, hb, push_cast, simprocAttr])  | (refine at_done (by kernel_rfl) (by kernel_rfl) (go_on ?_); (try simp only [i1, i2, e1, bC, Bool.not_false, push_cast, simprocAttr]))
            (try simp only [bC, push_cast, simprocAttr])
            ((try simp only [push_cast, simprocAttr]); refine at_share2 (by simp [isC2, isC]) (by first | rfl | simp [ren]) (hC) (go_on ?_); (try simp only [push_cast, simprocAttr]))
            refine at_chk (by omega) ?_
            (try simp only [i1, i2, push_cast, simprocAttr])
            refine at_chk (by omega) ?_
            (try simp only [w1, push_cast, simprocAttr])
            refine at_fin ⟨(k + 1, true, out ++ [d, x]), ⟨by dsimp only; omega, by simpa using h3⟩, by dsimp only; omega, ?_⟩
            (refine wk_ok ?_ ?_ ?_ ?_ <;> simp [bC, hTk, leL, leH, idsL, idsA, idsR, inH, hget, sameRow, upA, hvA, dsts, dstO, setA_0, setA_1, setA_8, List.append, List.cons_append, List.nil_append])
          · have e1 : ltI d.name x.name = false := ltI_f (by omega)
            have h3 : out ++ (x :: insB d (R.drop (k + 1))) = insB d R := by rw [← h2]; simp [insB, hl]
            refine at_draw rfl (by kernel_rfl) ?_; simp only [push_cast, simprocAttr]
            (try simp only [i1, i2, e1, bC, Bool.not_false, push_cast, simprocAttr])
            repeat' first | (refine at_bWn (fun hb => ?_) (fun hb => ?_) <;> simp only [i1, i2, e1, bC, Bool.not_false, hb, push_cast, simprocAttr]) | (refine at_bW (fun hb => ?_) (fun hb => ?_) <;> simp only [i1, i2, e1, bC, Bool.not_false, hb, push_cast, simprocAttr])  | (refine at_done (by kernel_rfl) (by kernel_rfl) (go_on ?_); (try simp only [i1, i2, e1, bC, Bool.not_false, push_cast, simprocAttr]))
            (try simp only [i1, i2, push_cast, simprocAttr])
            refine at_chk (by omega) ?_
            (try simp only [w1, push_cast, simprocAttr])
            refine at_fin ⟨(k + 1, false, out ++ [x]), ⟨by dsimp only; omega, by simpa using h3⟩, by dsimp only; omega, ?_⟩
            (refine wk_ok ?_ ?_ ?_ ?_ <;> simp [bC, leL, leH, idsL, idsA, idsR, inH, hget, sameRow, upA, hvA, dsts, dstO, setA_0, setA_1, setA_8, List.append, List.cons_append, List.nil_append])
      · have h3 := lt_ff hg
        rw [List.drop_of_length_le h3] at h2
        (try simp only [hg, push_cast, simprocAttr])
        cases dn with
        | true =>
          simp only [if_true, List.append_nil] at h2
          (try simp only [Bool.not_true, push_cast, simprocAttr])
          refine at_ret ?_; simp only [Try.results45, push_cast, simprocAttr]
          rw [← h2]
          simp [rX, ixOf]
        | false =>
          simp only [Bool.false_eq_true, if_false, insB] at h2
          (try simp only [Bool.not_false, bC, push_cast, simprocAttr])
          ((try simp only [push_cast, simprocAttr]); refine at_share2 (by simp [isC2, isC]) (by first | rfl | simp [ren]) (hC) (go_on ?_); (try simp only [push_cast, simprocAttr]))
          refine at_chk (by omega) ?_
          (try simp only [push_cast, simprocAttr])
          refine at_ret ?_; simp only [Try.results45, push_cast, simprocAttr]
          rw [← h2]
          simp [rX, ixOf, bC]
  have := hf.frzX
  simpa [viewN, hpOf, hget, isC, tk] using this
end Go.Proofs.Ytepcabenjikhgaa
/-
  Walks: disks: the reference's DiskRename, DiskWrite.
-/
namespace Go.Proofs.Ytepcabenjikhgaa
open Go Go.RowKit Go.Proofs
theorem at_shareE {P : Program} {K : List E → AS → Prop} {f : FuncId} {args : List AV} {o : SO} {l : List SO} {evs : List E} {s : AS} {x : AV} (hc : args.all isC2 = true) (hx : ren (baseOf o.dst) x = x) (hpc : PC P f args (vX x))
    (hk : RDp P K (runD P l (evs ++ [mkE o s x none []]) (s.put o.dst x))) : RDp P K (.call f args o l evs s) := by
  refine ⟨x, [], .inr ⟨hc, hpc⟩, frB_0 _ _, ?_⟩
  rw [hx]
  exact runD_sound _ _ _ (by simpa only [hpOf, hsets] using hk)
attribute [local irreducible] RWp AW run kPe pe Kt effA gd gu br retR RDp runD kPeD brW gW effD
set_option maxRecDepth 100000
theorem specDiskRename_d (bs : List BD) (hs : SmB bs) (a b : Int) : PC Try.prog 29 [blsA bs, iA a, iA b] (vX (.tup [blsA (renD bs a b).1, bA (renD bs a b).2])) := by
  have hV := specDiskValid_pc bs hs
  have hF := l31Find_pc bs hs.n a
  have hI := l6In_pc b 1 3
  have hn := hs.n
  have eI : inB b 1 3 = inR b 1 3 := rfl
  cases hv : diskB bs with
  | false =>
    have hr : renD bs a b = ([], false) := by simp [renD, hv]
    rw [hr]
    have hf : PC Try.prog 29 [blsA bs, iA a, iA b] (rX (.tup [.o 0 0, bA false]) [rowB []]) := by
      refine pc_enter Try.func29 rfl rfl fun w0 fb => go_on ?_; (try simp only [Try.ntmps29, push_cast, simprocAttr])
      (refine at_call ?_; (try simp only [push_cast, simprocAttr]); refine rwc_v (hV) (go_on ?_); (try simp only [push_cast, simprocAttr]))
      (try simp only [hv, Bool.not_false, push_cast, simprocAttr])
      refine at_ret ?_; simp only [Try.results29, push_cast, simprocAttr]
      simp [rX, ixOf]
    have := hf.frzX
    simp [viewN, hpOf, hget, isC, tk] at this
    exact this
  | true =>
    rcases ixB_cases bs a with ⟨h1, h2⟩ | ⟨j, d, h1, h2, h3⟩
    · have hr : renD bs a b = ([], false) := by cases hb : inB b 1 3 <;> simp [renD, hv, h2, hb]
      rw [hr]
      have hf : PC Try.prog 29 [blsA bs, iA a, iA b] (rX (.tup [.o 0 0, bA false]) [rowB []]) := by
        refine pc_enter Try.func29 rfl rfl fun w0 fb => go_on ?_; (try simp only [Try.ntmps29, push_cast, simprocAttr])
        (refine at_call ?_; (try simp only [push_cast, simprocAttr]); refine rwc_v (hV) (go_on ?_); (try simp only [push_cast, simprocAttr]))
        (try simp only [hv, Bool.not_true, push_cast, simprocAttr])
        (refine at_call ?_; (try simp only [push_cast, simprocAttr]); refine rwc_v (hF) (go_on ?_); (try simp only [push_cast, simprocAttr]))
        (try simp only [h1, show ltI (-1) 0 = true from rfl, push_cast, simprocAttr])
        refine at_ret ?_; simp only [Try.results29, push_cast, simprocAttr]
        simp [rX, ixOf]
      have := hf.frzX
      simp [viewN, hpOf, hget, isC, tk] at this
      exact this
    · have hjl := lt_of_some h2
      have i1 := ix_n h2
      have i2 := map_get bC h2
      have i3 : ltI (j : Int) 0 = false := ltI_f (by omega)
      cases hb : inR b 1 3 with
      | false =>
        have hr : renD bs a b = ([], false) := by simp [renD, eI, hb]
        rw [hr]
        have hf : PC Try.prog 29 [blsA bs, iA a, iA b] (rX (.tup [.o 0 0, bA false]) [rowB []]) := by
          refine pc_enter Try.func29 rfl rfl fun w0 fb => go_on ?_; (try simp only [Try.ntmps29, push_cast, simprocAttr])
          (refine at_call ?_; (try simp only [push_cast, simprocAttr]); refine rwc_v (hV) (go_on ?_); (try simp only [push_cast, simprocAttr]))
          (try simp only [hv, Bool.not_true, push_cast, simprocAttr])
          (refine at_call ?_; (try simp only [push_cast, simprocAttr]); refine rwc_v (hF) (go_on ?_); (try simp only [push_cast, simprocAttr]))
          (try simp only [h1, i3, push_cast, simprocAttr])
          (refine at_call ?_; (try simp only [push_cast, simprocAttr]); refine rwc_v (hI) (go_on ?_); (try simp only [push_cast, simprocAttr]))
          (try simp only [hb, Bool.not_false, push_cast, simprocAttr])
          refine at_ret ?_; simp only [Try.results29, push_cast, simprocAttr]
          simp [rX, ixOf]
        have := hf.frzX
        simp [viewN, hpOf, hget, isC, tk] at this
        exact this
      | true =>
        have hr : renD bs a b = (withB (bs.filter fun x => decide (x.name ≠ a)) ⟨b, d.safe, d.fresh⟩, true) := by unfold renD; rw [hv, eI, hb, h3]; rfl
        rw [hr]
        have hC := l31Copy_d d (hs.d d (mem_of_get h2))
        have hO := l31Without_d bs hs a
        have h3n := disk_len hv
        have hfl := List.length_filter_le (fun x : BD => decide (x.name ≠ a)) bs
        have hW := l31With_d (bs.filter fun x => decide (x.name ≠ a)) (smB_filter hs _) (by omega) ⟨b, d.safe, d.fresh⟩ ⟨(hs.d d (mem_of_get h2)).s, (hs.d d (mem_of_get h2)).f⟩
        obtain ⟨R, hR⟩ : ∃ R, R = bs.filter fun x => decide (x.name ≠ a) := ⟨_, rfl⟩
        rw [← hR] at hO hW ⊢
        unfold blobA at hC hW
        simp only [bC] at i2 hC hW
        refine pc_enter Try.func29 rfl rfl fun w0 fb => go_on ?_; (try simp only [Try.ntmps29, push_cast, simprocAttr])
        (refine at_call ?_; (try simp only [push_cast, simprocAttr]); refine rwc_v (hV) (go_on ?_); (try simp only [push_cast, simprocAttr]))
        (try simp only [hv, Bool.not_true, push_cast, simprocAttr])
        (refine at_call ?_; (try simp only [push_cast, simprocAttr]); refine rwc_v (hF) (go_on ?_); (try simp only [push_cast, simprocAttr]))
        (try simp only [h1, i3, push_cast, simprocAttr])
        (refine at_call ?_; (try simp only [push_cast, simprocAttr]); refine rwc_v (hI) (go_on ?_); (try simp only [push_cast, simprocAttr]))
        (try simp only [hb, Bool.not_true, push_cast, simprocAttr])
        (refine at_call ?_; (try simp only [push_cast, simprocAttr]); refine rwc_v (hF) (go_on ?_); (try simp only [push_cast, simprocAttr]))
        (try simp only [h1, i1, i2, push_cast, simprocAttr])
        ((try simp only [push_cast, simprocAttr]); refine at_share2 (by simp [isC2, isC]) (by first | rfl | simp [ren]) (hC) (go_on ?_); (try simp only [push_cast, simprocAttr]))
        refine at_draw rfl (by kernel_rfl) ?_; simp only [push_cast, simprocAttr]
        (refine at_shareE (by simp [isC2, isC]) (by first | rfl | simp [ren]) hO ?_; (try simp only [push_cast, simprocAttr]))
        (refine at_shareE (by simp [isC2, isC]) (by first | rfl | simp [ren]) hW ?_; (try simp only [push_cast, simprocAttr]))
        refine at_done (by kernel_rfl) (by kernel_rfl) (go_on ?_)
        (try simp only [push_cast, simprocAttr])
        refine at_ret ?_; simp only [Try.results29, push_cast, simprocAttr]
        simp [vX]
end Go.Proofs.Ytepcabenjikhgaa
/-
  The abstract machine: a region that draws its order, one call within that borrows rows.
-/
namespace Go.Proofs.Ytepcabenjikhgaa
open Go Go.RowKit

section
variable {P : Program}
variable {w0 : World} {lent : Lent} {Q : Exit → Act → World → Prop}
end

end Go.Proofs.Ytepcabenjikhgaa
/-
  The abstract machine: a drawn region with one call that borrows a row, run as its text stands.
-/
namespace Go.Proofs.Ytepcabenjikhgaa
open Go Go.RowKit

section
variable {P : Program} {w0 : World} {lent : Lent} {Q : Exit → Act → World → Prop}
end

end Go.Proofs.Ytepcabenjikhgaa
/-
  The abstract machine: a region that draws its order, several calls within that borrow a row, and operations that wait for none of them.
-/
namespace Go.Proofs.Ytepcabenjikhgaa
open Go Go.RowKit

/-! ### Moves of slots that nothing writes: they see no row -/
section
variable {P : Program} {w0 : World} {lent : Lent} {Q : Exit → Act → World → Prop}
end

end Go.Proofs.Ytepcabenjikhgaa
/-
  The abstract machine: what a call that was lent rows leaves anew, read as data.
-/
namespace Go.Proofs.Ytepcabenjikhgaa
open Go Go.RowKit

theorem hp_app {l l' : List Row} {r : Nat} {row : Row} (h : hget (hpOf 0 l) r = some row) : hget (hpOf 0 (l ++ l')) r = some row := by
  rw [hget_hpOf] at h ⊢
  rw [if_pos (Nat.zero_le _)] at h ⊢
  have := lt_of_some h
  rw [List.getElem?_append_left this]
  exact h
theorem live_app {l l' : List Row} {loc : Loc} {b : Nat} (h : Live (hpOf 0 l) loc b) : Live (hpOf 0 (l ++ l')) loc b := by
  rcases h with ⟨r, row, c, h1, h2⟩ | h
  · exact .inl ⟨r, row, c, hp_app h1, h2⟩
  · exact .inr h
theorem PCL.frz {P : Program} {f : FuncId} {lr : List Row} {mv : Nat → Bool} {args : List AV} {D D' : AV → List Row → List Row → Prop} (h : PCL P f lr mv args D)
    (hd : ∀ rv lr' rows, D rv lr' rows → (idsA rv).all (fun r => decide (lr.length ≤ r)) = true ∧ D' (viewN 3 (hpOf 0 (lr' ++ rows)) rv) lr' []) : PCL P f lr mv args D' := by
  refine ⟨h.1, fun w fb loc vs h1 h2 h3 => (h.2 w fb loc vs h1 h2 h3).mono ?_⟩
  rintro e w' ⟨rv, lr', rows, v, loc', hD, rfl, hL⟩
  obtain ⟨hi, hD'⟩ := hd _ _ _ hD
  have hC : ∀ {x u}, C (Live (hpOf 0 (lr' ++ rows)) loc') 0 w' x u → C (Live (hpOf 0 (lr' ++ [])) loc') 0 w' x u := fun hx => hx.mono (Nat.le_refl _) (Nat.le_refl _) fun b _ _ hnl => ⟨fun hl => by
    rw [List.append_nil] at hl
    exact hnl (live_app hl), rfl⟩
  refine ⟨_, lr', [], v, loc', hD', rfl, ⟨hL.len, hL.os, hL.tape, hL.output, hL.size, hL.keep, hL.fbe, hL.stay, .cl ?_, fun r row hr => ?_, fun r r' row row' b c c' hr hr' => ?_, fun r row b c hr => ?_⟩⟩
  · refine view_frz (fun r row hr => (hL.rw r row hr).2) hL.inj (fun r row b c hr hl hf => ?_) (fun r row' hr => ⟨row', ?_⟩) 3 rv v hL.val ?_
    · rw [hL.fbe] at hf
      obtain ⟨g1, g2⟩ := h1.fbl b hf
      rcases hL.own r row b c hr hl with g3 | g3
      · omega
      · exact g2 g3
    · rw [List.append_nil] at hr
      exact hp_app hr
    · refine List.all_eq_true.2 fun r hr => ?_
      have h4 := of_decide_eq_true (List.all_eq_true.1 hi r hr)
      rw [Bool.and_eq_true]
      refine ⟨?_, ?_⟩
      · have : hget (hpOf 0 (lr' ++ [])) r = none := by
          rw [hget_hpOf, if_pos (Nat.zero_le _), List.append_nil]
          exact List.getElem?_eq_none (by have := hL.len; omega)
        unfold inH
        rw [this]
        rfl
      · cases hg : hget (hpOf 0 (lr' ++ rows)) r with
        | none => rfl
        | some row => exact (hL.rw r row hg).1
  · rw [List.append_nil] at hr
    obtain ⟨g1, g2, xs, g3, g4⟩ := hL.rw r row (hp_app hr)
    refine ⟨g1, g2, xs, g3, fun k e j a he ha => ?_⟩
    obtain ⟨u, g5, g6, _, g8⟩ := g4 k e j a he ha
    have := hC (g8 g1)
    exact ⟨u, g5, g6, .cl this, fun _ => this⟩
  · rw [List.append_nil] at hr hr'
    exact hL.inj r r' row row' b c c' (hp_app hr) (hp_app hr')
  · rw [List.append_nil] at hr
    exact hL.own r row b c (hp_app hr)

end Go.Proofs.Ytepcabenjikhgaa
/-
  Walks: disks: the draws.
-/
namespace Go.Proofs.Ytepcabenjikhgaa
open Go Go.RowKit Go.Proofs
def byoD (z : List Int) (p c : Nat) (rv : AV) (lr' rows : List Row) : Prop := ∃ l : List Int, l.length ≤ 200 ∧ rv = .o 1 l.length ∧ RdD z p c lr' ∧ rows = [rowZ l]
def bytD (z : List Int) (p c : Nat) (rv : AV) (lr' rows : List Row) : Prop := ∃ l : List Int, l.length ≤ 200 ∧ rv = intsA l ∧ RdD z p c lr' ∧ rows = []
structure DrB (l : List BD) : Prop where
  n : l.length ≤ 4
  d : ∀ d ∈ l, d.safe.length ≤ 200 ∧ d.fresh.length ≤ 200
theorem DrB.sm {l : List BD} (h : DrB l) : SmB l := ⟨by have := h.n; omega, fun d hd => ⟨by have := h.d d hd; omega, by have := h.d d hd; omega⟩⟩
def dsoD (z : List Int) (p c : Nat) (rv : AV) (lr' rows : List Row) : Prop := ∃ l : List BD, DrB l ∧ rv = .o 1 l.length ∧ RdD z p c lr' ∧ rows = [rowB l]
def dsaD (z : List Int) (p c : Nat) (rv : AV) (lr' rows : List Row) : Prop := ∃ l : List BD, DrB l ∧ rv = blsA l ∧ RdD z p c lr' ∧ rows = []
def nmD (z : List Int) (p c : Nat) (rv : AV) (lr' rows : List Row) : Prop := ∃ k : Nat, k ≤ 4 ∧ rv = iA k ∧ RdD z p c lr' ∧ rows = []
attribute [local irreducible] RWp AW run kPe pe Kt effA gd gu br retR RDp runD kPeD brW gW effD
set_option maxRecDepth 100000
theorem l92Bytes_pcl0 (z : List Int) (p : Nat) (hr : RdOk z (p + 210)) : PCL Try.prog 51 [rdR z p] (mvF none) [.p 0 0 0] (byoD z p 210) := by
  refine pcl_enter Try.func51 rfl rfl (by simp) fun w0 fb loc => go_on ?_; simp only [Try.ntmps51, hpL, nmL, mvF, renL, decide_true, decide_false, push_cast, simprocAttr]
  (try simp only [push_cast, simprocAttr]); refine call_lend [500000] none (lr := [rdR z p]) (by simp [ndB]) (by first | rfl | simp [rowsOf, hget, rdR, rowS, sC, ndC, cmC]) (by simp [idsL, idsA]) (by simp [mvN]) (by simpa [rnA, ixOf] using pick_pcl z p 8 (hr.le (by omega)) (by omega)) ?_
  rintro rv lr' rows ⟨n8, rfl, hn8, rfl, rfl⟩
  have hn8 := hn8 (by omega)
  (refine ⟨by simp [shB, mvF, rdR, rowS], by simp [frB, baseOf], go_on ?_⟩; simp only [killA, killH, killRow, push_cast, simprocAttr])
  (try simp only [push_cast, simprocAttr]); refine call_lend [500000] none (lr := [rdR z (p + 1)]) (by simp [ndB]) (by first | rfl | simp [rowsOf, hget, rdR, rowS, sC, ndC, cmC]) (by simp [idsL, idsA]) (by simp [mvN]) (by simpa [rnA, ixOf] using pick_pcl z (p + 1) 20 (hr.le (by omega)) (by omega)) ?_
  rintro rv lr' rows ⟨m20, rfl, hm20, rfl, rfl⟩
  (refine ⟨by simp [shB, mvF, rdR, rowS], by simp [frB, baseOf], go_on ?_⟩; simp only [killA, killH, killRow, push_cast, simprocAttr])
  have fin : ∀ (l : List Int) (r : Nat), l.length ≤ 200 → p ≤ r → r ≤ p + 210 → byoD z p 210 (.o 1 l.length) [rdR z r] [rowZ l] := fun l r h1 h2 h3 => ⟨l, h1, rfl, ⟨r, rfl, h2, h3⟩, rfl⟩
  refine at_b (fun hb0 => ?_) (fun hb0 => ?_)
  · (try simp only [hb0, push_cast, simprocAttr])
    refine at_loop (X := Nat × List Int × Nat) (fun x => [(3, .o 6 x.2.1.length), (5, iA x.1), (6, .any)]) (fun x => [(2, ⟨3, 1, [], true⟩), (6, rowZ x.2.1), (500000, rdR z x.2.2)])
      (fun x => x.1 ≤ 200 ∧ x.2.1.length = x.1 ∧ p ≤ x.2.2 ∧ x.2.2 = p + 2 + x.1) (fun x => 200 - x.1) (0, [], p + 1 + 1) ⟨by omega, rfl, by first | (dsimp only; done) | (dsimp only; omega), by first | (dsimp only; done) | (dsimp only; omega)⟩ ?_ ?_
    · (refine wk_frz ?_ ?_ ?_ ?_ <;> simp [rdR, leF, leHF, frzB, idsL, idsA, idsR, inH, hget, sameRow, viewN, tk, upA, hvA, dsts, dstO, setA_0, setA_1, setA_8, List.append, List.cons_append, List.nil_append])
    · rintro ⟨i, l, r⟩ ⟨q1, q2, q3, q4⟩
      simp only at q1 q2 q3 q4
      simp only [upA, hvA, dsts, dstO, setA_0, setA_1, setA_8, List.append, List.cons_append, List.nil_append]
      refine go_on ?_
      (try simp only [push_cast, simprocAttr])
      by_cases hlt : i < 200
      · have i0 : ltI (i : Int) 200 = true := ltI_t (by omega)
        have w1 := wr ((i : Int) + 1) (by omega)
        (try simp only [i0, push_cast, simprocAttr])
        (try simp only [push_cast, simprocAttr]); refine call_lend [500000] none (lr := [rdR z r]) (by simp [ndB]) (by first | rfl | simp [rowsOf, hget, rdR, rowS, sC, ndC, cmC]) (by simp [idsL, idsA]) (by simp [mvN]) (by simpa [rnA, ixOf] using pick_pcl z r 256 (hr.le (by omega)) (by omega)) ?_
        rintro rv lr' rows ⟨k, rfl, hk, rfl, rfl⟩
        (refine ⟨by simp [shB, mvF, rdR, rowS], by simp [frB, baseOf], go_on ?_⟩; simp only [killA, killH, killRow, push_cast, simprocAttr])
        refine at_chk (by omega) ?_
        (try simp only [w1, push_cast, simprocAttr])
        refine at_fin ⟨(i + 1, l ++ [(k : Int)], r + 1), ⟨by dsimp only; omega, by simp [q2], by dsimp only; omega, by dsimp only; omega⟩, by dsimp only; omega, ?_⟩
        simp only [List.length_append, List.length_cons, List.length_nil]
        (refine wk_frz ?_ ?_ ?_ ?_ <;> simp [rdR, inC, leF, leHF, frzB, idsL, idsA, idsR, inH, hget, sameRow, viewN, tk, upA, hvA, dsts, dstO, setA_0, setA_1, setA_8, List.append, List.cons_append, List.nil_append])
      · have i0 : ltI (i : Int) 200 = false := ltI_f (by omega)
        have hin : l.length = 200 := by omega
        (try simp only [i0, push_cast, simprocAttr])
        by_cases hn0 : 0 < 200
        · have j0 : ltI 0 200 = true := ltI_t (by omega)
          (try simp only [j0, push_cast, simprocAttr])
          (try simp only [push_cast, simprocAttr]); refine call_lend [500000] none (lr := [rdR z r]) (by simp [ndB]) (by first | rfl | simp [rowsOf, hget, rdR, rowS, sC, ndC, cmC]) (by simp [idsL, idsA]) (by simp [mvN]) (by simpa [rnA, ixOf] using pick_pcl z r 30 (hr.le (by omega)) (by omega)) ?_
          rintro rv lr' rows ⟨m30, rfl, hm30, rfl, rfl⟩
          (refine ⟨by simp [shB, mvF, rdR, rowS], by simp [frB, baseOf], go_on ?_⟩; simp only [killA, killH, killRow, push_cast, simprocAttr])
          refine at_b (fun hb => ?_) (fun hb => ?_)
          · (try simp only [hb, push_cast, simprocAttr])
            (try simp only [push_cast, simprocAttr]); refine call_lend [500000] none (lr := [rdR z (r + 1)]) (by simp [ndB]) (by first | rfl | simp [rowsOf, hget, rdR, rowS, sC, ndC, cmC]) (by simp [idsL, idsA]) (by simp [mvN]) (by simpa [rnA, ixOf] using pick_pcl z (r + 1) 200 (hr.le (by omega)) (by omega)) ?_
            rintro rv lr' rows ⟨j, rfl, hj, rfl, rfl⟩
            have hj := hj hn0
            (refine ⟨by simp [shB, mvF, rdR, rowS], by simp [frB, baseOf], go_on ?_⟩; simp only [killA, killH, killRow, push_cast, simprocAttr])
            (try simp only [push_cast, simprocAttr]); refine call_lend [500000] none (lr := [rdR z (r + 1 + 1)]) (by simp [ndB]) (by first | rfl | simp [rowsOf, hget, rdR, rowS, sC, ndC, cmC]) (by simp [idsL, idsA]) (by simp [mvN]) (by simpa [rnA, ixOf] using pick_pcl z (r + 1 + 1) 2 (hr.le (by omega)) (by omega)) ?_
            rintro rv lr' rows ⟨m2, rfl, hm2, rfl, rfl⟩
            have hm2 := hm2 (by omega)
            obtain ⟨e, he⟩ := get_of_lt (l := l) (k := j) (by omega)
            have i2 := ix_n he
            have i3 := map_get inC he
            simp only [inC] at i3
            obtain ⟨v, g1, g2⟩ : ∃ v : Int, toIx (m2 : Int) 2 = some m2 ∧ ([[iA (-1)], [iA 256]] : List (List AV))[m2]? = some [iA v] := by
              rcases (show m2 = 0 ∨ m2 = 1 by omega) with rfl | rfl
              · exact ⟨-1, rfl, rfl⟩
              · exact ⟨256, rfl, rfl⟩
            have hset : (l.map inC).set j [iA v] = (l.set j v).map inC := by rw [List.map_set]; rfl
            have hfin := fin (l.set j v) (r + 1 + 1 + 1) (by simp; omega) (by omega) (by omega)
            rw [List.length_set] at hfin
            unfold rowZ at hfin
            (refine ⟨by simp [shB, mvF, rdR, rowS], by simp [frB, baseOf], go_on ?_⟩; simp only [i2, i3, g1, g2, hset, killA, killH, killRow, push_cast, simprocAttr])
            (refine at_retL ?_; simp only [Try.results51, retL, push_cast, simprocAttr]; simpa [show List.range 1 = [0] from rfl, show List.range 2 = [0, 1] from rfl, show List.range 3 = [0, 1, 2] from rfl, nmL, mvF, ndB, ixOf, rowsOf, hget, rdR, rowS] using  hfin)
          · have hfin := fin l (r + 1) (by omega) (by omega) (by omega)
            (try simp only [hb, push_cast, simprocAttr])
            (refine at_retL ?_; simp only [Try.results51, retL, push_cast, simprocAttr]; simpa [show List.range 1 = [0] from rfl, show List.range 2 = [0, 1] from rfl, show List.range 3 = [0, 1, 2] from rfl, nmL, mvF, ndB, ixOf, rowsOf, hget, rdR, rowS] using  hfin)
        · have j0 : ltI 0 200 = false := ltI_f (by omega)
          have hfin := fin l r (by omega) (by omega) (by omega)
          (try simp only [j0, push_cast, simprocAttr])
          (refine at_retL ?_; simp only [Try.results51, retL, push_cast, simprocAttr]; simp [show List.range 1 = [0] from rfl, show List.range 2 = [0, 1] from rfl, show List.range 3 = [0, 1, 2] from rfl, nmL, mvF, ndB, ixOf, rowsOf, hget, rdR, rowS]; exact  hfin)
  · (try simp only [hb0, push_cast, simprocAttr])
    refine at_loop (X := Nat × List Int × Nat) (fun x => [(3, .o 6 x.2.1.length), (5, iA x.1), (6, .any)]) (fun x => [(2, ⟨3, 1, [], true⟩), (6, rowZ x.2.1), (500000, rdR z x.2.2)])
      (fun x => x.1 ≤ n8 ∧ x.2.1.length = x.1 ∧ p ≤ x.2.2 ∧ x.2.2 = p + 2 + x.1) (fun x => n8 - x.1) (0, [], p + 1 + 1) ⟨by omega, rfl, by first | (dsimp only; done) | (dsimp only; omega), by first | (dsimp only; done) | (dsimp only; omega)⟩ ?_ ?_
    · (refine wk_frz ?_ ?_ ?_ ?_ <;> simp [rdR, leF, leHF, frzB, idsL, idsA, idsR, inH, hget, sameRow, viewN, tk, upA, hvA, dsts, dstO, setA_0, setA_1, setA_8, List.append, List.cons_append, List.nil_append])
    · rintro ⟨i, l, r⟩ ⟨q1, q2, q3, q4⟩
      simp only at q1 q2 q3 q4
      simp only [upA, hvA, dsts, dstO, setA_0, setA_1, setA_8, List.append, List.cons_append, List.nil_append]
      refine go_on ?_
      (try simp only [push_cast, simprocAttr])
      by_cases hlt : i < n8
      · have i0 : ltI (i : Int) (n8 : Int) = true := ltI_t (by omega)
        have w1 := wr ((i : Int) + 1) (by omega)
        (try simp only [i0, push_cast, simprocAttr])
        (try simp only [push_cast, simprocAttr]); refine call_lend [500000] none (lr := [rdR z r]) (by simp [ndB]) (by first | rfl | simp [rowsOf, hget, rdR, rowS, sC, ndC, cmC]) (by simp [idsL, idsA]) (by simp [mvN]) (by simpa [rnA, ixOf] using pick_pcl z r 256 (hr.le (by omega)) (by omega)) ?_
        rintro rv lr' rows ⟨k, rfl, hk, rfl, rfl⟩
        (refine ⟨by simp [shB, mvF, rdR, rowS], by simp [frB, baseOf], go_on ?_⟩; simp only [killA, killH, killRow, push_cast, simprocAttr])
        refine at_chk (by omega) ?_
        (try simp only [w1, push_cast, simprocAttr])
        refine at_fin ⟨(i + 1, l ++ [(k : Int)], r + 1), ⟨by dsimp only; omega, by simp [q2], by dsimp only; omega, by dsimp only; omega⟩, by dsimp only; omega, ?_⟩
        simp only [List.length_append, List.length_cons, List.length_nil]
        (refine wk_frz ?_ ?_ ?_ ?_ <;> simp [rdR, inC, leF, leHF, frzB, idsL, idsA, idsR, inH, hget, sameRow, viewN, tk, upA, hvA, dsts, dstO, setA_0, setA_1, setA_8, List.append, List.cons_append, List.nil_append])
      · have i0 : ltI (i : Int) (n8 : Int) = false := ltI_f (by omega)
        have hin : l.length = n8 := by omega
        (try simp only [i0, push_cast, simprocAttr])
        by_cases hn0 : 0 < n8
        · have j0 : ltI 0 (n8 : Int) = true := ltI_t (by omega)
          (try simp only [j0, push_cast, simprocAttr])
          (try simp only [push_cast, simprocAttr]); refine call_lend [500000] none (lr := [rdR z r]) (by simp [ndB]) (by first | rfl | simp [rowsOf, hget, rdR, rowS, sC, ndC, cmC]) (by simp [idsL, idsA]) (by simp [mvN]) (by simpa [rnA, ixOf] using pick_pcl z r 30 (hr.le (by omega)) (by omega)) ?_
          rintro rv lr' rows ⟨m30, rfl, hm30, rfl, rfl⟩
          (refine ⟨by simp [shB, mvF, rdR, rowS], by simp [frB, baseOf], go_on ?_⟩; simp only [killA, killH, killRow, push_cast, simprocAttr])
          refine at_b (fun hb => ?_) (fun hb => ?_)
          · (try simp only [hb, push_cast, simprocAttr])
            (try simp only [push_cast, simprocAttr]); refine call_lend [500000] none (lr := [rdR z (r + 1)]) (by simp [ndB]) (by first | rfl | simp [rowsOf, hget, rdR, rowS, sC, ndC, cmC]) (by simp [idsL, idsA]) (by simp [mvN]) (by simpa [rnA, ixOf] using pick_pcl z (r + 1) n8 (hr.le (by omega)) (by omega)) ?_
            rintro rv lr' rows ⟨j, rfl, hj, rfl, rfl⟩
            have hj := hj hn0
            (refine ⟨by simp [shB, mvF, rdR, rowS], by simp [frB, baseOf], go_on ?_⟩; simp only [killA, killH, killRow, push_cast, simprocAttr])
            (try simp only [push_cast, simprocAttr]); refine call_lend [500000] none (lr := [rdR z (r + 1 + 1)]) (by simp [ndB]) (by first | rfl | simp [rowsOf, hget, rdR, rowS, sC, ndC, cmC]) (by simp [idsL, idsA]) (by simp [mvN]) (by simpa [rnA, ixOf] using pick_pcl z (r + 1 + 1) 2 (hr.le (by omega)) (by omega)) ?_
            rintro rv lr' rows ⟨m2, rfl, hm2, rfl, rfl⟩
            have hm2 := hm2 (by omega)
            obtain ⟨e, he⟩ := get_of_lt (l := l) (k := j) (by omega)
            have i2 := ix_n he
            have i3 := map_get inC he
            simp only [inC] at i3
            obtain ⟨v, g1, g2⟩ : ∃ v : Int, toIx (m2 : Int) 2 = some m2 ∧ ([[iA (-1)], [iA 256]] : List (List AV))[m2]? = some [iA v] := by
              rcases (show m2 = 0 ∨ m2 = 1 by omega) with rfl | rfl
              · exact ⟨-1, rfl, rfl⟩
              · exact ⟨256, rfl, rfl⟩
            have hset : (l.map inC).set j [iA v] = (l.set j v).map inC := by rw [List.map_set]; rfl
            have hfin := fin (l.set j v) (r + 1 + 1 + 1) (by simp; omega) (by omega) (by omega)
            rw [List.length_set] at hfin
            unfold rowZ at hfin
            (refine ⟨by simp [shB, mvF, rdR, rowS], by simp [frB, baseOf], go_on ?_⟩; simp only [i2, i3, g1, g2, hset, killA, killH, killRow, push_cast, simprocAttr])
            (refine at_retL ?_; simp only [Try.results51, retL, push_cast, simprocAttr]; simpa [show List.range 1 = [0] from rfl, show List.range 2 = [0, 1] from rfl, show List.range 3 = [0, 1, 2] from rfl, nmL, mvF, ndB, ixOf, rowsOf, hget, rdR, rowS] using  hfin)
          · have hfin := fin l (r + 1) (by omega) (by omega) (by omega)
            (try simp only [hb, push_cast, simprocAttr])
            (refine at_retL ?_; simp only [Try.results51, retL, push_cast, simprocAttr]; simpa [show List.range 1 = [0] from rfl, show List.range 2 = [0, 1] from rfl, show List.range 3 = [0, 1, 2] from rfl, nmL, mvF, ndB, ixOf, rowsOf, hget, rdR, rowS] using  hfin)
        · have j0 : ltI 0 (n8 : Int) = false := ltI_f (by omega)
          have hfin := fin l r (by omega) (by omega) (by omega)
          (try simp only [j0, push_cast, simprocAttr])
          (refine at_retL ?_; simp only [Try.results51, retL, push_cast, simprocAttr]; simp [show List.range 1 = [0] from rfl, show List.range 2 = [0, 1] from rfl, show List.range 3 = [0, 1, 2] from rfl, nmL, mvF, ndB, ixOf, rowsOf, hget, rdR, rowS]; exact  hfin)
theorem l92Bytes_pcl (z : List Int) (p : Nat) (hr : RdOk z (p + 210)) : PCL Try.prog 51 [rdR z p] (mvF none) [.p 0 0 0] (bytD z p 210) := by
  refine (l92Bytes_pcl0 z p hr).frz ?_
  rintro rv lr' rows ⟨l, h1, rfl, ⟨u, rfl, h2, h3⟩, rfl⟩
  exact ⟨by simp [idsA], l, h1, by simp [viewN, hpOf, hget, isC, tk], ⟨u, rfl, h2, h3⟩, rfl⟩
end Go.Proofs.Ytepcabenjikhgaa
/-
  Walks: disks: the draws: a disk, a number; DrawDiskRename, DrawDiskWrite.
-/
namespace Go.Proofs.Ytepcabenjikhgaa
open Go Go.RowKit Go.Proofs
attribute [local irreducible] RWp AW run kPe pe Kt effA gd gu br retR RDp runD kPeD brW gW effD
set_option maxRecDepth 100000
theorem l92Name_pcl (z : List Int) (p : Nat) (hr : RdOk z (p + 2)) : PCL Try.prog 50 [rdR z p] (mvF none) [.p 0 0 0] (nmD z p 2) := by
  have fin : ∀ (k r : Nat), k ≤ 4 → p ≤ r → r ≤ p + 2 → nmD z p 2 (iA k) [rdR z r] [] := fun k r h1 h2 h3 => ⟨k, h1, rfl, ⟨r, rfl, h2, h3⟩, rfl⟩
  refine pcl_enter Try.func50 rfl rfl (by simp) fun w0 fb loc => go_on ?_; simp only [Try.ntmps50, hpL, nmL, mvF, renL, decide_true, decide_false, push_cast, simprocAttr]
  (try simp only [push_cast, simprocAttr]); refine call_lend [500000] none (lr := [rdR z p]) (by simp [ndB]) (by first | rfl | simp [rowsOf, hget, rdR, rowS, sC, ndC, cmC]) (by simp [idsL, idsA]) (by simp [mvN]) (by simpa [rnA, ixOf] using pick_pcl z p 16 (hr.le (by omega)) (by omega)) ?_
  rintro rv lr' rows ⟨m16, rfl, hm16, rfl, rfl⟩
  (refine ⟨by simp [shB, mvF, rdR, rowS], by simp [frB, baseOf], go_on ?_⟩; simp only [killA, killH, killRow, push_cast, simprocAttr])
  refine at_b (fun hb => ?_) (fun hb => ?_)
  · (try simp only [hb, push_cast, simprocAttr])
    (try simp only [push_cast, simprocAttr]); refine call_lend [500000] none (lr := [rdR z (p + 1)]) (by simp [ndB]) (by first | rfl | simp [rowsOf, hget, rdR, rowS, sC, ndC, cmC]) (by simp [idsL, idsA]) (by simp [mvN]) (by simpa [rnA, ixOf] using pick_pcl z (p + 1) 2 (hr.le (by omega)) (by omega)) ?_
    rintro rv lr' rows ⟨m, rfl, hm, rfl, rfl⟩
    have hm := hm (by omega)
    obtain ⟨k, hk⟩ : ∃ k, k = m * 4 := ⟨_, rfl⟩
    have w1 : IntKind.i64.wrap ((m : Int) * 4) = (k : Int) := by rw [wr _ (by omega)]; omega
    have hfin := fin k (p + 1 + 1) (by omega) (by omega) (by omega)
    (refine ⟨by simp [shB, mvF, rdR, rowS], by simp [frB, baseOf], go_on ?_⟩; simp only [w1, killA, killH, killRow, push_cast, simprocAttr])
    (refine at_retL ?_; simp only [Try.results50, retL, push_cast, simprocAttr]; simpa [show List.range 1 = [0] from rfl, show List.range 2 = [0, 1] from rfl, show List.range 3 = [0, 1, 2] from rfl, nmL, mvF, ndB, ixOf, rowsOf, hget, rdR, rowS] using  hfin)
  · (try simp only [hb, push_cast, simprocAttr])
    (try simp only [push_cast, simprocAttr]); refine call_lend [500000] none (lr := [rdR z (p + 1)]) (by simp [ndB]) (by first | rfl | simp [rowsOf, hget, rdR, rowS, sC, ndC, cmC]) (by simp [idsL, idsA]) (by simp [mvN]) (by simpa [rnA, ixOf] using pick_pcl z (p + 1) 3 (hr.le (by omega)) (by omega)) ?_
    rintro rv lr' rows ⟨m, rfl, hm, rfl, rfl⟩
    have hm := hm (by omega)
    obtain ⟨k, hk⟩ : ∃ k, k = 1 + m := ⟨_, rfl⟩
    have w1 : IntKind.i64.wrap (1 + (m : Int)) = (k : Int) := by rw [wr _ (by omega)]; omega
    have hfin := fin k (p + 1 + 1) (by omega) (by omega) (by omega)
    (refine ⟨by simp [shB, mvF, rdR, rowS], by simp [frB, baseOf], go_on ?_⟩; simp only [w1, killA, killH, killRow, push_cast, simprocAttr])
    (refine at_retL ?_; simp only [Try.results50, retL, push_cast, simprocAttr]; simpa [show List.range 1 = [0] from rfl, show List.range 2 = [0, 1] from rfl, show List.range 3 = [0, 1, 2] from rfl, nmL, mvF, ndB, ixOf, rowsOf, hget, rdR, rowS] using  hfin)
theorem l92Disk_pcl0 (z : List Int) (p : Nat) (hr : RdOk z (p + 2000)) : PCL Try.prog 49 [rdR z p] (mvF none) [.p 0 0 0] (dsoD z p 2000) := by
  have fin : ∀ (l : List BD) (r : Nat), DrB l → p ≤ r → r ≤ p + 2000 → dsoD z p 2000 (.o 1 l.length) [rdR z r] [rowB l] := fun l r h1 h2 h3 => ⟨l, h1, rfl, ⟨r, rfl, h2, h3⟩, rfl⟩
  refine pcl_enter Try.func49 rfl rfl (by simp) fun w0 fb loc => go_on ?_; simp only [Try.ntmps49, hpL, nmL, mvF, renL, decide_true, decide_false, push_cast, simprocAttr]
  refine at_loop (X := Nat × List BD × Nat) (fun x => [(3, .o 6 x.2.1.length), (4, iA x.1), (6, .any)]) (fun x => [(2, ⟨55, 3, [], true⟩), (6, rowB x.2.1), (500000, rdR z x.2.2)])
    (fun x => 1 ≤ x.1 ∧ x.1 ≤ 4 ∧ x.2.1.length + 1 ≤ x.1 ∧ (∀ d ∈ x.2.1, d.safe.length ≤ 200 ∧ d.fresh.length ≤ 200) ∧ p ≤ x.2.2 ∧ x.2.2 + 500 ≤ p + 500 * x.1) (fun x => 4 - x.1) (1, [], p) ⟨by simp, by simp, by simp, by simp, by simp, by dsimp only; omega⟩ ?_ ?_
  · (refine wk_frz ?_ ?_ ?_ ?_ <;> simp [rdR, leF, leHF, frzB, idsL, idsA, idsR, inH, hget, sameRow, viewN, tk, upA, hvA, dsts, dstO, setA_0, setA_1, setA_8, List.append, List.cons_append, List.nil_append])
  · rintro ⟨i, l, r⟩ ⟨q1, q2, q3, q4, q5, q6⟩
    simp only at q1 q2 q3 q4 q5 q6
    simp only [upA, hvA, dsts, dstO, setA_0, setA_1, setA_8, List.append, List.cons_append, List.nil_append]
    refine go_on ?_
    (try simp only [push_cast, simprocAttr])
    by_cases hlt : i ≤ 3
    · have i0 : leI (i : Int) 3 = true := leI_t (by omega)
      have w1 := wr ((i : Int) + 1) (by omega)
      (try simp only [i0, push_cast, simprocAttr])
      (try simp only [push_cast, simprocAttr]); refine call_lend [500000] none (lr := [rdR z r]) (by simp [ndB]) (by first | rfl | simp [rowsOf, hget, rdR, rowS, sC, ndC, cmC]) (by simp [idsL, idsA]) (by simp [mvN]) (by simpa [rnA, ixOf] using pick_pcl z r 3 (hr.le (by omega)) (by omega)) ?_
      rintro rv lr' rows ⟨m3, rfl, hm3, rfl, rfl⟩
      (refine ⟨by simp [shB, mvF, rdR, rowS], by simp [frB, baseOf], go_on ?_⟩; simp only [killA, killH, killRow, push_cast, simprocAttr])
      refine at_b (fun hb => ?_) (fun hb => ?_)
      · (try simp only [hb, push_cast, simprocAttr])
        (try simp only [push_cast, simprocAttr]); refine call_lend [500000] none (lr := [rdR z (r + 1)]) (by simp [ndB]) (by first | rfl | simp [rowsOf, hget, rdR, rowS, sC, ndC, cmC]) (by simp [idsL, idsA]) (by simp [mvN]) (by simpa [rnA, ixOf] using l92Bytes_pcl z (r + 1) (hr.le (by omega))) ?_
        rintro rv lr' rows ⟨s, hs, rfl, ⟨u, rfl, g1, g2⟩, rfl⟩
        (refine ⟨by simp [shB, mvF, rdR, rowS], by simp [frB, baseOf], go_on ?_⟩; simp only [killA, killH, killRow, push_cast, simprocAttr])
        (try simp only [push_cast, simprocAttr]); refine call_lend [500000] none (lr := [rdR z u]) (by simp [ndB]) (by first | rfl | simp [rowsOf, hget, rdR, rowS, sC, ndC, cmC]) (by simp [idsL, idsA]) (by simp [mvN]) (by simpa [rnA, ixOf] using l92Bytes_pcl z u (hr.le (by omega))) ?_
        rintro rv lr' rows ⟨f, hf, rfl, ⟨v, rfl, g3, g4⟩, rfl⟩
        (refine ⟨by simp [shB, mvF, rdR, rowS], by simp [frB, baseOf], go_on ?_⟩; simp only [killA, killH, killRow, push_cast, simprocAttr])
        refine at_chk (by omega) ?_
        (try simp only [w1, push_cast, simprocAttr])
        refine at_fin ⟨(i + 1, l ++ [⟨(i : Int), s, f⟩], v), ⟨by dsimp only; omega, by dsimp only; omega, by simp; omega, fun d hd => ?_, by dsimp only; omega, by dsimp only; omega⟩, by dsimp only; omega, ?_⟩
        · rcases List.mem_append.1 hd with hd | hd
          · exact q4 d hd
          · simp only [List.mem_singleton] at hd
            subst hd
            exact ⟨hs, hf⟩
        · simp only [List.length_append, List.length_cons, List.length_nil]
          (refine wk_frz ?_ ?_ ?_ ?_ <;> simp [rdR, bC, leF, leHF, frzB, idsL, idsA, idsR, inH, hget, sameRow, viewN, tk, upA, hvA, dsts, dstO, setA_0, setA_1, setA_8, List.append, List.cons_append, List.nil_append])
      · (try simp only [hb, w1, push_cast, simprocAttr])
        refine at_fin ⟨(i + 1, l, r + 1), ⟨by dsimp only; omega, by dsimp only; omega, by dsimp only; omega, q4, by dsimp only; omega, by dsimp only; omega⟩, by dsimp only; omega, ?_⟩
        (refine wk_frz ?_ ?_ ?_ ?_ <;> simp [rdR, leF, leHF, frzB, idsL, idsA, idsR, inH, hget, sameRow, viewN, tk, upA, hvA, dsts, dstO, setA_0, setA_1, setA_8, List.append, List.cons_append, List.nil_append])
    · have i0 : leI (i : Int) 3 = false := leI_f (by omega)
      have hD : DrB l := ⟨by omega, q4⟩
      (try simp only [i0, push_cast, simprocAttr])
      by_cases hl0 : l = []
      · subst hl0
        have hfin := fin [] r hD q5 (by omega)
        unfold rowB at hfin
        (try simp only [List.length_nil, show ltI 0 ((0 : Nat) : Int) = false from rfl, show ltI 0 0 = false from rfl, push_cast, simprocAttr])
        (refine at_retL ?_; simp only [Try.results49, retL, push_cast, simprocAttr]; simpa [show List.range 1 = [0] from rfl, show List.range 2 = [0, 1] from rfl, show List.range 3 = [0, 1, 2] from rfl, nmL, mvF, ndB, ixOf, rowsOf, hget, rdR, rowS] using  hfin)
      · have hl1 : 0 < l.length := List.length_pos_iff.2 hl0
        have j0 : ltI 0 (l.length : Int) = true := ltI_t (by omega)
        obtain ⟨e, he⟩ := get_of_lt (l := l) (k := 0) (by omega)
        have i2 : toIx 0 l.length = some 0 := ix_n he
        have i3 := map_get bC he
        simp only [bC] at i3
        have hem := q4 e (List.mem_of_getElem? he)
        (try simp only [j0, push_cast, simprocAttr])
        (try simp only [push_cast, simprocAttr]); refine call_lend [500000] none (lr := [rdR z r]) (by simp [ndB]) (by first | rfl | simp [rowsOf, hget, rdR, rowS, sC, ndC, cmC]) (by simp [idsL, idsA]) (by simp [mvN]) (by simpa [rnA, ixOf] using pick_pcl z r 24 (hr.le (by omega)) (by omega)) ?_
        rintro rv lr' rows ⟨m24, rfl, hm24, rfl, rfl⟩
        (refine ⟨by simp [shB, mvF, rdR, rowS], by simp [frB, baseOf], go_on ?_⟩; simp only [killA, killH, killRow, push_cast, simprocAttr])
        refine at_b (fun hb => ?_) (fun hb => ?_)
        · (try simp only [hb, push_cast, simprocAttr])
          (try simp only [push_cast, simprocAttr]); refine call_lend [500000] none (lr := [rdR z (r + 1)]) (by simp [ndB]) (by first | rfl | simp [rowsOf, hget, rdR, rowS, sC, ndC, cmC]) (by simp [idsL, idsA]) (by simp [mvN]) (by simpa [rnA, ixOf] using pick_pcl z (r + 1) 3 (hr.le (by omega)) (by omega)) ?_
          rintro rv lr' rows ⟨m3, rfl, hm3, rfl, rfl⟩
          have hm3 := hm3 (by omega)
          obtain ⟨v, g1, g2⟩ : ∃ v : Int, toIx (m3 : Int) 3 = some m3 ∧ ([[iA 0], [iA 3], [iA 4]] : List (List AV))[m3]? = some [iA v] := by
            rcases (show m3 = 0 ∨ m3 = 1 ∨ m3 = 2 by omega) with rfl | rfl | rfl
            · exact ⟨0, rfl, rfl⟩
            · exact ⟨3, rfl, rfl⟩
            · exact ⟨4, rfl, rfl⟩
          have hset : (l.map bC).set 0 [iA v, intsA e.safe, intsA e.fresh] = (l.set 0 ⟨v, e.safe, e.fresh⟩).map bC := by rw [List.map_set]; rfl
          have hfin := fin (l.set 0 ⟨v, e.safe, e.fresh⟩) (r + 1 + 1) ⟨by simp; exact hD.n, fun d hd => by
            rcases List.mem_or_eq_of_mem_set hd with hd | rfl
            · exact q4 d hd
            · exact hem⟩ (by omega) (by omega)
          rw [List.length_set] at hfin
          unfold rowB at hfin
          (refine ⟨by simp [shB, mvF, rdR, rowS], by simp [frB, baseOf], go_on ?_⟩; simp only [i2, i3, g1, g2, hset, killA, killH, killRow, push_cast, simprocAttr])
          (refine at_retL ?_; simp only [Try.results49, retL, push_cast, simprocAttr]; simpa [show List.range 1 = [0] from rfl, show List.range 2 = [0, 1] from rfl, show List.range 3 = [0, 1, 2] from rfl, nmL, mvF, ndB, ixOf, rowsOf, hget, rdR, rowS] using  hfin)
        · (try simp only [hb, push_cast, simprocAttr])
          refine at_b (fun hc => ?_) (fun hc => ?_)
          · have hfin := fin (l ++ [e]) (r + 1) ⟨by simp; omega, fun d hd => by
              rcases List.mem_append.1 hd with hd | hd
              · exact q4 d hd
              · simp only [List.mem_singleton] at hd; subst hd; exact hem⟩ (by omega) (by omega)
            have happ : (l.map bC) ++ [[iA e.name, intsA e.safe, intsA e.fresh]] = (l ++ [e]).map bC := by rw [List.map_append]; rfl
            rw [List.length_append] at hfin
            simp only [List.length_cons, List.length_nil] at hfin
            unfold rowB at hfin
            (try simp only [hc, i2, i3, push_cast, simprocAttr])
            refine at_chk (by omega) ?_
            (try simp only [happ, push_cast, simprocAttr])
            (refine at_retL ?_; simp only [Try.results49, retL, push_cast, simprocAttr]; simpa [show List.range 1 = [0] from rfl, show List.range 2 = [0, 1] from rfl, show List.range 3 = [0, 1, 2] from rfl, nmL, mvF, ndB, ixOf, rowsOf, hget, rdR, rowS] using  hfin)
          · have hfin := fin l (r + 1) hD (by omega) (by omega)
            (try simp only [hc, push_cast, simprocAttr])
            (refine at_retL ?_; simp only [Try.results49, retL, push_cast, simprocAttr]; simpa [show List.range 1 = [0] from rfl, show List.range 2 = [0, 1] from rfl, show List.range 3 = [0, 1, 2] from rfl, nmL, mvF, ndB, ixOf, rowsOf, hget, rdR, rowS] using  hfin)
theorem l92Disk_pcl (z : List Int) (p : Nat) (hr : RdOk z (p + 2000)) : PCL Try.prog 49 [rdR z p] (mvF none) [.p 0 0 0] (dsaD z p 2000) := by
  refine (l92Disk_pcl0 z p hr).frz ?_
  rintro rv lr' rows ⟨l, h1, rfl, ⟨u, rfl, h2, h3⟩, rfl⟩
  exact ⟨by simp [idsA], l, h1, by simp [viewN, hpOf, hget, isC, tk], ⟨u, rfl, h2, h3⟩, rfl⟩
def drnX (rv : AV) (rows : List Row) : Prop := ∃ (l : List BD) (a b : Nat), DrB l ∧ rv = .tup [blsA l, iA a, iA b] ∧ rows = []
theorem DrawDiskRename_pc (z : List Int) (hz : BytesOk z) : PC Try.prog 27 [byA z] drnX := by
  have hr : RdOk (z.take 2000) (0 + 4000) := ⟨hz.tk, by rw [List.length_take]; omega, by omega⟩
  refine pc_enter Try.func27 rfl rfl fun w0 fb => go_on ?_; (try simp only [Try.ntmps27, push_cast, simprocAttr])
  refine call_share (by simp [isC]) (l6Open_pc z hz) ?_
  rintro rv rows ⟨rfl, rfl⟩
  refine ⟨by simp [frB, baseOf], go_on ?_⟩
  (try simp only [push_cast, simprocAttr])
  obtain ⟨y, hy⟩ : ∃ y, y = z.take 2000 := ⟨_, rfl⟩
  rw [← hy] at hr ⊢
  (try simp only [push_cast, simprocAttr]); refine call_lend [10000] none (lr := [rdR y 0]) (by simp [ndB]) (by first | rfl | simp [rowsOf, hget, rdR, rowS, sC, ndC, cmC]) (by simp [idsL, idsA]) (by simp [mvN]) (by simpa [rnA, ixOf] using l92Disk_pcl y 0 (hr.le (by omega))) ?_
  rintro rv lr' rows ⟨l, hl, rfl, ⟨u, rfl, g1, g2⟩, rfl⟩
  (refine ⟨by simp [shB, mvF, rdR, rowS], by simp [frB, baseOf], go_on ?_⟩; simp only [killA, killH, killRow, push_cast, simprocAttr])
  (try simp only [push_cast, simprocAttr]); refine call_lend [10000] none (lr := [rdR y u]) (by simp [ndB]) (by first | rfl | simp [rowsOf, hget, rdR, rowS, sC, ndC, cmC]) (by simp [idsL, idsA]) (by simp [mvN]) (by simpa [rnA, ixOf] using l92Name_pcl y u (hr.le (by omega))) ?_
  rintro rv lr' rows ⟨a, ha, rfl, ⟨v, rfl, g3, g4⟩, rfl⟩
  (refine ⟨by simp [shB, mvF, rdR, rowS], by simp [frB, baseOf], go_on ?_⟩; simp only [killA, killH, killRow, push_cast, simprocAttr])
  (try simp only [push_cast, simprocAttr]); refine call_lend [10000] none (lr := [rdR y v]) (by simp [ndB]) (by first | rfl | simp [rowsOf, hget, rdR, rowS, sC, ndC, cmC]) (by simp [idsL, idsA]) (by simp [mvN]) (by simpa [rnA, ixOf] using l92Name_pcl y v (hr.le (by omega))) ?_
  rintro rv lr' rows ⟨b, hb, rfl, ⟨w, rfl, g5, g6⟩, rfl⟩
  (refine ⟨by simp [shB, mvF, rdR, rowS], by simp [frB, baseOf], go_on ?_⟩; simp only [killA, killH, killRow, push_cast, simprocAttr])
  refine at_ret ?_; simp only [Try.results27, push_cast, simprocAttr]
  exact ⟨l, a, b, hl, rfl, rfl⟩
end Go.Proofs.Ytepcabenjikhgaa
/-
  Walks: disks: laws.sameInts, laws.sameDisk at equal things.
-/
namespace Go.Proofs.Ytepcabenjikhgaa
open Go Go.RowKit Go.Proofs
attribute [local irreducible] RWp AW run kPe pe Kt effA gd gu br retR RDp runD kPeD brW gW effD
set_option maxRecDepth 100000
theorem sameInts_pc (l : List Int) (hl : l.length < 4294967281) : PC Try.prog 31 [intsA l, intsA l] (vB true) := by
  have e0 : eqI (l.length : Int) l.length = true := eqI_t rfl
  refine pc_enter Try.func31 rfl rfl fun w0 fb => go_on ?_; (try simp only [Try.ntmps31, push_cast, simprocAttr])
  (try simp only [List.length_map, e0, Bool.not_true, push_cast, simprocAttr])
  refine at_loop (X := Nat) (fun k => [(5, iA k)]) (fun _ => []) (fun k => k ≤ l.length) (fun k => l.length - k) 0 (Nat.zero_le _) ?_ ?_
  · (refine wk_ok ?_ ?_ ?_ ?_ <;> simp [leL, leH, idsL, idsA, idsR, inH, hget, sameRow, upA, hvA, dsts, dstO, setA_0, setA_1, setA_8, List.append, List.cons_append, List.nil_append])
  · rintro k h1
    simp only [upA, hvA, dsts, dstO, setA_0, setA_1, setA_8, List.append, List.cons_append, List.nil_append]
    refine go_on ?_
    (try simp only [List.length_map, push_cast, simprocAttr])
    refine at_b (fun hg => ?_) (fun hg => ?_)
    · have hlt := lt_tt hg
      obtain ⟨x, hk⟩ := get_of_lt hlt
      have i1 := ix_n hk
      have i2 := map_get inC hk
      simp only [inC] at i2
      have e1 : eqI x x = true := eqI_t rfl
      have w1 := wr ((k : Int) + 1) (by omega)
      (try simp only [hg, push_cast, simprocAttr])
      refine at_draw rfl (by kernel_rfl) ?_; simp only [push_cast, simprocAttr]
      (try simp only [i1, i2, e1, Bool.not_true, push_cast, simprocAttr])
      repeat' first | (refine at_bWn (fun hb => ?_) (fun hb => ?_) <;> simp only [i1, i2, e1, Bool.not_true, hb, push_cast, simprocAttr]) | (refine at_bW (fun hb => ?_) (fun hb => ?_) <;> simp only [i1, i2, e1, Bool.not_true, hb, push_cast, simprocAttr])  | (refine at_done (by kernel_rfl) (by kernel_rfl) (go_on ?_); (try simp only [i1, i2, e1, Bool.not_true, push_cast, simprocAttr]))
      (try simp only [w1, push_cast, simprocAttr])
      refine at_fin ⟨k + 1, by omega, by omega, ?_⟩
      (refine wk_ok ?_ ?_ ?_ ?_ <;> simp [leL, leH, idsL, idsA, idsR, inH, hget, sameRow, upA, hvA, dsts, dstO, setA_0, setA_1, setA_8, List.append, List.cons_append, List.nil_append])
    · (try simp only [hg, push_cast, simprocAttr])
      refine at_ret ?_; simp only [Try.results31, push_cast, simprocAttr]
      simp [vX]
theorem sameDisk_pc (bs : List BD) (hs : SmB bs) : PC Try.prog 26 [blsA bs, blsA bs] (vB true) := by
  have hn := hs.n
  have e0 : eqI (bs.length : Int) bs.length = true := eqI_t rfl
  refine pc_enter Try.func26 rfl rfl fun w0 fb => go_on ?_; (try simp only [Try.ntmps26, push_cast, simprocAttr])
  (try simp only [List.length_map, e0, Bool.not_true, push_cast, simprocAttr])
  refine at_loop (X := Nat) (fun k => [(5, iA k)]) (fun _ => []) (fun k => k ≤ bs.length) (fun k => bs.length - k) 0 (Nat.zero_le _) ?_ ?_
  · (refine wk_ok ?_ ?_ ?_ ?_ <;> simp [leL, leH, idsL, idsA, idsR, inH, hget, sameRow, upA, hvA, dsts, dstO, setA_0, setA_1, setA_8, List.append, List.cons_append, List.nil_append])
  · rintro k h1
    simp only [upA, hvA, dsts, dstO, setA_0, setA_1, setA_8, List.append, List.cons_append, List.nil_append]
    refine go_on ?_
    (try simp only [List.length_map, push_cast, simprocAttr])
    refine at_b (fun hg => ?_) (fun hg => ?_)
    · have hlt := lt_tt hg
      obtain ⟨x, hk⟩ := get_of_lt hlt
      have i1 := ix_n hk
      have i2 := map_get bC hk
      simp only [bC] at i2
      have e1 : eqI x.name x.name = true := eqI_t rfl
      have hd := hs.d x (mem_of_get hk)
      have hS := sameInts_pc x.safe (by have := hd.s; omega)
      have hF := sameInts_pc x.fresh (by have := hd.f; omega)
      have w1 := wr ((k : Int) + 1) (by omega)
      (try simp only [hg, push_cast, simprocAttr])
      refine at_draw rfl (by kernel_rfl) ?_; simp only [push_cast, simprocAttr]
      (try simp only [i1, i2, e1, Bool.not_true, push_cast, simprocAttr])
      repeat' first | (refine at_bWn (fun hb => ?_) (fun hb => ?_) <;> simp only [i1, i2, e1, Bool.not_true, hb, push_cast, simprocAttr]) | (refine at_bW (fun hb => ?_) (fun hb => ?_) <;> simp only [i1, i2, e1, Bool.not_true, hb, push_cast, simprocAttr]) | (refine at_callD (by simp [clB, idsL, idsA, hget]) ?_; (try simp only [push_cast, simprocAttr]); first | (refine rcd_v (hS) ?_; simp only [i1, i2, e1, Bool.not_true, push_cast, simprocAttr]) | (refine rcd_d (hS) (by simp [flatV, flatL, ctC, ndC, cmC]) (by simp [ren, ctC, ndC, cmC]) ?_; simp only [i1, i2, e1, Bool.not_true, push_cast, simprocAttr]) | (refine rcd_v (hF) ?_; simp only [i1, i2, e1, Bool.not_true, push_cast, simprocAttr]) | (refine rcd_d (hF) (by simp [flatV, flatL, ctC, ndC, cmC]) (by simp [ren, ctC, ndC, cmC]) ?_; simp only [i1, i2, e1, Bool.not_true, push_cast, simprocAttr])) | (refine at_done (by kernel_rfl) (by kernel_rfl) (go_on ?_); (try simp only [i1, i2, e1, Bool.not_true, push_cast, simprocAttr]))
      (try simp only [Bool.not_true, w1, push_cast, simprocAttr])
      refine at_fin ⟨k + 1, by omega, by omega, ?_⟩
      (refine wk_ok ?_ ?_ ?_ ?_ <;> simp [leL, leH, idsL, idsA, idsR, inH, hget, sameRow, upA, hvA, dsts, dstO, setA_0, setA_1, setA_8, List.append, List.cons_append, List.nil_append])
    · (try simp only [hg, push_cast, simprocAttr])
      refine at_ret ?_; simp only [Try.results26, push_cast, simprocAttr]
      simp [vX]
end Go.Proofs.Ytepcabenjikhgaa
/-
  Opening a side that a law is handed: what it reads as, in the machine's words.
-/
namespace Go.Proofs.Ytepcabenjikhgaa
open Go Go.RowKit Go.Proofs
set_option maxRecDepth 100000
section
variable {H : Type} {enc : TypeId × Value → H} {W : World} {base : Nat} {sp : Nat → Bool} {held : Bool} {fuel : Nat} {cs : List Value} {x : DataW H × List MemPlace}
theorem choose_list {α : Type} {n : Nat} {p : Nat → α → Prop} (h : ∀ i, i < n → ∃ a, p i a) : ∃ l : List α, l.length = n ∧ ∀ (i : Nat) a, l[i]? = some a → p i a := by
  induction n with
  | zero => exact ⟨[], rfl, fun i a h => by simp at h⟩
  | succ n ih =>
    obtain ⟨l, h1, h2⟩ := ih fun i hi => h i (by omega)
    obtain ⟨a, ha⟩ := h n (by omega)
    refine ⟨l ++ [a], by simp [h1], fun i b hb => ?_⟩
    by_cases hi : i < l.length
    · rw [List.getElem?_append_left hi] at hb
      exact h2 i b hb
    · rw [List.getElem?_append_right (by omega)] at hb
      by_cases h0 : i - l.length = 0
      · rw [h0] at hb
        cases hb
        obtain rfl : i = n := by omega
        exact ha
      · have := (List.getElem?_eq_some_iff.1 hb).1
        simp at this
        omega
theorem cells_get {a : Addr} {n : Nat} {l : List Value} (h : W.cells? base a n = some l) : l.length = n ∧ ∀ j, j < n → W.cell? (a.add j) = l[j]? := by
  unfold World.cells? at h
  split at h
  · refine ⟨by have := mapM_some_length h; simpa using this, fun j hj => mapM_some_get h j j (by simp [hj])⟩
  · cases h
/-- A slice of structs of plain data. -/
theorem open_sl {α : Type} {K : α → List AV} {V : α → List Value} {Q : α → Prop} {t e sz : Nat} {lv : Nat → Prop} (ht : Try.prog.underlying t = some (.slice e)) (hz : Try.prog.cellsOf e = sz) (h0 : 0 < sz)
    (hel : ∀ (fuel : Nat) (cs : List Value) (x : DataW H × List MemPlace), DataW.trod enc Try.prog W 0 sp held fuel e cs = some x → ∃ a, cs = V a ∧ Q a)
    (hV : ∀ a, (V a).length = sz ∧ (V a).all Value.oneCell' = true ∧ K a = (V a).map AV.v) (hlv : ∀ b, b < W.heap.size → ¬ lv b)
    (h : DataW.trod enc Try.prog W 0 sp held fuel t cs = some x) :
    ∃ (l : List α) (v : Value), cs = [v] ∧ C lv 0 W (.sl sz (l.map K)) v ∧ l.length ≤ maxLen ∧ ∀ a ∈ l, Q a := by
  rcases DataW.trod_slice ht h with ⟨rfl, _⟩ | ⟨a, len, cap, elems, rest, n, rfl, rfl, _, _, hl, hm, hlen, hg, _, _⟩
  · refine ⟨[], _, rfl, C.sl [] (fun _ _ => undef) ⟨by simp, fun h => absurd h (by simp)⟩ (fun h => absurd h (by simp)) (by simp) (by omega) ?_ ?_ ?_, by simp, by simp⟩ <;> intro k e <;> simp
  · have hex : ∀ i, i < len → ∃ b, (∀ j, j < sz → W.cell? (a.add (i * sz + j)) = (V b)[j]?) ∧ Q b := by
      intro i hi
      have h1 := hg i hi
      rw [hz] at h1
      obtain ⟨y, hy⟩ : ∃ y, elems[i]? = some y := ⟨_, List.getElem?_eq_getElem (by omega)⟩
      rw [hy, Option.bind_eq_some_iff] at h1
      obtain ⟨cs', hcs, hy'⟩ := h1
      obtain ⟨b, rfl, hb⟩ := hel _ _ _ hy'
      refine ⟨b, fun j hj => ?_, hb⟩
      have h2 := (cells_get hcs).2 j hj
      rw [← h2]
      congr 1
      unfold Addr.add
      by_cases g1 : j = 0
      · subst g1; simp
      · by_cases g2 : i * sz = 0
        · simp [g2]
        · rw [if_neg (by omega), if_neg g1, if_neg g2]
          simp only [Nat.add_assoc]
    obtain ⟨l, hll, hlg⟩ := choose_list hex
    subst hll
    have hcell : ∀ (i : Nat) b j, l[i]? = some b → j < sz → W.cell? (a.add (i * sz + j)) = (V b)[j]? := fun i b j hb hj => (hlg i b hb).1 j hj
    have hQ : ∀ b ∈ l, Q b := fun b hb => by
      obtain ⟨i, hi⟩ := List.getElem?_of_mem hb
      exact (hlg i b hi).2
    have xget : ∀ (l : List α) (i : Nat) b j, l[i]? = some b → j < sz → (l.flatMap V)[i * sz + j]? = (V b)[j]? := by
      intro l
      induction l with
      | nil => intro i b j hb; simp at hb
      | cons c l ih =>
        intro i b j hb hj
        cases i with
        | zero =>
          cases hb
          rw [List.flatMap_cons, Nat.zero_mul, Nat.zero_add, List.getElem?_append_left (by rw [(hV c).1]; exact hj)]
        | succ i =>
          rw [List.flatMap_cons, List.getElem?_append_right (by rw [(hV c).1, Nat.succ_mul]; omega), (hV c).1, show (i + 1) * sz + j - sz = i * sz + j by rw [Nat.succ_mul]; omega]
          exact ih i b j hb hj
    have xlen : ∀ l : List α, (l.flatMap V).length = l.length * sz := by
      intro l
      induction l with
      | nil => simp
      | cons c l ih => rw [List.flatMap_cons, List.length_append, (hV c).1, ih, List.length_cons, Nat.succ_mul]; omega
    have hVj : ∀ b j, j < sz → ∃ u, (V b)[j]? = some u ∧ u.oneCell' = true ∧ (K b)[j]? = some (.v u) := by
      intro b j hj
      obtain ⟨u, hu⟩ : ∃ u, (V b)[j]? = some u := ⟨_, List.getElem?_eq_getElem (by rw [(hV b).1]; exact hj)⟩
      refine ⟨u, hu, ?_, ?_⟩
      · exact List.all_eq_true.1 (hV b).2.1 u (List.mem_of_getElem? hu)
      · rw [(hV b).2.2, List.getElem?_map, hu]; rfl
    have hKl : ∀ b, (K b).length = sz := fun b => by rw [(hV b).2.2, List.length_map, (hV b).1]
    refine ⟨l, _, rfl, ?_, by omega, hQ⟩
    rw [← List.length_map (f := K)]
    refine C.sl (l.flatMap V) (fun i j => ((l.flatMap V)[i * sz + j]?).getD undef) ⟨by rw [xlen, List.length_map], fun hp => ?_⟩ (fun hp ad had => ?_) (by rw [List.length_map]; exact hl) hm (fun k e he => ?_) (fun k e j he hj => ?_) (fun k e j c he hj => ?_)
    · rw [List.length_map] at hp
      obtain ⟨b0, hb0⟩ : ∃ b, l[0]? = some b := ⟨_, List.getElem?_eq_getElem hp⟩
      obtain ⟨u0, hu0, _⟩ := hVj b0 0 h0
      have hc0 := hcell 0 b0 0 hb0 h0
      rw [hu0, Nat.zero_mul, Nat.zero_add] at hc0
      have hs : a.spot = none := by simpa [Addr.add] using World.cell?_spot hc0
      obtain ⟨b, off, spt⟩ := a
      simp only at hs
      subst hs
      refine ⟨b, off, rfl, Nat.zero_le _, ?_, fun j u hj => ?_⟩
      · have hc1 := hc0
        rw [show (⟨b, off, none⟩ : Addr).add 0 = ⟨b, off, none⟩ from rfl] at hc1
        obtain ⟨e', m, hsh, _, _⟩ := World.shape?_of_cell? hc1
        by_cases hb : b < W.heap.size
        · exact hb
        · rw [World.shape?, Array.getElem?_eq_none (by simpa using hb)] at hsh
          cases hsh
      · have hj1 : j < l.length * sz := by have := (List.getElem?_eq_some_iff.1 hj).1; rw [xlen] at this; exact this
        have hq : j / sz < l.length := Nat.div_lt_of_lt_mul (by rw [Nat.mul_comm]; exact hj1)
        obtain ⟨b1, hb1⟩ : ∃ b, l[j / sz]? = some b := ⟨_, List.getElem?_eq_getElem hq⟩
        have hm1 : j % sz < sz := Nat.mod_lt _ h0
        have ej : j / sz * sz + j % sz = j := by rw [Nat.mul_comm]; exact Nat.div_add_mod j sz
        have h3 := hcell _ b1 _ hb1 hm1
        have h4 := xget l _ b1 _ hb1 hm1
        rw [ej] at h3 h4
        rw [← h4, hj] at h3
        rw [← Go.WideShapes.add_plain]
        exact h3
    · rw [List.length_map] at hp
      cases had
      obtain ⟨b0, hb0⟩ : ∃ b, l[0]? = some b := ⟨_, List.getElem?_eq_getElem hp⟩
      obtain ⟨u0, hu0, _⟩ := hVj b0 0 h0
      have hc0 := hcell 0 b0 0 hb0 h0
      rw [hu0, Nat.zero_mul, Nat.zero_add] at hc0
      obtain ⟨e', m, hsh, _, _⟩ := World.shape?_of_cell? hc0
      refine hlv _ ?_
      by_cases hb : a.block < W.heap.size
      · exact hb
      · rw [World.shape?, Array.getElem?_eq_none (by simpa [Addr.add] using hb)] at hsh
        cases hsh
    · rw [List.getElem?_map, Option.map_eq_some_iff] at he
      obtain ⟨b, _, rfl⟩ := he
      exact hKl b
    · rw [List.getElem?_map, Option.map_eq_some_iff] at he
      obtain ⟨b, hb, rfl⟩ := he
      rw [hKl] at hj
      obtain ⟨u, hu, ho, _⟩ := hVj b j hj
      rw [xget l k b j hb hj, hu]
      exact ⟨rfl, ho⟩
    · rw [List.getElem?_map, Option.map_eq_some_iff] at he
      obtain ⟨b, hb, rfl⟩ := he
      have hj2 : j < sz := by have := (List.getElem?_eq_some_iff.1 hj).1; rwa [hKl] at this
      obtain ⟨u, hu, ho, hk⟩ := hVj b j hj2
      rw [hk] at hj
      cases hj
      rw [xget l k b j hb hj2, hu]
      exact C.v
theorem res_bool {fb : Nat → Prop} {b : Bool} {base : Nat} {w' : World} {rows : List Row} {rv : AV} {u : Value} (hd : vB b rv rows) (hr : Res fb base w' rows rv u) : u = .bool b := by
  obtain ⟨rfl, rfl⟩ := hd
  obtain ⟨loc, _, hG, _⟩ := hr
  cases hG with
  | cl hc => cases hc; rfl
end
end Go.Proofs.Ytepcabenjikhgaa
/-
  Opening the bytes that a law is handed.
-/
namespace Go.Proofs.Ytepcabenjikhgaa
open Go Go.RowKit Go.Proofs
set_option maxRecDepth 100000
section
variable {H : Type} {enc : TypeId × Value → H} {W : World} {base : Nat} {sp : Nat → Bool} {held : Bool} {fuel : Nat} {cs : List Value} {x : DataW H × List MemPlace}
theorem open_byte (h : DataW.trod enc Try.prog W base sp held fuel 5 cs = some x) : ∃ n : Int, cs = [.int .u8 n] ∧ 0 ≤ n ∧ n ≤ 255 := by
  obtain ⟨n, rfl, _, hw⟩ := DataW.trod_int Try.underlying5 h
  refine ⟨n, rfl, ?_⟩
  simp [Lit.wf, IntKind.min, IntKind.max, IntKind.signed, IntKind.bits] at hw
  omega
theorem open_bytes {lv : Nat → Prop} {v : Value} (hlv : ∀ b, b < W.heap.size → ¬ lv b) (h : DataW.trod enc Try.prog W 0 sp held fuel 37 [v] = some x) :
    ∃ z : List Int, C lv 0 W (byA z) v ∧ BytesOk z := by
  obtain ⟨l, u, h1, h2, h3, h4⟩ := open_sl (V := fun n : Int => [.int .u8 n]) (K := byC) (Q := fun n => 0 ≤ n ∧ n ≤ 255) (sz := 1) Try.underlying37 (by kernel_rfl) (by omega) (fun _ _ _ h => open_byte h) (fun a => ⟨rfl, rfl, rfl⟩) hlv h
  cases h1
  exact ⟨l, h2, h3, h4⟩
end
end Go.Proofs.Ytepcabenjikhgaa
