/- A part of the proof of FnScriptWhat: texts VFnScriptWhat. -/
import Derived.Test.YtjhbihooobingaaGreatDoorZs7
set_option linter.unusedSimpArgs false
set_option linter.unusedVariables false
/-
  Walks: FnScriptWhat.
-/
namespace Go.Proofs.YtjhbihooobingaaGreatDoor
open Go Go.RowKit Go.Proofs
attribute [local irreducible] RWp AW run kPe pe Kt effA gd gu br retR RDp runD kPeD brW gW effD
set_option maxRecDepth 100000
theorem FnScriptWhat_pc (z : List Int) (hz : BytesOk z) : PC Tryz.prog 5 [byA z] (vB true) := by
  refine pc_enter Tryz.func5 rfl rfl fun w0 fb => go_on ?_; (try simp only [Tryz.ntmps5, push_cast, simprocAttr])
  refine at_b (fun hb => ?_) (fun hb => ?_)
  · (try simp only [hb, push_cast, simprocAttr])
    refine at_ret ?_; simp only [Tryz.results5, push_cast, simprocAttr]
    simp [vX]
  · (try simp only [hb, push_cast, simprocAttr])
    refine call_share (by simp [isC]) (DrawExecute_pc z hz) ?_
    rintro rv rows ⟨t, ht, rfl, rfl⟩
    have hI := Execute_pc t
    have hS := specExecute_pc t
    obtain ⟨o, ho⟩ : ∃ o, o = execT t := ⟨_, rfl⟩
    rw [← ho] at hI hS
    refine ⟨by simp [frB, baseOf], go_on ?_⟩
    (try simp only [push_cast, simprocAttr])
    (refine at_call ?_; (try simp only [push_cast, simprocAttr]); refine rwc_v (hI) (go_on ?_); (try simp only [push_cast, simprocAttr]))
    (refine at_call ?_; (try simp only [push_cast, simprocAttr]); refine rwc_v (hS) (go_on ?_); (try simp only [push_cast, simprocAttr]))
    (try simp only [decide_true, Bool.not_true, push_cast, simprocAttr])
    have w1 := wr ((t.length : Int) + 4) (by omega)
    by_cases h600 : 600 < t.length + 4
    · have i0 : ltI 600 ((t.length : Int) + 4) = true := ltI_t (by omega)
      (try simp only [w1, i0, decide_true, push_cast, simprocAttr])
      refine at_ret ?_; simp only [Tryz.results5, push_cast, simprocAttr]
      simp [vX]
    · have i0 : ltI 600 ((t.length : Int) + 4) = false := ltI_f (by omega)
      have hc := law_what (t := t) (by omega)
      have hcl := cplT_len t
      have hC := completeLines_pc t (by omega)
      obtain ⟨x, hx⟩ : ∃ x, x = cplT t := ⟨_, rfl⟩
      rw [← hx] at hc hC hcl
      have hX := Execute_pc x
      have hZ := Execute_pc (x ++ [122, 122, 122, 10])
      have hc' : execT (x ++ [122, 122, 122, 10]) = _ := hc
      rw [hc'] at hZ
      have hyl := execT_len x
      obtain ⟨y, hy⟩ : ∃ y, y = execT x := ⟨_, rfl⟩
      rw [← hy] at hX hZ hyl
      have hE := lastLine_pc y (by omega)
      have hel := lstT_len y
      obtain ⟨e, he⟩ : ∃ e, e = lstT y := ⟨_, rfl⟩
      rw [← he] at hE hel hZ
      obtain ⟨m, hm⟩ : ∃ m, m = y.length - e.length := ⟨_, rfl⟩
      rw [← hm] at hZ
      have w2 : IntKind.i64.wrap ((y.length : Int) - e.length) = (m : Int) := by rw [wr _ (by omega)]; omega
      have c1 : (0 : Int) ≤ m := by omega
      have c2 : (m : Int) ≤ y.length := by omega
      have c3 : m ≤ y.length := by omega
      have f0 : x.length ≤ 9223372036854775803 := by omega
      obtain ⟨u, hu⟩ : ∃ u, u = List.take m y := ⟨_, rfl⟩
      have hul : u.length ≤ y.length := by rw [hu, List.length_take]; omega
      have hu' := hu.symm
      rw [hu'] at hZ
      have f1 : u.length ≤ 9223372036854775802 := by omega
      have f2 : (u ++ [119, 104, 97, 116, 10]).length + e.length ≤ 9223372036854775807 := by simp; omega
      obtain ⟨r, hr⟩ : ∃ r, r = (u ++ [119, 104, 97, 116, 10]) ++ e := ⟨_, rfl⟩
      have hr2 : u ++ (wWhat ++ e) = r := by rw [hr]; simp [wWhat]
      rw [hr2] at hZ
      have hr' := hr.symm
      (try simp only [w1, i0, push_cast, simprocAttr])
      (refine at_call ?_; (try simp only [push_cast, simprocAttr]); refine rwc_v (hC) (go_on ?_); (try simp only [push_cast, simprocAttr]))
      (refine at_call ?_; (try simp only [push_cast, simprocAttr]); refine rwc_v (hX) (go_on ?_); (try simp only [push_cast, simprocAttr]))
      (refine at_call ?_; (try simp only [push_cast, simprocAttr]); refine rwc_v (hE) (go_on ?_); (try simp only [push_cast, simprocAttr]))
      refine at_draw rfl (by kernel_rfl) ?_; simp only [push_cast, simprocAttr]
      (try simp only [f0, push_cast, simprocAttr])
      repeat' first | (refine at_bWn (fun hb => ?_) (fun hb => ?_) <;> simp only [f0, f1, f2, w2, c1, c2, hu', hr', decide_true, hb, push_cast, simprocAttr]) | (refine at_bW (fun hb => ?_) (fun hb => ?_) <;> simp only [f0, f1, f2, w2, c1, c2, hu', hr', decide_true, hb, push_cast, simprocAttr]) | (refine at_callD (by simp [clB, idsL, idsA, hget]) ?_; (try simp only [push_cast, simprocAttr]); first | (refine rcd_v (hZ) ?_; simp only [f0, f1, f2, w2, c1, c2, hu', hr', decide_true, push_cast, simprocAttr]) | (refine rcd_d (hZ) (by simp [flatV, flatL, ctC, ndC, cmC]) (by simp [ren, ctC, ndC, cmC]) ?_; simp only [f0, f1, f2, w2, c1, c2, hu', hr', decide_true, push_cast, simprocAttr])) | (refine at_done (by kernel_rfl) (by kernel_rfl) (go_on ?_); (try simp only [f0, f1, f2, w2, c1, c2, hu', hr', decide_true, push_cast, simprocAttr]))
      (try simp only [decide_true, push_cast, simprocAttr])
      refine at_ret ?_; simp only [Tryz.results5, push_cast, simprocAttr]
      simp [vX]
end Go.Proofs.YtjhbihooobingaaGreatDoor
