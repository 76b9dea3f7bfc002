/- A part of the proof of FnScriptCut: texts VFnScriptCut. -/
import Derived.Test.YtjhbihooobingaaGreatDoorZs7
set_option linter.unusedSimpArgs false
set_option linter.unusedVariables false
/-
  Walks: FnScriptCut.
-/
namespace Go.Proofs.YtjhbihooobingaaGreatDoor
open Go Go.RowKit Go.Proofs
attribute [local irreducible] RWp AW run kPe pe Kt effA gd gu br retR RDp runD kPeD brW gW effD
set_option maxRecDepth 100000
theorem FnScriptCut_pc (z : List Int) (hz : BytesOk z) : PC Tryz.prog 4 [byA z] (vB true) := by
  refine pc_enter Tryz.func4 rfl rfl fun w0 fb => go_on ?_; (try simp only [Tryz.ntmps4, push_cast, simprocAttr])
  refine at_b (fun hb => ?_) (fun hb => ?_)
  · (try simp only [hb, push_cast, simprocAttr])
    refine at_ret ?_; simp only [Tryz.results4, push_cast, simprocAttr]
    simp [vX]
  · (try simp only [hb, push_cast, simprocAttr])
    refine call_share (by simp [isC]) (DrawExecute_pc z hz) ?_
    rintro rv rows ⟨t, ht, rfl, rfl⟩
    have hI := Execute_pc t
    have hS := specExecute_pc t
    obtain ⟨o, ho⟩ : ∃ o, o = execT t := ⟨_, rfl⟩
    rw [← ho] at hI hS
    refine ⟨by simp [frB, baseOf], go_on ?_⟩
    (try simp only [push_cast, simprocAttr])
    (refine at_call ?_; (try simp only [push_cast, simprocAttr]); refine rwc_v (hI) (go_on ?_); (try simp only [push_cast, simprocAttr]))
    (refine at_call ?_; (try simp only [push_cast, simprocAttr]); refine rwc_v (hS) (go_on ?_); (try simp only [push_cast, simprocAttr]))
    (try simp only [decide_true, Bool.not_true, push_cast, simprocAttr])
    by_cases h600 : 600 < t.length
    · have i0 : ltI 600 (t.length : Int) = true := ltI_t (by omega)
      (try simp only [i0, decide_true, push_cast, simprocAttr])
      refine at_ret ?_; simp only [Tryz.results4, push_cast, simprocAttr]
      simp [vX]
    · have i0 : ltI 600 (t.length : Int) = false := ltI_f (by omega)
      have hc := law_cut (t := t) (by omega)
      have hC := completeLines_pc t (by omega)
      have hX := Execute_pc (cplT t)
      rw [hc, ← ho] at hX
      (try simp only [i0, push_cast, simprocAttr])
      (refine at_call ?_; (try simp only [push_cast, simprocAttr]); refine rwc_v (hC) (go_on ?_); (try simp only [push_cast, simprocAttr]))
      (refine at_call ?_; (try simp only [push_cast, simprocAttr]); refine rwc_v (hX) (go_on ?_); (try simp only [push_cast, simprocAttr]))
      (try simp only [decide_true, push_cast, simprocAttr])
      refine at_ret ?_; simp only [Tryz.results4, push_cast, simprocAttr]
      simp [vX]
end Go.Proofs.YtjhbihooobingaaGreatDoor
