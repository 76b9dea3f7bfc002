/- A part of the proof of FnExactExecute: texts VFnExactExecute. -/
import Derived.Test.YtjhbihooobingaaGreatDoorZs7
set_option linter.unusedSimpArgs false
set_option linter.unusedVariables false
/-
  Walks: FnExactExecute.
-/
namespace Go.Proofs.YtjhbihooobingaaGreatDoor
open Go Go.RowKit Go.Proofs
attribute [local irreducible] RWp AW run kPe pe Kt effA gd gu br retR RDp runD kPeD brW gW effD
set_option maxRecDepth 100000
theorem FnExactExecute_pc (t : Str) (ht : t.length ≤ maxLen) : PC Tryz.prog 6 [sA t] (vB true) := by
  have hI := Execute_pc t
  have hS := specExecute_pc t
  obtain ⟨o, ho⟩ : ∃ o, o = execT t := ⟨_, rfl⟩
  rw [← ho] at hI hS
  refine pc_enter Tryz.func6 rfl rfl fun w0 fb => go_on ?_; (try simp only [Tryz.ntmps6, push_cast, simprocAttr])
  refine at_b (fun hb => ?_) (fun hb => ?_)
  · (try simp only [hb, push_cast, simprocAttr])
    refine at_ret ?_; simp only [Tryz.results6, push_cast, simprocAttr]
    simp [vX]
  · (try simp only [hb, push_cast, simprocAttr])
    (refine at_call ?_; (try simp only [push_cast, simprocAttr]); refine rwc_v (hS) (go_on ?_); (try simp only [push_cast, simprocAttr]))
    (refine at_call ?_; (try simp only [push_cast, simprocAttr]); refine rwc_v (hI) (go_on ?_); (try simp only [push_cast, simprocAttr]))
    (try simp only [decide_true, Bool.not_true, push_cast, simprocAttr])
    refine at_ret ?_; simp only [Tryz.results6, push_cast, simprocAttr]
    simp [vX]
end Go.Proofs.YtjhbihooobingaaGreatDoor
