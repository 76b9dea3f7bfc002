/- A part of the proof of FnScript: texts VFnScript. -/
import Derived.Test.YtjhbihooobingaaGreatDoorZs7
set_option linter.unusedSimpArgs false
set_option linter.unusedVariables false
/-
  Walks: FnScript.
-/
namespace Go.Proofs.YtjhbihooobingaaGreatDoor
open Go Go.RowKit Go.Proofs
attribute [local irreducible] RWp AW run kPe pe Kt effA gd gu br retR RDp runD kPeD brW gW effD
set_option maxRecDepth 100000
theorem FnScript_pc (z : List Int) (hz : BytesOk z) : PC Tryz.prog 7 [byA z] (vB true) := by
  refine pc_enter Tryz.func7 rfl rfl fun w0 fb => go_on ?_; (try simp only [Tryz.ntmps7, push_cast, simprocAttr])
  refine at_b (fun hb => ?_) (fun hb => ?_)
  · (try simp only [hb, push_cast, simprocAttr])
    refine at_ret ?_; simp only [Tryz.results7, push_cast, simprocAttr]
    simp [vX]
  · (try simp only [hb, push_cast, simprocAttr])
    refine call_share (by simp [isC]) (DrawExecute_pc z hz) ?_
    rintro rv rows ⟨t, ht, rfl, rfl⟩
    have hI := Execute_pc t
    have hS := specExecute_pc t
    obtain ⟨o, ho⟩ : ∃ o, o = execT t := ⟨_, rfl⟩
    rw [← ho] at hI hS
    refine ⟨by simp [frB, baseOf], go_on ?_⟩
    (try simp only [push_cast, simprocAttr])
    (refine at_call ?_; (try simp only [push_cast, simprocAttr]); refine rwc_v (hI) (go_on ?_); (try simp only [push_cast, simprocAttr]))
    (refine at_call ?_; (try simp only [push_cast, simprocAttr]); refine rwc_v (hS) (go_on ?_); (try simp only [push_cast, simprocAttr]))
    (try simp only [decide_true, Bool.not_true, push_cast, simprocAttr])
    by_cases h600 : 600 < t.length
    · have i0 : ltI 600 (t.length : Int) = true := ltI_t (by omega)
      have e1 : decide (o = [116, 111, 111, 32, 108, 111, 110, 103, 10]) = true := by rw [ho, law_long h600]; rfl
      (try simp only [i0, e1, push_cast, simprocAttr])
      refine at_ret ?_; simp only [Tryz.results7, push_cast, simprocAttr]
      simp [vX]
    · have i0 : ltI 600 (t.length : Int) = false := ltI_f (by omega)
      obtain ⟨h1, h2⟩ := law_script (t := t) (by omega)
      rw [← ho] at h2
      have hX := Execute_pc []
      obtain ⟨x, hx⟩ : ∃ x : Str, x = execT [] := ⟨_, rfl⟩
      have e1 : decide (x = [99, 111, 109, 109, 111, 110, 10]) = true := by rw [hx, h1]; rfl
      have i1 : ltI 0 (o.length : Int) = true := ltI_t (by omega)
      rw [← hx] at hX
      (try simp only [i0, push_cast, simprocAttr])
      (refine at_call ?_; (try simp only [push_cast, simprocAttr]); refine rwc_v (hX) (go_on ?_); (try simp only [push_cast, simprocAttr]))
      (try simp only [e1, i1, push_cast, simprocAttr])
      refine at_ret ?_; simp only [Tryz.results7, push_cast, simprocAttr]
      simp [vX]
end Go.Proofs.YtjhbihooobingaaGreatDoor
