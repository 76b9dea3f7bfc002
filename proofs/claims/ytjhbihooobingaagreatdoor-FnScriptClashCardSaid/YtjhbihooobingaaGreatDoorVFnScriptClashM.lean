/- A part of the proof of FnScriptClash: texts VFnScriptClash. -/
import Derived.Test.YtjhbihooobingaaGreatDoorZs7
set_option linter.unusedSimpArgs false
set_option linter.unusedVariables false
/-
  Walks: FnScriptClash.
-/
namespace Go.Proofs.YtjhbihooobingaaGreatDoor
open Go Go.RowKit Go.Proofs
attribute [local irreducible] RWp AW run kPe pe Kt effA gd gu br retR RDp runD kPeD brW gW effD
set_option maxRecDepth 100000
theorem FnScriptClash_x : execT [97, 32, 47, 97, 32, 45, 32, 102, 49, 10, 115, 121, 110, 99, 10, 97, 32, 47, 97, 32, 102, 49, 32, 102, 50, 10, 98, 32, 47, 97, 32, 102, 49, 32, 102, 51, 10, 99, 108, 97, 115, 104, 101, 115, 10, 115, 121, 110, 99, 10, 115, 104, 111, 119, 10] = [111, 107, 10, 99, 108, 97, 115, 104, 101, 115, 32, 48, 10, 111, 107, 10, 111, 107, 10, 47, 97, 32, 102, 49, 32, 102, 50, 32, 124, 32, 47, 97, 32, 102, 49, 32, 102, 51, 10, 101, 110, 100, 10, 99, 108, 97, 115, 104, 101, 115, 32, 49, 10, 97, 32, 47, 97, 61, 102, 50, 10, 98, 32, 47, 97, 61, 102, 51, 10, 99, 111, 109, 109, 111, 110, 32, 47, 97, 61, 102, 49, 10] := by decide +kernel
theorem FnScriptClash_pc (z : List Int) (hz : BytesOk z) : PC Tryz.prog 10 [byA z] (vB true) := by
  refine pc_enter Tryz.func10 rfl rfl fun w0 fb => go_on ?_; (try simp only [Tryz.ntmps10, push_cast, simprocAttr])
  refine at_b (fun hb => ?_) (fun hb => ?_)
  · (try simp only [hb, push_cast, simprocAttr])
    refine at_ret ?_; simp only [Tryz.results10, push_cast, simprocAttr]
    simp [vX]
  · (try simp only [hb, push_cast, simprocAttr])
    refine call_share (by simp [isC]) (DrawExecute_pc z hz) ?_
    rintro rv rows ⟨t, ht, rfl, rfl⟩
    have hI := Execute_pc t
    have hS := specExecute_pc t
    obtain ⟨o, ho⟩ : ∃ o, o = execT t := ⟨_, rfl⟩
    rw [← ho] at hI hS
    refine ⟨by simp [frB, baseOf], go_on ?_⟩
    (try simp only [push_cast, simprocAttr])
    (refine at_call ?_; (try simp only [push_cast, simprocAttr]); refine rwc_v (hI) (go_on ?_); (try simp only [push_cast, simprocAttr]))
    (refine at_call ?_; (try simp only [push_cast, simprocAttr]); refine rwc_v (hS) (go_on ?_); (try simp only [push_cast, simprocAttr]))
    (try simp only [decide_true, Bool.not_true, push_cast, simprocAttr])
    have hX := Execute_pc [97, 32, 47, 97, 32, 45, 32, 102, 49, 10, 115, 121, 110, 99, 10, 97, 32, 47, 97, 32, 102, 49, 32, 102, 50, 10, 98, 32, 47, 97, 32, 102, 49, 32, 102, 51, 10, 99, 108, 97, 115, 104, 101, 115, 10, 115, 121, 110, 99, 10, 115, 104, 111, 119, 10]
    rw [FnScriptClash_x] at hX
    obtain ⟨x, hx⟩ : ∃ x : Str, x = [111, 107, 10, 99, 108, 97, 115, 104, 101, 115, 32, 48, 10, 111, 107, 10, 111, 107, 10, 47, 97, 32, 102, 49, 32, 102, 50, 32, 124, 32, 47, 97, 32, 102, 49, 32, 102, 51, 10, 101, 110, 100, 10, 99, 108, 97, 115, 104, 101, 115, 32, 49, 10, 97, 32, 47, 97, 61, 102, 50, 10, 98, 32, 47, 97, 61, 102, 51, 10, 99, 111, 109, 109, 111, 110, 32, 47, 97, 61, 102, 49, 10] := ⟨_, rfl⟩
    have e1 : decide (x = [111, 107, 10, 99, 108, 97, 115, 104, 101, 115, 32, 48, 10, 111, 107, 10, 111, 107, 10, 47, 97, 32, 102, 49, 32, 102, 50, 32, 124, 32, 47, 97, 32, 102, 49, 32, 102, 51, 10, 101, 110, 100, 10, 99, 108, 97, 115, 104, 101, 115, 32, 49, 10, 97, 32, 47, 97, 61, 102, 50, 10, 98, 32, 47, 97, 61, 102, 51, 10, 99, 111, 109, 109, 111, 110, 32, 47, 97, 61, 102, 49, 10]) = true := by simp [hx]
    rw [← hx] at hX
    (refine at_call ?_; (try simp only [push_cast, simprocAttr]); refine rwc_v (hX) (go_on ?_); (try simp only [push_cast, simprocAttr]))
    (try simp only [e1, push_cast, simprocAttr])
    refine at_ret ?_; simp only [Tryz.results10, push_cast, simprocAttr]
    simp [vX]
end Go.Proofs.YtjhbihooobingaaGreatDoor
