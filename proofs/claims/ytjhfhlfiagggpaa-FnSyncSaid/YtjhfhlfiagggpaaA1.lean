/- Small functions: in, l6In, isByte, bytesValid, l4Bytes, slices.Clone at []int. -/
import Derived.Test.YtjhfhlfiagggpaaProg
import Derived.Test.YtjhfhlfiagggpaaK6
import Derived.BigQuiet
import Derived.Deep.QuietTactic
namespace Go.Proofs.Ytjhfhlfiagggpaa
open Go Go.RowKit


theorem in_any (n l h : Int) (w : World) :
    Calls Try.prog 46 #[.int .i64 n, .int .i64 l, .int .i64 h] w fun e w' => e = .returned (.bool (inB n l h)) ∧ w' = w := by
  go_enter Try.func46, Try.ntmps46
  go_wp2
  all_goals go_ret
  all_goals exact ⟨by first | (simp [inB, *]; done) | (simp [inB]; omega), rfl⟩

theorem l6In_any (n l h : Int) (w : World) :
    Calls Try.prog 49 #[.int .i64 n, .int .i64 l, .int .i64 h] w fun e w' => e = .returned (.bool (inB n l h)) ∧ w' = w := by
  go_enter Try.func49, Try.ntmps49
  go_wp2
  all_goals go_ret
  all_goals exact ⟨by first | (simp [inB, *]; done) | (simp [inB]; omega), rfl⟩

theorem isByte_any (n : Int) (w : World) :
    Calls Try.prog 78 #[.int .i64 n] w fun e w' => e = .returned (.bool (byteB n)) ∧ w' = w := by
  go_enter Try.func78, Try.ntmps78
  go_wp2_with (go_at_call 46; refine (in_any _ _ _ _).mono ?_; rintro e w' ⟨rfl, rfl⟩)
  all_goals go_ret
  all_goals exact ⟨rfl, rfl⟩

theorem notByte_any (n : Int) (w : World) :
    Calls Try.prog 77 #[.int .i64 n] w fun e w' => e = .returned (.bool (!byteB n)) ∧ w' = w := by
  go_enter Try.func77, Try.ntmps77
  go_wp2_with (go_at_call 78; refine (isByte_any _ _).mono ?_; rintro e w' ⟨rfl, rfl⟩)
  all_goals go_ret
  all_goals exact ⟨rfl, rfl⟩

end Go.Proofs.Ytjhfhlfiagggpaa
