/- int's arithmetic, an equation an operation. -/
import Derived.Test.YtjhfhlfiagggpaaK9
import Derived.IntWalk
namespace Go.Proofs.Ytjhfhlfiagggpaa
open Go Go.RowKit

theorem run_rem (x y : Int) (hx : 0 ≤ x) (hy : 0 < y) (W : World) : (binOp .rem 3 (.int .i64 x) (.int .i64 y)).run Try.prog W = .ok (.int .i64 (x % y)) W := by
  have hy' : ¬ y = 0 := by omega
  have h := IntWalk.rem_in x y hx
  have HH := Lib.hid h
  clear h
  go_simp
  rw [HH.out]
theorem run_quo (x y : Int) (hx : 0 ≤ x) (hx2 : x ≤ 9223372036854775807) (hy : 0 < y) (W : World) : (binOp .quo 3 (.int .i64 x) (.int .i64 y)).run Try.prog W = .ok (.int .i64 (x / y)) W := by
  have hy' : ¬ y = 0 := by omega
  have h := IntWalk.i64_quo x y ⟨hx, hx2, by omega⟩
  have HH := Lib.hid h
  clear h
  go_simp
  first | rw [HH.out] | skip
theorem run_mul (x y z : Int) (hz : x * y = z) (h1 : -9223372036854775808 ≤ z) (h2 : z ≤ 9223372036854775807) (W : World) : (binOp .mul 3 (.int .i64 x) (.int .i64 y)).run Try.prog W = .ok (.int .i64 z) W := by
  subst hz
  have h := IntWalk.i64_in (x * y) ⟨h1, h2⟩
  have HH := Lib.hid h
  clear h
  go_simp
  exact HH.out
theorem run_add (x y z : Int) (hz : x + y = z) (h1 : -9223372036854775808 ≤ z) (h2 : z ≤ 9223372036854775807) (W : World) : (binOp .add 3 (.int .i64 x) (.int .i64 y)).run Try.prog W = .ok (.int .i64 z) W := by
  subst hz
  have h := IntWalk.i64_in (x + y) ⟨h1, h2⟩
  have HH := Lib.hid h
  clear h
  go_simp
  exact HH.out
theorem w64_in (n : Int) (h : 0 ≤ n ∧ n ≤ 9223372036854775807) : wrap64 n = n := by unfold wrap64; omega
theorem ofInt_i64 (a : Nat) (ha : a < 9223372036854775808) : (BitVec.ofInt 64 (a : Int)).toNat = a := by
  rw [BitVec.ofInt_natCast, BitVec.toNat_ofNat]; exact Nat.mod_eq_of_lt (by omega)
theorem i64_xor_nat (a b : Nat) (ha : a < 9223372036854775808) (hb : b < 9223372036854775808) : bits .xor .i64 (a : Int) (b : Int) = ((a ^^^ b : Nat) : Int) := by
  have hx : a ^^^ b < 2 ^ 63 := Nat.xor_lt_two_pow (by omega) (by omega)
  show IntKind.i64.wrap ((BitVec.ofInt 64 (a : Int) ^^^ BitVec.ofInt 64 (b : Int)).toNat : Int) = _
  rw [BitVec.toNat_xor, ofInt_i64 a ha, ofInt_i64 b hb, IntKind.wrap_i64]
  omega
theorem run_xor (a b : Nat) (ha : a < 9223372036854775808) (hb : b < 9223372036854775808) (W : World) : (binOp .xor 3 (.int .i64 (a : Int)) (.int .i64 (b : Int))).run Try.prog W = .ok (.int .i64 ((a ^^^ b : Nat) : Int)) W := by
  have HH := Lib.hid (i64_xor_nat a b ha hb)
  go_simp
  exact HH.out
end Go.Proofs.Ytjhfhlfiagggpaa
