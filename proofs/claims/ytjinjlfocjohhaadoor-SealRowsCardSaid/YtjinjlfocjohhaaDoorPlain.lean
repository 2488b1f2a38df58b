/-
  Plain facts on whole numbers of given widths (no program in sight).
-/
import Derived.WalkKit
import Derived.Laws.BitsAllLaws
namespace Go.Proofs.YtjinjlfocjohhaaDoor
set_option linter.unusedSimpArgs false
set_option linter.unusedVariables false
open Go.RowKit

theorem wrap_i8 (n : Int) : IntKind.i8.wrap n = (n + 128) % 256 - 128 := by
  simp only [IntKind.wrap, IntKind.bits, IntKind.signed]; simp; split <;> omega
theorem wrap_i16 (n : Int) : IntKind.i16.wrap n = (n + 32768) % 65536 - 32768 := by
  simp only [IntKind.wrap, IntKind.bits, IntKind.signed]; simp; split <;> omega
theorem wrap_u64 (n : Int) : IntKind.u64.wrap n = n % 18446744073709551616 := by
  simp [IntKind.wrap, IntKind.bits, IntKind.signed]
theorem wrap_wrap64 (n : Int) : wrap64 n = (n + 9223372036854775808) % 18446744073709551616 - 9223372036854775808 := by unfold wrap64; omega

theorem wrap_wrap32 (n : Int) : wrap32 n = (n + 2147483648) % 4294967296 - 2147483648 := by unfold wrap32; omega

theorem and_i64_16 (n : Int) : bits .and .i64 n 65535 = n % 65536 := by
  unfold bits
  have h : (BitVec.ofInt 64 n &&& BitVec.ofInt 64 65535).toNat = (n % 65536).toNat := by
    rw [BitVec.toNat_and]
    have h2 : (BitVec.ofInt 64 65535).toNat = 2 ^ 16 - 1 := by decide
    rw [h2, Nat.and_two_pow_sub_one_eq_mod, BitVec.toNat_ofInt]
    omega
  simp only [IntKind.bits] at h ⊢
  show IntKind.i64.wrap (((BitVec.ofInt 64 n &&& BitVec.ofInt 64 65535).toNat : Nat) : Int) = _
  rw [h, IntKind.wrap_i64]
  omega

/-- a width? -/
def good (n : Int) : Bool := n == 1 || n == 2 || n == 4 || n == 8
/-- the lowest bytes. -/
def cut (v n : Int) : Int := if n = 1 then v % 256 else if n = 2 then v % 65536 else if n = 4 then v % 4294967296 else if n = 8 then v else 0
/-- they, with a sign. -/
def sgn (v n : Int) : Int := if n = 1 then (v + 128) % 256 - 128 else if n = 2 then (v + 32768) % 65536 - 32768 else if n = 4 then (v + 2147483648) % 4294967296 - 2147483648
  else if n = 8 then (v + 9223372036854775808) % 18446744073709551616 - 9223372036854775808 else 0
theorem good_cases {n : Int} (h : good n = true) : n = 1 ∨ n = 2 ∨ n = 4 ∨ n = 8 := by
  simp [good] at h; omega
theorem good_not {n : Int} (h : good n = false) : n ≠ 1 ∧ n ≠ 2 ∧ n ≠ 4 ∧ n ≠ 8 := by
  simp [good] at h; omega
theorem cut_bad {v n : Int} (h : good n = false) : cut v n = 0 := by
  obtain ⟨h1, h2, h3, h4⟩ := good_not h
  simp [cut, h1, h2, h3, h4]
theorem sgn_bad {v n : Int} (h : good n = false) : sgn v n = 0 := by
  obtain ⟨h1, h2, h3, h4⟩ := good_not h
  simp [sgn, h1, h2, h3, h4]
theorem ret_int {k : IntKind} {a b : Int} (h : a = b) : Ending.returned (.int k a) = .returned (.int k b) := by rw [h]
theorem ret_bool {a b : Bool} (h : a = b) : Ending.returned (.bool a) = .returned (.bool b) := by rw [h]
theorem cut_1 (v : Int) : cut v 1 = v % 256 := by simp [cut]
theorem cut_2 (v : Int) : cut v 2 = v % 65536 := by simp [cut]
theorem cut_4 (v : Int) : cut v 4 = v % 4294967296 := by simp [cut]
theorem cut_8 (v : Int) : cut v 8 = v := by simp [cut]
theorem sgn_1 (v : Int) : sgn v 1 = (v + 128) % 256 - 128 := by simp [sgn]
theorem sgn_2 (v : Int) : sgn v 2 = (v + 32768) % 65536 - 32768 := by simp [sgn]
theorem sgn_4 (v : Int) : sgn v 4 = (v + 2147483648) % 4294967296 - 2147483648 := by simp [sgn]
theorem sgn_8 (v : Int) : sgn v 8 = (v + 9223372036854775808) % 18446744073709551616 - 9223372036854775808 := by simp [sgn]
end Go.Proofs.YtjinjlfocjohhaaDoor
