/-
  Plain laws of Put and Get: what a number's bytes read back as.
-/
import Derived.Test.YtjinjlfocjohhaaDoorLends
namespace Go.Proofs.YtjinjlfocjohhaaDoor
open Go.RowKit
set_option linter.unusedSimpArgs false
set_option linter.unusedVariables false

theorem emod_mul (q m : Int) (hm : 0 < m) : q % (m * 256) = (q / 256 % m) * 256 + q % 256 := by
  have h1 := Int.emod_nonneg q (show (256 : Int) ≠ 0 by decide)
  have h2 := Int.emod_lt_of_pos q (show (0 : Int) < 256 by decide)
  have h3 := Int.emod_nonneg (q / 256) (Int.ne_of_gt hm)
  have h4 := Int.emod_lt_of_pos (q / 256) hm
  have h5 := Int.mul_ediv_add_emod q 256
  have h6 := Int.mul_ediv_add_emod (q / 256) m
  have h7 : q = (q / 256 % m * 256 + q % 256) + (m * 256) * (q / 256 / m) := by
    have : (m * 256) * (q / 256 / m) = 256 * (m * (q / 256 / m)) := by rw [Int.mul_comm m 256, Int.mul_assoc]
    rw [this]
    omega
  have h8 : q / 256 % m * 256 + q % 256 < m * 256 := by omega
  conv => lhs; rw [h7]
  rw [Int.add_mul_emod_self_left]
  exact Int.emod_eq_of_lt (by omega) h8

theorem two_pow_8 (k : Nat) : (2 : Int) ^ (8 * k) = 256 ^ k := by
  rw [Int.pow_mul]; rfl

theorem num_be (n : Nat) (u : Int) : ∀ k, k ≤ n → num (be n u k) = u / 256 ^ (n - k) % 256 ^ k
  | 0, _ => by simp [be, num, Int.emod_one]
  | k + 1, h => by
    have ih := num_be n u k (by omega)
    rw [be_succ, num_snoc, ih, two_pow_8, Int.pow_succ 256 k, emod_mul _ _ (Int.pow_pos (by decide))]
    have e1 : n - k = (n - (k + 1)) + 1 := by omega
    have e2 : n - 1 - k = n - (k + 1) := by omega
    rw [e1, e2, Int.pow_succ, Int.ediv_ediv_of_nonneg (Int.le_of_lt (Int.pow_pos (by decide)))]

theorem get_put (k v : Int) (h0 : 0 ≤ v) (h1 : v ≤ 18446744073709551615) : get (put [] k v) k = cut v k := by
  cases hg : good k
  · rw [cut_bad hg]; simp [get, hg]
  · have hk := good_cases hg
    obtain ⟨m, rfl⟩ : ∃ m : Nat, k = m := ⟨k.toNat, by rcases hk with rfl | rfl | rfl | rfl <;> rfl⟩
    have e : put [] m v = be m v m := by simp [put, hg]
    have e2 : get (be m v m) m = num (be m v m) := by
      simp only [get, hg, be_length, Int.le_refl, decide_true, Bool.and_true, if_true, Int.toNat_natCast]
      rw [List.take_of_length_le (by simp [be_length])]
    rw [e, e2, num_be m v m (Nat.le_refl _), Nat.sub_self]
    have hk' : m = 1 ∨ m = 2 ∨ m = 4 ∨ m = 8 := by omega
    rcases hk' with rfl | rfl | rfl | rfl
    · show v / 256 ^ 0 % 256 ^ 1 = cut v 1; rw [cut_1]; simp
    · show v / 256 ^ 0 % 256 ^ 2 = cut v 2; rw [cut_2]; simp
    · show v / 256 ^ 0 % 256 ^ 4 = cut v 4; rw [cut_4]; simp
    · show v / 256 ^ 0 % 256 ^ 8 = cut v 8; rw [cut_8]; simp; omega
end Go.Proofs.YtjinjlfocjohhaaDoor
