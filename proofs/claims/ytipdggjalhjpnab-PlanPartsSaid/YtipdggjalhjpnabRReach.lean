/-
  Topologies: plain words for the reference's Far.
-/
import Derived.Test.YtipdggjalhjpnabFar
namespace Go.Proofs.Ytipdggjalhjpnab
open Go.RowKit
set_option linter.unusedSimpArgs false
set_option linter.unusedVariables false

def boolA (f : Nat → Bool) : Array Value := ((List.range 9).map fun b => Value.bool (f b)).toArray
theorem boolA_get (f : Nat → Bool) {k : Nat} (hk : k < 9) : (boolA f)[k]? = some (.bool (f k)) := by simp [boolA, hk]
theorem boolA_set (f g : Nat → Bool) {k : Nat} (hk : k < 9) (d : Bool) (h1 : g k = d) (h2 : ∀ b, b ≠ k → g b = f b) : (boolA f).setIfInBounds k (.bool d) = boolA g := by
  apply Array.ext_getElem?
  intro j
  rw [Array.getElem?_setIfInBounds]
  by_cases hj : k = j
  · subst hj
    simp [boolA, hk, h1]
  · rw [if_neg hj]
    by_cases h9 : j < 9
    · simp [boolA, h9, h2 j (Ne.symm hj)]
    · simp [boolA, h9]
theorem boolA_congr {f g : Nat → Bool} (h : ∀ b, b < 9 → f b = g b) : boolA f = boolA g := by
  unfold boolA
  congr 1
  exact List.map_congr_left fun b hb => by rw [h b (List.mem_range.1 hb)]
theorem size35b (f : Nat → Bool) : (Try.prog.info? 35).map (·.size) = some (boolA f).size := by
  rw [show (boolA f).size = 9 by simp [boolA]]; kernel_rfl
theorem boolA_one (f : Nat → Bool) : (boolA f).all (·.oneCell') = true := by simp [boolA, Value.oneCell']
/-- What the reference has at k, behind the first j of the sites that lead there. -/
def moreK (es : List (Int × Int)) (a n k j : Nat) : Bool := rch es a n k || (List.range j).any fun i => rch es a n i && hasE es i k
theorem moreK_succ (es : List (Int × Int)) (a n k j : Nat) : moreK es a n k (j + 1) = (moreK es a n k j || (rch es a n j && hasE es j k)) := by
  unfold moreK
  rw [List.range_succ, List.any_append]
  simp [Bool.or_assoc]
theorem moreK_one {S : Int} {es : List (Int × Int)} (h : okE S es) {a : Nat} (ha : 1 ≤ a) (ha2 : (a : Int) ≤ S) (n k : Nat) : moreK es a n k 1 = rch es a n k := by
  rw [moreK_succ]
  have : rch es a n 0 = false := by
    cases hr : rch es a n 0 with
    | false => rfl
    | true => have := rch_in h ha ha2 hr; omega
  rw [this]
  simp [moreK]
theorem moreK_all {S : Int} {es : List (Int × Int)} (h : okE S es) (hS : S ≤ 8) {a : Nat} (ha : 1 ≤ a) (ha2 : (a : Int) ≤ S) (n k : Nat) {j : Nat} (hj : S < j) (hj9 : j ≤ 9) : moreK es a n k j = rch es a (n + 1) k := by
  unfold moreK
  rw [rch, Bool.eq_iff_iff, Bool.or_eq_true, Bool.or_eq_true, List.any_eq_true, List.any_eq_true]
  constructor
  · rintro (h1 | ⟨i, hi, h1⟩)
    · exact .inl h1
    · exact .inr ⟨i, List.mem_range.2 (by have := List.mem_range.1 hi; omega), h1⟩
  · rintro (h1 | ⟨i, hi, h1⟩)
    · exact .inl h1
    · rw [Bool.and_eq_true] at h1
      have := rch_in h ha ha2 h1.1
      exact .inr ⟨i, List.mem_range.2 (by omega), by rw [Bool.and_eq_true]; exact h1⟩
/-- Found at last. -/
theorem lev_found {S : Int} {es : List (Int × Int)} {a n b : Nat} (hn : (n : Int) < S) (h1 : rch es a n b = true) (h2 : ∀ m, m < n → rch es a m b = false) : levI S es a b = n := by
  unfold levI fst
  have : (List.range S.toNat).find? (fun n => rch es a n b) = some n := by
    rw [List.find?_eq_some_iff_getElem]
    refine ⟨h1, n, by simp; omega, by simp, fun j hj => ?_⟩
    simp [h2 j hj]
  rw [this]
theorem lev_none {S : Int} {es : List (Int × Int)} {a b : Nat} (h2 : ∀ m : Nat, (m : Int) < S → rch es a m b = false) : levI S es a b = -1 := by
  unfold levI fst
  have : (List.range S.toNat).find? (fun n => rch es a n b) = none := by
    rw [List.find?_eq_none]
    intro x hx
    have := List.mem_range.1 hx
    simp [h2 x (by omega)]
  rw [this]
end Go.Proofs.Ytipdggjalhjpnab
