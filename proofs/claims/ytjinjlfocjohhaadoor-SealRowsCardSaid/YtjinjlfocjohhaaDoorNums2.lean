/-
  Plain laws on bytes' order and on a number's halves.
-/
import Derived.Test.YtjinjlfocjohhaaDoorLaw2
namespace Go.Proofs.YtjinjlfocjohhaaDoor
open Go.RowKit
set_option linter.unusedSimpArgs false
set_option linter.unusedVariables false

theorem num_foldl (xs : List Int) : ∀ a : Int, xs.foldl (fun a x => a * 256 + x) a = a * 256 ^ xs.length + num xs := by
  induction xs with
  | nil => intro a; simp [num]
  | cons x xs ih =>
    intro a
    have h0 := ih (0 * 256 + x)
    simp only [List.foldl_cons, num, List.length_cons] at *
    rw [ih, h0, Int.pow_succ]
    rw [Int.add_mul, Int.add_mul, Int.mul_assoc, Int.mul_comm 256]
    omega
theorem num_cons (x : Int) (xs : List Int) : num (x :: xs) = x * 256 ^ xs.length + num xs := by
  have := num_foldl xs (0 * 256 + x)
  simp only [num, List.foldl_cons] at this ⊢
  rw [this]
  simp
theorem u8_lt {x y : Int} (hx : 0 ≤ x ∧ x ≤ 255) (hy : 0 ≤ y ∧ y ≤ 255) : (UInt8.ofNat x.toNat < UInt8.ofNat y.toNat) ↔ x < y := by
  rw [UInt8.lt_iff_toNat_lt]; simp; omega

theorem less_num : ∀ {xs ys : List Int}, Byt xs → Byt ys → xs.length = ys.length →
    Op.bytesLess (xs.map fun n => UInt8.ofNat n.toNat) (ys.map fun n => UInt8.ofNat n.toNat) = decide (num xs < num ys)
  | [], [], _, _, _ => by simp [Op.bytesLess, num]
  | [], _ :: _, _, _, h => by simp at h
  | _ :: _, [], _, _, h => by simp at h
  | x :: xs, y :: ys, hx, hy, h => by
    have hl : xs.length = ys.length := by simpa using h
    have hx1 := hx x (by simp)
    have hy1 := hy y (by simp)
    have hxs : Byt xs := fun z hz => hx z (by simp [hz])
    have hys : Byt ys := fun z hz => hy z (by simp [hz])
    have ih := less_num hxs hys hl
    have b1 := num_bd xs.length xs rfl hxs
    have b2 := num_bd ys.length ys rfl hys
    rw [num_cons, num_cons, ← hl]
    rw [← hl] at b2
    generalize (256 : Int) ^ xs.length = P at *
    simp only [List.map_cons, Op.bytesLess]
    rcases Int.lt_trichotomy x y with hlt | rfl | hgt
    · have h1 : (x + 1) * P ≤ y * P := Int.mul_le_mul_of_nonneg_right (by omega) (by omega)
      rw [Int.add_mul] at h1
      have h2 : decide (UInt8.ofNat x.toNat < UInt8.ofNat y.toNat) = true := by simpa using (u8_lt hx1 hy1).2 hlt
      rw [h2, Bool.true_or]
      symm
      simp
      omega
    · have h2 : decide (UInt8.ofNat x.toNat < UInt8.ofNat x.toNat) = false := by simp
      rw [h2, ih]
      simp
    · have h1 : (y + 1) * P ≤ x * P := Int.mul_le_mul_of_nonneg_right (by omega) (by omega)
      rw [Int.add_mul] at h1
      have h2 : decide (UInt8.ofNat x.toNat < UInt8.ofNat y.toNat) = false := by rw [decide_eq_false_iff_not]; intro h; exact absurd ((u8_lt hx1 hy1).1 h) (by omega)
      have h3 : (UInt8.ofNat x.toNat == UInt8.ofNat y.toNat) = false := by
        rw [beq_eq_false_iff_ne]
        intro h
        have := congrArg UInt8.toNat h
        simp at this
        omega
      rw [h2, h3, Bool.false_and, Bool.false_or]
      symm
      simp
      omega

theorem num_inj : ∀ {xs ys : List Int}, Byt xs → Byt ys → xs.length = ys.length → num xs = num ys → xs = ys
  | [], [], _, _, _, _ => rfl
  | [], _ :: _, _, _, h, _ => by simp at h
  | _ :: _, [], _, _, h, _ => by simp at h
  | x :: xs, y :: ys, hx, hy, h, hn => by
    have hl : xs.length = ys.length := by simpa using h
    have hxs : Byt xs := fun z hz => hx z (by simp [hz])
    have hys : Byt ys := fun z hz => hy z (by simp [hz])
    have b1 := num_bd xs.length xs rfl hxs
    have b2 := num_bd ys.length ys rfl hys
    rw [num_cons, num_cons, ← hl] at hn
    rw [← hl] at b2
    have hxy : x = y ∧ num xs = num ys := by
      generalize (256 : Int) ^ xs.length = P at *
      rcases Int.lt_trichotomy x y with hlt | rfl | hgt
      · have h1 : (x + 1) * P ≤ y * P := Int.mul_le_mul_of_nonneg_right (by omega) (by omega)
        rw [Int.add_mul] at h1
        omega
      · exact ⟨rfl, by omega⟩
      · have h1 : (y + 1) * P ≤ x * P := Int.mul_le_mul_of_nonneg_right (by omega) (by omega)
        rw [Int.add_mul] at h1
        omega
    rw [hxy.1, num_inj hxs hys hl hxy.2]

theorem nil_byt : Byt [] := by intro x hx; simp at hx
theorem put_nil_num (k v : Int) (hg : good k = true) (h0 : 0 ≤ v) (h1 : v ≤ 18446744073709551615) : num (put [] k v) = cut v k ∧ ((put [] k v).length : Int) = k := by
  have h := get_put k v h0 h1
  have hl : ((put [] k v).length : Int) = k := by
    rcases good_cases hg with rfl | rfl | rfl | rfl <;> simp [put, be, good]
  refine ⟨?_, hl⟩
  rw [← h]
  have h5 : decide (k ≤ ((put [] k v).length : Int)) = true := decide_eq_true (by omega)
  have h6 : k.toNat = (put [] k v).length := by omega
  unfold get
  rw [h5, hg, h6, List.take_length]
  rfl

/-- The order and the sameness of two numbers' bytes. -/
theorem put_less (k u v : Int) (hg : good k = true) (h0 : 0 ≤ u) (h1 : u ≤ 18446744073709551615) (h2 : 0 ≤ v) (h3 : v ≤ 18446744073709551615) :
    Op.bytesLess (strOfNums (put [] k u)).toList (strOfNums (put [] k v)).toList = decide (cut u k < cut v k) ∧
    ((strOfNums (put [] k u)).toList == (strOfNums (put [] k v)).toList) = (cut u k == cut v k) := by
  have a := put_nil_num k u hg h0 h1
  have b := put_nil_num k v hg h2 h3
  have hb1 := put_byt nil_byt k u
  have hb2 := put_byt nil_byt k v
  have hl : (put [] k u).length = (put [] k v).length := by omega
  constructor
  · rw [ByteArray.toList_eq, ByteArray.toList_eq, strOfNums_data, strOfNums_data, less_num hb1 hb2 hl, a.1, b.1]
  · rw [same_str hb1 hb2, Bool.eq_iff_iff]
    simp only [beq_iff_eq]
    rw [← a.1, ← b.1]
    exact ⟨fun h => by rw [h], fun h => num_inj hb1 hb2 hl h⟩

theorem put_halves (u : Int) : put (put [] 1 (u / 256)) 1 u = put [] 2 u ∧ put (put [] 2 (u / 65536)) 2 u = put [] 4 u ∧ put (put [] 4 (u / 4294967296)) 4 u = put [] 8 u := by
  refine ⟨?_, ?_, ?_⟩
  · simp [put, good, be, List.range_succ]
  · simp [put, good, be, List.range_succ]; omega
  · simp [put, good, be, List.range_succ]; omega
end Go.Proofs.YtjinjlfocjohhaaDoor
