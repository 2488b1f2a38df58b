/-
  Plain: up to 32 bits in a row that are changed behind the count are seen.
-/
import Derived.Test.YtjinjlfocjohhaaDoorSLaw1
namespace Go.Proofs.YtjinjlfocjohhaaDoor
open Go.RowKit
set_option linter.unusedSimpArgs false
set_option linter.unusedVariables false

theorem ofNat_small (v : Nat) (h : v < 2147483648) : S (BitVec.ofNat 32 v) = BitVec.ofNat 32 (v * 2) := by
  unfold S
  have hm : (BitVec.ofNat 32 v).msb = false := by
    rw [BitVec.msb_eq_decide, decide_eq_false_iff_not, BitVec.toNat_ofNat]
    omega
  rw [hm]
  apply BitVec.eq_of_toNat_eq
  simp only [mk, Bool.false_eq_true, if_false, BitVec.xor_zero]
  rw [BitVec.toNat_shiftLeft, BitVec.toNat_ofNat, BitVec.toNat_ofNat, Nat.shiftLeft_eq]
  omega
theorem S8_small (v : Nat) (h : v < 16777216) : S8 (BitVec.ofNat 32 v) = BitVec.ofNat 32 (v * 256) := by
  unfold S8
  rw [ofNat_small v (by omega), ofNat_small _ (by omega), ofNat_small _ (by omega), ofNat_small _ (by omega), ofNat_small _ (by omega), ofNat_small _ (by omega), ofNat_small _ (by omega), ofNat_small _ (by omega)]
  congr 1
  omega
theorem top_off (a v : Nat) (ha : a < 256) (hv : v < 16777216) : BitVec.ofNat 32 (a * 16777216 + v) ^^^ BitVec.ofNat 32 (a * 16777216) = BitVec.ofNat 32 v := by
  have e : BitVec.ofNat 32 (a * 16777216 + v) = BitVec.ofNat 32 (a * 16777216) ^^^ BitVec.ofNat 32 v := by
    apply BitVec.eq_of_toNat_eq
    rw [BitVec.toNat_xor, BitVec.toNat_ofNat, BitVec.toNat_ofNat, BitVec.toNat_ofNat]
    rw [Nat.mod_eq_of_lt (by omega), Nat.mod_eq_of_lt (by omega), Nat.mod_eq_of_lt (by omega)]
    have h1 : a * 16777216 + v = a * 16777216 ||| v := (nat_join 24 _ _ (by omega) (by omega)).symm
    have h2 : a * 16777216 ^^^ v = a * 16777216 ||| v := by
      apply Nat.eq_of_testBit_eq
      intro i
      rw [Nat.testBit_xor, Nat.testBit_or]
      by_cases hi : i < 24
      · have : (a * 16777216).testBit i = false := by
          rw [show (16777216 : Nat) = 2 ^ 24 from rfl, Nat.testBit_mul_two_pow]
          simp; omega
        rw [this]; simp
      · have : v.testBit i = false := Nat.testBit_lt_two_pow (Nat.lt_of_lt_of_le (show v < 2 ^ 24 from hv) (Nat.pow_le_pow_right (n := 2) (by decide) (show 24 ≤ i by omega)))
        rw [this]; simp
    rw [h1, h2]
  rw [e, BitVec.xor_comm, ← BitVec.xor_assoc, BitVec.xor_self, BitVec.zero_xor]
theorem step_off (a v : Nat) (ha : a < 256) (hv : v < 16777216) : run (BitVec.ofNat 32 (a * 16777216 + v)) (bits8 a) = BitVec.ofNat 32 (v * 256) := by
  rw [← byte_run _ a ha, top_off a v ha hv, S8_small v hv]
/-- A register that meets its own four bytes is nothing. -/
theorem own_bytes (a b c d : Nat) (ha : a < 256) (hb : b < 256) (hc : c < 256) (hd : d < 256) :
    run (BitVec.ofNat 32 (a * 16777216 + b * 65536 + c * 256 + d)) (bits8 a ++ bits8 b ++ bits8 c ++ bits8 d) = 0#32 := by
  rw [run_append, run_append, run_append]
  rw [show a * 16777216 + b * 65536 + c * 256 + d = a * 16777216 + (b * 65536 + c * 256 + d) by omega, step_off a _ ha (by omega)]
  rw [show (b * 65536 + c * 256 + d) * 256 = b * 16777216 + (c * 65536 + d * 256) by omega, step_off b _ hb (by omega)]
  rw [show (c * 65536 + d * 256) * 256 = c * 16777216 + d * 65536 by omega, step_off c _ hc (by omega)]
  rw [show d * 65536 * 256 = d * 16777216 + 0 by omega, step_off d _ hd (by omega)]
theorem allBits_append (xs ys : List Int) : allBits (xs ++ ys) = allBits xs ++ allBits ys := by simp [allBits]
/-- Where the sum is right the whole is nothing. -/
theorem right_zero {xs ys : List Int} (hx : Byt xs) (hy : Byt ys) (hl : ys.length = 4) (h : num ys = sumI xs) : run (BitVec.allOnes 32) (allBits (xs ++ ys)) = 0#32 := by
  obtain ⟨a, b, c, d, rfl⟩ : ∃ a b c d, ys = [a, b, c, d] := by
    match ys, hl with
    | [a, b, c, d], _ => exact ⟨a, b, c, d, rfl⟩
  have ha := hy a (by simp)
  have hb := hy b (by simp)
  have hc := hy c (by simp)
  have hd := hy d (by simp)
  rw [allBits_append, run_append]
  rw [sumI_eq xs hx] at h
  have hr : run (BitVec.allOnes 32) (allBits xs) = BitVec.ofNat 32 (a.toNat * 16777216 + b.toNat * 65536 + c.toNat * 256 + d.toNat) := by
    apply BitVec.eq_of_toNat_eq
    rw [BitVec.toNat_ofNat]
    have hn : num [a, b, c, d] = ((a * 256 + b) * 256 + c) * 256 + d := by simp [num]
    rw [hn] at h
    unfold toI at h
    omega
  rw [hr]
  have := own_bytes a.toNat b.toNat c.toNat d.toNat (by omega) (by omega) (by omega) (by omega)
  simpa [allBits] using this

/-! Bits by their places. -/
def bitAt (ys : List Int) (i : Nat) : Bool := (ys.getD (i / 8) 0).toNat.testBit (7 - i % 8)
theorem allBits_length (ys : List Int) : (allBits ys).length = 8 * ys.length := by
  induction ys with
  | nil => rfl
  | cons y ys ih =>
    show (bits8 y.toNat ++ allBits ys).length = _
    rw [List.length_append, ih]
    simp [bits8]; omega
theorem allBits_get : ∀ (ys : List Int) (i : Nat), i < 8 * ys.length → (allBits ys)[i]? = some (bitAt ys i)
  | [], i, h => by simp at h
  | y :: ys, i, h => by
    show (bits8 y.toNat ++ allBits ys)[i]? = _
    by_cases h8 : i < 8
    · rw [List.getElem?_append_left (by simpa [bits8] using h8), bits8_get y i h8]
      unfold bitAt bitOf
      rw [show i / 8 = 0 by omega, show i % 8 = i by omega]
      rfl
    · rw [List.getElem?_append_right (by simp [bits8]; omega)]
      have e : i - (bits8 y.toNat).length = i - 8 := by simp [bits8]
      rw [e, allBits_get ys (i - 8) (by simp at h; omega)]
      unfold bitAt
      rw [show (i - 8) % 8 = i % 8 by omega, show i / 8 = (i - 8) / 8 + 1 by omega]
      rfl

/-! Flips. -/
def flipAt (ys : List Int) (q : Nat) : List Int := ys.set (4 + q / 8) (bits .xor .u8 (ys.getD (4 + q / 8) 0) (128 / 2 ^ (q % 8)))
def bitB (B : Int) (i : Nat) : Bool := bits .and .u32 (B / 2 ^ i) 1 == 1
def flipTo (ys : List Int) (k : Nat) (B : Int) : Nat → List Int
  | 0 => ys
  | i + 1 => if bitB B i then flipAt (flipTo ys k B i) (k + i) else flipTo ys k B i
theorem flipAt_length (ys : List Int) (q : Nat) : (flipAt ys q).length = ys.length := by simp [flipAt]
theorem flipTo_length (ys : List Int) (k : Nat) (B : Int) : ∀ i, (flipTo ys k B i).length = ys.length
  | 0 => rfl
  | i + 1 => by
    unfold flipTo
    split
    · rw [flipAt_length, flipTo_length]
    · exact flipTo_length ys k B i
theorem xor_byte (x : Int) (h : 0 ≤ x ∧ x ≤ 255) (r : Nat) (hr : r < 8) : bits .xor .u8 x (128 / 2 ^ r) = ((x.toNat ^^^ 2 ^ (7 - r) : Nat) : Int) ∧ x.toNat ^^^ 2 ^ (7 - r) < 256 := by
  have hm : (128 : Int) / 2 ^ r = ((2 ^ (7 - r) : Nat) : Int) ∧ 2 ^ (7 - r) < 256 := by
    have : r = 0 ∨ r = 1 ∨ r = 2 ∨ r = 3 ∨ r = 4 ∨ r = 5 ∨ r = 6 ∨ r = 7 := by omega
    rcases this with rfl | rfl | rfl | rfl | rfl | rfl | rfl | rfl <;> decide
  generalize 2 ^ (7 - r) = m at hm ⊢
  rw [hm.1, u8_xor _ _ h.1 (by omega) (by omega) (by omega), Int.toNat_natCast]
  exact ⟨rfl, Nat.xor_lt_two_pow (n := 8) (by omega) hm.2⟩
theorem flipAt_byt {ys : List Int} (h : Byt ys) (q : Nat) (hq : 4 + q / 8 < ys.length) : Byt (flipAt ys q) := by
  intro x hx
  unfold flipAt at hx
  rcases List.mem_or_eq_of_mem_set hx with hx | rfl
  · exact h x hx
  · have hg : ys.getD (4 + q / 8) 0 ∈ ys := by
      rw [List.getD_eq_getElem?_getD, List.getElem?_eq_getElem hq]; exact List.getElem_mem hq
    have := xor_byte _ (h _ hg) (q % 8) (by omega)
    omega
theorem flipTo_byt {ys : List Int} (h : Byt ys) (k : Nat) (B : Int) : ∀ i, (∀ j, j < i → 4 + (k + j) / 8 < ys.length) → Byt (flipTo ys k B i)
  | 0, _ => h
  | i + 1, hb => by
    have ih := flipTo_byt h k B i (fun j hj => hb j (by omega))
    unfold flipTo
    split
    · exact flipAt_byt ih _ (by rw [flipTo_length]; exact hb i (by omega))
    · exact ih
theorem bit_flip {ys : List Int} (h : Byt ys) (q : Nat) (hq : 4 + q / 8 < ys.length) (i : Nat) : bitAt (flipAt ys q) i = (bitAt ys i ^^ decide (i = 32 + q)) := by
  have hg : ys.getD (4 + q / 8) 0 ∈ ys := by
    rw [List.getD_eq_getElem?_getD, List.getElem?_eq_getElem hq]; exact List.getElem_mem hq
  have hx := xor_byte _ (h _ hg) (q % 8) (by omega)
  unfold bitAt flipAt
  by_cases hi : i / 8 = 4 + q / 8
  · rw [hi]
    have e : (ys.set (4 + q / 8) (bits .xor .u8 (ys.getD (4 + q / 8) 0) (128 / 2 ^ (q % 8)))).getD (4 + q / 8) 0 = bits .xor .u8 (ys.getD (4 + q / 8) 0) (128 / 2 ^ (q % 8)) := by
      simp [List.getD_eq_getElem?_getD, List.getElem?_set, hq]
    rw [e, hx.1, Int.toNat_natCast, Nat.testBit_xor, Nat.testBit_two_pow]
    congr 1
    rw [decide_eq_decide]
    omega
  · have e : (ys.set (4 + q / 8) (bits .xor .u8 (ys.getD (4 + q / 8) 0) (128 / 2 ^ (q % 8)))).getD (i / 8) 0 = ys.getD (i / 8) 0 := by
      simp only [List.getD_eq_getElem?_getD]
      rw [List.getElem?_set_ne (by omega)]
    rw [e]
    have : decide (i = 32 + q) = false := by rw [decide_eq_false_iff_not]; omega
    rw [this]; simp
/-- which bits are changed. -/
def chg (k n : Nat) (B : Int) (i : Nat) : Bool := decide (32 + k ≤ i) && decide (i < 32 + k + n) && bitB B (i - (32 + k))
theorem bit_flips {ys : List Int} (h : Byt ys) (k : Nat) (B : Int) : ∀ n, (∀ j, j < n → 4 + (k + j) / 8 < ys.length) → ∀ i, bitAt (flipTo ys k B n) i = (bitAt ys i ^^ chg k n B i)
  | 0, _, i => by
    have : chg k 0 B i = false := by unfold chg; simp; omega
    rw [this]; simp [flipTo]
  | n + 1, hb, i => by
    have ih := bit_flips h k B n (fun j hj => hb j (by omega)) i
    have hby := flipTo_byt h k B n (fun j hj => hb j (by omega))
    unfold flipTo
    split
    · rename_i hB
      rw [bit_flip hby _ (by rw [flipTo_length]; exact hb n (by omega)), ih, Bool.xor_assoc]
      congr 1
      unfold chg
      by_cases e : i = 32 + (k + n)
      · subst e
        have e2 : 32 + (k + n) - (32 + k) = n := by omega
        have d1 : decide (32 + k ≤ 32 + (k + n)) = true := decide_eq_true (by omega)
        have d2 : decide (32 + (k + n) < 32 + k + n) = false := decide_eq_false (by omega)
        have d3 : decide (32 + (k + n) < 32 + k + (n + 1)) = true := decide_eq_true (by omega)
        rw [e2, hB, d1, d2, d3]
        simp
      · rw [decide_eq_false e, Bool.xor_false]
        have e3 : decide (i < 32 + k + n) = decide (i < 32 + k + (n + 1)) := by rw [decide_eq_decide]; omega
        rw [e3]
    · rename_i hB
      rw [ih]
      congr 1
      unfold chg
      by_cases e : i = 32 + (k + n)
      · subst e
        have e2 : 32 + (k + n) - (32 + k) = n := by omega
        rw [e2]
        simp [hB]
      · have e3 : decide (i < 32 + k + n) = decide (i < 32 + k + (n + 1)) := by rw [decide_eq_decide]; omega
        rw [e3]

theorem take4_set (ys : List Int) (p : Nat) (v : Int) : (ys.set (4 + p) v).take 4 = ys.take 4 := by
  apply List.ext_getElem?
  intro i
  rw [List.getElem?_take, List.getElem?_take]
  split
  · rw [List.getElem?_set_ne (by omega)]
  · rfl
theorem take4_flips (ys : List Int) (k : Nat) (B : Int) : ∀ n, (flipTo ys k B n).take 4 = ys.take 4
  | 0 => rfl
  | n + 1 => by
    unfold flipTo
    split
    · unfold flipAt; rw [take4_set, take4_flips ys k B n]
    · exact take4_flips ys k B n
theorem map_false (f : Nat → Bool) (a n : Nat) (h : ∀ i, a ≤ i → i < a + n → f i = false) : (List.range' a n).map f = List.replicate n false := by
  rw [List.eq_replicate_iff]
  refine ⟨by simp, fun b hb => ?_⟩
  obtain ⟨i, hi, rfl⟩ := List.mem_map.1 hb
  rw [List.mem_range'_1] at hi
  exact h i hi.1 hi.2
theorem changes (k n N : Nat) (B : Int) (hB : bitB B 0 = true) (hn1 : 1 ≤ n) (hn : n ≤ 32) (hN : 32 + k + n ≤ N) :
    run 0#32 ((List.range N).map (chg k n B)) ≠ 0#32 := by
  have e : List.range N = List.range' 0 (32 + k) ++ (List.range' (32 + k) n ++ List.range' (32 + k + n) (N - (32 + k + n))) := by
    rw [List.range_eq_range', List.range'_append_1, ← Nat.zero_add (32 + k), Nat.zero_add (32 + k)]
    have := @List.range'_append_1 0 (32 + k) (n + (N - (32 + k + n)))
    rw [Nat.zero_add] at this
    rw [this]
    congr 1
    omega
  obtain ⟨m, rfl⟩ : ∃ m, n = m + 1 := ⟨n - 1, by omega⟩
  have e2 : (List.range' (32 + k) (m + 1)).map (chg k (m + 1) B) = true :: (List.range' (32 + k + 1) m).map (chg k (m + 1) B) := by
    rw [List.range'_succ, List.map_cons]
    congr 1
    unfold chg
    have d1 : decide (32 + k < 32 + k + (m + 1)) = true := decide_eq_true (by omega)
    rw [d1, Nat.sub_self, hB]
    simp
  rw [e, List.map_append, List.map_append, e2, map_false _ 0 (32 + k) (fun i _ h => by unfold chg; simp; omega), map_false _ (32 + k + (m + 1)) _ (fun i h _ => by unfold chg; simp; omega), ← List.append_assoc]
  exact change_seen _ _ _ (by simp; omega)
/-- Up to 32 bits in a row behind the count, the first changed and any others: seen. -/
theorem burst_damage {xs : List Int} (hl : xs.length ≤ 1048576) (hx : Byt xs) (k n : Nat) (B : Int) (hB : bitB B 0 = true) (hn1 : 1 ≤ n) (hn : n ≤ 32) (hk : k + n ≤ 8 * (xs.length + 4)) :
    openI (flipTo (sealI xs) k B n) = ([], 0, 7) := by
  have hs := seal_len hl
  have hby := seal_byt hx
  have hz := flipTo_length (sealI xs) k B n
  have hj : ∀ j, j < n → 4 + (k + j) / 8 < (sealI xs).length := fun j hj => by omega
  have hzb := flipTo_byt hby k B n hj
  have hp := seal_parts (t := []) hl hx
  rw [List.append_nil] at hp
  have hc : cnt (flipTo (sealI xs) k B n) = xs.length := by
    have := hp.1
    unfold cnt at this ⊢
    rw [take4_flips, this]
  refine open_bad (by omega) (by omega) (by omega) ?_
  rw [hc]
  intro he
  have d1 : ((flipTo (sealI xs) k B n).drop (4 + xs.length)).take 4 = (flipTo (sealI xs) k B n).drop (4 + xs.length) := List.take_of_length_le (by simp; omega)
  have d2 : ((sealI xs).drop (4 + xs.length)).take 4 = (sealI xs).drop (4 + xs.length) := List.take_of_length_le (by simp; omega)
  rw [d1] at he
  have z1 := right_zero (byt_take hzb (4 + xs.length)) (byt_drop hzb (4 + xs.length)) (by simp; omega) he
  rw [List.take_append_drop] at z1
  have hsum := sumI_bd (head xs) (head_byt hx)
  have z2 := right_zero (byt_take hby (4 + xs.length)) (byt_drop hby (4 + xs.length)) (by simp; omega) (by rw [← d2, hp.2.2.1, hp.2.1, num4 _ hsum.1 hsum.2])
  rw [List.take_append_drop] at z2
  have hbits : allBits (flipTo (sealI xs) k B n) = List.zipWith (fun x y => x ^^ y) (allBits (sealI xs)) ((List.range (8 * (sealI xs).length)).map (chg k n B)) := by
    apply List.ext_getElem?
    intro i
    rw [List.getElem?_zipWith]
    by_cases hi : i < 8 * (sealI xs).length
    · rw [allBits_get _ _ (by rw [hz]; exact hi), allBits_get _ _ hi, bit_flips hby k B n hj i]
      simp [hi]
    · rw [List.getElem?_eq_none (by rw [allBits_length, hz]; omega), List.getElem?_eq_none (by rw [allBits_length]; omega)]
  have := run_xor (allBits (sealI xs)) ((List.range (8 * (sealI xs).length)).map (chg k n B)) (BitVec.allOnes 32) 0#32 (by simp [allBits_length])
  rw [← hbits, BitVec.xor_zero, z1, z2, BitVec.zero_xor] at this
  exact changes k n _ B hB hn1 hn (by omega) this.symm
end Go.Proofs.YtjinjlfocjohhaaDoor
