/-
  Contracts of seal.Sum and of its reference.
-/
import Derived.Test.YtjinjlfocjohhaaDoorLends
import Derived.Test.YtjinjlfocjohhaaDoorCrc
namespace Go.Proofs.YtjinjlfocjohhaaDoor
open Go.RowKit
set_option linter.unusedSimpArgs false
set_option linter.unusedVariables false

theorem sumI_is (xs : List Int) (h : Byt xs) : ∃ r : W32, sumI xs = toI r := ⟨_, sumI_eq xs h⟩
theorem sumI_bd (xs : List Int) (h : Byt xs) : 0 ≤ sumI xs ∧ sumI xs ≤ 4294967295 := by
  obtain ⟨r, hr⟩ := sumI_is xs h
  rw [hr]; exact toI_bd r
theorem byt_take {xs : List Int} (h : Byt xs) (k : Nat) : Byt (xs.take k) := fun x hx => h x (List.mem_of_mem_take hx)
theorem byt_drop {xs : List Int} (h : Byt xs) (k : Nat) : Byt (xs.drop k) := fun x hx => h x (List.mem_of_mem_drop hx)
theorem it_bd {r : Int} (hr : ∃ q : W32, r = toI q) (j : Nat) : 0 ≤ it stepI j r ∧ it stepI j r ≤ 4294967295 := by
  obtain ⟨q, rfl⟩ := hr
  obtain ⟨p, hp⟩ := it_step q j
  rw [hp]; exact toI_bd p
theorem first_is (xs : List Int) (h : Byt xs) (x : Int) (h0 : 0 ≤ x) (h1 : x ≤ 255) : ∃ q : W32, bits .xor .u32 (sumI xs) (x * 16777216) = toI q := by
  obtain ⟨r, hr⟩ := sumI_is xs h
  rw [hr]
  exact ⟨_, firstI_eq r x h0 h1⟩

set_option maxHeartbeats 800000 in
theorem sum_any (v : Value) (xs : List Int) (w : World) (hr : Rd w 1 v xs.length (by8 xs)) (hby : Byt xs) (hx : xs.length ≤ 140737488351232) :
    Calls Tryd.prog 38 #[v] w fun e w' => e = .returned (.int .u32 (sumI xs)) ∧ w' = w := by
  obtain ⟨hl, a, cap, rfl, hc1, hc2, hnone, hpos⟩ := hr
  have Hby := Lib.hid hby
  have Hpos := Lib.hid hpos
  clear hby hpos hnone
  go_enter Tryd.func38, Tryd.ntmps38
  go_wp2
  go_loop [3, 5, 6, 9, 18] (fun r _ _ c _ => ∃ k : Nat, k ≤ xs.length ∧ c = .int .i64 k ∧ r = .int .u32 (sumI (xs.take k))) (fun _ _ _ c _ => xs.length - (intOf c).toNat)
  case atStart => exact ⟨0, Nat.zero_le _, rfl, rfl⟩
  case round =>
    obtain ⟨k, hk, rfl, rfl⟩ := hrel
    by_cases hlt : k < xs.length
    · obtain ⟨b, off, rfl, hbl, hcell⟩ := Hpos.out (by omega)
      obtain ⟨x, hxk⟩ : ∃ x, xs[k]? = some x := ⟨_, List.getElem?_eq_getElem (by omega)⟩
      have hx2 := Hby.out x (List.mem_of_getElem? hxk)
      have hcx := hcell k (.int .u8 x) (by simp [by8, hxk])
      have hsb := sumI_bd _ (byt_take Hby.out k)
      have Hxk := Lib.hid (show sumI (xs.take (k + 1)) = it stepI 8 (bits .xor .u32 (sumI (xs.take k)) (x * 16777216)) by rw [take_next hxk, sumI_snoc]; rfl)
      have Hq := Lib.hid (first_is _ (byt_take Hby.out k) x hx2.1 hx2.2)
      clear hxk hcell
      obtain ⟨hx3, hx4⟩ := hx2
      obtain ⟨hs3, hs4⟩ := hsb
      go_wp2
      generalize hr1 : bits .xor .u32 (sumI (xs.take k)) (x * 16777216) = r1 at Hq Hxk
      go_loop [3, 6, 18] (fun r _ c => ∃ j : Nat, j ≤ 8 ∧ c = .int .i64 j ∧ r = .int .u32 (it stepI j r1)) (fun _ _ c => 8 - (intOf c).toNat)
      case atStart => exact ⟨0, by omega, rfl, by rw [← hr1]; rfl⟩
      case round =>
        obtain ⟨j, hj, rfl, rfl⟩ := hrel
        obtain ⟨h2, h3⟩ := it_bd Hq.out j
        by_cases hj8 : j < 8
        · clear hr1
          go_wp2
          go_round
          case rel => exact ⟨j + 1, by omega, by go_num, rfl⟩
          case measure => simp [intOf]; omega
        · clear hr1
          go_wp2
          obtain rfl : j = 8 := by omega
          go_round
          case rel => exact ⟨k + 1, by omega, by go_num, by rw [Hxk.out]⟩
          case measure => simp [intOf]; omega
    · go_wp2
      go_ret
      obtain rfl : k = xs.length := by omega
      exact ⟨ret_int (by rw [List.take_length]), rfl⟩

theorem bits8_length (x : Nat) : (bits8 x).length = 8 := rfl
theorem and_one (n : Int) (h0 : 0 ≤ n) (h1 : n < 4294967296) : bits .and .u32 n 1 = n % 2 := by
  rw [u32_and n 1 h0 h1 (by decide) (by decide)]
  have e : (1 : Int).toNat = 1 := rfl
  rw [e, nat_mask1]
  omega
/-- bit j (from the highest on). -/
def bitOf (x : Int) (j : Nat) : Bool := x.toNat.testBit (7 - j)
theorem bits8_get (x : Int) (j : Nat) (hj : j < 8) : (bits8 x.toNat)[j]? = some (bitOf x j) := by
  have : j = 0 ∨ j = 1 ∨ j = 2 ∨ j = 3 ∨ j = 4 ∨ j = 5 ∨ j = 6 ∨ j = 7 := by omega
  rcases this with rfl | rfl | rfl | rfl | rfl | rfl | rfl | rfl <;> rfl
theorem run_next (q : W32) (x : Int) (j : Nat) (hj : j < 8) : run q ((bits8 x.toNat).take (j + 1)) = T (run q ((bits8 x.toNat).take j)) (bitOf x j) := by
  rw [List.take_add_one, bits8_get x j hj, run_append]; rfl
theorem bit_int (x : Int) (h0 : 0 ≤ x) (h1 : x ≤ 255) (j : Nat) (hj : j < 8) : bits .and .u32 (x / 2 ^ (7 - j) % 4294967296) 1 = if bitOf x j then 1 else 0 := by
  rw [and_one _ (by omega) (by omega)]
  unfold bitOf
  rw [Nat.testBit_eq_decide_div_mod_eq]
  have : j = 0 ∨ j = 1 ∨ j = 2 ∨ j = 3 ∨ j = 4 ∨ j = 5 ∨ j = 6 ∨ j = 7 := by omega
  rcases this with rfl | rfl | rfl | rfl | rfl | rfl | rfl | rfl <;> simp <;> split <;> omega
theorem top_int (p : W32) : toI p / 2147483648 = if p.msb then 1 else 0 := by
  have hb := toI_bd p
  rw [msb_iff]
  by_cases h : 2147483648 ≤ toI p
  · rw [decide_eq_true h]; simp; omega
  · rw [decide_eq_false h]; simp; omega
theorem other_yes (p : W32) (x : Int) (h0 : 0 ≤ x) (h1 : x ≤ 255) (j : Nat) (hj : j < 8) (h : (toI p / 2147483648 != bits .and .u32 (x / 2 ^ (7 - j) % 4294967296) 1) = true) :
    bits .xor .u32 (toI p * 2 % 4294967296) 1947962583 = toI (T p (bitOf x j)) := by
  rw [bit_int x h0 h1 j hj, top_int] at h
  have hc : (p.msb ^^ bitOf x j) = true := by
    cases hm : p.msb <;> cases hb : bitOf x j <;> simp [hm, hb] at h ⊢
  unfold T
  rw [hc, toI_shl, ← toI_poly, bits_xor]
  rfl
theorem other_no (p : W32) (x : Int) (h0 : 0 ≤ x) (h1 : x ≤ 255) (j : Nat) (hj : j < 8) (h : (toI p / 2147483648 != bits .and .u32 (x / 2 ^ (7 - j) % 4294967296) 1) = false) :
    toI p * 2 % 4294967296 = toI (T p (bitOf x j)) := by
  rw [bit_int x h0 h1 j hj, top_int] at h
  have hc : (p.msb ^^ bitOf x j) = false := by
    cases hm : p.msb <;> cases hb : bitOf x j <;> simp [hm, hb] at h ⊢
  unfold T
  rw [hc, toI_shl]
  simp [mk]
set_option maxHeartbeats 800000 in
theorem ssum_any (v : Value) (xs : List Int) (w : World) (hr : Rd w 1 v xs.length (by8 xs)) (hby : Byt xs) (hx : xs.length ≤ 140737488351232) :
    Calls Tryd.prog 39 #[v] w fun e w' => e = .returned (.int .u32 (sumI xs)) ∧ w' = w := by
  obtain ⟨hl, a, cap, rfl, hc1, hc2, hnone, hpos⟩ := hr
  have Hby := Lib.hid hby
  have Hpos := Lib.hid hpos
  clear hby hpos hnone
  go_enter Tryd.func39, Tryd.ntmps39
  go_wp2
  go_loop [3, 5, 6, 7, 10] (fun r _ _ _ c => ∃ k : Nat, k ≤ xs.length ∧ c = .int .i64 k ∧ r = .int .u32 (sumI (xs.take k))) (fun _ _ _ _ c => xs.length - (intOf c).toNat)
  case atStart => exact ⟨0, Nat.zero_le _, rfl, rfl⟩
  case round =>
    obtain ⟨k, hk, rfl, rfl⟩ := hrel
    by_cases hlt : k < xs.length
    · obtain ⟨b, off, rfl, hbl, hcell⟩ := Hpos.out (by omega)
      obtain ⟨x, hxk⟩ : ∃ x, xs[k]? = some x := ⟨_, List.getElem?_eq_getElem (by omega)⟩
      have hx2 := Hby.out x (List.mem_of_getElem? hxk)
      have hcx := hcell k (.int .u8 x) (by simp [by8, hxk])
      obtain ⟨q, hq⟩ := sumI_is _ (byt_take Hby.out k)
      have Hxk := Lib.hid (show sumI (xs.take (k + 1)) = toI (run q (bits8 x.toNat)) by rw [take_next hxk, sumI_snoc, hq, byteI_eq q x hx2.1 hx2.2])
      rw [hq]
      clear hxk hcell hq
      obtain ⟨hx3, hx4⟩ := hx2
      go_wp2
      go_loop [3, 6, 7] (fun r i _ => ∃ j : Nat, j ≤ 8 ∧ i = .int .i64 (7 - (j : Int)) ∧ r = .int .u32 (toI (run q ((bits8 x.toNat).take j)))) (fun _ i _ => (intOf i + 1).toNat)
      case atStart => exact ⟨0, by omega, rfl, rfl⟩
      case round =>
        obtain ⟨j, hj, rfl, rfl⟩ := hrel
        generalize hp : run q ((bits8 x.toNat).take j) = p
        have Hp := Lib.hid hp
        clear hp
        obtain ⟨h2, h3⟩ := toI_bd p
        by_cases hj8 : j < 8
        · go_wp2
          · have ht : (toI p / 2147483648 != bits .and .u32 (x / 2 ^ (7 - j) % 4294967296) 1) = true := by assumption
            have hy := other_yes p x hx3 hx4 j hj8 ht
            go_round
            case rel => exact ⟨j + 1, by omega, by go_num, by rw [hy, run_next q x j hj8, Hp.out]⟩
            case measure => simp [intOf]; omega
          · have ht : (toI p / 2147483648 != bits .and .u32 (x / 2 ^ (7 - j) % 4294967296) 1) = false := by assumption
            have hy := other_no p x hx3 hx4 j hj8 ht
            go_round
            case rel => exact ⟨j + 1, by omega, by go_num, by rw [hy, run_next q x j hj8, Hp.out]⟩
            case measure => simp [intOf]; omega
        · go_wp2
          obtain rfl : j = 8 := by omega
          go_round
          case rel => exact ⟨k + 1, by omega, by go_num, by rw [Hxk.out, ← Hp.out]; rfl⟩
          case measure => simp [intOf]; omega
    · go_wp2
      go_ret
      obtain rfl : k = xs.length := by omega
      exact ⟨ret_int (by rw [List.take_length]), rfl⟩
end Go.Proofs.YtjinjlfocjohhaaDoor
