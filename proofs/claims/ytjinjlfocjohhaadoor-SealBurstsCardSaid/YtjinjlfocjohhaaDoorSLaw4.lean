/-
  Contract of the law SealBursts: the loop that flips the bits, and what Open then says.
-/
import Derived.Test.YtjinjlfocjohhaaDoorBursts
namespace Go.Proofs.YtjinjlfocjohhaaDoor
open Go.RowKit
set_option linter.unusedSimpArgs false
set_option linter.unusedVariables false

theorem or_one (b : Int) (h0 : 0 ≤ b) (h1 : b ≤ 4294967295) : 0 ≤ bits .or .u32 b 1 ∧ bits .or .u32 b 1 ≤ 4294967295 ∧ bitB (bits .or .u32 b 1) 0 = true := by
  rw [u32_or b 1 h0 (by omega) (by decide) (by decide)]
  have e : (1 : Int).toNat = 1 := rfl
  rw [e]
  have hlt : b.toNat ||| 1 < 4294967296 := Nat.or_lt_two_pow (n := 32) (by omega) (by decide)
  refine ⟨by omega, by omega, ?_⟩
  unfold bitB
  rw [show ((2 : Int) ^ 0) = 1 from rfl, Int.ediv_one, and_one _ (by omega) (by omega)]
  have h2 : (b.toNat ||| 1) % 2 = 1 := by
    have h := Nat.testBit_or b.toNat 1 0
    rw [show Nat.testBit 1 0 = true from rfl, Bool.or_true, Nat.testBit_zero] at h
    exact of_decide_eq_true h
  rw [beq_iff_eq]
  omega

set_option maxHeartbeats 3200000 in
theorem sealBursts_any (u : Value) (xs : List Int) (c bu : Int) (w : World) (hw : Wid w) (hr : Rd w 1 u xs.length (by8 xs)) (hx : xs.length ≤ 140737488351232) (hy : Byt xs)
    (hc0 : 0 ≤ c) (hc1 : c ≤ 18446744073709551615) (hb0 : 0 ≤ bu) (hb1 : bu ≤ 4294967295) :
    Calls Tryd.prog 13 #[u, .int .u64 c, .int .u32 bu] w fun e w' => e = .returned (.bool true) ∧ Below w.heap.size w w' := by
  have hB := Below.refl w.heap.size w
  have hw0 := hw
  obtain ⟨a, cap, rfl⟩ := rd_slice hr
  by_cases h5 : 5000 < xs.length
  · go_enter Tryd.func13, Tryd.ntmps13
    go_wp2_with (go_at_call 37; with_reducible refine (slives_any _ hw).mono ?_; rintro e w7 ⟨rfl, hb7⟩)
    go_ret
    exact ⟨rfl, hb7⟩
  · have hxl : xs.length ≤ 1048576 := by omega
    obtain ⟨k, hk⟩ : ∃ k : Nat, c % (8 * ((xs.length : Int) + 4)) = (k : Int) := ⟨(c % (8 * ((xs.length : Int) + 4))).toNat, by have := Int.emod_nonneg c (show (8 * ((xs.length : Int) + 4)) ≠ 0 by omega); omega⟩
    have hkl : k < 8 * (xs.length + 4) := by have := Int.emod_lt_of_pos c (show (0 : Int) < 8 * ((xs.length : Int) + 4) by omega); omega
    obtain ⟨o1, o2, o3⟩ := or_one bu hb0 hb1
    have O3 := Lib.hid o3
    have Ls := Lib.hid (seal_len hxl)
    have Y1 := Lib.hid hy
    have Y2 := Lib.hid (seal_byt hy)
    clear hy o3
    go_enter Tryd.func13, Tryd.ntmps13
    go_wp2_with (first | (go_at_call 40; with_reducible refine (seal_any _ xs _ hw hr Y1.out hx).mono ?_; rintro e w1 ⟨v1, rfl, hown, hb1⟩; rw [Ls.out] at hown; replace hw := hw.below hb1; replace hB := hB.trans (hb1.mono hB.size); clear hb1 hr; obtain ⟨g, gc, rfl, hg1, hg2, hg3, hg4⟩ := own_succ hown (by omega)))
    have Ho := Lib.hid hown
    clear hown
    rw [hk]
    clear hk
    go_loopw [10] (fun i wr => ∃ n : Nat, n ≤ 32 ∧ k + n ≤ 8 * (xs.length + 4) ∧ i = .int .i64 (n : Int) ∧ wr.ownsRow w.heap.size 5 1 (.slice (some ⟨g, 0, none⟩) (xs.length + 8) gc) (xs.length + 8) (by8 (flipTo (sealI xs) k (bits .or .u32 bu 1) n)) ∧ Below w.heap.size w wr) (fun i _ => 32 - (intOf i).toNat)
    case atStart => exact ⟨0, by omega, by omega, rfl, Ho.out, hB⟩
    case round =>
      clear Ho hB
      obtain ⟨n, hn, hkn, rfl, hown, hB⟩ := hrel
      by_cases hgo : n < 32 ∧ k + n < 8 * (xs.length + 4)
      · obtain ⟨hg5, hg6⟩ := hgo
        cases hbit : bitB (bits .or .u32 bu 1) n
        · have ht : (bits .and .u32 ((bits .or .u32 bu 1) / 2 ^ n) 1 == 1) = false := hbit
          have hf := Lib.hid (show flipTo (sealI xs) k (bits .or .u32 bu 1) (n + 1) = flipTo (sealI xs) k (bits .or .u32 bu 1) n by simp [flipTo, hbit])
          clear hbit
          go_wp2
          go_roundw
          case rel => exact ⟨n + 1, by omega, by omega, by go_num, by rw [hf.out]; exact hown, hB⟩
          case measure => simp [intOf]; omega
        · have ht : (bits .and .u32 ((bits .or .u32 bu 1) / 2 ^ n) 1 == 1) = true := hbit
          have hf := Lib.hid (show flipTo (sealI xs) k (bits .or .u32 bu 1) (n + 1) = flipAt (flipTo (sealI xs) k (bits .or .u32 bu 1) n) (k + n) by simp [flipTo, hbit])
          clear hbit
          generalize hz : flipTo (sealI xs) k (bits .or .u32 bu 1) n = z at hown hf
          have hzl : z.length = xs.length + 8 := by rw [← hz, flipTo_length, Ls.out]
          have Hzl := Lib.hid hzl
          have hc : wr.cell? ⟨g, 4 + (k + n) / 8, none⟩ = some (.int .u8 (z.getD (4 + (k + n) / 8) 0)) := by
            rw [hown.cellAt _ (by omega)]
            simp [by8, List.getD_eq_getElem?_getD, List.getElem?_eq_getElem (show 4 + (k + n) / 8 < z.length by omega)]
          have hfr := hown.frozenAt (4 + (k + n) / 8)
          have hst := Lib.hid (fun y => hown.stored (4 + (k + n) / 8) y)
          clear hz hzl
          go_wp2
          have e1 : by8 (flipAt z (k + n)) = (by8 z).set (4 + (k + n) / 8) (.int .u8 (bits .xor .u8 (z[4 + (k + n) / 8]?.getD 0) (128 / 2 ^ ((k + n) % 8)))) := by
            rw [← List.getD_eq_getElem?_getD]; unfold flipAt by8; rw [List.map_set]
          have hst2 := hst.out (.int .u8 (bits .xor .u8 (z[4 + (k + n) / 8]?.getD 0) (128 / 2 ^ ((k + n) % 8))))
          rw [← e1] at hst2
          refine ⟨⟨n + 1, by omega, by omega, by go_num, by rw [hf.out]; exact hst2.1, hB.grown hst2.2 hB.size (fun k hk => ?_)⟩, ?_⟩
          · cases hk; exact hg1
          · simp [intOf]; omega
      · have hn1 : 1 ≤ n := by omega
        have hD := Lib.hid (burst_damage hxl Y1.out k n _ O3.out hn1 hn hkn)
        have hzl := Lib.hid (show (flipTo (sealI xs) k (bits .or .u32 bu 1) n).length = xs.length + 8 by rw [flipTo_length, Ls.out])
        have hY := Lib.hid (flipTo_byt Y2.out k (bits .or .u32 bu 1) n (fun j hj => by rw [Ls.out]; omega))
        have hgo2 : ¬ (n < 32) ∨ ¬ (k + n < 8 * (xs.length + 4)) := by omega
        clear hw hgo
        replace hw := hw0.below hB
        have H1 : Rd wr 1 (.slice (some ⟨g, 0, none⟩) (xs.length + 8) gc) (flipTo (sealI xs) k (bits .or .u32 bu 1) n).length (by8 (flipTo (sealI xs) k (bits .or .u32 bu 1) n)) := by rw [hzl.out]; exact Rd.of_own hown
        clear hown
        rcases hgo2 with hgo2 | hgo2
        all_goals go_wp2_with (first | (go_at_call 42; with_reducible refine (popen_at _ _ _ hw H1 hY.out (by rw [hzl.out]; omega) hD.out).mono ?_; rintro e w4 ⟨c1, rfl, hco, hb1⟩; replace hw := hw.below hb1; replace hB := hB.trans (hb1.mono hB.size); clear hco hb1) | (go_at_call 37; with_reducible refine (slives_any _ hw).mono ?_; rintro e w7 ⟨rfl, hb1⟩; replace hB := hB.trans (hb1.mono hB.size)))
        all_goals go_ret
        all_goals exact ⟨rfl, hB⟩
end Go.Proofs.YtjinjlfocjohhaaDoor
