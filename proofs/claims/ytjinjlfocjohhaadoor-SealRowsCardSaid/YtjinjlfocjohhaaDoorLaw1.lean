/-
  Contracts of the laws on numbers alone: lives, WordRounds, WordSteps, WordCuts.
-/
import Derived.Test.YtjinjlfocjohhaaDoorNums
namespace Go.Proofs.YtjinjlfocjohhaaDoor
open Go.RowKit
set_option linter.unusedSimpArgs false
set_option linter.unusedVariables false

theorem rd_nil (w : World) : Rd w 1 (.slice none 0 0) ([] : List Int).length (by8 []) := Rd.of_own (World.ownsRow_nil w 0 5 1)

set_option maxHeartbeats 800000 in
theorem lives_any (w : World) (hw : Wid w) : Calls Tryd.prog 21 #[] w fun e w' => e = .returned (.bool true) ∧ Below w.heap.size w w' := by
  have hp := Lib.hid (show put [] 2 258 = [1, 2] by decide)
  have hB := Lib.hid (show Byt [1, 2] by unfold Byt; decide)
  have hs : IntKind.i16.wrap (-65534) = 2 := by decide
  go_enter Tryd.func21, Tryd.ntmps21
  go_wp2_with (first | (go_at_call 22; refine (put_any (.slice none 0 0) [] 2 258 _ hw (rd_nil _) (by simp) (by decide)).mono ?_; rintro e w1 ⟨v1, rfl, hown, hbl⟩; rw [hp.out] at hown; have Hr := Lib.hid ((Rd.of_own hown).keep ((Below.refl _ _).alloc (Nat.le_refl _) (.cells #[.int .u8 1, .int .u8 2] 5))); have hw1 := hw.below (hbl.trans ((Below.refl _ _).alloc hbl.size (.cells #[.int .u8 1, .int .u8 2] 5))); clear hown) | (go_at_call 34; refine (same_any v1 _ [1, 2] [1, 2] _ Hr.out (rd_new _ _ _ _ rfl (by decide)) hB.out hB.out).mono ?_; rintro e w2 ⟨rfl, rfl⟩) | (go_at_call 27; refine (signed_any 255 1 _ hw1 (by decide) (by decide)).mono ?_; rintro e w3 ⟨rfl, hbl3⟩) | (go_at_call 16; refine (far_any _ _ _).mono ?_; rintro e w4 ⟨rfl, rfl⟩))
  go_ret
  exact ⟨rfl, (hbl.trans ((Below.refl _ _).alloc hbl.size _)).trans (hbl3.mono (by have := hbl.size; simp; omega))⟩

theorem wordRounds_any (a b n : Int) (w : World) (hw : Wid w) (ha : 0 ≤ a) (ha2 : a ≤ 65535) :
    Calls Tryd.prog 3 #[.int .u16 a, .int .u16 b, .int .i64 n] w fun e w' => e = .returned (.bool true) ∧ Below w.heap.size w w' := by
  go_enter Tryd.func3, Tryd.ntmps3
  go_wp2_with (first | (go_at_call 16; refine (far_any _ _ _).mono ?_; rintro e w4 ⟨rfl, rfl⟩) | (go_at_call 17; refine (sfar_any _ _ _).mono ?_; rintro e w4 ⟨rfl, rfl⟩) | (go_at_call 18; refine (less_any _ _ _).mono ?_; rintro e w4 ⟨rfl, rfl⟩) | (go_at_call 19; refine (move_any _ _ _ ha ha2).mono ?_; rintro e w4 ⟨rfl, rfl⟩) | (go_at_call 20; refine (smove_any _ _ _).mono ?_; rintro e w4 ⟨rfl, rfl⟩) | (go_at_call 21; refine (lives_any _ hw).mono ?_; rintro e w4 ⟨rfl, hbl⟩))
  go_ret
  exact ⟨rfl, hbl⟩

theorem wordCuts_any (v n k : Int) (w : World) (hw : Wid w) (h0 : 0 ≤ v) (h1 : v ≤ 18446744073709551615) :
    Calls Tryd.prog 6 #[.int .u64 v, .int .i64 n, .int .i64 k] w fun e w' => e = .returned (.bool true) ∧ Below w.heap.size w w' := by
  have hgc : get (put [] k v) k = cut v k := get_put k v h0 h1
  go_enter Tryd.func6, Tryd.ntmps6
  go_wp2_with (first | (go_at_call 24; refine (good_any _ _ hw).mono ?_; rintro e w4 ⟨rfl, rfl⟩) | (go_at_call 25; refine (sgood_any _ _).mono ?_; rintro e w4 ⟨rfl, rfl⟩) | (go_at_call 23; refine (cut_any _ _ _ hw h0 h1).mono ?_; rintro e w1 ⟨rfl, hb1⟩; have hw1 := hw.below hb1) | (go_at_call 26; refine (scut_any _ _ _ h0).mono ?_; rintro e w2 ⟨rfl, hb2⟩; have hw2 := hw1.below hb2) | (go_at_call 27; refine (signed_any _ _ _ hw2 h0 h1).mono ?_; rintro e w3 ⟨rfl, hb3⟩; have hw3 := hw2.below hb3) | (go_at_call 28; refine (ssigned_any _ _ _).mono ?_; rintro e w4 ⟨rfl, rfl⟩) | (go_at_call 29; refine (fits_any _ _ _ hw3).mono ?_; rintro e w5 ⟨rfl, hb5⟩; have hw5 := hw3.below hb5) | (go_at_call 30; refine (sfits_any _ _ _).mono ?_; rintro e w6 ⟨rfl, rfl⟩) | (go_at_call 21; refine (lives_any _ hw5).mono ?_; rintro e w7 ⟨rfl, hb7⟩))
  go_ret
  have z1 := hb1.size
  have z2 := hb2.size
  have z3 := hb3.size
  have z5 := hb5.size
  exact ⟨rfl, (((hb1.trans (hb2.mono z1)).trans (hb3.mono (by omega))).trans (hb5.mono (by omega))).trans (hb7.mono (by omega))⟩

set_option maxHeartbeats 1600000 in
theorem wordSteps_any (a b n : Int) (w : World) (hw : Wid w) (ha : 0 ≤ a) (ha2 : a ≤ 65535) (hb : 0 ≤ b) (hb2 : b ≤ 65535) :
    Calls Tryd.prog 4 #[.int .u16 a, .int .u16 b, .int .i64 n] w fun e w' => e = .returned (.bool true) ∧ Below w.heap.size w w' := by
  have f0 : IntKind.i16.wrap 0 = 0 := by decide
  have f1 : (a + IntKind.i16.wrap (b - a)) % 65536 = b := by rw [wrap_i16]; omega
  have f2 := and_i64_16 n
  have f3 : 0 ≤ n % 65536 := by omega
  have f4 : n % 65536 ≤ 65535 := by omega
  have f5 : (a + n + -(n % 65536)) % 65536 = a := by omega
  have f6 : (a + n % 65536) % 65536 = (a + n) % 65536 := by omega
  by_cases h1 : 0 < IntKind.i16.wrap (b - a)
  · have h2 : ¬ 0 < IntKind.i16.wrap (a - b) := by rw [wrap_i16] at h1 ⊢; omega
    have h3 : (a == b) = false := by rw [wrap_i16] at h1; simp; omega
    have h4 : (IntKind.i16.wrap (b - a) == -32768) = false := by simp; omega
    go_enter Tryd.func4, Tryd.ntmps4
    go_wp2_with (first | (go_at_call 16; refine (far_any _ _ _).mono ?_; rintro e w4 ⟨rfl, rfl⟩) | (go_at_call 18; refine (less_any _ _ _).mono ?_; rintro e w4 ⟨rfl, rfl⟩) | (go_at_call 19; refine (move_any _ _ _ (by first | exact ha | exact Int.emod_nonneg _ (by decide)) (by first | exact ha2 | omega)).mono ?_; rintro e w4 ⟨rfl, rfl⟩) | (go_at_call 21; refine (lives_any _ hw).mono ?_; rintro e w4 ⟨rfl, hbl⟩))
    go_ret
    exact ⟨ret_bool (by first | (simp [h2]; done) | (simp; omega)), hbl⟩
  · by_cases h2 : 0 < IntKind.i16.wrap (a - b)
    · have h3 : (a == b) = false := by rw [wrap_i16] at h2; simp; omega
      have h4 : (IntKind.i16.wrap (b - a) == -32768) = false := by rw [wrap_i16] at h2 ⊢; simp; omega
      go_enter Tryd.func4, Tryd.ntmps4
      go_wp2_with (first | (go_at_call 16; refine (far_any _ _ _).mono ?_; rintro e w4 ⟨rfl, rfl⟩) | (go_at_call 18; refine (less_any _ _ _).mono ?_; rintro e w4 ⟨rfl, rfl⟩) | (go_at_call 19; refine (move_any _ _ _ (by first | exact ha | exact Int.emod_nonneg _ (by decide)) (by first | exact ha2 | omega)).mono ?_; rintro e w4 ⟨rfl, rfl⟩) | (go_at_call 21; refine (lives_any _ hw).mono ?_; rintro e w4 ⟨rfl, hbl⟩))
      go_ret
      exact ⟨ret_bool (by first | (simp [h2]; done) | (simp; omega)), hbl⟩
    · by_cases h3 : a = b
      · subst h3
        go_enter Tryd.func4, Tryd.ntmps4
        go_wp2_with (first | (go_at_call 16; refine (far_any _ _ _).mono ?_; rintro e w4 ⟨rfl, rfl⟩) | (go_at_call 18; refine (less_any _ _ _).mono ?_; rintro e w4 ⟨rfl, rfl⟩) | (go_at_call 19; refine (move_any _ _ _ (by first | exact ha | exact Int.emod_nonneg _ (by decide)) (by first | exact ha2 | omega)).mono ?_; rintro e w4 ⟨rfl, rfl⟩) | (go_at_call 21; refine (lives_any _ hw).mono ?_; rintro e w4 ⟨rfl, hbl⟩))
        go_ret
        exact ⟨ret_bool (by simp), hbl⟩
      · have h4 : (a == b) = false := by simpa using h3
        have h5 : (IntKind.i16.wrap (b - a) == -32768) = true := by rw [wrap_i16] at h1 h2 ⊢; simp; omega
        go_enter Tryd.func4, Tryd.ntmps4
        go_wp2_with (first | (go_at_call 16; refine (far_any _ _ _).mono ?_; rintro e w4 ⟨rfl, rfl⟩) | (go_at_call 18; refine (less_any _ _ _).mono ?_; rintro e w4 ⟨rfl, rfl⟩) | (go_at_call 19; refine (move_any _ _ _ (by first | exact ha | exact Int.emod_nonneg _ (by decide)) (by first | exact ha2 | omega)).mono ?_; rintro e w4 ⟨rfl, rfl⟩) | (go_at_call 21; refine (lives_any _ hw).mono ?_; rintro e w4 ⟨rfl, hbl⟩))
        go_ret
        exact ⟨ret_bool (by first | (simp [h2]; done) | (simp; omega)), hbl⟩
end Go.Proofs.YtjinjlfocjohhaaDoor
