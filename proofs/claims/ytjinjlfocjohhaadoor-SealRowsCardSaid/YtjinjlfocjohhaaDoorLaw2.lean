/-
  Contracts of the laws WordSigns, WordBytes, WordHalves, WordBack.
-/
import Derived.Test.YtjinjlfocjohhaaDoorLaw1
namespace Go.Proofs.YtjinjlfocjohhaaDoor
open Go.RowKit
set_option linter.unusedSimpArgs false
set_option linter.unusedVariables false

theorem signs_facts (n m m2 : Int) (hn : -9223372036854775808 ≤ n) (hn2 : n ≤ 9223372036854775807) (hm : m = 1 ∨ m = 2 ∨ m = 4 ∨ m = 8) (hm2 : m2 = 2 * m) :
    fits n m = (sgn (IntKind.u64.wrap n) m == n) ∧ fits (sgn (IntKind.u64.wrap n) m) m = true ∧ (m < 8 → fits (wrap64 (cut (IntKind.u64.wrap n) m)) m2 = true) ∧
      cut (IntKind.u64.wrap (sgn (IntKind.u64.wrap n) m)) m = cut (IntKind.u64.wrap n) m := by
  subst hm2
  rcases hm with rfl | rfl | rfl | rfl
  · refine ⟨?_, ?_, fun _ => ?_, ?_⟩
    · simp [fits, good, wrap_u64]
    · simp [fits, good, wrap_u64, sgn_1]; omega
    · show fits _ 2 = true
      simp [fits, good, wrap_u64, cut_1, sgn_2, wrap_wrap64]; omega
    · simp only [wrap_u64, cut_1, sgn_1]; omega
  · refine ⟨?_, ?_, fun _ => ?_, ?_⟩
    · simp [fits, good, wrap_u64]
    · simp [fits, good, wrap_u64, sgn_2]; omega
    · show fits _ 4 = true
      simp [fits, good, wrap_u64, cut_2, sgn_4, wrap_wrap64]; omega
    · simp only [wrap_u64, cut_2, sgn_2]; omega
  · refine ⟨?_, ?_, fun _ => ?_, ?_⟩
    · simp [fits, good, wrap_u64]
    · simp [fits, good, wrap_u64, sgn_4]; omega
    · show fits _ 8 = true
      simp [fits, good, wrap_u64, cut_4, sgn_8, wrap_wrap64]; try omega
    · simp only [wrap_u64, cut_4, sgn_4]; omega
  · refine ⟨?_, ?_, fun h => by omega, ?_⟩
    · simp [fits, good, wrap_u64]
    · simp [fits, good, wrap_u64, sgn_8]; try omega
    · simp only [wrap_u64, cut_8, sgn_8]; try omega
theorem wordSigns_1 (n k : Int) (w : World) (hw : Wid w) (hn : -9223372036854775808 ≤ n) (hn2 : n ≤ 9223372036854775807) (h0 : 0 ≤ k) (hk : k % 4 = 0) :
    Calls Tryd.prog 7 #[.int .i64 n, .int .u64 k] w fun e w' => e = .returned (.bool true) ∧ Below w.heap.size w w' := by
  obtain ⟨f1, f2, f3, f4⟩ := signs_facts n 1 2 hn hn2 (by decide) (by decide)
  have hB := Below.refl w.heap.size w
  replace f3 := f3 (by decide)
  go_enter Tryd.func7, Tryd.ntmps7
  go_wp2_with (first | (go_at_call 27; refine (signed_any _ _ _ hw (by first | exact wrap_u64_nonneg _ | omega) (by rw [wrap_u64]; omega)).mono ?_; rintro e w1 ⟨rfl, hb1⟩; replace hw := hw.below hb1; replace hB := hB.trans (hb1.mono hB.size); clear hb1) | (go_at_call 29; refine (fits_any _ _ _ hw).mono ?_; rintro e w1 ⟨rfl, hb1⟩; replace hw := hw.below hb1; replace hB := hB.trans (hb1.mono hB.size); clear hb1) | (go_at_call 23; refine (cut_any _ _ _ hw (wrap_u64_nonneg _) (by rw [wrap_u64]; omega)).mono ?_; rintro e w1 ⟨rfl, hb1⟩; replace hw := hw.below hb1; replace hB := hB.trans (hb1.mono hB.size); clear hb1) | (go_at_call 21; refine (lives_any _ hw).mono ?_; rintro e w1 ⟨rfl, hb1⟩; replace hw := hw.below hb1; replace hB := hB.trans (hb1.mono hB.size); clear hb1))
  go_ret
  exact ⟨rfl, hB⟩
theorem wordSigns_2 (n k : Int) (w : World) (hw : Wid w) (hn : -9223372036854775808 ≤ n) (hn2 : n ≤ 9223372036854775807) (h0 : 0 ≤ k) (hk : k % 4 = 1) :
    Calls Tryd.prog 7 #[.int .i64 n, .int .u64 k] w fun e w' => e = .returned (.bool true) ∧ Below w.heap.size w w' := by
  obtain ⟨f1, f2, f3, f4⟩ := signs_facts n 2 4 hn hn2 (by decide) (by decide)
  have hB := Below.refl w.heap.size w
  replace f3 := f3 (by decide)
  go_enter Tryd.func7, Tryd.ntmps7
  go_wp2_with (first | (go_at_call 27; refine (signed_any _ _ _ hw (by first | exact wrap_u64_nonneg _ | omega) (by rw [wrap_u64]; omega)).mono ?_; rintro e w1 ⟨rfl, hb1⟩; replace hw := hw.below hb1; replace hB := hB.trans (hb1.mono hB.size); clear hb1) | (go_at_call 29; refine (fits_any _ _ _ hw).mono ?_; rintro e w1 ⟨rfl, hb1⟩; replace hw := hw.below hb1; replace hB := hB.trans (hb1.mono hB.size); clear hb1) | (go_at_call 23; refine (cut_any _ _ _ hw (wrap_u64_nonneg _) (by rw [wrap_u64]; omega)).mono ?_; rintro e w1 ⟨rfl, hb1⟩; replace hw := hw.below hb1; replace hB := hB.trans (hb1.mono hB.size); clear hb1) | (go_at_call 21; refine (lives_any _ hw).mono ?_; rintro e w1 ⟨rfl, hb1⟩; replace hw := hw.below hb1; replace hB := hB.trans (hb1.mono hB.size); clear hb1))
  go_ret
  exact ⟨rfl, hB⟩
theorem wordSigns_4 (n k : Int) (w : World) (hw : Wid w) (hn : -9223372036854775808 ≤ n) (hn2 : n ≤ 9223372036854775807) (h0 : 0 ≤ k) (hk : k % 4 = 2) :
    Calls Tryd.prog 7 #[.int .i64 n, .int .u64 k] w fun e w' => e = .returned (.bool true) ∧ Below w.heap.size w w' := by
  obtain ⟨f1, f2, f3, f4⟩ := signs_facts n 4 8 hn hn2 (by decide) (by decide)
  have hB := Below.refl w.heap.size w
  replace f3 := f3 (by decide)
  go_enter Tryd.func7, Tryd.ntmps7
  go_wp2_with (first | (go_at_call 27; refine (signed_any _ _ _ hw (by first | exact wrap_u64_nonneg _ | omega) (by rw [wrap_u64]; omega)).mono ?_; rintro e w1 ⟨rfl, hb1⟩; replace hw := hw.below hb1; replace hB := hB.trans (hb1.mono hB.size); clear hb1) | (go_at_call 29; refine (fits_any _ _ _ hw).mono ?_; rintro e w1 ⟨rfl, hb1⟩; replace hw := hw.below hb1; replace hB := hB.trans (hb1.mono hB.size); clear hb1) | (go_at_call 23; refine (cut_any _ _ _ hw (wrap_u64_nonneg _) (by rw [wrap_u64]; omega)).mono ?_; rintro e w1 ⟨rfl, hb1⟩; replace hw := hw.below hb1; replace hB := hB.trans (hb1.mono hB.size); clear hb1) | (go_at_call 21; refine (lives_any _ hw).mono ?_; rintro e w1 ⟨rfl, hb1⟩; replace hw := hw.below hb1; replace hB := hB.trans (hb1.mono hB.size); clear hb1))
  go_ret
  exact ⟨rfl, hB⟩
theorem wordSigns_8 (n k : Int) (w : World) (hw : Wid w) (hn : -9223372036854775808 ≤ n) (hn2 : n ≤ 9223372036854775807) (h0 : 0 ≤ k) (hk : k % 4 = 3) :
    Calls Tryd.prog 7 #[.int .i64 n, .int .u64 k] w fun e w' => e = .returned (.bool true) ∧ Below w.heap.size w w' := by
  obtain ⟨f1, f2, f3, f4⟩ := signs_facts n 8 16 hn hn2 (by decide) (by decide)
  have hB := Below.refl w.heap.size w
  clear f3
  go_enter Tryd.func7, Tryd.ntmps7
  go_wp2_with (first | (go_at_call 27; refine (signed_any _ _ _ hw (by first | exact wrap_u64_nonneg _ | omega) (by rw [wrap_u64]; omega)).mono ?_; rintro e w1 ⟨rfl, hb1⟩; replace hw := hw.below hb1; replace hB := hB.trans (hb1.mono hB.size); clear hb1) | (go_at_call 29; refine (fits_any _ _ _ hw).mono ?_; rintro e w1 ⟨rfl, hb1⟩; replace hw := hw.below hb1; replace hB := hB.trans (hb1.mono hB.size); clear hb1) | (go_at_call 23; refine (cut_any _ _ _ hw (wrap_u64_nonneg _) (by rw [wrap_u64]; omega)).mono ?_; rintro e w1 ⟨rfl, hb1⟩; replace hw := hw.below hb1; replace hB := hB.trans (hb1.mono hB.size); clear hb1) | (go_at_call 21; refine (lives_any _ hw).mono ?_; rintro e w1 ⟨rfl, hb1⟩; replace hw := hw.below hb1; replace hB := hB.trans (hb1.mono hB.size); clear hb1))
  go_ret
  exact ⟨rfl, hB⟩
theorem wordSigns_any (n k : Int) (w : World) (hw : Wid w) (hn : -9223372036854775808 ≤ n) (hn2 : n ≤ 9223372036854775807) (h0 : 0 ≤ k) :
    Calls Tryd.prog 7 #[.int .i64 n, .int .u64 k] w fun e w' => e = .returned (.bool true) ∧ Below w.heap.size w w' := by
  have hk : k % 4 = 0 ∨ k % 4 = 1 ∨ k % 4 = 2 ∨ k % 4 = 3 := by omega
  rcases hk with hk | hk | hk | hk
  · exact wordSigns_1 n k w hw hn hn2 h0 hk
  · exact wordSigns_2 n k w hw hn hn2 h0 hk
  · exact wordSigns_4 n k w hw hn hn2 h0 hk
  · exact wordSigns_8 n k w hw hn hn2 h0 hk

theorem put_byt {xs : List Int} (h : Byt xs) (n u : Int) : Byt (put xs n u) := by
  intro x hx
  unfold put at hx
  split at hx
  · rcases List.mem_append.1 hx with hx | hx
    · exact h x hx
    · simp [be] at hx
      obtain ⟨j, _, rfl⟩ := hx
      omega
  · exact h x hx

set_option maxHeartbeats 800000 in
theorem wordBytes_any (v : Value) (xs : List Int) (n u : Int) (w : World) (hw : Wid w) (hr : Rd w 1 v xs.length (by8 xs)) (hx : xs.length ≤ 140737488351232) (hy : Byt xs) (h0 : 0 ≤ u) :
    Calls Tryd.prog 8 #[v, .int .i64 n, .int .u64 u] w fun e w' => e = .returned (.bool true) ∧ Below w.heap.size w w' := by
  obtain ⟨a, cap, rfl⟩ := rd_slice hr
  have Hy := Lib.hid hy
  have Hp := Lib.hid (put_byt hy n u)
  have HL := Lib.hid (lend_byt hy)
  have hB := Below.refl w.heap.size w
  clear hy
  by_cases h5 : 5000 < xs.length
  · go_enter Tryd.func8, Tryd.ntmps8
    go_wp2_with (first | (go_at_call 21; refine (lives_any _ hw).mono ?_; rintro e w7 ⟨rfl, hb7⟩))
    go_ret
    exact ⟨rfl, hb7⟩
  · have hr2 := Lib.hid hr
    go_enter Tryd.func8, Tryd.ntmps8
    go_wp2_with (first | (go_at_call 31; refine (lend_any _ xs _ hr hx).mono ?_; rintro e w1 ⟨g, gc, rfl, hown, hb1⟩; replace hw := hw.below hb1; replace hB := hB.trans (hb1.mono hB.size); replace hr := hr.keep hb1; have Ho := Rd.of_own hown; have Hl := lend_rd Ho; clear hown hb1) | (go_at_call 32; refine (get_any _ xs _ _ hw Hl hx Hy.out).mono ?_; rintro e w1 ⟨rfl, hb1⟩; replace hw := hw.below hb1; replace hB := hB.trans (hb1.mono hB.size); replace hr := hr.keep hb1; replace Hl := Hl.keep hb1; replace Ho := Ho.keep hb1; clear hb1) | (go_at_call 33; refine (sget_any _ xs _ _ hr hx Hy.out).mono ?_; rintro e w1 ⟨rfl, hb1⟩; replace hw := hw.below hb1; replace hB := hB.trans (hb1.mono hB.size); replace hr := hr.keep hb1; replace Hl := Hl.keep hb1; replace Ho := Ho.keep hb1; clear hb1) | (go_at_call 22; refine (put_any _ xs _ _ _ hw Hl hx h0).mono ?_; rintro e w1 ⟨v1, rfl, hown1, hb1⟩; replace hw := hw.below hb1; replace hB := hB.trans (hb1.mono hB.size); replace hr := hr.keep hb1; replace Hl := Hl.keep hb1; replace Ho := Ho.keep hb1; have H1 := Rd.of_own hown1; clear hb1 hown1) | (go_at_call 35; refine (sput_any _ xs _ _ _ hr hx h0).mono ?_; rintro e w1 ⟨v2, rfl, hown1, hb1⟩; replace hw := hw.below hb1; replace hB := hB.trans (hb1.mono hB.size); replace hr := hr.keep hb1; replace Hl := Hl.keep hb1; replace Ho := Ho.keep hb1; replace H1 := H1.keep hb1; have H2 := Rd.of_own hown1; clear hb1 hown1) | (go_at_call 34; refine (same_any v1 v2 _ _ _ H1 H2 Hp.out Hp.out).mono ?_; rintro e w1 ⟨rfl, rfl⟩) | (go_at_call 36; refine (kept_any _ _ xs (lend xs) _ (by rw [lend_length]; exact Ho) hr hx Hy.out HL.out).mono ?_; rintro e w1 ⟨rfl, hb1⟩; replace hw := hw.below hb1; replace hB := hB.trans (hb1.mono hB.size); clear hb1) | (go_at_call 21; refine (lives_any _ hw).mono ?_; rintro e w1 ⟨rfl, hb1⟩; replace hB := hB.trans (hb1.mono hB.size)))
    go_ret
    exact ⟨rfl, hB⟩
end Go.Proofs.YtjinjlfocjohhaaDoor
