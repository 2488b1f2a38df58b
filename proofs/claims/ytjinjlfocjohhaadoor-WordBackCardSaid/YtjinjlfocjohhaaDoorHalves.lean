/-
  Contracts of the laws WordHalves and WordBack.
-/
import Derived.Test.YtjinjlfocjohhaaDoorNums2
import Derived.Deep.RegionWith
namespace Go.Proofs.YtjinjlfocjohhaaDoor
open Go.RowKit
set_option linter.unusedSimpArgs false
set_option linter.unusedVariables false

theorem put_len_le (xs : List Int) (n u : Int) : (put xs n u).length ≤ xs.length + 8 := by
  unfold put
  split
  · rename_i h
    rcases good_cases h with rfl | rfl | rfl | rfl <;> simp [be]
  · omega
theorem put_nil_len (n u : Int) : (put [] n u).length ≤ 140737488351232 := by
  have := put_len_le [] n u
  simp at this
  omega

set_option maxHeartbeats 3200000 in
theorem wordHalves_1 (u v k : Int) (w : World) (hw : Wid w) (h0 : 0 ≤ u) (h1 : u ≤ 18446744073709551615) (h2 : 0 ≤ v) (h3 : v ≤ 18446744073709551615) (hk0 : 0 ≤ k) (hk : k % 3 = 0) :
    Calls Tryd.prog 5 #[.int .u64 u, .int .u64 v, .int .u64 k] w fun e w' => e = .returned (.bool true) ∧ Below w.heap.size w w' := by
  have hB := Below.refl w.heap.size w
  have hq : 0 ≤ u / 256 := by omega
  obtain ⟨f1, f2⟩ := put_less 2 u v (by decide) h0 h1 h2 h3
  have Hh := Lib.hid (put_halves u).1
  go_enter Tryd.func5, Tryd.ntmps5
  go_wp2_with (first | (go_at_call 22; with_reducible refine (put_any (.slice none 0 0) [] 1 (u / 256) _ hw (rd_nil _) (by simp) hq).mono ?_; rintro e w1 ⟨v1, rfl, hown, hb1⟩; replace hw := hw.below hb1; replace hB := hB.trans (hb1.mono hB.size); have H1 := Rd.of_own hown; clear hown hb1) | (go_at_call 22; with_reducible refine (put_any v1 (put [] 1 (u / 256)) 1 u _ hw H1 (put_nil_len _ _) h0).mono ?_; rintro e w1 ⟨v2, rfl, hown, hb1⟩; rw [Hh.out] at hown; replace hw := hw.below hb1; replace hB := hB.trans (hb1.mono hB.size); have H2 := Rd.of_own hown; clear hown hb1))
  replace hw : Wid w1.drew := hw
  replace hB := hB.drew
  replace H2 := H2.keep (Below.drew (Below.refl _ _))
  clear H1
  go_region_with (go_at_call 22; first | (with_reducible refine (put_any (.slice none 0 0) [] 2 u _ hw (rd_nil _) (by simp) h0).mono ?_; rintro e w1 ⟨x1, rfl, hown, hb1⟩; replace hw := hw.below hb1; replace hB := hB.trans (hb1.mono hB.size); replace H2 := H2.keep hb1; have H3 := Rd.of_own hown; have hc3 := conv_rd H3; (try (replace H4 := H4.keep hb1; have hc5 := conv_rd H4)); clear hown hb1) | (with_reducible refine (put_any (.slice none 0 0) [] 2 v _ hw (rd_nil _) (by simp) h2).mono ?_; rintro e w1 ⟨x2, rfl, hown, hb1⟩; replace hw := hw.below hb1; replace hB := hB.trans (hb1.mono hB.size); replace H2 := H2.keep hb1; have H4 := Rd.of_own hown; have hc4 := conv_rd H4; (try (replace H3 := H3.keep hb1; have hc5 := conv_rd H3)); clear hown hb1))
  all_goals
    go_wp2_with (first | (go_at_call 23; first | (with_reducible refine (cut_any u _ _ hw h0 h1).mono ?_; rintro e w1 ⟨rfl, hb1⟩; replace hw := hw.below hb1; replace hB := hB.trans (hb1.mono hB.size); replace H2 := H2.keep hb1; clear hb1) | (with_reducible refine (cut_any v _ _ hw h2 h3).mono ?_; rintro e w1 ⟨rfl, hb1⟩; replace hw := hw.below hb1; replace hB := hB.trans (hb1.mono hB.size); replace H2 := H2.keep hb1; have hcv := conv_rd H2; clear hb1)) | (go_at_call 21; with_reducible refine (lives_any _ hw).mono ?_; rintro e w1 ⟨rfl, hb1⟩; replace hB := hB.trans (hb1.mono hB.size)))
    go_ret
    exact ⟨rfl, hB⟩
set_option maxHeartbeats 3200000 in
theorem wordHalves_2 (u v k : Int) (w : World) (hw : Wid w) (h0 : 0 ≤ u) (h1 : u ≤ 18446744073709551615) (h2 : 0 ≤ v) (h3 : v ≤ 18446744073709551615) (hk0 : 0 ≤ k) (hk : k % 3 = 1) :
    Calls Tryd.prog 5 #[.int .u64 u, .int .u64 v, .int .u64 k] w fun e w' => e = .returned (.bool true) ∧ Below w.heap.size w w' := by
  have hB := Below.refl w.heap.size w
  have hq : 0 ≤ u / 65536 := by omega
  obtain ⟨f1, f2⟩ := put_less 4 u v (by decide) h0 h1 h2 h3
  have Hh := Lib.hid (put_halves u).2.1
  go_enter Tryd.func5, Tryd.ntmps5
  go_wp2_with (first | (go_at_call 22; with_reducible refine (put_any (.slice none 0 0) [] 2 (u / 65536) _ hw (rd_nil _) (by simp) hq).mono ?_; rintro e w1 ⟨v1, rfl, hown, hb1⟩; replace hw := hw.below hb1; replace hB := hB.trans (hb1.mono hB.size); have H1 := Rd.of_own hown; clear hown hb1) | (go_at_call 22; with_reducible refine (put_any v1 (put [] 2 (u / 65536)) 2 u _ hw H1 (put_nil_len _ _) h0).mono ?_; rintro e w1 ⟨v2, rfl, hown, hb1⟩; rw [Hh.out] at hown; replace hw := hw.below hb1; replace hB := hB.trans (hb1.mono hB.size); have H2 := Rd.of_own hown; clear hown hb1))
  replace hw : Wid w1.drew := hw
  replace hB := hB.drew
  replace H2 := H2.keep (Below.drew (Below.refl _ _))
  clear H1
  go_region_with (go_at_call 22; first | (with_reducible refine (put_any (.slice none 0 0) [] 4 u _ hw (rd_nil _) (by simp) h0).mono ?_; rintro e w1 ⟨x1, rfl, hown, hb1⟩; replace hw := hw.below hb1; replace hB := hB.trans (hb1.mono hB.size); replace H2 := H2.keep hb1; have H3 := Rd.of_own hown; have hc3 := conv_rd H3; (try (replace H4 := H4.keep hb1; have hc5 := conv_rd H4)); clear hown hb1) | (with_reducible refine (put_any (.slice none 0 0) [] 4 v _ hw (rd_nil _) (by simp) h2).mono ?_; rintro e w1 ⟨x2, rfl, hown, hb1⟩; replace hw := hw.below hb1; replace hB := hB.trans (hb1.mono hB.size); replace H2 := H2.keep hb1; have H4 := Rd.of_own hown; have hc4 := conv_rd H4; (try (replace H3 := H3.keep hb1; have hc5 := conv_rd H3)); clear hown hb1))
  all_goals
    go_wp2_with (first | (go_at_call 23; first | (with_reducible refine (cut_any u _ _ hw h0 h1).mono ?_; rintro e w1 ⟨rfl, hb1⟩; replace hw := hw.below hb1; replace hB := hB.trans (hb1.mono hB.size); replace H2 := H2.keep hb1; clear hb1) | (with_reducible refine (cut_any v _ _ hw h2 h3).mono ?_; rintro e w1 ⟨rfl, hb1⟩; replace hw := hw.below hb1; replace hB := hB.trans (hb1.mono hB.size); replace H2 := H2.keep hb1; have hcv := conv_rd H2; clear hb1)) | (go_at_call 21; with_reducible refine (lives_any _ hw).mono ?_; rintro e w1 ⟨rfl, hb1⟩; replace hB := hB.trans (hb1.mono hB.size)))
    go_ret
    exact ⟨rfl, hB⟩
set_option maxHeartbeats 3200000 in
theorem wordHalves_4 (u v k : Int) (w : World) (hw : Wid w) (h0 : 0 ≤ u) (h1 : u ≤ 18446744073709551615) (h2 : 0 ≤ v) (h3 : v ≤ 18446744073709551615) (hk0 : 0 ≤ k) (hk : k % 3 = 2) :
    Calls Tryd.prog 5 #[.int .u64 u, .int .u64 v, .int .u64 k] w fun e w' => e = .returned (.bool true) ∧ Below w.heap.size w w' := by
  have hB := Below.refl w.heap.size w
  have hq : 0 ≤ u / 4294967296 := by omega
  obtain ⟨f1, f2⟩ := put_less 8 u v (by decide) h0 h1 h2 h3
  have Hh := Lib.hid (put_halves u).2.2
  go_enter Tryd.func5, Tryd.ntmps5
  go_wp2_with (first | (go_at_call 22; with_reducible refine (put_any (.slice none 0 0) [] 4 (u / 4294967296) _ hw (rd_nil _) (by simp) hq).mono ?_; rintro e w1 ⟨v1, rfl, hown, hb1⟩; replace hw := hw.below hb1; replace hB := hB.trans (hb1.mono hB.size); have H1 := Rd.of_own hown; clear hown hb1) | (go_at_call 22; with_reducible refine (put_any v1 (put [] 4 (u / 4294967296)) 4 u _ hw H1 (put_nil_len _ _) h0).mono ?_; rintro e w1 ⟨v2, rfl, hown, hb1⟩; rw [Hh.out] at hown; replace hw := hw.below hb1; replace hB := hB.trans (hb1.mono hB.size); have H2 := Rd.of_own hown; clear hown hb1))
  replace hw : Wid w1.drew := hw
  replace hB := hB.drew
  replace H2 := H2.keep (Below.drew (Below.refl _ _))
  clear H1
  go_region_with (go_at_call 22; first | (with_reducible refine (put_any (.slice none 0 0) [] 8 u _ hw (rd_nil _) (by simp) h0).mono ?_; rintro e w1 ⟨x1, rfl, hown, hb1⟩; replace hw := hw.below hb1; replace hB := hB.trans (hb1.mono hB.size); replace H2 := H2.keep hb1; have H3 := Rd.of_own hown; have hc3 := conv_rd H3; (try (replace H4 := H4.keep hb1; have hc5 := conv_rd H4)); clear hown hb1) | (with_reducible refine (put_any (.slice none 0 0) [] 8 v _ hw (rd_nil _) (by simp) h2).mono ?_; rintro e w1 ⟨x2, rfl, hown, hb1⟩; replace hw := hw.below hb1; replace hB := hB.trans (hb1.mono hB.size); replace H2 := H2.keep hb1; have H4 := Rd.of_own hown; have hc4 := conv_rd H4; (try (replace H3 := H3.keep hb1; have hc5 := conv_rd H3)); clear hown hb1))
  all_goals
    go_wp2_with (first | (go_at_call 23; first | (with_reducible refine (cut_any u _ _ hw h0 h1).mono ?_; rintro e w1 ⟨rfl, hb1⟩; replace hw := hw.below hb1; replace hB := hB.trans (hb1.mono hB.size); replace H2 := H2.keep hb1; clear hb1) | (with_reducible refine (cut_any v _ _ hw h2 h3).mono ?_; rintro e w1 ⟨rfl, hb1⟩; replace hw := hw.below hb1; replace hB := hB.trans (hb1.mono hB.size); replace H2 := H2.keep hb1; have hcv := conv_rd H2; clear hb1)) | (go_at_call 21; with_reducible refine (lives_any _ hw).mono ?_; rintro e w1 ⟨rfl, hb1⟩; replace hB := hB.trans (hb1.mono hB.size)))
    go_ret
    exact ⟨rfl, hB⟩
theorem wordHalves_any (u v k : Int) (w : World) (hw : Wid w) (h0 : 0 ≤ u) (h1 : u ≤ 18446744073709551615) (h2 : 0 ≤ v) (h3 : v ≤ 18446744073709551615) (hk0 : 0 ≤ k) :
    Calls Tryd.prog 5 #[.int .u64 u, .int .u64 v, .int .u64 k] w fun e w' => e = .returned (.bool true) ∧ Below w.heap.size w w' := by
  have hk : k % 3 = 0 ∨ k % 3 = 1 ∨ k % 3 = 2 := by omega
  rcases hk with hk | hk | hk
  · exact wordHalves_1 u v k w hw h0 h1 h2 h3 hk0 hk
  · exact wordHalves_2 u v k w hw h0 h1 h2 h3 hk0 hk
  · exact wordHalves_4 u v k w hw h0 h1 h2 h3 hk0 hk

end Go.Proofs.YtjinjlfocjohhaaDoor
