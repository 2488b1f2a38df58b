/-
  Contracts of the package word and of its reference: numbers alone.
-/
import Derived.Test.YtjinjlfocjohhaaDoorProg
import Derived.Test.YtjinjlfocjohhaaDoorPlain
import Derived.WalkLawsBesides
import Derived.BigQuiet
import Derived.Deep.QuietTactic
namespace Go.Proofs.YtjinjlfocjohhaaDoor
set_option linter.unusedSimpArgs false
set_option linter.unusedVariables false
open Go.RowKit

/-- What the table of widths holds. -/
def Wid (w : World) : Prop := w.cell? ⟨0, 0, none⟩ = some (.int .i64 1) ∧ w.cell? ⟨0, 1, none⟩ = some (.int .i64 2) ∧ w.cell? ⟨0, 2, none⟩ = some (.int .i64 4) ∧ w.cell? ⟨0, 3, none⟩ = some (.int .i64 8)
theorem Wid.lt {w : World} (h : Wid w) : 0 < w.heap.size := World.block_lt_of_cell? w _ h.1
theorem Wid.below {w w' : World} (h : Wid w) (hb : Below w.heap.size w w') : Wid w' := by
  have := h.lt
  exact ⟨(hb.cell (by exact this)).trans h.1, (hb.cell (by exact this)).trans h.2.1, (hb.cell (by exact this)).trans h.2.2.1, (hb.cell (by exact this)).trans h.2.2.2⟩
theorem Wid.belowN {w w' : World} {B : Nat} (h : Wid w) (hb : Below B w w') (hB : 0 < B) : Wid w' :=
  ⟨(hb.cell (by exact hB)).trans h.1, (hb.cell (by exact hB)).trans h.2.1, (hb.cell (by exact hB)).trans h.2.2.1, (hb.cell (by exact hB)).trans h.2.2.2⟩

theorem good_any (n : Int) (w : World) (hw : Wid w) :
    Calls Tryd.prog 24 #[.int .i64 n] w fun e w' => e = .returned (.bool (good n)) ∧ w' = w := by
  obtain ⟨h0, h1, h2, h3⟩ := hw
  have i0 : ∀ w : World, (Instr.index 64 (.agg #[.int .i64 1, .int .i64 2, .int .i64 4, .int .i64 8]) (.int .i64 0)).run Tryd.prog w = .ok (.int .i64 1) w := fun _ => by kernel_rfl
  have i1 : ∀ w : World, (Instr.index 64 (.agg #[.int .i64 1, .int .i64 2, .int .i64 4, .int .i64 8]) (.int .i64 1)).run Tryd.prog w = .ok (.int .i64 2) w := fun _ => by kernel_rfl
  have i2 : ∀ w : World, (Instr.index 64 (.agg #[.int .i64 1, .int .i64 2, .int .i64 4, .int .i64 8]) (.int .i64 2)).run Tryd.prog w = .ok (.int .i64 4) w := fun _ => by kernel_rfl
  have i3 : ∀ w : World, (Instr.index 64 (.agg #[.int .i64 1, .int .i64 2, .int .i64 4, .int .i64 8]) (.int .i64 3)).run Tryd.prog w = .ok (.int .i64 8) w := fun _ => by kernel_rfl
  go_enter Tryd.func24, Tryd.ntmps24
  go_wp2
  refine wp_loop_rounds 5 ?_
  repeat any_goals (rw [rounds_succ]; go_wp2)
  all_goals (go_ret; refine ⟨?_, rfl⟩)

  all_goals (simp_all [good]; try omega)
theorem sgood_any (n : Int) (w : World) :
    Calls Tryd.prog 25 #[.int .i64 n] w fun e w' => e = .returned (.bool (good n)) ∧ w' = w := by
  go_enter Tryd.func25, Tryd.ntmps25
  go_wp2
  all_goals (go_ret; refine ⟨?_, rfl⟩)

  all_goals (simp_all [good]; try omega)
theorem unused_is (n m : Int) (w : World) (h0 : 0 ≤ n) (h8 : n ≤ 8) (hm : 64 - 8 * n = m) :
    Calls Tryd.prog 46 #[.int .i64 n] w fun e w' => e = .returned (.int .i64 m) ∧ w' = w := by
  subst hm
  go_enter Tryd.func46, Tryd.ntmps46
  go_wp2
  go_ret
  exact ⟨rfl, rfl⟩
theorem far_any (a b : Int) (w : World) :
    Calls Tryd.prog 16 #[.int .u16 a, .int .u16 b] w fun e w' => e = .returned (.int .i64 (IntKind.i16.wrap (b - a))) ∧ w' = w := by
  go_enter Tryd.func16, Tryd.ntmps16
  go_wp2
  go_ret
  refine ⟨?_, rfl⟩
  congr 2
  simp [wrap64, IntKind.wrap, IntKind.bits, IntKind.signed]; omega
theorem sfar_any (a b : Int) (w : World) :
    Calls Tryd.prog 17 #[.int .u16 a, .int .u16 b] w fun e w' => e = .returned (.int .i64 (IntKind.i16.wrap (b - a))) ∧ w' = w := by
  go_enter Tryd.func17, Tryd.ntmps17
  go_wp2
  go_ret
  refine ⟨?_, rfl⟩
  congr 2
  simp [wrap64, IntKind.wrap, IntKind.bits, IntKind.signed]; omega
theorem less_any (a b : Int) (w : World) :
    Calls Tryd.prog 18 #[.int .u16 a, .int .u16 b] w fun e w' => e = .returned (.bool (decide (0 < IntKind.i16.wrap (b - a)))) ∧ w' = w := by
  go_enter Tryd.func18, Tryd.ntmps18
  go_wp2_with (go_at_call 16; refine (far_any _ _ _).mono ?_; rintro e w' ⟨rfl, rfl⟩)
  go_ret
  exact ⟨rfl, rfl⟩
theorem move_any (a n : Int) (w : World) (ha : 0 ≤ a) (ha2 : a ≤ 65535) :
    Calls Tryd.prog 19 #[.int .u16 a, .int .i64 n] w fun e w' => e = .returned (.int .u16 ((a + n) % 65536)) ∧ w' = w := by
  have hm := and_i64_16 n
  go_enter Tryd.func19, Tryd.ntmps19
  go_wp2
  go_ret
  refine ⟨ret_int ?_, rfl⟩
  simp only [IntKind.wrap_u16]
  omega
theorem smove_any (a n : Int) (w : World) :
    Calls Tryd.prog 20 #[.int .u16 a, .int .i64 n] w fun e w' => e = .returned (.int .u16 ((a + n) % 65536)) ∧ w' = w := by
  go_enter Tryd.func20, Tryd.ntmps20
  go_wp2
  go_ret
  refine ⟨ret_int ?_, rfl⟩
  simp only [IntKind.wrap_u16]
  omega

theorem cut_any (v n : Int) (w : World) (hw : Wid w) (h0 : 0 ≤ v) (h1 : v ≤ 18446744073709551615) :
    Calls Tryd.prog 23 #[.int .u64 v, .int .i64 n] w fun e w' => e = .returned (.int .u64 (cut v n)) ∧ Below w.heap.size w w' := by
  cases hg : good n
  · have hb := cut_bad (v := v) hg
    go_enter Tryd.func23, Tryd.ntmps23
    go_wp2_with (go_at_call 24; refine (good_any _ _ hw).mono ?_; rintro e w' ⟨rfl, rfl⟩)
    go_ret
    exact ⟨ret_int hb.symm, Below.refl _ _⟩
  · rcases good_cases hg with rfl | rfl | rfl | rfl
    · go_enter Tryd.func23, Tryd.ntmps23
      go_wp2_with (go_at_call 24; refine (good_any _ _ hw).mono ?_; rintro e w' ⟨rfl, rfl⟩)
      go_quiet ((go_at_call 46; exact Calls.quiet_of_same (unused_is 1 56 _ (by decide) (by decide) (by decide))))
      go_wp2
      go_ret
      exact ⟨ret_int (by simp only [wrap_u64, cut_1]; try omega), below_drewN (Below.refl _ _) _⟩
    · go_enter Tryd.func23, Tryd.ntmps23
      go_wp2_with (go_at_call 24; refine (good_any _ _ hw).mono ?_; rintro e w' ⟨rfl, rfl⟩)
      go_quiet ((go_at_call 46; exact Calls.quiet_of_same (unused_is 2 48 _ (by decide) (by decide) (by decide))))
      go_wp2
      go_ret
      exact ⟨ret_int (by simp only [wrap_u64, cut_2]; try omega), below_drewN (Below.refl _ _) _⟩
    · go_enter Tryd.func23, Tryd.ntmps23
      go_wp2_with (go_at_call 24; refine (good_any _ _ hw).mono ?_; rintro e w' ⟨rfl, rfl⟩)
      go_quiet ((go_at_call 46; exact Calls.quiet_of_same (unused_is 4 32 _ (by decide) (by decide) (by decide))))
      go_wp2
      go_ret
      exact ⟨ret_int (by simp only [wrap_u64, cut_4]; try omega), below_drewN (Below.refl _ _) _⟩
    · go_enter Tryd.func23, Tryd.ntmps23
      go_wp2_with (go_at_call 24; refine (good_any _ _ hw).mono ?_; rintro e w' ⟨rfl, rfl⟩)
      go_quiet ((go_at_call 46; exact Calls.quiet_of_same (unused_is 8 0 _ (by decide) (by decide) (by decide))))
      go_wp2
      go_ret
      exact ⟨ret_int (by simp only [wrap_u64, cut_8]; try omega), below_drewN (Below.refl _ _) _⟩
theorem signed_any (v n : Int) (w : World) (hw : Wid w) (h0 : 0 ≤ v) (h1 : v ≤ 18446744073709551615) :
    Calls Tryd.prog 27 #[.int .u64 v, .int .i64 n] w fun e w' => e = .returned (.int .i64 (sgn v n)) ∧ Below w.heap.size w w' := by
  cases hg : good n
  · have hb := sgn_bad (v := v) hg
    go_enter Tryd.func27, Tryd.ntmps27
    go_wp2_with (go_at_call 24; refine (good_any _ _ hw).mono ?_; rintro e w' ⟨rfl, rfl⟩)
    go_ret
    exact ⟨ret_int hb.symm, Below.refl _ _⟩
  · rcases good_cases hg with rfl | rfl | rfl | rfl
    · go_enter Tryd.func27, Tryd.ntmps27
      go_wp2_with (go_at_call 24; refine (good_any _ _ hw).mono ?_; rintro e w' ⟨rfl, rfl⟩)
      go_quiet ((go_at_call 46; exact Calls.quiet_of_same (unused_is 1 56 _ (by decide) (by decide) (by decide))))
      go_wp2
      go_ret
      exact ⟨ret_int (by simp only [wrap_u64, IntKind.wrap_i64, wrap_wrap64, sgn_1]; omega), below_drewN (Below.refl _ _) _⟩
    · go_enter Tryd.func27, Tryd.ntmps27
      go_wp2_with (go_at_call 24; refine (good_any _ _ hw).mono ?_; rintro e w' ⟨rfl, rfl⟩)
      go_quiet ((go_at_call 46; exact Calls.quiet_of_same (unused_is 2 48 _ (by decide) (by decide) (by decide))))
      go_wp2
      go_ret
      exact ⟨ret_int (by simp only [wrap_u64, IntKind.wrap_i64, wrap_wrap64, sgn_2]; omega), below_drewN (Below.refl _ _) _⟩
    · go_enter Tryd.func27, Tryd.ntmps27
      go_wp2_with (go_at_call 24; refine (good_any _ _ hw).mono ?_; rintro e w' ⟨rfl, rfl⟩)
      go_quiet ((go_at_call 46; exact Calls.quiet_of_same (unused_is 4 32 _ (by decide) (by decide) (by decide))))
      go_wp2
      go_ret
      exact ⟨ret_int (by simp only [wrap_u64, IntKind.wrap_i64, wrap_wrap64, sgn_4]; omega), below_drewN (Below.refl _ _) _⟩
    · go_enter Tryd.func27, Tryd.ntmps27
      go_wp2_with (go_at_call 24; refine (good_any _ _ hw).mono ?_; rintro e w' ⟨rfl, rfl⟩)
      go_quiet ((go_at_call 46; exact Calls.quiet_of_same (unused_is 8 0 _ (by decide) (by decide) (by decide))))
      go_wp2
      go_ret
      exact ⟨ret_int (by simp only [wrap_u64, IntKind.wrap_i64, wrap_wrap64, sgn_8]; try omega), below_drewN (Below.refl _ _) _⟩
theorem ssigned_any (v n : Int) (w : World) :
    Calls Tryd.prog 28 #[.int .u64 v, .int .i64 n] w fun e w' => e = .returned (.int .i64 (sgn v n)) ∧ w' = w := by
  cases hg : good n
  · have hb := sgn_bad (v := v) hg
    obtain ⟨h1, h2, h4, h8⟩ := good_not hg
    go_enter Tryd.func28, Tryd.ntmps28
    go_wp2
    go_ret
    exact ⟨ret_int hb.symm, rfl⟩
  · rcases good_cases hg with rfl | rfl | rfl | rfl
    · go_enter Tryd.func28, Tryd.ntmps28
      go_wp2
      go_ret
      exact ⟨ret_int (by simp only [wrap_i8, wrap_i16, wrap_wrap32, IntKind.wrap_i32, IntKind.wrap_i64, wrap_wrap64, sgn_1]; try omega), rfl⟩
    · go_enter Tryd.func28, Tryd.ntmps28
      go_wp2
      go_ret
      exact ⟨ret_int (by simp only [wrap_i8, wrap_i16, wrap_wrap32, IntKind.wrap_i32, IntKind.wrap_i64, wrap_wrap64, sgn_2]; try omega), rfl⟩
    · go_enter Tryd.func28, Tryd.ntmps28
      go_wp2
      go_ret
      exact ⟨ret_int (by simp only [wrap_i8, wrap_i16, wrap_wrap32, IntKind.wrap_i32, IntKind.wrap_i64, wrap_wrap64, sgn_4]; try omega), rfl⟩
    · go_enter Tryd.func28, Tryd.ntmps28
      go_wp2
      go_ret
      exact ⟨ret_int (by simp only [wrap_i8, wrap_i16, wrap_wrap32, IntKind.wrap_i32, IntKind.wrap_i64, wrap_wrap64, sgn_8]; try omega), rfl⟩
/-- does a number with a sign fit? -/
def fits (m n : Int) : Bool := good n && sgn (m % 18446744073709551616) n == m
theorem fits_any (m n : Int) (w : World) (hw : Wid w) :
    Calls Tryd.prog 29 #[.int .i64 m, .int .i64 n] w fun e w' => e = .returned (.bool (fits m n)) ∧ Below w.heap.size w w' := by
  cases hg : good n
  · go_enter Tryd.func29, Tryd.ntmps29
    go_wp2_with (go_at_call 24; refine (good_any _ _ hw).mono ?_; rintro e w' ⟨rfl, rfl⟩)
    go_ret
    exact ⟨ret_bool (by simp [fits, hg]), Below.refl _ _⟩
  · go_enter Tryd.func29, Tryd.ntmps29
    go_wp2_with (first | (go_at_call 24; refine (good_any _ _ hw).mono ?_; rintro e w' ⟨rfl, rfl⟩) | (go_at_call 27; refine (signed_any _ _ _ hw (wrap_u64_nonneg _) (by rw [wrap_u64]; omega)).mono ?_; rintro e w' ⟨rfl, hb⟩))
    go_ret
    exact ⟨ret_bool (by simp [fits, hg, wrap_u64]), hb⟩
theorem sfits_any (m n : Int) (w : World) :
    Calls Tryd.prog 30 #[.int .i64 m, .int .i64 n] w fun e w' => e = .returned (.bool (fits m n)) ∧ w' = w := by
  cases hg : good n
  · go_enter Tryd.func30, Tryd.ntmps30
    go_wp2_with (go_at_call 25; refine (sgood_any _ _).mono ?_; rintro e w' ⟨rfl, rfl⟩)
    go_ret
    exact ⟨ret_bool (by simp [fits, hg]), rfl⟩
  · go_enter Tryd.func30, Tryd.ntmps30
    go_wp2_with (first | (go_at_call 25; refine (sgood_any _ _).mono ?_; rintro e w' ⟨rfl, rfl⟩) | (go_at_call 28; refine (ssigned_any _ _ _).mono ?_; rintro e w' ⟨rfl, rfl⟩))
    go_ret
    exact ⟨ret_bool (by simp [fits, hg, wrap_u64]), rfl⟩
end Go.Proofs.YtjinjlfocjohhaaDoor
