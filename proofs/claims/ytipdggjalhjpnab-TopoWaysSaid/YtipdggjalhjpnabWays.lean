/-
  Topologies: the walk of TopoWays.
-/
import Derived.Test.YtipdggjalhjpnabLives
import Derived.Test.YtipdggjalhjpnabRRounds
namespace Go.Proofs.Ytipdggjalhjpnab
open Go.RowKit
set_option linter.unusedSimpArgs false
set_option linter.unusedVariables false

set_option maxRecDepth 4000 in
set_option maxHeartbeats 1600000 in
theorem ways_any (S H a b : Int) (ev : Value) (es : List (Int × Int)) (w : World) (hr : Rd w 2 ev es.length (edgeCells es)) :
    Calls Try.prog 4 #[topV S ev H, .int .i64 a, .int .i64 b] w fun e w' => e = .returned (.bool true) ∧ Below w.heap.size w w' := by
  have h0 := Lib.hid (TopIn.mk1 (S := S) (H := H) w hr)
  unfold topV
  obtain ⟨ea, ek, rfl⟩ := rd_slice hr
  obtain ⟨c0, c1, c2⟩ := h0.out.cells
  clear c0 c1 c2
  by_cases hbig : 200 < es.length
  · go_enter Try.func4, Try.ntmps4
    go_wp2_with (first | (go_at_call 13; refine (lives_any _).mono ?_; rintro e w1 ⟨rfl, hb⟩))
    go_ret
    exact ⟨rfl, (h0.out.next hb).2.2⟩
  · have hsm : es.length ≤ 200 := by omega
    obtain ⟨z, hz⟩ : ∃ z, roundsI S es H = z := ⟨_, rfl⟩
    have Hz := Lib.hid hz
    obtain ⟨L, hL⟩ : ∃ L, within S es H a 9 = L := ⟨_, rfl⟩
    have HL := Lib.hid hL
    obtain ⟨M, hM⟩ : ∃ M, onward S es H a b = M := ⟨_, rfl⟩
    have HM := Lib.hid hM
    clear hz hL hM hbig
    go_enter Try.func4, Try.ntmps4
    go_wp2_with fail
    have hT := h0.out
    obtain ⟨c0, c1, c2⟩ := h0.out.cells
    go_region_held3 (fun w' => TopIn w.heap.size S H (.slice ea es.length ek) es w w' ∧ w'.cell? ⟨w.heap.size, 0, none⟩ = some (.int .i64 S) ∧ w'.cell? ⟨w.heap.size, 1, none⟩ = some (.slice ea es.length ek) ∧ w'.cell? ⟨w.heap.size, 2, none⟩ = some (.int .i64 H))
      (first | exact ⟨hT.drew, hT.drew.cells⟩ | (go_split_ands; have hTq := TopIn.next (by assumption) hb; exact ⟨hTq, hTq.cells⟩))
      (first
        | (go_at_call 21; refine (within_any S H a _ es _ ?_).mono ?_; (go_split_ands; exact TopIn.rd (by assumption)); rintro e w1 ⟨v1, rfl, hown, hb⟩; rw [HL.out] at hown; have hR1 := Rd.of_own hown)
        | (go_at_call 22; refine (rwithin_any S H a _ es _ ?_).mono ?_; (go_split_ands; exact TopIn.rd (by assumption)); rintro e w2 ⟨v2, rfl, hown, hb⟩; rw [HL.out] at hown; have hR2 := Rd.of_own hown; have hR3 := hR1.keep hb)
        | (go_at_call 16; with_reducible refine (ints_any _ _ M M _ hR6 hR5).mono ?_; rintro e w1 ⟨rfl, m, rfl⟩; rw [beq_self_eq_true]; have hb := below_drewN (Below.refl w5.heap.size w5) m)
        | (go_at_call 16; with_reducible refine (ints_any _ _ L L _ hR3 hR2).mono ?_; rintro e w1 ⟨rfl, m, rfl⟩; rw [beq_self_eq_true]; have hb := below_drewN (Below.refl w2.heap.size w2) m)
        | (go_at_call 23; refine (onward_any S H a b _ es _ ?_).mono ?_; (go_split_ands; exact TopIn.rd (by assumption)); rintro e w4 ⟨v4, rfl, hown, hb⟩; rw [HM.out] at hown; have hR4 := Rd.of_own hown)
        | (go_at_call 24; refine (ronward_any S H a b _ es _ ?_).mono ?_; (go_split_ands; exact TopIn.rd (by assumption)); rintro e w5 ⟨v5, rfl, hown, hb⟩; rw [HM.out] at hown; have hR5 := Rd.of_own hown; have hR6 := hR4.keep hb)
        | (go_at_call 25; refine (rounds_any S H _ es _ ?_).mono ?_; (go_split_ands; exact TopIn.rd (by assumption)); rintro e w1 ⟨rfl, hb⟩; rw [Hz.out])
        | (go_at_call 26; refine (rrounds_any S H _ es _ ?_).mono ?_; (go_split_ands; exact TopIn.rd (by assumption)); rintro e w1 ⟨rfl, hb⟩; rw [Hz.out])
        | (go_at_call 13; refine (lives_any _).mono ?_; rintro e w1 ⟨rfl, hb⟩))
    all_goals
      go_wp2
      go_ret
      go_split_ands
      exact ⟨rfl, TopIn.below (by assumption)⟩
end Go.Proofs.Ytipdggjalhjpnab
