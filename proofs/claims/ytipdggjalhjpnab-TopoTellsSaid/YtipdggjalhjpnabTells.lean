/-
  Topologies: the walk of TopoTells.
-/
import Derived.Test.YtipdggjalhjpnabLives
import Derived.Test.YtipdggjalhjpnabRRounds
namespace Go.Proofs.Ytipdggjalhjpnab
open Go.RowKit
set_option linter.unusedSimpArgs false
set_option linter.unusedVariables false

set_option maxRecDepth 4000 in
set_option maxHeartbeats 1600000 in
theorem tells_any (S H a b : Int) (ev : Value) (es : List (Int × Int)) (w : World) (hr : Rd w 2 ev es.length (edgeCells es)) :
    Calls Try.prog 3 #[topV S ev H, .int .i64 a, .int .i64 b] w fun e w' => e = .returned (.bool true) ∧ Below w.heap.size w w' := by
  have h0 := Lib.hid (TopIn.mk1 (S := S) (H := H) w hr)
  unfold topV
  obtain ⟨ea, ek, rfl⟩ := rd_slice hr
  obtain ⟨c0, c1, c2⟩ := h0.out.cells
  clear c0 c1 c2
  by_cases hbig : 200 < es.length
  · go_enter Try.func3, Try.ntmps3
    go_wp2_with (first | (go_at_call 13; refine (lives_any _).mono ?_; rintro e w1 ⟨rfl, hb⟩))
    go_ret
    exact ⟨rfl, (h0.out.next hb).2.2⟩
  · have hsm : es.length ≤ 200 := by omega
    obtain ⟨ok, hok⟩ : ∃ ok, decide (okT S es H) = ok := ⟨_, rfl⟩
    have Hok := Lib.hid hok
    obtain ⟨z, hz⟩ : ∃ z, farI S es H a b = z := ⟨_, rfl⟩
    have Hz := Lib.hid hz
    obtain ⟨L, hL⟩ : ∃ L, nextL S es H a = L := ⟨_, rfl⟩
    have HL := Lib.hid hL
    clear hok hz hL hbig
    go_enter Try.func3, Try.ntmps3
    go_wp2_with fail
    have hT := h0.out
    obtain ⟨c0, c1, c2⟩ := h0.out.cells
    go_region_held3 (fun w' => TopIn w.heap.size S H (.slice ea es.length ek) es w w' ∧ w'.cell? ⟨w.heap.size, 0, none⟩ = some (.int .i64 S) ∧ w'.cell? ⟨w.heap.size, 1, none⟩ = some (.slice ea es.length ek) ∧ w'.cell? ⟨w.heap.size, 2, none⟩ = some (.int .i64 H))
      (first | exact ⟨hT.drew, hT.drew.cells⟩ | (go_split_ands; have hTq := TopIn.next (by assumption) hb; exact ⟨hTq, hTq.cells⟩))
      (first
        | (go_at_call 14; refine (good_any S H _ es _ ?_).mono ?_; (go_split_ands; exact TopIn.rd (by assumption)); rintro e w1 ⟨rfl, hb⟩; rw [Hok.out])
        | (go_at_call 15; refine (rgood_any S H _ es _ ?_).mono ?_; (go_split_ands; exact TopIn.rd (by assumption)); rintro e w1 ⟨rfl, hb⟩; rw [Hok.out])
        | (go_at_call 17; refine (next_any S H a _ es _ ?_).mono ?_; (go_split_ands; exact TopIn.rd (by assumption)); rintro e w1 ⟨v1, rfl, hown, hb⟩; rw [HL.out] at hown; have hR1 := Rd.of_own hown)
        | (go_at_call 18; refine (rnext_any S H a _ es _ ?_).mono ?_; (go_split_ands; exact TopIn.rd (by assumption)); rintro e w2 ⟨v2, rfl, hown, hb⟩; rw [HL.out] at hown; have hR2 := Rd.of_own hown; have hR3 := hR1.keep hb)
        | (go_at_call 16; refine (ints_any _ _ L L _ hR3 hR2).mono ?_; rintro e w1 ⟨rfl, m, rfl⟩; rw [beq_self_eq_true]; have hb := below_drewN (Below.refl w2.heap.size w2) m)
        | (go_at_call 19; refine (far_any S H a b _ es _ ?_).mono ?_; (go_split_ands; exact TopIn.rd (by assumption)); rintro e w1 ⟨rfl, hb⟩; rw [Hz.out])
        | (go_at_call 20; refine (rfar_any S H a b _ es _ ?_).mono ?_; (go_split_ands; exact TopIn.rd (by assumption)); rintro e w1 ⟨rfl, hb⟩; rw [Hz.out])
        | (go_at_call 13; refine (lives_any _).mono ?_; rintro e w1 ⟨rfl, hb⟩))
    all_goals
      go_wp2
      go_ret
      go_split_ands
      exact ⟨rfl, TopIn.below (by assumption)⟩
end Go.Proofs.Ytipdggjalhjpnab
