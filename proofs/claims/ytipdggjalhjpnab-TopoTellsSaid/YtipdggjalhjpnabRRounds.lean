/-
  Topologies: the reference's Rounds.
-/
import Derived.Test.YtipdggjalhjpnabTop
namespace Go.Proofs.Ytipdggjalhjpnab
open Go.RowKit
set_option linter.unusedSimpArgs false
set_option linter.unusedVariables false

theorem rounds_bad {S : Int} {es : List (Int × Int)} {H : Int} (h : ¬ okT S es H) : roundsI S es H = 0 := by
  have hw : ∀ a, within S es H a 9 = [] := by
    intro a
    unfold within
    rw [List.map_eq_nil_iff, List.filter_eq_nil_iff]
    intro b _ hk
    unfold okW at hk
    rw [levF_bad h] at hk
    simp at hk
  have hr : ∀ n, rnd S es H n = 0 := by
    intro n
    induction n with
    | zero => rfl
    | succ n ih => rw [rnd, hw, ih]; rfl
  exact hr _

set_option maxRecDepth 4000 in
set_option maxHeartbeats 1600000 in
theorem rrounds_any (S H : Int) (ev : Value) (es : List (Int × Int)) (w : World) (hr : Rd w 2 ev es.length (edgeCells es)) :
    Calls Try.prog 26 #[topV S ev H] w fun e w' => e = .returned (.int .i64 (roundsI S es H)) ∧ Below w.heap.size w w' := by
  have hB := Below.refl w.heap.size w
  unfold topV
  by_cases hT : okT S es H
  · have hok := Lib.hid (decide_eq_true hT)
    have hS1 := hT.1
    have hS8 := hT.2.1
    clear hT
    go_enter Try.func26, Try.ntmps26
    go_wp2
    go_loopw [3, 4, 6, 7] (fun mv av _ _ wr => ∃ n : Nat, n ≤ 8 ∧ (n : Int) ≤ S ∧ av = .int .i64 ((n : Int) + 1) ∧ mv = .int .i64 (rnd S es H n) ∧ wr.heap[w.heap.size]? = some (.cells #[.int .i64 S, ev, .int .i64 H] 24 (0, 0)) ∧ Below w.heap.size w wr) (fun _ av _ _ _ => 9 - (intOf av).toNat)
    case atStart => exact ⟨0, by omega, by omega, rfl, rfl, heap_alloc_new _ _, hB.alloc (Nat.le_refl _) _⟩
    case round =>
      rename World => wq
      obtain ⟨n, hn, hnS, rfl, rfl, ht, hC⟩ := hrel
      have hx := hr.keep hC
      have hsz := hC.size
      obtain ⟨c0, c1, c2⟩ := cells3 ht
      by_cases hlt : (n : Int) + 1 ≤ S
      · have h2 : (n : Int) + 1 ≤ 8 := by omega
        go_wp2_with (first | (go_at_call 15; refine (rgood_any S H ev es _ hx).mono ?_; rintro e w1 ⟨rfl, hb⟩; rw [hok.out]; have ht0 := (hb.block _ (lt_of_block ht)).trans ht; have hC0 := hC.trans (hb.mono hsz); have hx0 := hx.keep hb; have hsz0 := hC0.size; obtain ⟨c0, c1, c2⟩ := cells3 ht0; clear hb) | (go_at_call 22; refine (rwithin_any S H _ ev es _ hx0).mono ?_; rintro e w1 ⟨v, rfl, hown, hb⟩; obtain ⟨va, vc, rfl⟩ := rd_slice (Rd.of_own hown)))
        have hL9 := within_len S es H ((n : Int) + 1) 9
        have hR := Rd.of_own hown
        rename World => w1
        have ht1 := (hb.block _ (lt_of_block ht0)).trans ht0
        have hC1 := hC0.trans (hb.mono hsz0)
        have hx1 := hx0.keep hb
        have hsz1 := hC1.size
        have hrn := Lib.hid (show rnd S es H (n + 1) = most S es H ((n : Int) + 1) (within S es H ((n : Int) + 1) 9) (rnd S es H n) from rfl)
        generalize within S es H ((n : Int) + 1) 9 = L at hL9 hR hrn hown
        generalize rnd S es H n = m0 at hrn
        clear hown hb c0 c1 c2 ht hx ht0 hC0 hx0 hsz0 hC hsz
        go_loopw [3, 6, 7, 22] (fun mv _ _ ix wr => ∃ i : Nat, i ≤ L.length ∧ ix = .int .i64 (i : Int) ∧ mv = .int .i64 (most S es H ((n : Int) + 1) (L.take i) m0) ∧ Below w1.heap.size w1 wr) (fun _ _ _ ix _ => L.length - (intOf ix).toNat)
        case atStart => exact ⟨0, by omega, rfl, rfl, Below.refl _ _⟩
        case round =>
          rename World => wb
          obtain ⟨i, hi, rfl, rfl, hD⟩ := hrel
          have hdz := hD.size
          by_cases hil : i < L.length
          · obtain ⟨x, hxi⟩ : ∃ x, L[i]? = some x := ⟨_, List.getElem?_eq_getElem hil⟩
            obtain ⟨_, a', cap', ee, _, _, _, h4⟩ := hR
            obtain ⟨rfl, rfl⟩ : va = a' ∧ vc = cap' := by simpa using ee
            obtain ⟨b, off, rfl, hbb, hcell⟩ := h4 (by omega)
            have hd := (hD.cell (p := ⟨b, off + i, none⟩) hbb).trans (hcell i (.int .i64 x) (by simp [ints, hxi]))
            have ht2 := (hD.block _ (lt_of_block ht1)).trans ht1
            obtain ⟨c0, c1, c2⟩ := cells3 ht2
            have hx2 := hx1.keep hD
            have hms := Lib.hid (show most S es H ((n : Int) + 1) (L.take (i + 1)) m0 = max (most S es H ((n : Int) + 1) (L.take i) m0) (farI S es H ((n : Int) + 1) x) by rw [List.take_add_one, hxi]; exact most_snoc _ _ _ _ _ _ _)
            generalize most S es H ((n : Int) + 1) (L.take i) m0 = m1 at hms
            obtain ⟨z, hz⟩ : ∃ z, farI S es H ((n : Int) + 1) x = z := ⟨_, rfl⟩
            have HZ := Lib.hid hz
            rw [hz] at hms
            clear hcell h4 ee hxi hz
            by_cases hzm : m1 < z
            · go_wp2_with (first | (go_at_call 20; refine (rfar_any S H _ x ev es _ hx2).mono ?_; rintro e w2 ⟨rfl, hb2⟩; rw [HZ.out]))
              go_roundw
              case rel => exact ⟨i + 1, by omega, by go_num, by rw [hms.out]; exact congrArg (Value.int .i64) (by omega), hD.trans (hb2.mono hdz)⟩
              case measure => simp [intOf]; omega
            · have hzm2 : z ≤ m1 := by omega
              clear hzm
              go_wp2_with (first | (go_at_call 20; refine (rfar_any S H _ x ev es _ hx2).mono ?_; rintro e w2 ⟨rfl, hb2⟩; rw [HZ.out]))
              go_roundw
              case rel => exact ⟨i + 1, by omega, by go_num, by rw [hms.out]; exact congrArg (Value.int .i64) (by omega), hD.trans (hb2.mono hdz)⟩
              case measure => simp [intOf]; omega
          · obtain rfl : i = L.length := by omega
            rw [List.take_length]
            have hD1 := hC1.trans (hD.mono hsz1)
            have ht2 := (hD.block _ (lt_of_block ht1)).trans ht1
            go_wp2
            go_roundw
            case rel => exact ⟨n + 1, by omega, by omega, by go_num, by rw [hrn.out], ht2, hD1⟩
            case measure => simp [intOf]; omega
      · have hfin := Lib.hid (show roundsI S es H = rnd S es H n by
          unfold roundsI
          congr 1
          omega)
        go_wp2_with (first | (go_at_call 15; refine (rgood_any S H ev es _ hx).mono ?_; rintro e w1 ⟨rfl, hb⟩; rw [hok.out]; have ht0 := (hb.block _ (lt_of_block ht)).trans ht; have hC0 := hC.trans (hb.mono hsz); obtain ⟨c0, c1, c2⟩ := cells3 ht0; clear hb))
        go_ret
        exact ⟨congrArg (fun z => Ending.returned (.int .i64 z)) hfin.out.symm, hC0⟩
  · have hok := Lib.hid (decide_eq_false hT)
    have hfin := Lib.hid (rounds_bad hT)
    clear hT
    go_enter Try.func26, Try.ntmps26
    go_wp2
    go_loopw [3, 4, 6, 7] (fun mv av _ _ wr => av = .int .i64 1 ∧ mv = .int .i64 0 ∧ wr.heap[w.heap.size]? = some (.cells #[.int .i64 S, ev, .int .i64 H] 24 (0, 0)) ∧ Below w.heap.size w wr) (fun _ av _ _ _ => 0)
    case atStart => exact ⟨rfl, rfl, heap_alloc_new _ _, hB.alloc (Nat.le_refl _) _⟩
    case round =>
      rename World => wq
      obtain ⟨rfl, rfl, ht, hC⟩ := hrel
      have hx := hr.keep hC
      have hsz := hC.size
      obtain ⟨c0, c1, c2⟩ := cells3 ht
      go_wp2_with (first | (go_at_call 15; refine (rgood_any S H ev es _ hx).mono ?_; rintro e w1 ⟨rfl, hb⟩; rw [hok.out]; have hC0 := hC.trans (hb.mono hsz); clear hb))
      go_ret
      exact ⟨congrArg (fun z => Ending.returned (.int .i64 z)) hfin.out.symm, hC0⟩
end Go.Proofs.Ytipdggjalhjpnab
