/-
  Topologies: the program's Rounds.
-/
import Derived.Test.YtipdggjalhjpnabFar
namespace Go.Proofs.Ytipdggjalhjpnab
open Go.RowKit
set_option linter.unusedSimpArgs false
set_option linter.unusedVariables false

def most (S : Int) (es : List (Int × Int)) (H a : Int) (l : List Int) (m : Int) : Int := l.foldl (fun m b => max m (farI S es H a b)) m
def rnd (S : Int) (es : List (Int × Int)) (H : Int) : Nat → Int
  | 0 => 0
  | n + 1 => most S es H ((n : Int) + 1) (within S es H ((n : Int) + 1) 9) (rnd S es H n)
theorem most_snoc (S : Int) (es : List (Int × Int)) (H a : Int) (l : List Int) (x m : Int) : most S es H a (l ++ [x]) m = max (most S es H a l m) (farI S es H a x) := by simp [most]
def roundsI (S : Int) (es : List (Int × Int)) (H : Int) : Int := rnd S es H (min S 8).toNat

set_option maxRecDepth 4000 in
set_option maxHeartbeats 800000 in
theorem rounds_any (S H : Int) (ev : Value) (es : List (Int × Int)) (w : World) (hr : Rd w 2 ev es.length (edgeCells es)) :
    Calls Try.prog 25 #[topV S ev H] w fun e w' => e = .returned (.int .i64 (roundsI S es H)) ∧ Below w.heap.size w w' := by
  have hB := Below.refl w.heap.size w
  unfold topV
  go_enter Try.func25, Try.ntmps25
  go_wp2
  go_loopw [3, 4, 6] (fun mv av _ wr => ∃ n : Nat, n ≤ 8 ∧ ((n : Int) ≤ S ∨ n = 0) ∧ av = .int .i64 ((n : Int) + 1) ∧ mv = .int .i64 (rnd S es H n) ∧ wr.heap[w.heap.size]? = some (.cells #[.int .i64 S, ev, .int .i64 H] 24 (0, 0)) ∧ Below w.heap.size w wr) (fun _ av _ _ => 9 - (intOf av).toNat)
  case atStart => exact ⟨0, by omega, .inr rfl, rfl, rfl, heap_alloc_new _ _, hB.alloc (Nat.le_refl _) _⟩
  case round =>
    rename World => wq
    obtain ⟨n, hn, hnS, rfl, rfl, ht, hC⟩ := hrel
    have HS := Lib.hid hnS
    clear hnS
    have hx := hr.keep hC
    have hsz := hC.size
    obtain ⟨c0, c1, c2⟩ := cells3 ht
    obtain ⟨M, hM⟩ : ∃ M, (if 8 < S then (8 : Int) else S) = M := ⟨_, rfl⟩
    have HM := Lib.hid (show M = min S 8 by rw [← hM]; split <;> omega)
    by_cases hlt : (n : Int) + 1 ≤ M
    · have h1 : (n : Int) + 1 ≤ S := by have := HM.out; omega
      have h2 : (n : Int) + 1 ≤ 8 := by have := HM.out; omega
      go_wp2_with (first | (go_at_call 21; refine (within_any S H _ ev es _ hx).mono ?_; rintro e w1 ⟨v, rfl, hown, hb⟩; obtain ⟨va, vc, rfl⟩ := rd_slice (Rd.of_own hown)))
      have hL9 := within_len S es H ((n : Int) + 1) 9
      have hR := Rd.of_own hown
      have ht1 := (hb.block _ (lt_of_block ht)).trans ht
      have hC1 := hC.trans (hb.mono hsz)
      have hx1 := hx.keep hb
      have hsz1 := hC1.size
      have hrn := Lib.hid (show rnd S es H (n + 1) = most S es H ((n : Int) + 1) (within S es H ((n : Int) + 1) 9) (rnd S es H n) from rfl)
      generalize within S es H ((n : Int) + 1) 9 = L at hL9 hR hrn hown
      generalize rnd S es H n = m0 at hrn
      clear hown hb c0 c1 c2 ht hx
      go_loopw [3, 6, 18] (fun mv _ ix wr => ∃ i : Nat, i ≤ L.length ∧ ix = .int .i64 (i : Int) ∧ mv = .int .i64 (most S es H ((n : Int) + 1) (L.take i) m0) ∧ Below w1.heap.size w1 wr) (fun _ _ ix _ => L.length - (intOf ix).toNat)
      case atStart => exact ⟨0, by omega, rfl, rfl, Below.refl _ _⟩
      case round =>
        rename World => wb
        obtain ⟨i, hi, rfl, rfl, hD⟩ := hrel
        have hdz := hD.size
        by_cases hil : i < L.length
        · obtain ⟨x, hxi⟩ : ∃ x, L[i]? = some x := ⟨_, List.getElem?_eq_getElem hil⟩
          obtain ⟨_, a', cap', ee, _, _, _, h4⟩ := hR
          obtain ⟨rfl, rfl⟩ : va = a' ∧ vc = cap' := by simpa using ee
          obtain ⟨b, off, rfl, hbb, hcell⟩ := h4 (by omega)
          have hd := (hD.cell (p := ⟨b, off + i, none⟩) hbb).trans (hcell i (.int .i64 x) (by simp [ints, hxi]))
          have ht2 := (hD.block _ (lt_of_block ht1)).trans ht1
          obtain ⟨c0, c1, c2⟩ := cells3 ht2
          have hx2 := hx1.keep hD
          have hms := Lib.hid (show most S es H ((n : Int) + 1) (L.take (i + 1)) m0 = max (most S es H ((n : Int) + 1) (L.take i) m0) (farI S es H ((n : Int) + 1) x) by rw [List.take_add_one, hxi]; exact most_snoc _ _ _ _ _ _ _)
          generalize most S es H ((n : Int) + 1) (L.take i) m0 = m1 at hms
          clear hcell h4 ee hxi
          go_wp2_with (first | (go_at_call 19; refine (far_any S H _ x ev es _ hx2).mono ?_; rintro e w2 ⟨rfl, hb2⟩))
          go_roundw
          case rel => exact ⟨i + 1, by omega, by go_num, by rw [hms.out]; exact congrArg (Value.int .i64) (by split <;> omega), hD.trans (hb2.mono hdz)⟩
          case measure => simp [intOf]; omega
        · obtain rfl : i = L.length := by omega
          rw [List.take_length]
          have hD1 := hC1.trans (hD.mono hsz1)
          have ht2 := (hD.block _ (lt_of_block ht1)).trans ht1
          go_wp2
          go_roundw
          case rel => exact ⟨n + 1, by omega, .inl (by omega), by go_num, by rw [hrn.out], ht2, hD1⟩
          case measure => simp [intOf]; omega
    · have hfin := Lib.hid (show roundsI S es H = rnd S es H n by
        unfold roundsI
        congr 1
        have := HS.out
        have := HM.out
        omega)
      go_wp2
      go_ret
      exact ⟨congrArg (fun z => Ending.returned (.int .i64 z)) hfin.out.symm, hC⟩
end Go.Proofs.Ytipdggjalhjpnab
