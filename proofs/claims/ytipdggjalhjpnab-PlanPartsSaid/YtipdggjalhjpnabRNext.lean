/-
  Topologies: the reference's Next.
-/
import Derived.Test.YtipdggjalhjpnabNext
namespace Go.Proofs.Ytipdggjalhjpnab
open Go.RowKit
set_option linter.unusedSimpArgs false
set_option linter.unusedVariables false

theorem outs_one {S : Int} {es : List (Int × Int)} (h : okE S es) (a : Int) : outs es a 1 = [] := by
  rw [outs_succ, if_neg]
  · rfl
  · intro hm
    have := h.1 _ hm
    simp at this
theorem outs_past {S : Int} {es : List (Int × Int)} (h : okE S es) (a : Int) {i : Nat} (hi : S < i) : ∀ d, outs es a (i + d) = outs es a i
  | 0 => rfl
  | d + 1 => by
    rw [← Nat.add_assoc, outs_succ, if_neg, outs_past h a hi d]
    intro hm
    have := (h.1 _ hm).2.2.2.1
    simp at this
    omega

set_option maxRecDepth 4000 in
set_option maxHeartbeats 1600000 in
theorem rnext_any (S H n : Int) (ev : Value) (es : List (Int × Int)) (w : World) (hr : Rd w 2 ev es.length (edgeCells es)) :
    Calls Try.prog 18 #[topV S ev H, .int .i64 n] w fun e w' => ∃ v, e = .returned v ∧ w'.ownsRow w.heap.size 3 1 v (nextL S es H n).length (ints (nextL S es H n)) ∧ Below w.heap.size w w' := by
  have hB := Below.refl w.heap.size w
  unfold topV
  by_cases hT : okT S es H
  · have hok := Lib.hid (decide_eq_true hT)
    have hS1 := hT.1
    have hS8 := hT.2.1
    have hE := Lib.hid hT.2.2.2.2
    have hN := Lib.hid (show nextL S es H n = outs es n 9 by unfold nextL; rw [if_pos hT])
    clear hT
    go_enter Try.func18, Try.ntmps18
    go_wp2
    go_loopw [5, 6] (fun v ix wr => ∃ i : Nat, 1 ≤ i ∧ i ≤ 9 ∧ ix = .int .i64 (i : Int) ∧ wr.ownsRow w.heap.size 3 1 v (outs es n i).length (ints (outs es n i)) ∧ wr.heap[w.heap.size]? = some (.cells #[.int .i64 S, ev, .int .i64 H] 24 (0, 0)) ∧ Below w.heap.size w wr) (fun _ ix _ => 9 - (intOf ix).toNat)
    case atStart => exact ⟨1, by omega, by omega, rfl, by rw [outs_one hE.out]; exact World.ownsRow_nil _ _ _ _, heap_alloc_new _ _, hB.alloc (Nat.le_refl _) _⟩
    case round =>
      rename World => wq
      obtain ⟨i, hi1, hi9, rfl, hown, ht, hB⟩ := hrel
      have hsz := hB.size
      have hr1 := hr.keep hB
      obtain ⟨c0, c1, c2⟩ := cells3 ht
      by_cases hlt : (i : Int) ≤ S
      · have hL := outs_len es n i
        by_cases hin : (n, (i : Int)) ∈ es
        · have hO := Lib.hid (show outs es n (i + 1) = outs es n i ++ [(i : Int)] by rw [outs_succ, if_pos hin])
          have hD := Lib.hid (decide_eq_true hin)
          clear hin
          go_wp2_with (first | (go_at_call 15; refine (rgood_any S H ev es _ hr1).mono ?_; rintro e w1 ⟨rfl, hb⟩; rw [hok.out]; have ht1 := (hb.block _ (lt_of_block ht)).trans ht; obtain ⟨c0, c1, c2⟩ := cells3 ht1; have hr2 := hr1.keep hb; have hown1 := below_own hown hb (Nat.le_refl _); have hB1 := hB.trans (hb.mono hsz); have hsz1 := hB1.size; clear hb) | (go_at_call 42; refine (edge_any S H n (i : Int) ev es _ hr2).mono ?_; rintro e w2 ⟨rfl, hb⟩; rw [hD.out]; have ht2 := (hb.block _ (lt_of_block ht1)).trans ht1; have hown2 := below_own hown1 hb (Nat.le_refl _); have hB2 := hB1.trans (hb.mono hsz1); have hsz2 := hB2.size; clear hb) | (at_builtin; refine wpList_app _ rfl _ _ 28 rfl w.heap.size 3 (.int .i64 0) 1 8 Try.underlying28 Try.info3 rfl (by decide) _ _ _ 1 _ [_] rfl rfl (hown2.alloc _) (rd_one _ _ _) (by simp [Value.oneCell']) (by omega) (by unfold maxLen; omega) (by simp; omega) ?_; intro v5 w5 ho5 hgr5))
          refine ⟨⟨i + 1, by omega, by omega, by go_num, by rw [hO.out, List.length_append, ints_append]; exact ho5, ?_, (hB2.alloc hsz2 _).grown hgr5 (by simp; omega) (fun k hk => (hown2.lt k hk).1)⟩, by simp [intOf]; omega⟩
          have hlz := lt_of_block ht2
          exact (hgr5.block _ (by simp; omega) (fun e => own_ne hown2 ht2 (by decide) (by first | exact e | exact e.symm))).trans ((Below.heap_alloc _ _ _ hlz).trans ht2)
        · have hO := Lib.hid (show outs es n (i + 1) = outs es n i by rw [outs_succ, if_neg hin])
          have hD := Lib.hid (decide_eq_false hin)
          clear hin
          go_wp2_with (first | (go_at_call 15; refine (rgood_any S H ev es _ hr1).mono ?_; rintro e w1 ⟨rfl, hb⟩; rw [hok.out]; have ht1 := (hb.block _ (lt_of_block ht)).trans ht; obtain ⟨c0, c1, c2⟩ := cells3 ht1; have hr2 := hr1.keep hb; have hown1 := below_own hown hb (Nat.le_refl _); have hB1 := hB.trans (hb.mono hsz); have hsz1 := hB1.size; clear hb) | (go_at_call 42; refine (edge_any S H n (i : Int) ev es _ hr2).mono ?_; rintro e w2 ⟨rfl, hb⟩; rw [hD.out]; have ht2 := (hb.block _ (lt_of_block ht1)).trans ht1; have hown2 := below_own hown1 hb (Nat.le_refl _); have hB2 := hB1.trans (hb.mono hsz1); have hsz2 := hB2.size; clear hb))
          go_roundw
          case rel => exact ⟨i + 1, by omega, by omega, by go_num, by rw [hO.out]; exact hown2, ht2, hB2⟩
          case measure => simp [intOf]; omega
      · have hO := Lib.hid (show outs es n 9 = outs es n i by have := outs_past hE.out n (i := i) (by omega) (9 - i); rwa [show i + (9 - i) = 9 by omega] at this)
        go_wp2_with (first | (go_at_call 15; refine (rgood_any S H ev es _ hr1).mono ?_; rintro e w1 ⟨rfl, hb⟩; rw [hok.out]; have ht1 := (hb.block _ (lt_of_block ht)).trans ht; obtain ⟨c0, c1, c2⟩ := cells3 ht1; have hr2 := hr1.keep hb; have hown1 := below_own hown hb (Nat.le_refl _); have hB1 := hB.trans (hb.mono hsz); have hsz1 := hB1.size; clear hb))
        go_ret
        exact ⟨_, rfl, by rw [hN.out, hO.out]; exact hown1, hB1⟩
  · have hok := Lib.hid (decide_eq_false hT)
    have hN := Lib.hid (show nextL S es H n = [] by unfold nextL; rw [if_neg hT])
    clear hT
    go_enter Try.func18, Try.ntmps18
    go_wp2
    go_loopw [5, 6] (fun v ix wr => ix = .int .i64 1 ∧ v = .slice none 0 0 ∧ Below w.heap.size w wr ∧ wr.heap[w.heap.size]? = some (.cells #[.int .i64 S, ev, .int .i64 H] 24 (0, 0))) (fun _ _ _ => 0)
    case atStart => exact ⟨rfl, rfl, hB.alloc (Nat.le_refl _) _, heap_alloc_new _ _⟩
    case round =>
      rename World => wq
      obtain ⟨rfl, rfl, hB, ht⟩ := hrel
      have hsz := hB.size
      have hr1 := hr.keep hB
      obtain ⟨c0, c1, c2⟩ := cells3 ht
      go_wp2_with (first | (go_at_call 15; refine (rgood_any S H ev es _ hr1).mono ?_; rintro e w1 ⟨rfl, hb⟩; rw [hok.out]; have hB1 := hB.trans (hb.mono hsz); clear hb))
      go_ret
      exact ⟨_, rfl, by rw [hN.out]; exact World.ownsRow_nil _ _ _ _, hB1⟩
end Go.Proofs.Ytipdggjalhjpnab
