/-
  Topologies: the reference's Within.
-/
import Derived.Test.YtipdggjalhjpnabRFar
import Derived.Test.YtipdggjalhjpnabRNext
namespace Go.Proofs.Ytipdggjalhjpnab
open Go.RowKit
set_option linter.unusedSimpArgs false
set_option linter.unusedVariables false

theorem okW_far {S : Int} {es : List (Int × Int)} {H a : Int} {i : Nat} : okW S es H a i = (decide (farI S es H a (i : Int) ≠ -1) && decide (farI S es H a (i : Int) ≤ H)) := by
  unfold okW farI
  by_cases hb : btw (i : Int) S = true
  · rw [if_pos hb]; simp
  · rw [if_neg hb]
    simp at hb
    rw [levF_no hb]
theorem farI_bd (S : Int) (es : List (Int × Int)) (H a b : Int) : farI S es H a b = -1 ∨ 0 ≤ farI S es H a b := by
  unfold farI levF levI
  split
  · split
    · rcases fst_bd es a.toNat S.toNat b.toNat with h | h
      · exact .inl h
      · exact .inr h.1
    · exact .inl rfl
  · exact .inl rfl
theorem within_one (S : Int) (es : List (Int × Int)) (H a : Int) : within S es H a 1 = [] := by
  rw [within_succ, if_neg]
  · rfl
  · rw [okW_far]
    simp [farI, btw]
theorem within_past {S : Int} (es : List (Int × Int)) (H a : Int) {i : Nat} (hi : S < i) : ∀ d, within S es H a (i + d) = within S es H a i
  | 0 => rfl
  | d + 1 => by
    rw [← Nat.add_assoc, within_succ, if_neg, within_past es H a hi d]
    rw [okW_far]
    have : btw (((i + d : Nat)) : Int) S = false := by simp [btw]; omega
    have h2 : farI S es H a ((i + d : Nat) : Int) = -1 := by unfold farI; rw [this]; rfl
    rw [h2]; simp

set_option maxRecDepth 4000 in
set_option maxHeartbeats 1600000 in
theorem rwithin_any (S H n : Int) (ev : Value) (es : List (Int × Int)) (w : World) (hr : Rd w 2 ev es.length (edgeCells es)) :
    Calls Try.prog 22 #[topV S ev H, .int .i64 n] w fun e w' => ∃ v, e = .returned v ∧ w'.ownsRow w.heap.size 3 1 v (within S es H n 9).length (ints (within S es H n 9)) ∧ Below w.heap.size w w' := by
  have hB := Below.refl w.heap.size w
  unfold topV
  by_cases hT : okT S es H
  · have hok := Lib.hid (decide_eq_true hT)
    have hS1 := hT.1
    have hS8 := hT.2.1
    clear hT
    go_enter Try.func22, Try.ntmps22
    go_wp2
    go_loopw [5, 6, 7] (fun v ix _ wr => ∃ i : Nat, 1 ≤ i ∧ i ≤ 9 ∧ ix = .int .i64 (i : Int) ∧ wr.ownsRow w.heap.size 3 1 v (within S es H n i).length (ints (within S es H n i)) ∧ wr.heap[w.heap.size]? = some (.cells #[.int .i64 S, ev, .int .i64 H] 24 (0, 0)) ∧ Below w.heap.size w wr) (fun _ ix _ _ => 9 - (intOf ix).toNat)
    case atStart => exact ⟨1, by omega, by omega, rfl, by rw [within_one]; exact World.ownsRow_nil _ _ _ _, heap_alloc_new _ _, hB.alloc (Nat.le_refl _) _⟩
    case round =>
      rename World => wq
      obtain ⟨i, hi1, hi9, rfl, hown, ht, hB⟩ := hrel
      have hsz := hB.size
      have hr1 := hr.keep hB
      obtain ⟨c0, c1, c2⟩ := cells3 ht
      by_cases hlt : (i : Int) ≤ S
      · have hL := within_len S es H n i
        have hW := within_succ S es H n i
        rw [okW_far] at hW
        obtain ⟨z, hz⟩ : ∃ z, farI S es H n (i : Int) = z := ⟨_, rfl⟩
        have hbd := farI_bd S es H n (i : Int)
        rw [hz] at hW hbd
        have hz := Lib.hid hz
        by_cases h1 : z = -1
        · have hO := Lib.hid (show within S es H n (i + 1) = within S es H n i by rw [hW]; simp [h1])
          subst h1
          clear hW hbd
          go_wp2_with (first | (go_at_call 15; refine (rgood_any S H ev es _ hr1).mono ?_; rintro e w1 ⟨rfl, hb⟩; rw [hok.out]; have ht1 := (hb.block _ (lt_of_block ht)).trans ht; obtain ⟨c0, c1, c2⟩ := cells3 ht1; have hr2 := hr1.keep hb; have hown1 := below_own hown hb (Nat.le_refl _); have hB1 := hB.trans (hb.mono hsz); have hsz1 := hB1.size; clear hb) | (go_at_call 20; refine (rfar_any S H n (i : Int) ev es _ hr2).mono ?_; rintro e w2 ⟨rfl, hb⟩; rw [hz.out]; have ht2 := (hb.block _ (lt_of_block ht1)).trans ht1; obtain ⟨c0, c1, c2⟩ := cells3 ht2; have hown2 := below_own hown1 hb (Nat.le_refl _); have hB2 := hB1.trans (hb.mono hsz1); have hsz2 := hB2.size; clear hb))
          go_roundw
          case rel => exact ⟨i + 1, by omega, by omega, by go_num, by rw [hO.out]; exact hown2, ht2, hB2⟩
          case measure => simp [intOf]; omega
        · have h0 : 0 ≤ z := by omega
          clear hbd
          by_cases h2 : z ≤ H
          · have hO := Lib.hid (show within S es H n (i + 1) = within S es H n i ++ [(i : Int)] by rw [hW]; simp [h1, h2])
            clear hW
            go_wp2_with (first | (go_at_call 15; refine (rgood_any S H ev es _ hr1).mono ?_; rintro e w1 ⟨rfl, hb⟩; rw [hok.out]; have ht1 := (hb.block _ (lt_of_block ht)).trans ht; obtain ⟨c0, c1, c2⟩ := cells3 ht1; have hr2 := hr1.keep hb; have hown1 := below_own hown hb (Nat.le_refl _); have hB1 := hB.trans (hb.mono hsz); have hsz1 := hB1.size; clear hb) | (go_at_call 20; refine (rfar_any S H n (i : Int) ev es _ hr2).mono ?_; rintro e w2 ⟨rfl, hb⟩; rw [hz.out]; have ht2 := (hb.block _ (lt_of_block ht1)).trans ht1; obtain ⟨c0, c1, c2⟩ := cells3 ht2; have hown2 := below_own hown1 hb (Nat.le_refl _); have hB2 := hB1.trans (hb.mono hsz1); have hsz2 := hB2.size; clear hb) | (at_builtin; refine wpList_app _ rfl _ _ 28 rfl w.heap.size 3 (.int .i64 0) 1 8 Try.underlying28 Try.info3 rfl (by decide) _ _ _ 1 _ [_] rfl rfl (hown2.alloc _) (rd_one _ _ _) (by simp [Value.oneCell']) (by omega) (by unfold maxLen; omega) (by simp; omega) ?_; intro v5 w5 ho5 hgr5))
            refine ⟨⟨i + 1, by omega, by omega, by go_num, by rw [hO.out, List.length_append, ints_append]; exact ho5, ?_, (hB2.alloc hsz2 _).grown hgr5 (by simp; omega) (fun k hk => (hown2.lt k hk).1)⟩, by simp [intOf]; omega⟩
            have hlz := lt_of_block ht2
            exact (hgr5.block _ (by simp; omega) (fun e => own_ne hown2 ht2 (by decide) (by first | exact e | exact e.symm))).trans ((Below.heap_alloc _ _ _ hlz).trans ht2)
          · have hO := Lib.hid (show within S es H n (i + 1) = within S es H n i by rw [hW]; simp [h1, h2])
            clear hW
            have h3 : H < z := by omega
            have h4 : decide (z ≤ H) = false := decide_eq_false h2
            clear h2
            go_wp2_with (first | (go_at_call 15; refine (rgood_any S H ev es _ hr1).mono ?_; rintro e w1 ⟨rfl, hb⟩; rw [hok.out]; have ht1 := (hb.block _ (lt_of_block ht)).trans ht; obtain ⟨c0, c1, c2⟩ := cells3 ht1; have hr2 := hr1.keep hb; have hown1 := below_own hown hb (Nat.le_refl _); have hB1 := hB.trans (hb.mono hsz); have hsz1 := hB1.size; clear hb) | (go_at_call 20; refine (rfar_any S H n (i : Int) ev es _ hr2).mono ?_; rintro e w2 ⟨rfl, hb⟩; rw [hz.out]; have ht2 := (hb.block _ (lt_of_block ht1)).trans ht1; obtain ⟨c0, c1, c2⟩ := cells3 ht2; have hown2 := below_own hown1 hb (Nat.le_refl _); have hB2 := hB1.trans (hb.mono hsz1); have hsz2 := hB2.size; clear hb))
            go_roundw
            case rel => exact ⟨i + 1, by omega, by omega, by go_num, by rw [hO.out]; exact hown2, ht2, hB2⟩
            case measure => simp [intOf]; omega
      · have hO := Lib.hid (show within S es H n 9 = within S es H n i by have := within_past es H n (i := i) (S := S) (by omega) (9 - i); rwa [show i + (9 - i) = 9 by omega] at this)
        go_wp2_with (first | (go_at_call 15; refine (rgood_any S H ev es _ hr1).mono ?_; rintro e w1 ⟨rfl, hb⟩; rw [hok.out]; have ht1 := (hb.block _ (lt_of_block ht)).trans ht; obtain ⟨c0, c1, c2⟩ := cells3 ht1; have hr2 := hr1.keep hb; have hown1 := below_own hown hb (Nat.le_refl _); have hB1 := hB.trans (hb.mono hsz); have hsz1 := hB1.size; clear hb))
        go_ret
        exact ⟨_, rfl, by rw [hO.out]; exact hown1, hB1⟩
  · have hok := Lib.hid (decide_eq_false hT)
    have hN := Lib.hid (show within S es H n 9 = [] by
      unfold within
      rw [List.map_eq_nil_iff, List.filter_eq_nil_iff]
      intro k _
      unfold okW
      rw [levF_bad hT]; simp)
    clear hT
    go_enter Try.func22, Try.ntmps22
    go_wp2
    go_loopw [5, 6, 7] (fun v ix _ wr => ix = .int .i64 1 ∧ v = .slice none 0 0 ∧ Below w.heap.size w wr ∧ wr.heap[w.heap.size]? = some (.cells #[.int .i64 S, ev, .int .i64 H] 24 (0, 0))) (fun _ _ _ _ => 0)
    case atStart => exact ⟨rfl, rfl, hB.alloc (Nat.le_refl _) _, heap_alloc_new _ _⟩
    case round =>
      rename World => wq
      obtain ⟨rfl, rfl, hB, ht⟩ := hrel
      have hsz := hB.size
      have hr1 := hr.keep hB
      obtain ⟨c0, c1, c2⟩ := cells3 ht
      go_wp2_with (first | (go_at_call 15; refine (rgood_any S H ev es _ hr1).mono ?_; rintro e w1 ⟨rfl, hb⟩; rw [hok.out]; have hB1 := hB.trans (hb.mono hsz); clear hb))
      go_ret
      exact ⟨_, rfl, by rw [hN.out]; exact World.ownsRow_nil _ _ _ _, hB1⟩
end Go.Proofs.Ytipdggjalhjpnab
