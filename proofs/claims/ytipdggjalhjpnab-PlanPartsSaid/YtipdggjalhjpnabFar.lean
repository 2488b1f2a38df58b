/-
  Topologies: the program's Far and Within.
-/
import Derived.Test.YtipdggjalhjpnabLevels
namespace Go.Proofs.Ytipdggjalhjpnab
open Go.RowKit
set_option linter.unusedSimpArgs false
set_option linter.unusedVariables false

/-- How far it is, told for all. -/
def farI (S : Int) (es : List (Int × Int)) (H a b : Int) : Int := if btw b S = true then levF S es H a b.toNat else -1
theorem levF_no {S : Int} {es : List (Int × Int)} {H a : Int} {b : Nat} (hb : btw (b : Int) S = false) : levF S es H a b = -1 := by
  unfold levF
  split
  · rename_i h
    have h2 : 1 ≤ a ∧ a ≤ S := by simpa [btw] using h.2
    unfold levI fst
    have : (List.range S.toNat).find? (fun n => rch es a.toNat n b) = none := by
      rw [List.find?_eq_none]
      intro x _ hr
      have := rch_in h.1.2.2.2.2 (a := a.toNat) (by omega) (by omega) hr
      have h3 : btw (b : Int) S = true := by simp [btw]; omega
      rw [hb] at h3
      cases h3
    rw [this]
  · rfl
theorem levF_bad {S : Int} {es : List (Int × Int)} {H a : Int} {b : Nat} (h : ¬ okT S es H) : levF S es H a b = -1 := by
  unfold levF; rw [if_neg (fun h2 => h h2.1)]

set_option maxRecDepth 4000 in
set_option maxHeartbeats 800000 in
theorem far_any (S H a b : Int) (ev : Value) (es : List (Int × Int)) (w : World) (hr : Rd w 2 ev es.length (edgeCells es)) :
    Calls Try.prog 19 #[topV S ev H, .int .i64 a, .int .i64 b] w fun e w' => e = .returned (.int .i64 (farI S es H a b)) ∧ Below w.heap.size w w' := by
  have hB := Below.refl w.heap.size w
  have hx := hr.keep (hB.alloc (Nat.le_refl _) (.cells #[.int .i64 S, ev, .int .i64 H] 24))
  unfold topV
  by_cases h1 : btw b S = true
  · have hb : 1 ≤ b ∧ b ≤ S := by simpa [btw] using h1
    by_cases h2 : btw b 8 = true
    · have hb8 : 1 ≤ b ∧ b ≤ 8 := by simpa [btw] using h2
      obtain ⟨q, rfl⟩ : ∃ q : Nat, b = (q : Int) := ⟨b.toNat, by omega⟩
      have hF := Lib.hid (show farI S es H a (q : Int) = levF S es H a q by unfold farI; rw [if_pos h1]; simp)
      have hix := Lib.hid (fun w' : World => run_index_one (P := Try.prog) w' 34 3 9 (farA (levF S es H a)) q _ Try.underlying34 (by omega) Try.isAgg3 Try.sizeOf3 (farA_get _ (by omega)))
      obtain ⟨Z, hZ⟩ : ∃ Z, farA (levF S es H a) = Z := ⟨_, rfl⟩
      have HZ := Lib.hid hZ
      have hi2 := hix.out
      rw [hZ] at hi2
      clear hZ hix
      generalize hz : levF S es H a q = z at hF hi2
      clear hz
      go_enter Try.func19, Try.ntmps19
      go_wp2_with (first | (go_at_call 41; with_reducible refine (between_any _ _ _).mono ?_; rintro e w2 ⟨rfl, rfl⟩) | (go_at_call 43; refine (levels_any S H a ev es _ hx).mono ?_; rintro e w3 ⟨rfl, hb3⟩; rw [HZ.out]))
      go_ret
      exact ⟨congrArg (fun z => Ending.returned (.int .i64 z)) hF.out.symm, (hB.alloc (Nat.le_refl _) _).trans (hb3.mono (by simp))⟩
    · have hF := Lib.hid (show farI S es H a b = -1 by
        unfold farI
        rw [if_pos h1]
        refine levF_bad (fun h => h2 ?_)
        have := h.2.1
        simp [btw]; omega)
      simp at h2
      go_enter Try.func19, Try.ntmps19
      go_wp2_with (first | (go_at_call 41; with_reducible refine (between_any _ _ _).mono ?_; rintro e w2 ⟨rfl, rfl⟩))
      go_ret
      exact ⟨congrArg (fun z => Ending.returned (.int .i64 z)) hF.out.symm, hB.alloc (Nat.le_refl _) _⟩
  · have hF := Lib.hid (show farI S es H a b = -1 by unfold farI; rw [if_neg h1])
    simp at h1
    go_enter Try.func19, Try.ntmps19
    go_wp2_with (first | (go_at_call 41; with_reducible refine (between_any _ _ _).mono ?_; rintro e w2 ⟨rfl, rfl⟩))
    go_ret
    exact ⟨congrArg (fun z => Ending.returned (.int .i64 z)) hF.out.symm, hB.alloc (Nat.le_refl _) _⟩
def okW (S : Int) (es : List (Int × Int)) (H a : Int) (b : Nat) : Bool := decide (levF S es H a b ≠ -1) && decide (levF S es H a b ≤ H)
/-- The sites below n that a message from a comes to. -/
def within (S : Int) (es : List (Int × Int)) (H a : Int) (n : Nat) : List Int := ((List.range n).filter fun b : Nat => okW S es H a b).map fun b => ((b : Nat) : Int)
theorem within_succ (S : Int) (es : List (Int × Int)) (H a : Int) (n : Nat) : within S es H a (n + 1) = if okW S es H a n = true then within S es H a n ++ [(n : Int)] else within S es H a n := by
  unfold within
  rw [List.range_succ, List.filter_append, List.map_append]
  by_cases h : okW S es H a n = true
  · rw [if_pos h]; simp [h]
  · rw [if_neg h]; simp [h]
theorem within_len (S : Int) (es : List (Int × Int)) (H a : Int) (n : Nat) : (within S es H a n).length ≤ n := by
  unfold within
  rw [List.length_map]
  exact Nat.le_trans (List.length_filter_le _ _) (by simp)

set_option maxRecDepth 4000 in
set_option maxHeartbeats 800000 in
theorem within_any (S H a : Int) (ev : Value) (es : List (Int × Int)) (w : World) (hr : Rd w 2 ev es.length (edgeCells es)) :
    Calls Try.prog 21 #[topV S ev H, .int .i64 a] w fun e w' => ∃ v, e = .returned v ∧ w'.ownsRow w.heap.size 3 1 v (within S es H a 9).length (ints (within S es H a 9)) ∧ Below w.heap.size w w' := by
  have hB := Below.refl w.heap.size w
  have hx := hr.keep (hB.alloc (Nat.le_refl _) (.cells #[.int .i64 S, ev, .int .i64 H] 24))
  obtain ⟨Z, hZ⟩ : ∃ Z, farA (levF S es H a) = Z := ⟨_, rfl⟩
  have HZ := Lib.hid hZ
  have HI := Lib.hid (fun (q : Nat) (hq : q < 9) (w' : World) => show (Instr.index 34 (.agg Z) (.int .i64 (q : Int))).run Try.prog w' = .ok (.int .i64 (levF S es H a q)) w' by
    rw [← hZ]; exact run_index_one (P := Try.prog) w' 34 3 9 _ q _ Try.underlying34 hq Try.isAgg3 Try.sizeOf3 (farA_get _ hq))
  clear hZ
  unfold topV
  go_enter Try.func21, Try.ntmps21
  go_wp2_with (first | (go_at_call 43; refine (levels_any S H a ev es _ hx).mono ?_; rintro e w1 ⟨rfl, hb⟩; rw [HZ.out]; obtain ⟨hbx, hz1, hB⟩ := box_after hb; clear hb))
  go_loopw [5, 6, 7, 11] (fun v _ _ ix wr => ∃ i : Nat, i ≤ 9 ∧ ix = .int .i64 (i : Int) ∧ wr.ownsRow w.heap.size 3 1 v (within S es H a i).length (ints (within S es H a i)) ∧ wr.heap[w.heap.size]? = some (.cells #[.int .i64 S, ev, .int .i64 H] 24 (0, 0)) ∧ Below w.heap.size w wr) (fun _ _ _ ix _ => 9 - (intOf ix).toNat)
  case atStart => exact ⟨0, by omega, rfl, World.ownsRow_nil _ _ _ _, hbx, hB⟩
  case round =>
    rename World => wq
    obtain ⟨i, hi, rfl, hown, ht, hB⟩ := hrel
    have hsz := hB.size
    obtain ⟨c0, c1, c2⟩ := cells3 ht
    have hL := within_len S es H a i
    by_cases hlt : i < 9
    · have hix := HI.out i hlt
      have hS := within_succ S es H a i
      unfold okW at hS
      generalize levF S es H a i = z at hix hS
      by_cases hz1 : z = -1
      · have hO := Lib.hid (show within S es H a (i + 1) = within S es H a i by rw [hS]; simp [hz1])
        clear hS
        subst hz1
        go_wp2
        go_roundw
        case rel => exact ⟨i + 1, by omega, by go_num, by rw [hO.out]; exact hown, ht, hB⟩
        case measure => simp [intOf]; omega
      · by_cases hz2 : z ≤ H
        · have hO := Lib.hid (show within S es H a (i + 1) = within S es H a i ++ [(i : Int)] by rw [hS]; simp [hz1, hz2])
          clear hS
          go_wp2_with (first | (at_builtin; refine wpList_app _ rfl _ _ 28 rfl w.heap.size 3 (.int .i64 0) 1 8 Try.underlying28 Try.info3 rfl (by decide) _ _ _ 1 _ [_] rfl rfl (hown.alloc _) (rd_one _ _ _) (by simp [Value.oneCell']) (by omega) (by unfold maxLen; omega) (by simp; omega) ?_; intro v5 w5 ho5 hgr5))
          refine ⟨⟨i + 1, by omega, by go_num, by rw [hO.out, List.length_append, ints_append]; exact ho5, ?_, (hB.alloc hsz _).grown hgr5 (by simp; omega) (fun k hk => (hown.lt k hk).1)⟩, by simp [intOf]; omega⟩
          have hlz := lt_of_block ht
          exact (hgr5.block _ (by simp; omega) (fun e => own_ne hown ht (by decide) (by first | exact e | exact e.symm))).trans ((Below.heap_alloc _ _ _ hlz).trans ht)
        · have hO := Lib.hid (show within S es H a (i + 1) = within S es H a i by rw [hS]; simp [hz1, hz2])
          clear hS
          go_wp2
          go_roundw
          case rel => exact ⟨i + 1, by omega, by go_num, by rw [hO.out]; exact hown, ht, hB⟩
          case measure => simp [intOf]; omega
    · obtain rfl : i = 9 := by omega
      have Ho := Lib.hid hown
      clear hown
      go_wp2
      go_ret
      exact ⟨_, rfl, Ho.out, hB⟩
end Go.Proofs.Ytipdggjalhjpnab
