/-
  Contracts of the law WordBack.
-/
import Derived.Test.YtjinjlfocjohhaaDoorHalves
namespace Go.Proofs.YtjinjlfocjohhaaDoor
open Go.RowKit
set_option linter.unusedSimpArgs false
set_option linter.unusedVariables false

theorem wordBack_big (v k : Int) (t : Value) (xs : List Int) (w : World) (hw : Wid w) (hr : Rd w 1 t xs.length (by8 xs)) (h5 : 1000 < xs.length) :
    Calls Tryd.prog 9 #[.int .u64 v, .int .u64 k, t] w fun e w' => e = .returned (.bool true) ∧ Below w.heap.size w w' := by
  obtain ⟨a, cap, rfl⟩ := rd_slice hr
  go_enter Tryd.func9, Tryd.ntmps9
  go_wp2_with (first | (go_at_call 21; refine (lives_any _ hw).mono ?_; rintro e w7 ⟨rfl, hb7⟩))
  go_ret
  exact ⟨rfl, hb7⟩

theorem back_facts_1 (v : Int) (xs : List Int) (h0 : 0 ≤ v) (h1 : v ≤ 18446744073709551615) :
    (put [] 1 v).length = 1 ∧ get (put [] 1 v ++ xs) 1 = cut v 1 ∧ gets (put [] 1 v ++ xs) 1 = true ∧ gets ((put [] 1 v).take 0) 1 = false := by
  have hl : (put [] 1 v).length = 1 := by simp [put, good, be]
  have h := get_put 1 v h0 h1
  have e : put [] 1 v = be 1 v 1 := by simp [put, good]
  refine ⟨hl, ?_, ?_, ?_⟩
  · rw [← h]
    have t1 : (put [] 1 v ++ xs).take (1 : Int).toNat = put [] 1 v := List.take_left' hl
    have t2 : (put [] 1 v).take (1 : Int).toNat = put [] 1 v := List.take_of_length_le (by rw [hl]; decide)
    unfold get
    rw [t1, t2, decide_eq_true (show (1 : Int) ≤ ((put [] 1 v ++ xs).length : Int) by rw [List.length_append, hl]; omega), decide_eq_true (show (1 : Int) ≤ ((put [] 1 v).length : Int) by rw [hl]; omega)]
  · unfold gets
    rw [decide_eq_true (show (1 : Int) ≤ ((put [] 1 v ++ xs).length : Int) by rw [List.length_append, hl]; omega)]
    rfl
  · unfold gets
    rw [decide_eq_false (show ¬ (1 : Int) ≤ (((put [] 1 v).take 0).length : Int) by rw [List.length_take, hl]; omega)]
    simp

set_option maxHeartbeats 1600000 in
theorem wordBack_1 (v k : Int) (t : Value) (xs : List Int) (w : World) (hw : Wid w) (hr : Rd w 1 t xs.length (by8 xs)) (hy : Byt xs) (h5 : ¬ 1000 < xs.length) (h0 : 0 ≤ v) (h1 : v ≤ 18446744073709551615) (hk0 : 0 ≤ k) (hk : k % 4 = 0) :
    Calls Tryd.prog 9 #[.int .u64 v, .int .u64 k, t] w fun e w' => e = .returned (.bool true) ∧ Below w.heap.size w w' := by
  obtain ⟨a, cap, rfl⟩ := rd_slice hr
  obtain ⟨hl, f1, f2, f3⟩ := back_facts_1 v xs h0 h1
  have Hl := Lib.hid hl
  have Hb := Lib.hid (show Byt (put [] 1 v ++ xs) from fun x hx => (List.mem_append.1 hx).elim (put_byt nil_byt _ _ x) (hy x))
  have Hb2 := Lib.hid (show Byt ((put [] 1 v).take 0) from fun x hx => put_byt nil_byt _ _ x (List.mem_of_mem_take hx))
  have hB := Below.refl w.heap.size w
  clear hl hy
  go_enter Tryd.func9, Tryd.ntmps9
  go_wp2_with (first | (go_at_call 22; with_reducible refine (put_any (.slice none 0 0) [] 1 v _ hw (rd_nil _) (by simp) h0).mono ?_; rintro e w1 ⟨v1, rfl, hown, hb1⟩; rw [Hl.out] at hown; replace hw := hw.below hb1; replace hB := hB.trans (hb1.mono hB.size); replace hr := hr.keep hb1; clear hb1; obtain ⟨g, gc, rfl, hg1, hg2, hg3, hg4⟩ := own_succ hown (by decide); have H1 := Rd.of_own hown; clear hown; have hB1 := (Below.refl w1.heap.size w1).alloc (Nat.le_refl _) (.cells #[] 5); have H2 := H1.keep hB1) | (at_builtin; refine wpList_app _ rfl _ _ 30 rfl w1.heap.size 5 (.int .u8 0) 1 1 Tryd.underlying30 Tryd.info5 rfl (by decide) (.slice (some ⟨w1.heap.size, 0, none⟩) 0 0) _ _ 1 _ _ rfl rfl (World.ownsRow_made (e := 5) (size := 1) w1 #[] 0 (Nat.le_refl _) (Nat.zero_le _) rfl) H2 (by8_one _) (by omega) (by unfold maxLen; omega) (by simp) ?_; intro v2 w2 ho hgr; replace hB1 := hB1.grown hgr (by simp) (fun k hk => by simp [Value.ownBlock] at hk; omega); clear hgr H2; have hr2 := hr.keep hB1) | (at_builtin; refine wpList_app _ rfl _ _ 30 rfl w1.heap.size 5 (.int .u8 0) 1 1 Tryd.underlying30 Tryd.info5 rfl (by decide) v2 _ _ xs.length _ _ rfl rfl ho hr2 (by8_one _) (by omega) (by unfold maxLen; omega) hB1.size ?_; intro v3 w3 ho3 hgr; replace hB1 := hB1.grown hgr hB1.size (fun k hk => (ho.lt k hk).1); clear hgr hr2; replace hw := hw.below hB1; replace hB := hB.trans (hB1.mono hB.size); replace H1 := H1.keep hB1; have H3 : Rd w3 1 v3 (put [] 1 v ++ xs).length (by8 (put [] 1 v ++ xs)) := by { have h := Rd.of_own ho3; rw [List.length_append, Hl.out, by8_append]; simpa using h }; clear ho3 ho hB1) | (go_at_call 32; with_reducible refine (get_any v3 _ _ _ hw H3 (by rw [List.length_append, Hl.out]; omega) Hb.out).mono ?_; rintro e w4 ⟨rfl, hb1⟩; replace hw := hw.below hb1; replace hB := hB.trans (hb1.mono hB.size); replace H1 := H1.keep hb1; clear hb1; have H5 : Rd w4 1 (.slice (some ⟨g, 0, none⟩) 0 gc) ((put [] 1 v).take 0).length (by8 ((put [] 1 v).take 0)) := by { rw [List.length_take, Hl.out]; have h := H1.piece 0 0 gc (by8 ((put [] 1 v).take 0)) (by omega) hg4 (by omega) (by simp [by8, List.map_take]); simpa using h }) | (go_at_call 32; with_reducible refine (get_any (.slice (some ⟨g, 0, none⟩) 0 gc) ((put [] 1 v).take 0) _ _ hw H5 (by rw [List.length_take, Hl.out]; omega) Hb2.out).mono ?_; rintro e w5 ⟨rfl, hb1⟩; replace hw := hw.below hb1; replace hB := hB.trans (hb1.mono hB.size); clear hb1) | (go_at_call 23; with_reducible refine (cut_any v _ _ hw h0 h1).mono ?_; rintro e w6 ⟨rfl, hb1⟩; replace hw := hw.below hb1; replace hB := hB.trans (hb1.mono hB.size); clear hb1) | (go_at_call 21; with_reducible refine (lives_any _ hw).mono ?_; rintro e w7 ⟨rfl, hb1⟩; replace hB := hB.trans (hb1.mono hB.size)))
  go_ret
  exact ⟨rfl, hB⟩

theorem back_facts_2 (v : Int) (xs : List Int) (h0 : 0 ≤ v) (h1 : v ≤ 18446744073709551615) :
    (put [] 2 v).length = 2 ∧ get (put [] 2 v ++ xs) 2 = cut v 2 ∧ gets (put [] 2 v ++ xs) 2 = true ∧ gets ((put [] 2 v).take 1) 2 = false := by
  have hl : (put [] 2 v).length = 2 := by simp [put, good, be]
  have h := get_put 2 v h0 h1
  have e : put [] 2 v = be 2 v 2 := by simp [put, good]
  refine ⟨hl, ?_, ?_, ?_⟩
  · rw [← h]
    have t1 : (put [] 2 v ++ xs).take (2 : Int).toNat = put [] 2 v := List.take_left' hl
    have t2 : (put [] 2 v).take (2 : Int).toNat = put [] 2 v := List.take_of_length_le (by rw [hl]; decide)
    unfold get
    rw [t1, t2, decide_eq_true (show (2 : Int) ≤ ((put [] 2 v ++ xs).length : Int) by rw [List.length_append, hl]; omega), decide_eq_true (show (2 : Int) ≤ ((put [] 2 v).length : Int) by rw [hl]; omega)]
  · unfold gets
    rw [decide_eq_true (show (2 : Int) ≤ ((put [] 2 v ++ xs).length : Int) by rw [List.length_append, hl]; omega)]
    rfl
  · unfold gets
    rw [decide_eq_false (show ¬ (2 : Int) ≤ (((put [] 2 v).take 1).length : Int) by rw [List.length_take, hl]; omega)]
    simp

set_option maxHeartbeats 1600000 in
theorem wordBack_2 (v k : Int) (t : Value) (xs : List Int) (w : World) (hw : Wid w) (hr : Rd w 1 t xs.length (by8 xs)) (hy : Byt xs) (h5 : ¬ 1000 < xs.length) (h0 : 0 ≤ v) (h1 : v ≤ 18446744073709551615) (hk0 : 0 ≤ k) (hk : k % 4 = 1) :
    Calls Tryd.prog 9 #[.int .u64 v, .int .u64 k, t] w fun e w' => e = .returned (.bool true) ∧ Below w.heap.size w w' := by
  obtain ⟨a, cap, rfl⟩ := rd_slice hr
  obtain ⟨hl, f1, f2, f3⟩ := back_facts_2 v xs h0 h1
  have Hl := Lib.hid hl
  have Hb := Lib.hid (show Byt (put [] 2 v ++ xs) from fun x hx => (List.mem_append.1 hx).elim (put_byt nil_byt _ _ x) (hy x))
  have Hb2 := Lib.hid (show Byt ((put [] 2 v).take 1) from fun x hx => put_byt nil_byt _ _ x (List.mem_of_mem_take hx))
  have hB := Below.refl w.heap.size w
  clear hl hy
  go_enter Tryd.func9, Tryd.ntmps9
  go_wp2_with (first | (go_at_call 22; with_reducible refine (put_any (.slice none 0 0) [] 2 v _ hw (rd_nil _) (by simp) h0).mono ?_; rintro e w1 ⟨v1, rfl, hown, hb1⟩; rw [Hl.out] at hown; replace hw := hw.below hb1; replace hB := hB.trans (hb1.mono hB.size); replace hr := hr.keep hb1; clear hb1; obtain ⟨g, gc, rfl, hg1, hg2, hg3, hg4⟩ := own_succ hown (by decide); have H1 := Rd.of_own hown; clear hown; have hB1 := (Below.refl w1.heap.size w1).alloc (Nat.le_refl _) (.cells #[] 5); have H2 := H1.keep hB1) | (at_builtin; refine wpList_app _ rfl _ _ 30 rfl w1.heap.size 5 (.int .u8 0) 1 1 Tryd.underlying30 Tryd.info5 rfl (by decide) (.slice (some ⟨w1.heap.size, 0, none⟩) 0 0) _ _ 2 _ _ rfl rfl (World.ownsRow_made (e := 5) (size := 1) w1 #[] 0 (Nat.le_refl _) (Nat.zero_le _) rfl) H2 (by8_one _) (by omega) (by unfold maxLen; omega) (by simp) ?_; intro v2 w2 ho hgr; replace hB1 := hB1.grown hgr (by simp) (fun k hk => by simp [Value.ownBlock] at hk; omega); clear hgr H2; have hr2 := hr.keep hB1) | (at_builtin; refine wpList_app _ rfl _ _ 30 rfl w1.heap.size 5 (.int .u8 0) 1 1 Tryd.underlying30 Tryd.info5 rfl (by decide) v2 _ _ xs.length _ _ rfl rfl ho hr2 (by8_one _) (by omega) (by unfold maxLen; omega) hB1.size ?_; intro v3 w3 ho3 hgr; replace hB1 := hB1.grown hgr hB1.size (fun k hk => (ho.lt k hk).1); clear hgr hr2; replace hw := hw.below hB1; replace hB := hB.trans (hB1.mono hB.size); replace H1 := H1.keep hB1; have H3 : Rd w3 1 v3 (put [] 2 v ++ xs).length (by8 (put [] 2 v ++ xs)) := by { have h := Rd.of_own ho3; rw [List.length_append, Hl.out, by8_append]; simpa using h }; clear ho3 ho hB1) | (go_at_call 32; with_reducible refine (get_any v3 _ _ _ hw H3 (by rw [List.length_append, Hl.out]; omega) Hb.out).mono ?_; rintro e w4 ⟨rfl, hb1⟩; replace hw := hw.below hb1; replace hB := hB.trans (hb1.mono hB.size); replace H1 := H1.keep hb1; clear hb1; have H5 : Rd w4 1 (.slice (some ⟨g, 0, none⟩) 1 gc) ((put [] 2 v).take 1).length (by8 ((put [] 2 v).take 1)) := by { rw [List.length_take, Hl.out]; have h := H1.piece 0 1 gc (by8 ((put [] 2 v).take 1)) (by omega) hg4 (by omega) (by simp [by8, List.map_take]); simpa using h }) | (go_at_call 32; with_reducible refine (get_any (.slice (some ⟨g, 0, none⟩) 1 gc) ((put [] 2 v).take 1) _ _ hw H5 (by rw [List.length_take, Hl.out]; omega) Hb2.out).mono ?_; rintro e w5 ⟨rfl, hb1⟩; replace hw := hw.below hb1; replace hB := hB.trans (hb1.mono hB.size); clear hb1) | (go_at_call 23; with_reducible refine (cut_any v _ _ hw h0 h1).mono ?_; rintro e w6 ⟨rfl, hb1⟩; replace hw := hw.below hb1; replace hB := hB.trans (hb1.mono hB.size); clear hb1) | (go_at_call 21; with_reducible refine (lives_any _ hw).mono ?_; rintro e w7 ⟨rfl, hb1⟩; replace hB := hB.trans (hb1.mono hB.size)))
  go_ret
  exact ⟨rfl, hB⟩

theorem back_facts_4 (v : Int) (xs : List Int) (h0 : 0 ≤ v) (h1 : v ≤ 18446744073709551615) :
    (put [] 4 v).length = 4 ∧ get (put [] 4 v ++ xs) 4 = cut v 4 ∧ gets (put [] 4 v ++ xs) 4 = true ∧ gets ((put [] 4 v).take 3) 4 = false := by
  have hl : (put [] 4 v).length = 4 := by simp [put, good, be]
  have h := get_put 4 v h0 h1
  have e : put [] 4 v = be 4 v 4 := by simp [put, good]
  refine ⟨hl, ?_, ?_, ?_⟩
  · rw [← h]
    have t1 : (put [] 4 v ++ xs).take (4 : Int).toNat = put [] 4 v := List.take_left' hl
    have t2 : (put [] 4 v).take (4 : Int).toNat = put [] 4 v := List.take_of_length_le (by rw [hl]; decide)
    unfold get
    rw [t1, t2, decide_eq_true (show (4 : Int) ≤ ((put [] 4 v ++ xs).length : Int) by rw [List.length_append, hl]; omega), decide_eq_true (show (4 : Int) ≤ ((put [] 4 v).length : Int) by rw [hl]; omega)]
  · unfold gets
    rw [decide_eq_true (show (4 : Int) ≤ ((put [] 4 v ++ xs).length : Int) by rw [List.length_append, hl]; omega)]
    rfl
  · unfold gets
    rw [decide_eq_false (show ¬ (4 : Int) ≤ (((put [] 4 v).take 3).length : Int) by rw [List.length_take, hl]; omega)]
    simp

set_option maxHeartbeats 1600000 in
theorem wordBack_4 (v k : Int) (t : Value) (xs : List Int) (w : World) (hw : Wid w) (hr : Rd w 1 t xs.length (by8 xs)) (hy : Byt xs) (h5 : ¬ 1000 < xs.length) (h0 : 0 ≤ v) (h1 : v ≤ 18446744073709551615) (hk0 : 0 ≤ k) (hk : k % 4 = 2) :
    Calls Tryd.prog 9 #[.int .u64 v, .int .u64 k, t] w fun e w' => e = .returned (.bool true) ∧ Below w.heap.size w w' := by
  obtain ⟨a, cap, rfl⟩ := rd_slice hr
  obtain ⟨hl, f1, f2, f3⟩ := back_facts_4 v xs h0 h1
  have Hl := Lib.hid hl
  have Hb := Lib.hid (show Byt (put [] 4 v ++ xs) from fun x hx => (List.mem_append.1 hx).elim (put_byt nil_byt _ _ x) (hy x))
  have Hb2 := Lib.hid (show Byt ((put [] 4 v).take 3) from fun x hx => put_byt nil_byt _ _ x (List.mem_of_mem_take hx))
  have hB := Below.refl w.heap.size w
  clear hl hy
  go_enter Tryd.func9, Tryd.ntmps9
  go_wp2_with (first | (go_at_call 22; with_reducible refine (put_any (.slice none 0 0) [] 4 v _ hw (rd_nil _) (by simp) h0).mono ?_; rintro e w1 ⟨v1, rfl, hown, hb1⟩; rw [Hl.out] at hown; replace hw := hw.below hb1; replace hB := hB.trans (hb1.mono hB.size); replace hr := hr.keep hb1; clear hb1; obtain ⟨g, gc, rfl, hg1, hg2, hg3, hg4⟩ := own_succ hown (by decide); have H1 := Rd.of_own hown; clear hown; have hB1 := (Below.refl w1.heap.size w1).alloc (Nat.le_refl _) (.cells #[] 5); have H2 := H1.keep hB1) | (at_builtin; refine wpList_app _ rfl _ _ 30 rfl w1.heap.size 5 (.int .u8 0) 1 1 Tryd.underlying30 Tryd.info5 rfl (by decide) (.slice (some ⟨w1.heap.size, 0, none⟩) 0 0) _ _ 4 _ _ rfl rfl (World.ownsRow_made (e := 5) (size := 1) w1 #[] 0 (Nat.le_refl _) (Nat.zero_le _) rfl) H2 (by8_one _) (by omega) (by unfold maxLen; omega) (by simp) ?_; intro v2 w2 ho hgr; replace hB1 := hB1.grown hgr (by simp) (fun k hk => by simp [Value.ownBlock] at hk; omega); clear hgr H2; have hr2 := hr.keep hB1) | (at_builtin; refine wpList_app _ rfl _ _ 30 rfl w1.heap.size 5 (.int .u8 0) 1 1 Tryd.underlying30 Tryd.info5 rfl (by decide) v2 _ _ xs.length _ _ rfl rfl ho hr2 (by8_one _) (by omega) (by unfold maxLen; omega) hB1.size ?_; intro v3 w3 ho3 hgr; replace hB1 := hB1.grown hgr hB1.size (fun k hk => (ho.lt k hk).1); clear hgr hr2; replace hw := hw.below hB1; replace hB := hB.trans (hB1.mono hB.size); replace H1 := H1.keep hB1; have H3 : Rd w3 1 v3 (put [] 4 v ++ xs).length (by8 (put [] 4 v ++ xs)) := by { have h := Rd.of_own ho3; rw [List.length_append, Hl.out, by8_append]; simpa using h }; clear ho3 ho hB1) | (go_at_call 32; with_reducible refine (get_any v3 _ _ _ hw H3 (by rw [List.length_append, Hl.out]; omega) Hb.out).mono ?_; rintro e w4 ⟨rfl, hb1⟩; replace hw := hw.below hb1; replace hB := hB.trans (hb1.mono hB.size); replace H1 := H1.keep hb1; clear hb1; have H5 : Rd w4 1 (.slice (some ⟨g, 0, none⟩) 3 gc) ((put [] 4 v).take 3).length (by8 ((put [] 4 v).take 3)) := by { rw [List.length_take, Hl.out]; have h := H1.piece 0 3 gc (by8 ((put [] 4 v).take 3)) (by omega) hg4 (by omega) (by simp [by8, List.map_take]); simpa using h }) | (go_at_call 32; with_reducible refine (get_any (.slice (some ⟨g, 0, none⟩) 3 gc) ((put [] 4 v).take 3) _ _ hw H5 (by rw [List.length_take, Hl.out]; omega) Hb2.out).mono ?_; rintro e w5 ⟨rfl, hb1⟩; replace hw := hw.below hb1; replace hB := hB.trans (hb1.mono hB.size); clear hb1) | (go_at_call 23; with_reducible refine (cut_any v _ _ hw h0 h1).mono ?_; rintro e w6 ⟨rfl, hb1⟩; replace hw := hw.below hb1; replace hB := hB.trans (hb1.mono hB.size); clear hb1) | (go_at_call 21; with_reducible refine (lives_any _ hw).mono ?_; rintro e w7 ⟨rfl, hb1⟩; replace hB := hB.trans (hb1.mono hB.size)))
  go_ret
  exact ⟨rfl, hB⟩

theorem back_facts_8 (v : Int) (xs : List Int) (h0 : 0 ≤ v) (h1 : v ≤ 18446744073709551615) :
    (put [] 8 v).length = 8 ∧ get (put [] 8 v ++ xs) 8 = cut v 8 ∧ gets (put [] 8 v ++ xs) 8 = true ∧ gets ((put [] 8 v).take 7) 8 = false := by
  have hl : (put [] 8 v).length = 8 := by simp [put, good, be]
  have h := get_put 8 v h0 h1
  have e : put [] 8 v = be 8 v 8 := by simp [put, good]
  refine ⟨hl, ?_, ?_, ?_⟩
  · rw [← h]
    have t1 : (put [] 8 v ++ xs).take (8 : Int).toNat = put [] 8 v := List.take_left' hl
    have t2 : (put [] 8 v).take (8 : Int).toNat = put [] 8 v := List.take_of_length_le (by rw [hl]; decide)
    unfold get
    rw [t1, t2, decide_eq_true (show (8 : Int) ≤ ((put [] 8 v ++ xs).length : Int) by rw [List.length_append, hl]; omega), decide_eq_true (show (8 : Int) ≤ ((put [] 8 v).length : Int) by rw [hl]; omega)]
  · unfold gets
    rw [decide_eq_true (show (8 : Int) ≤ ((put [] 8 v ++ xs).length : Int) by rw [List.length_append, hl]; omega)]
    rfl
  · unfold gets
    rw [decide_eq_false (show ¬ (8 : Int) ≤ (((put [] 8 v).take 7).length : Int) by rw [List.length_take, hl]; omega)]
    simp

set_option maxHeartbeats 1600000 in
theorem wordBack_8 (v k : Int) (t : Value) (xs : List Int) (w : World) (hw : Wid w) (hr : Rd w 1 t xs.length (by8 xs)) (hy : Byt xs) (h5 : ¬ 1000 < xs.length) (h0 : 0 ≤ v) (h1 : v ≤ 18446744073709551615) (hk0 : 0 ≤ k) (hk : k % 4 = 3) :
    Calls Tryd.prog 9 #[.int .u64 v, .int .u64 k, t] w fun e w' => e = .returned (.bool true) ∧ Below w.heap.size w w' := by
  obtain ⟨a, cap, rfl⟩ := rd_slice hr
  obtain ⟨hl, f1, f2, f3⟩ := back_facts_8 v xs h0 h1
  have Hl := Lib.hid hl
  have Hb := Lib.hid (show Byt (put [] 8 v ++ xs) from fun x hx => (List.mem_append.1 hx).elim (put_byt nil_byt _ _ x) (hy x))
  have Hb2 := Lib.hid (show Byt ((put [] 8 v).take 7) from fun x hx => put_byt nil_byt _ _ x (List.mem_of_mem_take hx))
  have hB := Below.refl w.heap.size w
  clear hl hy
  go_enter Tryd.func9, Tryd.ntmps9
  go_wp2_with (first | (go_at_call 22; with_reducible refine (put_any (.slice none 0 0) [] 8 v _ hw (rd_nil _) (by simp) h0).mono ?_; rintro e w1 ⟨v1, rfl, hown, hb1⟩; rw [Hl.out] at hown; replace hw := hw.below hb1; replace hB := hB.trans (hb1.mono hB.size); replace hr := hr.keep hb1; clear hb1; obtain ⟨g, gc, rfl, hg1, hg2, hg3, hg4⟩ := own_succ hown (by decide); have H1 := Rd.of_own hown; clear hown; have hB1 := (Below.refl w1.heap.size w1).alloc (Nat.le_refl _) (.cells #[] 5); have H2 := H1.keep hB1) | (at_builtin; refine wpList_app _ rfl _ _ 30 rfl w1.heap.size 5 (.int .u8 0) 1 1 Tryd.underlying30 Tryd.info5 rfl (by decide) (.slice (some ⟨w1.heap.size, 0, none⟩) 0 0) _ _ 8 _ _ rfl rfl (World.ownsRow_made (e := 5) (size := 1) w1 #[] 0 (Nat.le_refl _) (Nat.zero_le _) rfl) H2 (by8_one _) (by omega) (by unfold maxLen; omega) (by simp) ?_; intro v2 w2 ho hgr; replace hB1 := hB1.grown hgr (by simp) (fun k hk => by simp [Value.ownBlock] at hk; omega); clear hgr H2; have hr2 := hr.keep hB1) | (at_builtin; refine wpList_app _ rfl _ _ 30 rfl w1.heap.size 5 (.int .u8 0) 1 1 Tryd.underlying30 Tryd.info5 rfl (by decide) v2 _ _ xs.length _ _ rfl rfl ho hr2 (by8_one _) (by omega) (by unfold maxLen; omega) hB1.size ?_; intro v3 w3 ho3 hgr; replace hB1 := hB1.grown hgr hB1.size (fun k hk => (ho.lt k hk).1); clear hgr hr2; replace hw := hw.below hB1; replace hB := hB.trans (hB1.mono hB.size); replace H1 := H1.keep hB1; have H3 : Rd w3 1 v3 (put [] 8 v ++ xs).length (by8 (put [] 8 v ++ xs)) := by { have h := Rd.of_own ho3; rw [List.length_append, Hl.out, by8_append]; simpa using h }; clear ho3 ho hB1) | (go_at_call 32; with_reducible refine (get_any v3 _ _ _ hw H3 (by rw [List.length_append, Hl.out]; omega) Hb.out).mono ?_; rintro e w4 ⟨rfl, hb1⟩; replace hw := hw.below hb1; replace hB := hB.trans (hb1.mono hB.size); replace H1 := H1.keep hb1; clear hb1; have H5 : Rd w4 1 (.slice (some ⟨g, 0, none⟩) 7 gc) ((put [] 8 v).take 7).length (by8 ((put [] 8 v).take 7)) := by { rw [List.length_take, Hl.out]; have h := H1.piece 0 7 gc (by8 ((put [] 8 v).take 7)) (by omega) hg4 (by omega) (by simp [by8, List.map_take]); simpa using h }) | (go_at_call 32; with_reducible refine (get_any (.slice (some ⟨g, 0, none⟩) 7 gc) ((put [] 8 v).take 7) _ _ hw H5 (by rw [List.length_take, Hl.out]; omega) Hb2.out).mono ?_; rintro e w5 ⟨rfl, hb1⟩; replace hw := hw.below hb1; replace hB := hB.trans (hb1.mono hB.size); clear hb1) | (go_at_call 23; with_reducible refine (cut_any v _ _ hw h0 h1).mono ?_; rintro e w6 ⟨rfl, hb1⟩; replace hw := hw.below hb1; replace hB := hB.trans (hb1.mono hB.size); clear hb1) | (go_at_call 21; with_reducible refine (lives_any _ hw).mono ?_; rintro e w7 ⟨rfl, hb1⟩; replace hB := hB.trans (hb1.mono hB.size)))
  go_ret
  exact ⟨rfl, hB⟩

theorem wordBack_any (v k : Int) (t : Value) (xs : List Int) (w : World) (hw : Wid w) (hr : Rd w 1 t xs.length (by8 xs)) (hy : Byt xs) (h0 : 0 ≤ v) (h1 : v ≤ 18446744073709551615) (hk0 : 0 ≤ k) :
    Calls Tryd.prog 9 #[.int .u64 v, .int .u64 k, t] w fun e w' => e = .returned (.bool true) ∧ Below w.heap.size w w' := by
  by_cases h5 : 1000 < xs.length
  · exact wordBack_big v k t xs w hw hr h5
  · have hk : k % 4 = 0 ∨ k % 4 = 1 ∨ k % 4 = 2 ∨ k % 4 = 3 := by omega
    rcases hk with hk | hk | hk | hk
    · exact wordBack_1 v k t xs w hw hr hy h5 h0 h1 hk0 hk
    · exact wordBack_2 v k t xs w hw hr hy h5 h0 h1 hk0 hk
    · exact wordBack_4 v k t xs w hw hr hy h5 h0 h1 hk0 hk
    · exact wordBack_8 v k t xs w hw hr hy h5 h0 h1 hk0 hk
end Go.Proofs.YtjinjlfocjohhaaDoor
