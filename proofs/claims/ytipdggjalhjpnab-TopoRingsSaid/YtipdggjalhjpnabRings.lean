/-
  Topologies: the walk of TopoRings.
-/
import Derived.Test.YtipdggjalhjpnabRPlain
import Derived.IntWalk
import Derived.BigQuiet
import Derived.Deep.QuietTactic
import Derived.Deep.RegionLaw
namespace Go.Proofs.Ytipdggjalhjpnab
open Go.RowKit
set_option linter.unusedSimpArgs false
set_option linter.unusedVariables false

theorem own_setR {w : World} {base : Nat} {e : TypeId} {size : Nat} {v : Value} {n : Nat} {xs : List Value} (h : w.ownsRow base e size v n xs) {f : Nat} (hf : f < base) (j : Nat) (x : Value) : (w.setCell ⟨f, j, none⟩ x).ownsRow base e size v n xs :=
  h.kept (w' := w.setCell ⟨f, j, none⟩ x) (row := some f) ⟨rfl, rfl, rfl, by simp [World.setCell], fun k _ hk => Below.heap_setCell _ _ _ _ (fun e => hk (by simpa using e))⟩ (.inr (fun e => by have := (h.lt f e).1; omega))
set_option maxRecDepth 4000 in
set_option maxHeartbeats 3200000 in
theorem rings_any (x y p q : Int) (w : World) (bx : 0 ≤ x ∧ x ≤ 18446744073709551615 ∧ 0 ≤ y ∧ y ≤ 18446744073709551615) (bp : 0 ≤ p ∧ p ≤ 18446744073709551615 ∧ 0 ≤ q ∧ q ≤ 18446744073709551615) :
    Calls Try.prog 7 #[.agg #[.int .u64 x, .int .u64 y], .agg #[.int .u64 p, .int .u64 q]] w fun e w' => e = .returned (.bool true) ∧ Below w.heap.size w w' := by
  obtain ⟨bx1, bx2, by1, by2⟩ := bx
  obtain ⟨bp1, bp2, bq1, bq2⟩ := bp
  go_enter Try.func7, Try.ntmps7
  go_wp2_with fail
  go_quiet (fail)
  rename Nat => na
  obtain ⟨k, hk⟩ : ∃ k : Nat, 2 + x % 7 = k := ⟨(2 + x % 7).toNat, by omega⟩
  obtain ⟨h, hh⟩ : ∃ h : Nat, y % 9 = h := ⟨(y % 9).toNat, by omega⟩
  have hk2 : 2 ≤ k := by omega
  have hk9 : k < 9 := by omega
  have hh9 : h < 9 := by omega
  rw [hk, hh]
  clear hk hh
  have hp1 : 0 ≤ p % (k : Int) := Int.emod_nonneg _ (by omega)
  have hp2 : p % (k : Int) < (k : Int) := Int.emod_lt_of_pos _ (by omega)
  have hq1 : 0 ≤ q % (k : Int) := Int.emod_nonneg _ (by omega)
  have hq2 : q % (k : Int) < (k : Int) := Int.emod_lt_of_pos _ (by omega)
  have hk0 : (0 : Int) < (k : Int) := by omega
  have hk8 : (k : Int) ≤ 8 := by omega
  have hkne : ((k : Int) == 0) = false := by simp; omega
  go_wp2_with fail
  go_quiet (fail)
  obtain ⟨a, ha⟩ : ∃ a : Nat, p % (k : Int) = a := ⟨(p % (k : Int)).toNat, by omega⟩
  obtain ⟨b, hb⟩ : ∃ b : Nat, q % (k : Int) = b := ⟨(q % (k : Int)).toNat, by omega⟩
  rw [ha, hb]
  rw [ha] at hp1 hp2
  rw [hb] at hq1 hq2
  have hak : a < k := by omega
  have hbk : b < k := by omega
  have hB : Below w.heap.size w ((((w.alloc (.cells #[.int .u64 x, .int .u64 y] 43)).alloc (.cells #[.int .u64 p, .int .u64 q] 44)).drewN na).drewN nq) := below_drewN (below_drewN (((Below.refl _ _).alloc (Nat.le_refl _) _).alloc (by simp) _) _) _
  clear ha hb hp1 hp2 hq1 hq2 bx1 bx2 by1 by2 bp1 bp2 bq1 bq2
  generalize ((((w.alloc (.cells #[.int .u64 x, .int .u64 y] 43)).alloc (.cells #[.int .u64 p, .int .u64 q] 44)).drewN na).drewN nq) = wb at hB ⊢
  have hbz := hB.size
  go_wp2_with fail
  go_loopw [10] (fun iv wr => ∃ (i : Nat) (v : Value), i ≤ k ∧ iv = .int .i64 (i : Int) ∧ wr.heap[wb.heap.size]? = some (.cells #[.int .i64 (k : Int), v, .int .i64 (h : Int)] 24 (0, 0)) ∧ wr.ownsRow (wb.heap.size + 1) 39 2 v (ringE k i).length (edgeCells (ringE k i)) ∧ Below w.heap.size w wr) (fun iv _ => k - (intOf iv).toNat)
  case atStart => exact ⟨0, .slice none 0 0, by omega, rfl, heap_alloc_new _ _, World.ownsRow_nil _ _ _ _, hB.alloc hbz _⟩
  case round =>
    rename World => wi
    obtain ⟨i, v, hi, rfl, hbox, hown, hC⟩ := hrel
    have hcz := hC.size
    have hbz2 := lt_of_block hbox
    obtain ⟨va, vc, rfl⟩ := rd_slice (Rd.of_own hown)
    by_cases hik : i < k
    · have hl := ringE_len k i
      have c1 := cell_of_row _ _ 1 _ _ _ hbox
      have c1a : ∀ o, (wi.alloc o).cell? ⟨wb.heap.size, 1, none⟩ = some _ := fun o => (World.cell?_alloc_past _ _ _ hbz2).trans c1
      have e1 : IntKind.i64.wrap ((i : Int) + 1) = (i : Int) + 1 := IntWalk.i64_in _ (by omega)
      have m1 : 0 ≤ ((i : Int) + 1) % (k : Int) := Int.emod_nonneg _ (by omega)
      have m2 : ((i : Int) + 1) % (k : Int) < (k : Int) := Int.emod_lt_of_pos _ (by omega)
      have e2 : IntKind.i64.wrap (((i : Int) + 1) % (k : Int) + 1) = ((i : Int) + 1) % (k : Int) + 1 := IntWalk.i64_in _ (by omega)
      have e3 : ((i : Int) + 1).tmod (k : Int) = ((i : Int) + 1) % (k : Int) := Int.tmod_eq_emod_of_nonneg (by omega)
      have hk00 : ¬ k = 0 := by omega
      have Hbox := Lib.hid hbox
      have Hown := Lib.hid hown
      have hl200 : (ringE k i).length ≤ 200 := by omega
      clear hbox hown hl
      go_wp2_with fail
      go_region_law ((refine step_app1 rfl (.tmp 45) (.tmp 54) rfl (wb.heap.size + 1) (.slice va (ringE k i).length vc) (ringE k i) ((i : Int) + 1) (((i : Int) + 1) % (k : Int) + 1) hl200 rfl rfl ?_ ?_ ?_ ?_; (rw [drew_heap]; exact heap_alloc_new _ _); (first | omega | (simp; done) | (simp; omega) | (simp [drew_heap]; done) | (simp [drew_heap]; omega)); (exact (Hown.out.alloc _).drew); (intro v5 w5 ho5 hgr5; obtain ⟨g5, k5, hv5, hg5, hg5', _⟩ := own_succ ho5 (by omega); subst hv5; have hC5 := (hgr5.block wb.heap.size (by (first | omega | (simp; done) | (simp; omega) | (simp [drew_heap]; done) | (simp [drew_heap]; omega))) (fun hk => by have := (Hown.out.lt _ hk.symm).1; omega)).trans (show _ = some (Obj.cells #[.int .i64 (k : Int), .slice va (ringE k i).length vc, .int .i64 (h : Int)] 24 (0, 0)) from (by rw [drew_heap, Below.heap_alloc _ _ _ hbz2]; exact Hbox.out)); have q1 := cell_of_row _ _ 1 _ _ _ hC5; have qf : w5.frozen? ⟨wb.heap.size, 1, none⟩ = false := (by simp [World.frozen?, hC5]); have HC5 := Lib.hid hC5; have hB5 := Lib.hid ((below_drew (hC.alloc hcz (.cells #[.int .i64 ((i : Int) + 1), .int .i64 (((i : Int) + 1) % (k : Int) + 1)] 39))).grown hgr5 (by (first | omega | (simp; done) | (simp; omega) | (simp [drew_heap]; done) | (simp [drew_heap]; omega))) (fun j hj => by have := (Hown.out.lt j hj).1; omega)); clear hC5)))
      all_goals
        go_wp2
        refine ⟨⟨i + 1, .slice (some ⟨g5, 0, none⟩) ((ringE k i).length + 1) k5, by omega, by go_num, ?_, ?_, hB5.out.setCell (by simp; omega) _⟩, by simp [intOf]; omega⟩
        · rw [heap_setCell_same w5 _ _ _ _ _ HC5.out]
          rfl
        · have := own_setR ho5 (f := wb.heap.size) (by omega) 1 (.slice (some ⟨g5, 0, none⟩) ((ringE k i).length + 1) k5)
          rw [ringE_succ]
          simpa [edgeCells] using this
    · obtain rfl : i = k := by omega
      have hT := Lib.hid (show TopIn wb.heap.size (i : Int) (h : Int) (.slice va (ringE i i).length vc) (ringE i i) w wi from ⟨hbox, Rd.of_own hown, hC⟩)
      clear hbox hown hC
      obtain ⟨c0, c1, c2⟩ := hT.out.cells
      have hfar : ((b : Int) - (a : Int) + (i : Int)) % (i : Int) = ((RF i a b : Nat) : Int) := by
        unfold RF
        rw [show (b : Int) - (a : Int) + (i : Int) = ((b + i - a : Nat) : Int) by omega]
        rfl
      have hfar2 : ((b : Int) - (a : Int) + (i : Int)).tmod (i : Int) = ((RF i a b : Nat) : Int) := by
        rw [Int.tmod_eq_emod_of_nonneg (by omega)]
        exact hfar
      have hrf := (rf_step i hk9 a hak b hbk).1
      have hok := Lib.hid (decide_eq_true (ring_okT hk9 hk2 hh9))
      have hfr := Lib.hid (show farI (i : Int) (ringE i i) (h : Int) ((a : Int) + 1) ((b : Int) + 1) = ((RF i a b : Nat) : Int) by
        rw [ring_far hk9 hk2 hh9 hak]
        unfold rf
        rw [if_pos (by omega), show ((b : Int) + 1).toNat - 1 = b by omega])
      have hon := Lib.hid (ring_onward hk9 hk2 hh9 hak hbk)
      have hwi := Lib.hid (show (within (i : Int) (ringE i i) (h : Int) ((a : Int) + 1) 9).length = min (h + 1) i by rw [ring_within hk9 hk2 hh9 hak]; exact rw_len i hk9 hk2 h hh9 a hak)
      have hro := Lib.hid (ring_rounds hk9 hk2 hh9)
      have hk00 : ¬ i = 0 := by omega
      obtain ⟨f, hf⟩ : ∃ f, RF i a b = f := ⟨_, rfl⟩
      rw [hf] at hfar hfar2 hrf hfr hon
      clear hf
      obtain ⟨es, hes⟩ : ∃ es, ringE i i = es := ⟨_, rfl⟩
      rw [hes] at hT hok hfr hon hwi hro
      rw [hes] at c1
      clear hes
      obtain ⟨n, hn⟩ : ∃ n, (onward (i : Int) es (h : Int) ((a : Int) + 1) ((b : Int) + 1)).length = n := ⟨_, rfl⟩
      rw [hn] at hon
      have Hn := Lib.hid hn
      clear hn
      have hmay : (f < h ∧ f ≠ i - 1 ∧ n = 1) ∨ (f < h ∧ f = i - 1 ∧ n = 0) ∨ (h ≤ f ∧ n = 0) := by
        have := hon.out
        by_cases h1 : f < h
        · by_cases h2 : f = i - 1
          · rw [if_neg (fun h => h.2 h2)] at this
            exact .inr (.inl ⟨h1, h2, this⟩)
          · rw [if_pos ⟨h1, h2⟩] at this
            exact .inl ⟨h1, h2, this⟩
        · rw [if_neg (fun h => h1 h.1)] at this
          exact .inr (.inr ⟨by omega, this⟩)
      clear hon
      by_cases hw : (i : Int) < (h : Int) + 1
      · have hwi2 := Lib.hid (show (within (i : Int) es (h : Int) ((a : Int) + 1) 9).length = i by rw [hwi.out]; omega)
        have hro2 := Lib.hid (show roundsI (i : Int) es (h : Int) = (i : Int) - 1 by rw [hro.out]; omega)
        clear hwi hro
        rcases hmay with ⟨m1, m2, rfl⟩ | ⟨m1, m2, rfl⟩ | ⟨m1, rfl⟩
        · have q1 : (f : Int) < (h : Int) := by omega
          have q2 : ((f : Int) != (i : Int) - 1) = true := by simp; omega
          clear m1 m2
          go_wp2_with fail
          refine (onward_any (i : Int) (h : Int) _ _ _ es _ hT.out.rd).mono ?_
          rintro e w2 ⟨v, rfl, hown, hb2⟩
          rw [Hn.out] at hown
          obtain ⟨a2, k2, rfl⟩ := rd_slice (Rd.of_own hown)
          have hT2 := Lib.hid (hT.out.next hb2)
          clear hb2 c0 c1 c2 hown
          obtain ⟨c0, c1, c2⟩ := hT2.out.cells
          go_wp2_with fail
          refine (good_any (i : Int) (h : Int) _ es _ hT2.out.rd).mono ?_
          rintro e w3 ⟨rfl, hb3⟩
          rw [hok.out]
          have hT3 := Lib.hid (hT2.out.next hb3)
          clear hb3 c0 c1 c2
          obtain ⟨c0, c1, c2⟩ := hT3.out.cells
          go_wp2_with fail
          refine (far_any (i : Int) (h : Int) _ _ _ es _ hT3.out.rd).mono ?_
          rintro e w4 ⟨rfl, hb4⟩
          rw [hfr.out]
          have hT4 := Lib.hid (hT3.out.next hb4)
          clear hb4 c0 c1 c2
          obtain ⟨c0, c1, c2⟩ := hT4.out.cells
          go_wp2_with fail
          refine (within_any (i : Int) (h : Int) _ _ es _ hT4.out.rd).mono ?_
          rintro e w5 ⟨v5, rfl, hown, hb5⟩
          rw [hwi2.out] at hown
          obtain ⟨a5, k5, rfl⟩ := rd_slice (Rd.of_own hown)
          have hT5 := Lib.hid (hT4.out.next hb5)
          clear hb5 c0 c1 c2 hown
          obtain ⟨c0, c1, c2⟩ := hT5.out.cells
          go_wp2_with fail
          refine (rounds_any (i : Int) (h : Int) _ es _ hT5.out.rd).mono ?_
          rintro e w6 ⟨rfl, hb6⟩
          rw [hro2.out]
          have hT6 := Lib.hid (hT5.out.next hb6)
          clear hb6 c0 c1 c2
          go_wp2_with fail
          refine (lives_any _).mono ?_
          rintro e w7 ⟨rfl, hb7⟩
          go_wp2
          go_ret
          exact ⟨rfl, (hT6.out.next hb7).below⟩
        · have q1 : (f : Int) < (h : Int) := by omega
          have q2 : ((f : Int) != (i : Int) - 1) = false := by rw [bne_eq_false_iff_eq]; omega
          have q3 : ((f : Int) == (i : Int) - 1) = true := by rw [beq_iff_eq]; omega
          clear m1 m2
          go_wp2_with fail
          refine (onward_any (i : Int) (h : Int) _ _ _ es _ hT.out.rd).mono ?_
          rintro e w2 ⟨v, rfl, hown, hb2⟩
          rw [Hn.out] at hown
          obtain ⟨a2, k2, rfl⟩ := rd_slice (Rd.of_own hown)
          have hT2 := Lib.hid (hT.out.next hb2)
          clear hb2 c0 c1 c2 hown
          obtain ⟨c0, c1, c2⟩ := hT2.out.cells
          go_wp2_with fail
          refine (good_any (i : Int) (h : Int) _ es _ hT2.out.rd).mono ?_
          rintro e w3 ⟨rfl, hb3⟩
          rw [hok.out]
          have hT3 := Lib.hid (hT2.out.next hb3)
          clear hb3 c0 c1 c2
          obtain ⟨c0, c1, c2⟩ := hT3.out.cells
          go_wp2_with fail
          refine (far_any (i : Int) (h : Int) _ _ _ es _ hT3.out.rd).mono ?_
          rintro e w4 ⟨rfl, hb4⟩
          rw [hfr.out]
          have hT4 := Lib.hid (hT3.out.next hb4)
          clear hb4 c0 c1 c2
          obtain ⟨c0, c1, c2⟩ := hT4.out.cells
          go_wp2_with fail
          refine (within_any (i : Int) (h : Int) _ _ es _ hT4.out.rd).mono ?_
          rintro e w5 ⟨v5, rfl, hown, hb5⟩
          rw [hwi2.out] at hown
          obtain ⟨a5, k5, rfl⟩ := rd_slice (Rd.of_own hown)
          have hT5 := Lib.hid (hT4.out.next hb5)
          clear hb5 c0 c1 c2 hown
          obtain ⟨c0, c1, c2⟩ := hT5.out.cells
          go_wp2_with fail
          refine (rounds_any (i : Int) (h : Int) _ es _ hT5.out.rd).mono ?_
          rintro e w6 ⟨rfl, hb6⟩
          rw [hro2.out]
          have hT6 := Lib.hid (hT5.out.next hb6)
          clear hb6 c0 c1 c2
          go_wp2_with fail
          refine (lives_any _).mono ?_
          rintro e w7 ⟨rfl, hb7⟩
          go_wp2
          go_ret
          exact ⟨rfl, (hT6.out.next hb7).below⟩
        · have q0 : ¬ f < h := by omega
          have q1 : decide (f < h) = false := decide_eq_false (by omega)
          have q3 : decide ((f : Int) < (h : Int)) = false := decide_eq_false (by omega)
          clear m1
          go_wp2_with fail
          refine (onward_any (i : Int) (h : Int) _ _ _ es _ hT.out.rd).mono ?_
          rintro e w2 ⟨v, rfl, hown, hb2⟩
          rw [Hn.out] at hown
          obtain ⟨a2, k2, rfl⟩ := rd_slice (Rd.of_own hown)
          have hT2 := Lib.hid (hT.out.next hb2)
          clear hb2 c0 c1 c2 hown
          obtain ⟨c0, c1, c2⟩ := hT2.out.cells
          go_wp2_with fail
          refine (good_any (i : Int) (h : Int) _ es _ hT2.out.rd).mono ?_
          rintro e w3 ⟨rfl, hb3⟩
          rw [hok.out]
          have hT3 := Lib.hid (hT2.out.next hb3)
          clear hb3 c0 c1 c2
          obtain ⟨c0, c1, c2⟩ := hT3.out.cells
          go_wp2_with fail
          refine (far_any (i : Int) (h : Int) _ _ _ es _ hT3.out.rd).mono ?_
          rintro e w4 ⟨rfl, hb4⟩
          rw [hfr.out]
          have hT4 := Lib.hid (hT3.out.next hb4)
          clear hb4 c0 c1 c2
          obtain ⟨c0, c1, c2⟩ := hT4.out.cells
          go_wp2_with fail
          refine (within_any (i : Int) (h : Int) _ _ es _ hT4.out.rd).mono ?_
          rintro e w5 ⟨v5, rfl, hown, hb5⟩
          rw [hwi2.out] at hown
          obtain ⟨a5, k5, rfl⟩ := rd_slice (Rd.of_own hown)
          have hT5 := Lib.hid (hT4.out.next hb5)
          clear hb5 c0 c1 c2 hown
          obtain ⟨c0, c1, c2⟩ := hT5.out.cells
          go_wp2_with fail
          refine (rounds_any (i : Int) (h : Int) _ es _ hT5.out.rd).mono ?_
          rintro e w6 ⟨rfl, hb6⟩
          rw [hro2.out]
          have hT6 := Lib.hid (hT5.out.next hb6)
          clear hb6 c0 c1 c2
          go_wp2_with fail
          refine (lives_any _).mono ?_
          rintro e w7 ⟨rfl, hb7⟩
          go_wp2
          go_ret
          exact ⟨rfl, (hT6.out.next hb7).below⟩
      · have hwi2 := Lib.hid (show (within (i : Int) es (h : Int) ((a : Int) + 1) 9).length = h + 1 by rw [hwi.out]; omega)
        have hro2 := Lib.hid (show roundsI (i : Int) es (h : Int) = (h : Int) by rw [hro.out]; omega)
        have hw2 : decide ((i : Int) < (h : Int) + 1) = false := decide_eq_false hw
        clear hwi hro hw
        rcases hmay with ⟨m1, m2, rfl⟩ | ⟨m1, m2, rfl⟩ | ⟨m1, rfl⟩
        · have q1 : (f : Int) < (h : Int) := by omega
          have q2 : ((f : Int) != (i : Int) - 1) = true := by simp; omega
          clear m1 m2
          go_wp2_with fail
          refine (onward_any (i : Int) (h : Int) _ _ _ es _ hT.out.rd).mono ?_
          rintro e w2 ⟨v, rfl, hown, hb2⟩
          rw [Hn.out] at hown
          obtain ⟨a2, k2, rfl⟩ := rd_slice (Rd.of_own hown)
          have hT2 := Lib.hid (hT.out.next hb2)
          clear hb2 c0 c1 c2 hown
          obtain ⟨c0, c1, c2⟩ := hT2.out.cells
          go_wp2_with fail
          refine (good_any (i : Int) (h : Int) _ es _ hT2.out.rd).mono ?_
          rintro e w3 ⟨rfl, hb3⟩
          rw [hok.out]
          have hT3 := Lib.hid (hT2.out.next hb3)
          clear hb3 c0 c1 c2
          obtain ⟨c0, c1, c2⟩ := hT3.out.cells
          go_wp2_with fail
          refine (far_any (i : Int) (h : Int) _ _ _ es _ hT3.out.rd).mono ?_
          rintro e w4 ⟨rfl, hb4⟩
          rw [hfr.out]
          have hT4 := Lib.hid (hT3.out.next hb4)
          clear hb4 c0 c1 c2
          obtain ⟨c0, c1, c2⟩ := hT4.out.cells
          go_wp2_with fail
          refine (within_any (i : Int) (h : Int) _ _ es _ hT4.out.rd).mono ?_
          rintro e w5 ⟨v5, rfl, hown, hb5⟩
          rw [hwi2.out] at hown
          obtain ⟨a5, k5, rfl⟩ := rd_slice (Rd.of_own hown)
          have hT5 := Lib.hid (hT4.out.next hb5)
          clear hb5 c0 c1 c2 hown
          obtain ⟨c0, c1, c2⟩ := hT5.out.cells
          go_wp2_with fail
          refine (rounds_any (i : Int) (h : Int) _ es _ hT5.out.rd).mono ?_
          rintro e w6 ⟨rfl, hb6⟩
          rw [hro2.out]
          have hT6 := Lib.hid (hT5.out.next hb6)
          clear hb6 c0 c1 c2
          go_wp2_with fail
          refine (lives_any _).mono ?_
          rintro e w7 ⟨rfl, hb7⟩
          go_wp2
          go_ret
          exact ⟨rfl, (hT6.out.next hb7).below⟩
        · have q1 : (f : Int) < (h : Int) := by omega
          have q2 : ((f : Int) != (i : Int) - 1) = false := by rw [bne_eq_false_iff_eq]; omega
          have q3 : ((f : Int) == (i : Int) - 1) = true := by rw [beq_iff_eq]; omega
          clear m1 m2
          go_wp2_with fail
          refine (onward_any (i : Int) (h : Int) _ _ _ es _ hT.out.rd).mono ?_
          rintro e w2 ⟨v, rfl, hown, hb2⟩
          rw [Hn.out] at hown
          obtain ⟨a2, k2, rfl⟩ := rd_slice (Rd.of_own hown)
          have hT2 := Lib.hid (hT.out.next hb2)
          clear hb2 c0 c1 c2 hown
          obtain ⟨c0, c1, c2⟩ := hT2.out.cells
          go_wp2_with fail
          refine (good_any (i : Int) (h : Int) _ es _ hT2.out.rd).mono ?_
          rintro e w3 ⟨rfl, hb3⟩
          rw [hok.out]
          have hT3 := Lib.hid (hT2.out.next hb3)
          clear hb3 c0 c1 c2
          obtain ⟨c0, c1, c2⟩ := hT3.out.cells
          go_wp2_with fail
          refine (far_any (i : Int) (h : Int) _ _ _ es _ hT3.out.rd).mono ?_
          rintro e w4 ⟨rfl, hb4⟩
          rw [hfr.out]
          have hT4 := Lib.hid (hT3.out.next hb4)
          clear hb4 c0 c1 c2
          obtain ⟨c0, c1, c2⟩ := hT4.out.cells
          go_wp2_with fail
          refine (within_any (i : Int) (h : Int) _ _ es _ hT4.out.rd).mono ?_
          rintro e w5 ⟨v5, rfl, hown, hb5⟩
          rw [hwi2.out] at hown
          obtain ⟨a5, k5, rfl⟩ := rd_slice (Rd.of_own hown)
          have hT5 := Lib.hid (hT4.out.next hb5)
          clear hb5 c0 c1 c2 hown
          obtain ⟨c0, c1, c2⟩ := hT5.out.cells
          go_wp2_with fail
          refine (rounds_any (i : Int) (h : Int) _ es _ hT5.out.rd).mono ?_
          rintro e w6 ⟨rfl, hb6⟩
          rw [hro2.out]
          have hT6 := Lib.hid (hT5.out.next hb6)
          clear hb6 c0 c1 c2
          go_wp2_with fail
          refine (lives_any _).mono ?_
          rintro e w7 ⟨rfl, hb7⟩
          go_wp2
          go_ret
          exact ⟨rfl, (hT6.out.next hb7).below⟩
        · have q0 : ¬ f < h := by omega
          have q1 : decide (f < h) = false := decide_eq_false (by omega)
          have q3 : decide ((f : Int) < (h : Int)) = false := decide_eq_false (by omega)
          clear m1
          go_wp2_with fail
          refine (onward_any (i : Int) (h : Int) _ _ _ es _ hT.out.rd).mono ?_
          rintro e w2 ⟨v, rfl, hown, hb2⟩
          rw [Hn.out] at hown
          obtain ⟨a2, k2, rfl⟩ := rd_slice (Rd.of_own hown)
          have hT2 := Lib.hid (hT.out.next hb2)
          clear hb2 c0 c1 c2 hown
          obtain ⟨c0, c1, c2⟩ := hT2.out.cells
          go_wp2_with fail
          refine (good_any (i : Int) (h : Int) _ es _ hT2.out.rd).mono ?_
          rintro e w3 ⟨rfl, hb3⟩
          rw [hok.out]
          have hT3 := Lib.hid (hT2.out.next hb3)
          clear hb3 c0 c1 c2
          obtain ⟨c0, c1, c2⟩ := hT3.out.cells
          go_wp2_with fail
          refine (far_any (i : Int) (h : Int) _ _ _ es _ hT3.out.rd).mono ?_
          rintro e w4 ⟨rfl, hb4⟩
          rw [hfr.out]
          have hT4 := Lib.hid (hT3.out.next hb4)
          clear hb4 c0 c1 c2
          obtain ⟨c0, c1, c2⟩ := hT4.out.cells
          go_wp2_with fail
          refine (within_any (i : Int) (h : Int) _ _ es _ hT4.out.rd).mono ?_
          rintro e w5 ⟨v5, rfl, hown, hb5⟩
          rw [hwi2.out] at hown
          obtain ⟨a5, k5, rfl⟩ := rd_slice (Rd.of_own hown)
          have hT5 := Lib.hid (hT4.out.next hb5)
          clear hb5 c0 c1 c2 hown
          obtain ⟨c0, c1, c2⟩ := hT5.out.cells
          go_wp2_with fail
          refine (rounds_any (i : Int) (h : Int) _ es _ hT5.out.rd).mono ?_
          rintro e w6 ⟨rfl, hb6⟩
          rw [hro2.out]
          have hT6 := Lib.hid (hT5.out.next hb6)
          clear hb6 c0 c1 c2
          go_wp2_with fail
          refine (lives_any _).mono ?_
          rintro e w7 ⟨rfl, hb7⟩
          go_wp2
          go_ret
          exact ⟨rfl, (hT6.out.next hb7).below⟩
end Go.Proofs.Ytipdggjalhjpnab
