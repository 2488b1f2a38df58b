/-
  Topologies: the program's draw.
-/
import Derived.Test.YtipdggjalhjpnabProg
import Derived.Test.YtipdggjalhjpnabWhole
import Derived.Lib.Hide
import Derived.WalkLawsBesides
import Derived.BigQuiet
import Derived.Deep.QuietTactic
import Derived.RegionTactic
import Derived.ChangeAlike
namespace Go.Proofs.Ytipdggjalhjpnab
open Go.RowKit
set_option linter.unusedSimpArgs false
set_option linter.unusedVariables false

def btw (n m : Int) : Bool := decide (1 ≤ n) && decide (n ≤ m)
theorem between_any (n m : Int) (w : World) : Calls Try.prog 41 #[.int .i64 n, .int .i64 m] w fun e w' => e = .returned (.bool (btw n m)) ∧ w' = w := by
  by_cases h1 : 1 ≤ n
  · by_cases h2 : n ≤ m
    · go_enter Try.func41, Try.ntmps41
      go_wp2
      go_ret
      exact ⟨by simp [btw, h1, h2], rfl⟩
    · go_enter Try.func41, Try.ntmps41
      go_wp2
      go_ret
      exact ⟨by simp [btw, h1, h2], rfl⟩
  · go_enter Try.func41, Try.ntmps41
    go_wp2
    go_ret
    exact ⟨by simp [btw, h1] <;> omega, rfl⟩

def edgeCells (es : List (Int × Int)) : List Value := es.flatMap fun e => [.int .i64 e.1, .int .i64 e.2]
def topV (S : Int) (ev : Value) (H : Int) : Value := .agg #[.int .i64 S, ev, .int .i64 H]
def gridA (es : List (Int × Int)) : Array Value := ((List.range 81).map fun k => Value.bool (es.any fun e => 9 * e.1.toNat + e.2.toNat == k)).toArray
theorem gridA_size (es : List (Int × Int)) : (gridA es).size = 81 := by simp [gridA]
theorem gridA_one (es : List (Int × Int)) : (gridA es).all (·.oneCell') = true := by simp [gridA, Value.oneCell']
theorem zero79 : ∀ w : World, (zeroValue 79).run Try.prog w = .ok (.agg (gridA [])) w := (zero_of_info (P := Try.prog) (t := 79) (v := .agg (gridA [])) (n := 81) (by kernel_rfl)).1
theorem size79 (es : List (Int × Int)) : (Try.prog.info? 79).map (·.size) = some (gridA es).size := by rw [gridA_size]; kernel_rfl
theorem edge_cells : ∀ (es : List (Int × Int)) {i : Nat} {x y : Int}, es[i]? = some (x, y) → (edgeCells es)[i * 2]? = some (.int .i64 x) ∧ (edgeCells es)[i * 2 + 1]? = some (.int .i64 y)
  | [], i, x, y, h => by simp at h
  | e :: es, 0, x, y, h => by simp at h; subst h; simp [edgeCells]
  | e :: es, i + 1, x, y, h => by
    have := edge_cells es (i := i) (by simpa using h)
    have e2 : edgeCells (e :: es) = .int .i64 e.1 :: .int .i64 e.2 :: edgeCells es := by simp [edgeCells]
    rw [e2, show (i + 1) * 2 = i * 2 + 1 + 1 by omega]
    exact ⟨by simpa using this.1, by simpa using this.2⟩
theorem edge_at {w : World} {a : Option Addr} {cap : Nat} {es : List (Int × Int)} (h : Rd w 2 (.slice a es.length cap) es.length (edgeCells es)) {i : Nat} {x y : Int} (he : es[i]? = some (x, y)) :
    ∃ b off, a = some ⟨b, off, none⟩ ∧ b < w.heap.size ∧ w.cell? ⟨b, off + i * 2, none⟩ = some (.int .i64 x) ∧ w.cell? ⟨b, off + i * 2 + 1, none⟩ = some (.int .i64 y) := by
  obtain ⟨hl, a', cap', e, h1, h2, h3, h4⟩ := h
  obtain ⟨rfl, rfl⟩ : a = a' ∧ cap = cap' := by simpa using e
  have hi := (List.getElem?_eq_some_iff.1 he).1
  obtain ⟨b, off, rfl, hb, hc⟩ := h4 (by omega)
  obtain ⟨e1, e2⟩ := edge_cells es he
  exact ⟨b, off, rfl, hb, hc _ _ e1, by rw [Nat.add_assoc]; exact hc _ _ e2⟩
def okE (S : Int) (es : List (Int × Int)) : Prop := (∀ e ∈ es, 1 ≤ e.1 ∧ e.1 ≤ S ∧ 1 ≤ e.2 ∧ e.2 ≤ S ∧ e.1 ≠ e.2) ∧ es.Nodup
instance (S : Int) (es : List (Int × Int)) : Decidable (okE S es) := by unfold okE; infer_instance
def okT (S : Int) (es : List (Int × Int)) (H : Int) : Prop := 1 ≤ S ∧ S ≤ 8 ∧ 0 ≤ H ∧ H ≤ 8 ∧ okE S es
instance (S : Int) (es : List (Int × Int)) (H : Int) : Decidable (okT S es H) := by unfold okT; infer_instance
def drawn (S : Int) (es : List (Int × Int)) (H : Int) : List (Int × Int) := if okT S es H then es else []

theorem dup_bad {es : List (Int × Int)} {i : Nat} {e : Int × Int} (hn : es.Nodup) (he : es[i]? = some e) (hin : e ∈ es.take i) : False := by
  obtain ⟨j, hj⟩ := List.mem_iff_getElem?.1 hin
  rw [List.getElem?_take] at hj
  split at hj
  · rename_i hji
    obtain ⟨a1, a2⟩ := List.getElem?_eq_some_iff.1 he
    obtain ⟨b1, b2⟩ := List.getElem?_eq_some_iff.1 hj
    exact List.pairwise_iff_getElem.1 hn j i b1 a1 hji (by rw [a2, b2])
  · cases hj
theorem any_in {S : Int} {es : List (Int × Int)} (h : okE S es) (hS : S ≤ 8) {p q : Nat} (h1 : 1 ≤ (p : Int)) (h2 : (p : Int) ≤ S) (h3 : 1 ≤ (q : Int)) (h4 : (q : Int) ≤ S) :
    (es.any fun e => 9 * e.1.toNat + e.2.toNat == p * 9 + q) = decide (((p : Int), (q : Int)) ∈ es) := by
  rw [Bool.eq_iff_iff]
  simp only [List.any_eq_true, beq_iff_eq, decide_eq_true_eq]
  constructor
  · rintro ⟨⟨x, y⟩, hm, he⟩
    have := h.1 _ hm
    simp only at this he
    have e1 : x = p := by omega
    have e2 : y = q := by omega
    rw [← e1, ← e2]; exact hm
  · intro hm
    exact ⟨_, hm, by simp; omega⟩
theorem okE_snoc {S : Int} {es : List (Int × Int)} {e : Int × Int} (h : okE S es) (he : 1 ≤ e.1 ∧ e.1 ≤ S ∧ 1 ≤ e.2 ∧ e.2 ≤ S ∧ e.1 ≠ e.2) (hn : e ∉ es) : okE S (es ++ [e]) := by
  refine ⟨fun x hx => ?_, ?_⟩
  · rcases List.mem_append.1 hx with hx | hx
    · exact h.1 x hx
    · rw [List.mem_singleton.1 hx]; exact he
  · rw [List.nodup_append]
    refine ⟨h.2, by simp, fun a ha b hb => ?_⟩
    rw [List.mem_singleton.1 hb]
    exact fun e => hn (e ▸ ha)
theorem gridA_snoc (es : List (Int × Int)) {p q : Nat} (hp : p < 9) (hq : q < 9) : gridA (es ++ [((p : Int), (q : Int))]) = (gridA es).setIfInBounds (p * 9 + q) (.bool true) := by
  apply Array.ext_getElem?
  intro k
  rw [Array.getElem?_setIfInBounds]
  by_cases hk : p * 9 + q = k
  · subst hk
    simp [gridA, show p * 9 + q < 81 by omega]
    omega
  · rw [if_neg hk]
    by_cases h8 : k < 81
    · simp [gridA, h8]
      omega
    · simp [gridA, h8]
theorem below_drew {B : Nat} {w0 w : World} (h : Below B w0 w) : Below B w0 w.drew := ⟨h.os, h.tape, h.output, h.size, h.block⟩
set_option maxRecDepth 4000 in
set_option maxHeartbeats 1600000 in
theorem draw_any (S H : Int) (ev : Value) (es : List (Int × Int)) (w : World) (hr : Rd w 2 ev es.length (edgeCells es)) :
    Calls Try.prog 39 #[topV S ev H] w fun e w' => e = .returned (.tuple #[.agg (gridA (drawn S es H)), .bool (decide (okT S es H))]) ∧ Below w.heap.size w w' := by
  unfold topV
  have hB := Below.refl w.heap.size w
  have hz := Lib.hid zero79
  obtain ⟨g0, hg0⟩ : ∃ g0, gridA [] = g0 := ⟨_, rfl⟩
  have hz2 := hz.out
  rw [hg0] at hz2
  have G0 := Lib.hid hg0
  have hi : (Try.prog.info? 79).map (·.size) = some g0.size := by rw [← hg0]; exact size79 _
  have Hi := Lib.hid hi
  have h1 : g0.all (·.oneCell') = true := by rw [← hg0]; exact gridA_one _
  have H1 := Lib.hid h1
  clear hg0 hi h1
  by_cases hS : btw S 8 = true
  · by_cases h0 : H < 0
    · have hbad : ¬ okT S es H := fun h => by have := h.2.2.1; omega
      have Hb := Lib.hid hbad
      clear hbad
      go_enter Try.func39, Try.ntmps39
      go_wp2_with (first | (go_at_call 41; with_reducible refine (between_any _ _ _).mono ?_; rintro e w1 ⟨rfl, rfl⟩) | (with_reducible refine wpList_load_row (t := 79) (w.heap.size + 1 + 1) g0 9 35 ?_ Try.underlying79 Hi.out 79 (0, 0) ?_ ?_; (simp [Act.eval, Act.put]); go_loud (simpa using heap_alloc_new ((w.alloc _).alloc _) (.cells g0 79))) | (with_reducible refine wpList_store_row (t := 79) (w.heap.size + 1) g0 g0 ?_ ?_ Hi.out 79 ?_ rfl H1.out ?_; (simp [Act.eval, Act.put]); (simp [Act.eval, Act.put]); go_loud (rw [Below.heap_alloc _ _ _ (by simp)]; simpa using heap_alloc_new (w.alloc _) (.cells g0 79))))
      refine ret_cell_tmp (w.heap.size + 1) g0 9 35 (.bool false) rfl (by simp) (by simp) Try.underlying79 Hi.out 79 (0, 0) (setRow_heap _ _ g0 _ _ _ (by rw [Below.heap_alloc _ _ _ (by simp)]; simpa using heap_alloc_new (w.alloc _) (.cells g0 79))) rfl ⟨?_, ?_⟩
      · rw [decide_eq_false Hb.out, drawn, if_neg Hb.out, G0.out]
      · exact below_setRow (((hB.alloc (Nat.le_refl _) _).alloc (by simp) _).alloc (by simp; omega) _) (by omega) _
    · by_cases h8 : 8 < H
      · have hbad : ¬ okT S es H := fun h => by have := h.2.2.2.1; omega
        have Hb := Lib.hid hbad
        clear hbad
        go_enter Try.func39, Try.ntmps39
        go_wp2_with (first | (go_at_call 41; with_reducible refine (between_any _ _ _).mono ?_; rintro e w1 ⟨rfl, rfl⟩) | (with_reducible refine wpList_load_row (t := 79) (w.heap.size + 1 + 1) g0 9 35 ?_ Try.underlying79 Hi.out 79 (0, 0) ?_ ?_; (simp [Act.eval, Act.put]); go_loud (simpa using heap_alloc_new ((w.alloc _).alloc _) (.cells g0 79))) | (with_reducible refine wpList_store_row (t := 79) (w.heap.size + 1) g0 g0 ?_ ?_ Hi.out 79 ?_ rfl H1.out ?_; (simp [Act.eval, Act.put]); (simp [Act.eval, Act.put]); go_loud (rw [Below.heap_alloc _ _ _ (by simp)]; simpa using heap_alloc_new (w.alloc _) (.cells g0 79))))
        refine ret_cell_tmp (w.heap.size + 1) g0 9 35 (.bool false) rfl (by simp) (by simp) Try.underlying79 Hi.out 79 (0, 0) (setRow_heap _ _ g0 _ _ _ (by rw [Below.heap_alloc _ _ _ (by simp)]; simpa using heap_alloc_new (w.alloc _) (.cells g0 79))) rfl ⟨?_, ?_⟩
        · rw [decide_eq_false Hb.out, drawn, if_neg Hb.out, G0.out]
        · exact below_setRow (((hB.alloc (Nat.le_refl _) _).alloc (by simp) _).alloc (by simp; omega) _) (by omega) _
      · obtain ⟨a, cap, rfl⟩ := rd_slice hr
        have hS8 : 1 ≤ S ∧ S ≤ 8 := by simpa [btw] using hS
        have H8 := Lib.hid hS8
        clear hS8
        have hH0 : 0 ≤ H := by omega
        have hH8 : H ≤ 8 := by omega
        clear h0 h8
        clear hz2
        have hz2 := hz.out
        rw [G0.out] at hz2
        go_enter Try.func39, Try.ntmps39
        go_wp2_with (first | (go_at_call 41; with_reducible refine (between_any _ _ _).mono ?_; rintro e w1 ⟨rfl, rfl⟩))
        clear hz2
        go_loopw [6, 25] (fun _ ix wr => ∃ i : Nat, i ≤ es.length ∧ ix = .int .i64 (i : Int) ∧ okE S (es.take i) ∧ wr.heap[w.heap.size]? = some (.cells #[.int .i64 S, .slice a es.length cap, .int .i64 H] 24 (0, 0)) ∧ wr.heap[w.heap.size + 1]? = some (.cells g0 79 (0, 0)) ∧ wr.heap[w.heap.size + 1 + 1]? = some (.cells (gridA (es.take i)) 79 (0, 0)) ∧ Below w.heap.size w wr) (fun _ ix _ => es.length - (intOf ix).toNat)
        case atStart =>
          refine ⟨0, by omega, rfl, by simp [okE], ?_, ?_, ?_, ((hB.alloc (Nat.le_refl _) _).alloc (by simp) _).alloc (by simp; omega) _⟩
          · rw [Below.heap_alloc _ _ _ (by simp; omega), Below.heap_alloc _ _ _ (by simp), heap_alloc_new]
          · rw [Below.heap_alloc _ _ _ (by simp)]; simpa using heap_alloc_new (w.alloc (.cells #[.int .i64 S, .slice a es.length cap, .int .i64 H] 24)) (.cells g0 79)
          · simpa [G0.out] using heap_alloc_new ((w.alloc (.cells #[.int .i64 S, .slice a es.length cap, .int .i64 H] 24)).alloc (.cells g0 79)) (.cells g0 79)
        case round =>
          obtain ⟨i, hi, rfl, hok, hb1, hb2, hb3, hB⟩ := hrel
          have hwz := hB.size
          have hbz := lt_of_block hb3
          have c0 : ∀ o, (wr.alloc o).cell? ⟨w.heap.size, 0, none⟩ = some (.int .i64 S) := fun o => (World.cell?_alloc_past _ _ _ (by show w.heap.size < wr.heap.size; omega)).trans (cell_of_row _ _ 0 _ _ _ hb1)
          have g3 : ∀ o : Obj, (wr.alloc o).heap[w.heap.size + 1 + 1]? = some (.cells (gridA (es.take i)) 79 (0, 0)) := fun o => (Below.heap_alloc _ _ _ hbz).trans hb3
          have c3 : ∀ o (k : Nat), k < 81 → (wr.alloc o).cell? ⟨w.heap.size + 1 + 1, k, none⟩ = some (.bool ((es.take i).any fun e => 9 * e.1.toNat + e.2.toNat == k)) := fun o k hk => (cell_of_row _ _ k _ _ _ (g3 o)).trans (by simp [gridA, hk])
          have hmx : es.length ≤ 9223372036854775807 := by obtain ⟨_, a', c', e', k1, k2, _⟩ := hr; unfold maxLen at k2; omega
          by_cases hlt : i < es.length
          · obtain ⟨⟨x, y⟩, he⟩ : ∃ e, es[i]? = some e := ⟨_, List.getElem?_eq_getElem hlt⟩
            obtain ⟨b, off, rfl, hbb, hx, hy⟩ := edge_at hr he
            replace hx := (hB.cell (p := ⟨b, off + i * 2, none⟩) hbb).trans hx
            replace hy := (hB.cell (p := ⟨b, off + i * 2 + 1, none⟩) hbb).trans hy
            have Hx := Lib.hid hok
            clear hok
            by_cases hvx : btw x S = true
            · by_cases hvy : btw y S = true
              · obtain ⟨h1x, h2x⟩ : 1 ≤ x ∧ x ≤ S := by simpa [btw] using hvx
                obtain ⟨h1y, h2y⟩ : 1 ≤ y ∧ y ≤ S := by simpa [btw] using hvy
                obtain ⟨p, rfl⟩ : ∃ p : Nat, x = (p : Int) := ⟨x.toNat, by omega⟩
                obtain ⟨q, rfl⟩ : ∃ q : Nat, y = (q : Int) := ⟨y.toNat, by omega⟩
                have hS2 := H8.out.2
                have hp9 : p < 9 := by omega
                have hq9 : q < 9 := by omega
                clear hS2
                by_cases hpq : p = q
                · subst hpq
                  have hbad : ¬ okT S es H := fun h => (h.2.2.2.2.1 _ (List.mem_of_getElem? he)).2.2.2.2 rfl
                  have Hb := Lib.hid hbad
                  clear hbad
                  go_wp2
                  go_quiet ((go_at_call 41; exact Calls.quiet_of_same (between_any _ _ _)))
                  have hz2 := hz.out
                  rw [G0.out] at hz2
                  have g2 : ∀ o : Obj, (wr.alloc o).heap[w.heap.size + 1]? = some (.cells g0 79 (0, 0)) := fun o => (Below.heap_alloc _ _ _ (by omega)).trans hb2
                  have G2 := Lib.hid g2
                  clear g2
                  go_wp2_with (with_reducible refine wpList_store_row (t := 79) (w.heap.size + 1) g0 g0 ?_ ?_ Hi.out 79 ?_ rfl H1.out ?_; (simp [Act.eval, Act.put]); (simp [Act.eval, Act.put]); (simpa using G2.out _))
                  refine ret_cell_tmp (w.heap.size + 1) g0 9 35 (.bool false) rfl (by simp) (by simp) Try.underlying79 Hi.out 79 (0, 0) (setRow_heap _ _ g0 _ _ _ (by simpa using G2.out _)) rfl ⟨?_, ?_⟩
                  · rw [decide_eq_false Hb.out, drawn, if_neg Hb.out, G0.out]
                  · exact below_setRow (below_drewN (hB.alloc hwz _) _) (by omega) _
                · have hne : ((p : Int) == (q : Int)) = false := by simp; omega
                  by_cases hin : ((p : Int), (q : Int)) ∈ es.take i
                  · have hbad : ¬ okT S es H := fun h => dup_bad h.2.2.2.2.2 he hin
                    have Hb := Lib.hid hbad
                    clear hbad
                    have d3 : ∀ o, (wr.alloc o).cell? ⟨w.heap.size + 1 + 1, p * 9 + q, none⟩ = some (.bool true) := fun o => by
                      rw [c3 o (p * 9 + q) (by omega), any_in Hx.out H8.out.2 h1x h2x h1y h2y, decide_eq_true hin]
                    clear c3
                    go_wp2
                    go_quiet ((go_at_call 41; exact Calls.quiet_of_same (between_any _ _ _)))
                    have hz2 := hz.out
                    rw [G0.out] at hz2
                    have g2 : ∀ o : Obj, (wr.alloc o).heap[w.heap.size + 1]? = some (.cells g0 79 (0, 0)) := fun o => (Below.heap_alloc _ _ _ (by omega)).trans hb2
                    have G2 := Lib.hid g2
                    clear g2
                    go_wp2_with (with_reducible refine wpList_store_row (t := 79) (w.heap.size + 1) g0 g0 ?_ ?_ Hi.out 79 ?_ rfl H1.out ?_; (simp [Act.eval, Act.put]); (simp [Act.eval, Act.put]); (simpa using G2.out _))
                    refine ret_cell_tmp (w.heap.size + 1) g0 9 35 (.bool false) rfl (by simp) (by simp) Try.underlying79 Hi.out 79 (0, 0) (setRow_heap _ _ g0 _ _ _ (by simpa using G2.out _)) rfl ⟨?_, ?_⟩
                    · rw [decide_eq_false Hb.out, drawn, if_neg Hb.out, G0.out]
                    · exact below_setRow (below_drewN (hB.alloc hwz _) _) (by omega) _
                  · have d3 : ∀ o, (wr.alloc o).cell? ⟨w.heap.size + 1 + 1, p * 9 + q, none⟩ = some (.bool false) := fun o => by
                      rw [c3 o (p * 9 + q) (by omega), any_in Hx.out H8.out.2 h1x h2x h1y h2y, decide_eq_false hin]
                    clear c3
                    go_wp2
                    go_quiet ((go_at_call 41; exact Calls.quiet_of_same (between_any _ _ _)))
                    go_wp2
                    have e0 := heap_alloc_new wr (.cells #[.int .i64 (p : Int), .int .i64 (q : Int)] 39)
                    obtain ⟨wq, hwq⟩ : ∃ wq, (wr.alloc (.cells #[.int .i64 (p : Int), .int .i64 (q : Int)] 39)).drewN nq = wq := ⟨_, rfl⟩
                    rw [hwq]
                    have q0 : wq.heap[wr.heap.size]? = some (.cells #[.int .i64 (p : Int), .int .i64 (q : Int)] 39 (0, 0)) := by rw [← hwq]; simpa using e0
                    have q1 : wq.heap[w.heap.size]? = some (.cells #[.int .i64 S, .slice (some ⟨b, off, none⟩) es.length cap, .int .i64 H] 24 (0, 0)) := by rw [← hwq]; simpa using (Below.heap_alloc _ _ _ (by omega)).trans hb1
                    have q2 : wq.heap[w.heap.size + 1]? = some (.cells g0 79 (0, 0)) := by rw [← hwq]; simpa using (Below.heap_alloc _ _ _ (by omega)).trans hb2
                    have q3 : wq.heap[w.heap.size + 1 + 1]? = some (.cells (gridA (es.take i)) 79 (0, 0)) := by rw [← hwq]; simpa using g3 _
                    have qB : Below w.heap.size w wq := by rw [← hwq]; exact below_drewN (hB.alloc hwz _) _
                    have qc := d3 (.cells #[.int .i64 (p : Int), .int .i64 (q : Int)] 39)
                    have qc2 : wq.cell? ⟨w.heap.size + 1 + 1, p * 9 + q, none⟩ = some (.bool false) := by rw [← hwq]; simpa using qc
                    have qf : wq.frozen? ⟨w.heap.size + 1 + 1, p * 9 + q, none⟩ = false := by simp [World.frozen?, q3]
                    have qx : wq.cell? ⟨wr.heap.size, 0, none⟩ = some (.int .i64 (p : Int)) := cell_of_row _ _ 0 _ _ _ q0
                    have qy : wq.cell? ⟨wr.heap.size, 1, none⟩ = some (.int .i64 (q : Int)) := cell_of_row _ _ 1 _ _ _ q0
                    have Q0 := Lib.hid q0
                    have Q1 := Lib.hid q1
                    have Q2 := Lib.hid q2
                    have Q3 := Lib.hid q3
                    clear q0 q1 q2 q3 hwq qc d3 g3 e0 hb1 hb2 hb3 c0
                    go_region
                    go_wp2
                    refine ⟨⟨i + 1, by omega, by go_num, ?_, ?_, ?_, ?_, ?_⟩, by simp [intOf] <;> omega⟩
                    · rw [List.take_add_one, he]
                      exact okE_snoc Hx.out ⟨h1x, h2x, h1y, h2y, by simpa using hne⟩ hin
                    · show (wq.setCell _ _).heap[_]? = _
                      rw [Below.heap_setCell _ _ _ _ (by simp <;> omega)]; exact Q1.out
                    · show (wq.setCell _ _).heap[_]? = _
                      rw [Below.heap_setCell _ _ _ _ (by simp <;> omega)]; exact Q2.out
                    · show (wq.setCell _ _).heap[_]? = _
                      rw [heap_setCell_same wq _ _ _ _ _ Q3.out, List.take_add_one, he]
                      exact congrArg (fun z => some (Obj.cells z 79 (0, 0))) (gridA_snoc _ hp9 hq9).symm
                    · exact below_drew (qB.setCell (by simp; omega) _)
              · have hbad : ¬ okT S es H := fun h => hvy (by have := h.2.2.2.2.1 (x, y) (List.mem_of_getElem? he); simp [btw, this.2.2.1, this.2.2.2.1])
                have Hb := Lib.hid hbad
                simp at hvy
                clear hbad
                go_wp2
                go_quiet ((go_at_call 41; exact Calls.quiet_of_same (between_any _ _ _)))
                have hz2 := hz.out
                rw [G0.out] at hz2
                have g2 : ∀ o : Obj, (wr.alloc o).heap[w.heap.size + 1]? = some (.cells g0 79 (0, 0)) := fun o => (Below.heap_alloc _ _ _ (by omega)).trans hb2
                have G2 := Lib.hid g2
                clear g2
                go_wp2_with (with_reducible refine wpList_store_row (t := 79) (w.heap.size + 1) g0 g0 ?_ ?_ Hi.out 79 ?_ rfl H1.out ?_; (simp [Act.eval, Act.put]); (simp [Act.eval, Act.put]); (simpa using G2.out _))
                refine ret_cell_tmp (w.heap.size + 1) g0 9 35 (.bool false) rfl (by simp) (by simp) Try.underlying79 Hi.out 79 (0, 0) (setRow_heap _ _ g0 _ _ _ (by simpa using G2.out _)) rfl ⟨?_, ?_⟩
                · rw [decide_eq_false Hb.out, drawn, if_neg Hb.out, G0.out]
                · exact below_setRow (below_drewN (hB.alloc hwz _) _) (by omega) _
            · have hbad : ¬ okT S es H := fun h => hvx (by have := h.2.2.2.2.1 (x, y) (List.mem_of_getElem? he); simp [btw, this.1, this.2.1])
              have Hb := Lib.hid hbad
              simp at hvx
              clear hbad
              go_wp2
              go_quiet ((go_at_call 41; exact Calls.quiet_of_same (between_any _ _ _)))
              have hz2 := hz.out
              rw [G0.out] at hz2
              have g2 : ∀ o : Obj, (wr.alloc o).heap[w.heap.size + 1]? = some (.cells g0 79 (0, 0)) := fun o => (Below.heap_alloc _ _ _ (by omega)).trans hb2
              have G2 := Lib.hid g2
              clear g2
              go_wp2_with (with_reducible refine wpList_store_row (t := 79) (w.heap.size + 1) g0 g0 ?_ ?_ Hi.out 79 ?_ rfl H1.out ?_; (simp [Act.eval, Act.put]); (simp [Act.eval, Act.put]); (simpa using G2.out _))
              refine ret_cell_tmp (w.heap.size + 1) g0 9 35 (.bool false) rfl (by simp) (by simp) Try.underlying79 Hi.out 79 (0, 0) (setRow_heap _ _ g0 _ _ _ (by simpa using G2.out _)) rfl ⟨?_, ?_⟩
              · rw [decide_eq_false Hb.out, drawn, if_neg Hb.out, G0.out]
              · exact below_setRow (below_drewN (hB.alloc hwz _) _) (by omega) _
          · have hie : i = es.length := by omega
            subst hie
            rw [List.take_length] at hb3 hok
            have hgood : okT S es H := ⟨H8.out.1, H8.out.2, hH0, hH8, hok⟩
            have Hg := Lib.hid hgood
            have B1 := Lib.hid hb1
            have B2 := Lib.hid hb2
            have B3 := Lib.hid hb3
            have Hn := Lib.hid (size79 es)
            have Hm := Lib.hid (gridA_one es)
            obtain ⟨G, hG⟩ : ∃ G, gridA es = G := ⟨_, rfl⟩
            rw [hG] at B3 Hn Hm
            have Hs := Lib.hid (show g0.size = G.size by rw [← G0.out, ← hG, gridA_size, gridA_size])
            have HG := Lib.hid hG
            clear hgood hok hb1 hb2 hb3 c0 c3 g3 hG
            go_wp2_with (first | (with_reducible refine wpList_load_row (t := 79) (w.heap.size + 1 + 1) G 9 35 ?_ Try.underlying79 Hn.out 79 (0, 0) B3.out ?_; (simp [Act.eval, Act.put])) | (with_reducible refine wpList_store_row (t := 79) (w.heap.size + 1) g0 G ?_ ?_ Hn.out 79 B2.out Hs.out Hm.out ?_; (simp [Act.eval, Act.put]); (simp [Act.eval, Act.put])))
            refine ret_cell_tmp (w.heap.size + 1) G 9 35 (.bool true) rfl (by simp) (by simp) Try.underlying79 Hn.out 79 (0, 0) (setRow_heap _ _ g0 _ _ _ B2.out) rfl ⟨?_, ?_⟩
            · rw [decide_eq_true Hg.out, drawn, if_pos Hg.out, HG.out]
            · exact below_setRow hB (by omega) _
  · have hbad : ¬ okT S es H := fun h => hS (by simp [btw, h.1, h.2.1])
    have Hb := Lib.hid hbad
    simp at hS
    clear hbad
    go_enter Try.func39, Try.ntmps39
    go_wp2_with (first | (go_at_call 41; with_reducible refine (between_any _ _ _).mono ?_; rintro e w1 ⟨rfl, rfl⟩) | (with_reducible refine wpList_load_row (t := 79) (w.heap.size + 1 + 1) g0 9 35 ?_ Try.underlying79 Hi.out 79 (0, 0) ?_ ?_; (simp [Act.eval, Act.put]); go_loud (simpa using heap_alloc_new ((w.alloc _).alloc _) (.cells g0 79))) | (with_reducible refine wpList_store_row (t := 79) (w.heap.size + 1) g0 g0 ?_ ?_ Hi.out 79 ?_ rfl H1.out ?_; (simp [Act.eval, Act.put]); (simp [Act.eval, Act.put]); go_loud (rw [Below.heap_alloc _ _ _ (by simp)]; simpa using heap_alloc_new (w.alloc _) (.cells g0 79))))
    refine ret_cell_tmp (w.heap.size + 1) g0 9 35 (.bool false) rfl (by simp) (by simp) Try.underlying79 Hi.out 79 (0, 0) (setRow_heap _ _ g0 _ _ _ (by rw [Below.heap_alloc _ _ _ (by simp)]; simpa using heap_alloc_new (w.alloc _) (.cells g0 79))) rfl ⟨?_, ?_⟩
    · rw [decide_eq_false Hb.out, drawn, if_neg Hb.out, G0.out]
    · exact below_setRow (((hB.alloc (Nat.le_refl _) _).alloc (by simp) _).alloc (by simp; omega) _) (by omega) _
end Go.Proofs.Ytipdggjalhjpnab
