/-
  Topologies: where edges lead, by the program and by the reference.
-/
import Derived.Test.YtipdggjalhjpnabRGood
namespace Go.Proofs.Ytipdggjalhjpnab
open Go.RowKit
set_option linter.unusedSimpArgs false
set_option linter.unusedVariables false

theorem wpList_load_part {P : Program} {w : World} {ops : Array Oper} {rest : List Oper} {d : Option Nat} {p : Operand} {t ty : TypeId} {ps : String} {af : Array Edge} {a : Act} {Q : Exit → Act → World → Prop}
    (g off : Nat) (cs : Array Value) (ds : List Value) (n : Nat) (e : TypeId) (hp : a.eval p = .pointer (some ⟨g, off, none⟩)) (hu : P.underlying t = some (.array n e)) (hi : (P.info? t).map (·.size) = some ds.length)
    (tt : TypeId) (fr : Nat × Nat) (hg : w.heap[g]? = some (.cells cs tt fr)) (hds : ∀ (j : Nat) (v : Value), ds[j]? = some v → cs[off + j]? = some v)
    (h : wpList P ops Q rest (a.put d (.agg ds.toArray)) w) : wpList P ops Q ({ dst := d, op := .load t p, type := ty, pos := ps, after := af, guard := none } :: rest) a w := by
  refine wpList_plain rfl fun K hK => ?_
  have hl := run_loadCells_list (P := P) w ⟨g, off, none⟩ ds (fun j v hv => by
      rw [Addr.add_lit, cell_of_row w g _ cs tt fr hg]
      exact hds j v hv)
  have hrun : (loadVar t ⟨g, off, none⟩).run P w = .ok (.agg ds.toArray) w := by
    cases hq : P.info? t with
    | none => simp [hq] at hi
    | some i =>
      have hs : i.size = ds.length := by simpa [hq] using hi
      simp [loadVar, isAgg, run_underlying hu, sizeOf, typeInfo, hq, hs, hl, Result.andThen]
  unfold Oper.wp
  simp [execOp, hp, Instr.loadAt, Instr.sureAddr, hrun, Result.andThen]
  exact hK _ _ h

theorem box_after {w w1 : World} {o : Obj} (hb : Below (w.alloc o).heap.size (w.alloc o) w1) : w1.heap[w.heap.size]? = some o ∧ w.heap.size < w1.heap.size ∧ Below w.heap.size w w1 := by
  have h := hb.size
  have h1 : w.heap.size + 1 ≤ w1.heap.size := by simpa using h
  exact ⟨(hb.block _ (by simp)).trans (heap_alloc_new _ _), by omega, ((Below.refl _ w).alloc (Nat.le_refl _) _).trans (hb.mono (by simp))⟩
theorem any_in2 {S : Int} {es : List (Int × Int)} (h : okE S es) (hS : S ≤ 8) {p q : Nat} (hq : q < 9) :
    (es.any fun e => 9 * e.1.toNat + e.2.toNat == p * 9 + q) = decide (((p : Int), (q : Int)) ∈ es) := by
  rw [Bool.eq_iff_iff]
  simp only [List.any_eq_true, beq_iff_eq, decide_eq_true_eq]
  constructor
  · rintro ⟨⟨x, y⟩, hm, he⟩
    have := h.1 _ hm
    simp only at this he
    have e1 : x = p := by omega
    have e2 : y = q := by omega
    rw [← e1, ← e2]; exact hm
  · intro hm
    exact ⟨_, hm, by simp; omega⟩
theorem run_index_one {P : Program} (w : World) (t e : TypeId) (n : Nat) (cs : Array Value) (i : Nat) (v : Value) (hu : P.underlying t = some (.array n e)) (hi : i < n) (ha : ∀ w, (isAgg e).run P w = .ok false w) (hs : ∀ w, (sizeOf e).run P w = .ok 1 w)
    (hc : cs[i]? = some v) : (Instr.index t (.agg cs) (.int .i64 (i : Int))).run P w = .ok v w := by
  have h1 : (0 : Int) ≤ (i : Int) ∧ (i : Int) < (n : Int) := by omega
  simp [Instr.index, asIntOf, Sem.run_bind, run_underlying hu, Result.andThen, part, ha, hs, hc, h1]
  omega
theorem Try.info3 : (Try.prog.info? 3).map (fun i => (i.zero, i.size, i.bytes)) = some (some (.int .i64 0), 1, 8) := by kernel_rfl
def ints (l : List Int) : List Value := l.map (Value.int .i64)
theorem ints_length (l : List Int) : (ints l).length = l.length := by simp [ints]
theorem ints_append (l m : List Int) : ints (l ++ m) = ints l ++ ints m := by simp [ints]
/-- The sites below n to which edges lead from a. -/
def outs (es : List (Int × Int)) (a : Int) (n : Nat) : List Int := ((List.range n).filter fun k : Nat => decide ((a, (k : Int)) ∈ es)).map fun k => ((k : Nat) : Int)
theorem outs_succ (es : List (Int × Int)) (a : Int) (n : Nat) : outs es a (n + 1) = if (a, (n : Int)) ∈ es then outs es a n ++ [(n : Int)] else outs es a n := by
  unfold outs
  rw [List.range_succ, List.filter_append, List.map_append]
  by_cases h : (a, (n : Int)) ∈ es
  · rw [if_pos h]; simp [h]
  · rw [if_neg h]; simp [h]
theorem outs_len (es : List (Int × Int)) (a : Int) (n : Nat) : (outs es a n).length ≤ n := by
  unfold outs
  rw [List.length_map]
  exact Nat.le_trans (List.length_filter_le _ _) (by simp)
def nextL (S : Int) (es : List (Int × Int)) (H a : Int) : List Int := if okT S es H then outs es a 9 else []
def rowV (es : List (Int × Int)) (p : Nat) : List Value := (List.range 9).map fun q => .bool (es.any fun e => 9 * e.1.toNat + e.2.toNat == p * 9 + q)
theorem rowV_grid (es : List (Int × Int)) {p : Nat} (hp : p < 9) (j : Nat) (v : Value) (h : (rowV es p)[j]? = some v) : (gridA es)[p * 9 + j]? = some v := by
  have hj : j < 9 := by have := (List.getElem?_eq_some_iff.1 h).1; simpa [rowV] using this
  simp [rowV, hj] at h
  simp [gridA, show p * 9 + j < 81 by omega, h]
theorem size35 (es : List (Int × Int)) (p : Nat) : (Try.prog.info? 35).map (·.size) = some (rowV es p).length := by
  rw [show (rowV es p).length = 9 by simp [rowV]]; kernel_rfl

set_option maxRecDepth 4000 in
set_option maxHeartbeats 1600000 in
theorem next_any (S H n : Int) (ev : Value) (es : List (Int × Int)) (w : World) (hr : Rd w 2 ev es.length (edgeCells es)) :
    Calls Try.prog 17 #[topV S ev H, .int .i64 n] w fun e w' => ∃ v, e = .returned v ∧ w'.ownsRow w.heap.size 3 1 v (nextL S es H n).length (ints (nextL S es H n)) ∧ Below w.heap.size w w' := by
  have hB := Below.refl w.heap.size w
  have hz := Lib.hid zero79
  obtain ⟨g0, hg0⟩ : ∃ g0, gridA [] = g0 := ⟨_, rfl⟩
  have hz2 := hz.out
  rw [hg0] at hz2
  obtain ⟨G, hG⟩ : ∃ G, gridA (drawn S es H) = G := ⟨_, rfl⟩
  have Hg := Lib.hid hG
  have Hs := Lib.hid (show g0.size = G.size by rw [← hg0, ← hG, gridA_size, gridA_size])
  have Hn := Lib.hid (show (Try.prog.info? 79).map (·.size) = some G.size by rw [← hG]; exact size79 _)
  have Hm := Lib.hid (show G.all (·.oneCell') = true by rw [← hG]; exact gridA_one _)
  clear hg0 hG
  by_cases hT : okT S es H
  · have hok := Lib.hid (decide_eq_true hT)
    have hT1 := hT.1
    have hT2 := hT.2.1
    have hE := Lib.hid hT.2.2.2.2
    have hN := Lib.hid (show nextL S es H n = outs es n 9 by unfold nextL; rw [if_pos hT])
    have hD := Lib.hid (show drawn S es H = es by unfold drawn; rw [if_pos hT])
    clear hT
    by_cases hb : btw n S = true
    · have hb2 : 1 ≤ n ∧ n ≤ S := by simpa [btw] using hb
      obtain ⟨p, rfl⟩ : ∃ p : Nat, n = (p : Int) := ⟨n.toNat, by omega⟩
      have hp9 : p < 9 := by omega
      have hS8 : S ≤ 8 := hT2
      clear hT1 hT2
      unfold topV
      go_enter Try.func17, Try.ntmps17
      go_wp2_with (first | (with_reducible refine wpList_load_part (t := 35) w1.heap.size (p * 9) G (rowV es p) 9 4 ?_ Try.underlying35 (size35 _ _) 79 (0, 0) (heap_alloc_new _ _) (by rw [← Hg.out, hD.out]; exact rowV_grid es hp9) ?_; (simp [Act.eval, Act.put])) | (go_at_call 39; refine (draw_any S H ev es _ (hr.keep (hB.alloc (Nat.le_refl _) _))).mono ?_; rintro e w1 ⟨rfl, hb1⟩; rw [Hg.out, hok.out]; obtain ⟨hbx, hz1, hB⟩ := box_after hb1; obtain ⟨c0, c1, c2⟩ := cells3 hbx; clear hb1 hbx) | (with_reducible refine wpList_store_new (t := 79) g0 G ?_ ?_ Hn.out Hs.out Hm.out ?_; (simp [Act.eval, Act.put]); (simp [Act.eval, Act.put])) | (go_at_call 41; with_reducible refine (between_any _ _ _).mono ?_; rintro e w2 ⟨rfl, rfl⟩))
      obtain ⟨R, hR⟩ : ∃ R, (rowV es p).toArray = R := ⟨_, rfl⟩
      rw [hR]
      have hRs : R.size = 9 := by rw [← hR]; simp [rowV]
      have HR := Lib.hid (fun (q : Nat) (hq : q < 9) => show R[q]? = some (.bool (decide (((p : Int), (q : Int)) ∈ es))) by rw [← hR, ← any_in2 hE.out hS8 hq]; simp [rowV, hq])
      clear hR hz2
      go_loopw [7, 8, 9, 27] (fun v _ _ ix wr => ∃ i : Nat, i ≤ 9 ∧ ix = .int .i64 (i : Int) ∧ wr.ownsRow w.heap.size 3 1 v (outs es p i).length (ints (outs es p i)) ∧ Below w.heap.size w wr) (fun _ _ _ ix _ => 9 - (intOf ix).toNat)
      case atStart => exact ⟨0, by omega, rfl, World.ownsRow_nil _ _ _ _, hB.alloc (by omega) _⟩
      case round =>
        rename World => wq
        obtain ⟨i, hi, rfl, hown, hB⟩ := hrel
        have hsz := hB.size
        by_cases hlt : i < 9
        · have hRi := HR.out i hlt
          have hix := fun w' : World => run_index_one (P := Try.prog) w' 35 4 9 R i _ Try.underlying35 hlt Try.isAgg4 Try.sizeOf4 hRi
          clear hRi
          by_cases hin : ((p : Int), (i : Int)) ∈ es
          · have hO := Lib.hid (show outs es p (i + 1) = outs es p i ++ [(i : Int)] by rw [outs_succ, if_pos hin])
            have hL := outs_len es p i
            rw [decide_eq_true hin] at hix
            clear hin
            go_wp2_with (first | (at_builtin; refine wpList_app _ rfl _ _ 28 rfl w.heap.size 3 (.int .i64 0) 1 8 Try.underlying28 Try.info3 rfl (by decide) _ _ _ 1 _ [_] rfl rfl (hown.alloc _) (rd_one _ _ _) (by simp [Value.oneCell']) (by omega) (by unfold maxLen; omega) (by simp; omega) ?_; intro v5 w5 ho5 hgr5))
            go_roundw
            case rel => exact ⟨i + 1, by omega, by go_num, by rw [hO.out, List.length_append, ints_append]; exact ho5, (hB.alloc hsz _).grown hgr5 (by simp; omega) (fun k hk => (hown.lt k hk).1)⟩
            case measure => simp [intOf]; omega
          · have hO := Lib.hid (show outs es p (i + 1) = outs es p i by rw [outs_succ, if_neg hin])
            rw [decide_eq_false hin] at hix
            clear hin
            go_wp2
            go_roundw
            case rel => exact ⟨i + 1, by omega, by go_num, by rw [hO.out]; exact hown, hB⟩
            case measure => simp [intOf]; omega
        · obtain rfl : i = 9 := by omega
          have Ho := Lib.hid hown
          clear hown
          go_wp2
          go_ret
          exact ⟨_, rfl, by rw [hN.out]; exact Ho.out, hB⟩
    · have h0 := Lib.hid (show outs es n 9 = [] by
        unfold outs
        rw [List.map_eq_nil_iff, List.filter_eq_nil_iff]
        intro k _ h
        have := hE.out.1 _ (of_decide_eq_true h)
        exact hb (by simp [btw, this.1, this.2.1]))
      simp at hb
      unfold topV
      go_enter Try.func17, Try.ntmps17
      go_wp2_with (first | (go_at_call 39; refine (draw_any S H ev es _ (hr.keep (hB.alloc (Nat.le_refl _) _))).mono ?_; rintro e w1 ⟨rfl, hb1⟩; rw [Hg.out, hok.out]; obtain ⟨hbx, hz1, hB⟩ := box_after hb1; obtain ⟨c0, c1, c2⟩ := cells3 hbx; clear hb1 hbx) | (with_reducible refine wpList_store_new (t := 79) g0 G ?_ ?_ Hn.out Hs.out Hm.out ?_; (simp [Act.eval, Act.put]); (simp [Act.eval, Act.put])) | (go_at_call 41; with_reducible refine (between_any _ _ _).mono ?_; rintro e w2 ⟨rfl, rfl⟩))
      go_ret
      exact ⟨_, rfl, by rw [hN.out, h0.out]; exact World.ownsRow_nil _ _ _ _, hB.alloc (by omega) _⟩
  · have hok := Lib.hid (decide_eq_false hT)
    have hN := Lib.hid (show nextL S es H n = [] by unfold nextL; rw [if_neg hT])
    clear hT
    unfold topV
    go_enter Try.func17, Try.ntmps17
    go_wp2_with (first | (go_at_call 39; refine (draw_any S H ev es _ (hr.keep (hB.alloc (Nat.le_refl _) _))).mono ?_; rintro e w1 ⟨rfl, hb1⟩; rw [Hg.out, hok.out]; obtain ⟨hbx, hz1, hB⟩ := box_after hb1; obtain ⟨c0, c1, c2⟩ := cells3 hbx; clear hb1 hbx) | (with_reducible refine wpList_store_new (t := 79) g0 G ?_ ?_ Hn.out Hs.out Hm.out ?_; (simp [Act.eval, Act.put]); (simp [Act.eval, Act.put])) | (go_at_call 41; with_reducible refine (between_any _ _ _).mono ?_; rintro e w2 ⟨rfl, rfl⟩))
    go_ret
    exact ⟨_, rfl, by rw [hN.out]; exact World.ownsRow_nil _ _ _ _, hB.alloc (by omega) _⟩
end Go.Proofs.Ytipdggjalhjpnab
