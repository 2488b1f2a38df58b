/-
  Topologies: the walk of TopoFlows.
-/
import Derived.Test.YtipdggjalhjpnabFPlain
import Derived.IntWalk
namespace Go.Proofs.Ytipdggjalhjpnab
open Go.RowKit
set_option linter.unusedSimpArgs false
set_option linter.unusedVariables false

/-- All blocks but two are as they were. -/
structure Keep2 (B x y : Nat) (w0 w : World) : Prop where
  size : w0.heap.size ≤ w.heap.size
  block : ∀ k, k < B → k ≠ x → k ≠ y → w.heap[k]? = w0.heap[k]?
theorem Keep2.refl (B x y : Nat) (w : World) : Keep2 B x y w w := ⟨Nat.le_refl _, fun _ _ _ _ => rfl⟩
theorem Keep2.alloc {B x y : Nat} {w0 w : World} (h : Keep2 B x y w0 w) (hB : B ≤ w.heap.size) (o : Obj) : Keep2 B x y w0 (w.alloc o) :=
  ⟨by have := h.size; simp; omega, fun k hk hf hg => (Below.heap_alloc _ _ _ (by omega)).trans (h.block k hk hf hg)⟩
theorem Keep2.setCell {B x y : Nat} {w0 w : World} (h : Keep2 B x y w0 w) {f : Nat} (hf : f = x ∨ f = y) (j : Nat) (v : Value) : Keep2 B x y w0 (w.setCell ⟨f, j, none⟩ v) :=
  ⟨by have := h.size; simp [World.setCell]; exact this, fun k hk h1 h2 => (Below.heap_setCell _ _ _ _ (by rcases hf with rfl | rfl <;> simpa)).trans (h.block k hk h1 h2)⟩
theorem Keep2.grown {B x y : Nat} {w0 w w' : World} {row : Option Nat} (h : Keep2 B x y w0 w) (hB : B ≤ w.heap.size) (hg : w.grownBy w' row) (hr : ∀ k, row = some k → B ≤ k) : Keep2 B x y w0 w' :=
  ⟨Nat.le_trans h.size hg.size, fun k hk hf h2 => (hg.block k (by omega) (fun e => by have := hr k e.symm; omega)).trans (h.block k hk hf h2)⟩
theorem Keep2.below {B x y : Nat} {w0 w w' : World} (h : Keep2 B x y w0 w) (hB : B ≤ w.heap.size) (hg : Below w.heap.size w w') : Keep2 B x y w0 w' :=
  ⟨Nat.le_trans h.size hg.size, fun k hk hf h2 => (hg.block k (by omega)).trans (h.block k hk hf h2)⟩
theorem zero36 : ∀ w : World, (zeroValue 36).run Try.prog w = .ok (.agg (gridU fun _ _ => false)) w := (zero_of_info (P := Try.prog) (t := 36) (v := .agg (gridU fun _ _ => false)) (n := 81) (by kernel_rfl)).1

theorem nodup_idx {l : List Nat} (h : l.Nodup) {i j x : Nat} (hi : l[i]? = some x) (hj : l[j]? = some x) : i = j := by
  have h1 := (List.getElem?_eq_some_iff.1 hi).1
  have h2 := (List.getElem?_eq_some_iff.1 hj).1
  exact (List.getElem?_inj h1 h).1 (hi.trans hj.symm)
theorem wpList_app_int {ops : Array Oper} {rest : List Oper} {o : Oper} {a : Act} {w : World} {Q : Exit → Act → World → Prop} (hgd : o.guard = none) (s x : Operand)
    (ho : o.op = .call { callee := .builtin .append, args := #[s, x], argTypes := #[28, 28] }) (base : Nat) (v : Value) (n : Nat) (xs : List Value) (hs : a.eval s = v) (hown : w.ownsRow base 3 1 v n xs)
    {k : Nat} {y : Int} (hx : a.eval x = .slice (some ⟨k, 0, none⟩) 1 1) (hk : w.heap[k]? = some (.cells #[.int .i64 y] 3 (0, 0))) (hn : n ≤ 1000) (hbase : base ≤ w.heap.size)
    (h : ∀ g cap w', w'.ownsRow base 3 1 (.slice (some ⟨g, 0, none⟩) (n + 1) cap) (n + 1) (xs ++ [.int .i64 y]) → w.grownBy w' v.ownBlock → (v.ownBlock = some g ∨ g = w.heap.size) → g < w'.heap.size → wpList Try.prog ops Q rest (a.put o.dst (.slice (some ⟨g, 0, none⟩) (n + 1) cap)) w') :
    wpList Try.prog ops Q (o :: rest) a w := by
  obtain ⟨i, hi, hz0, hz1, hz2⟩ := info_parts Try.info3
  exact wpList_append_lies w hgd s x 28 ho base 3 i (.int .i64 0) 1 8 Try.underlying28 hi hz0 hz1 hz2 rfl (by decide) v n xs hs hown ⟨k, 0, none⟩ 1 1 [.int .i64 y] hx rfl (World.news_of_block hk) (by simp [Value.oneCell']) (by decide) (by unfold maxLen; omega) (by omega) hbase w.heap.size rfl h
theorem own_set {w : World} {base : Nat} {e : TypeId} {size : Nat} {v : Value} {n : Nat} {xs : List Value} (h : w.ownsRow base e size v n xs) {f : Nat} (hf : f < base) (j : Nat) (x : Value) : (w.setCell ⟨f, j, none⟩ x).ownsRow base e size v n xs :=
  h.kept (w' := w.setCell ⟨f, j, none⟩ x) (row := some f) ⟨rfl, rfl, rfl, by simp [World.setCell], fun k _ hk => Below.heap_setCell _ _ _ _ (fun e => hk (by simpa using e))⟩ (.inr (fun e => by have := (h.lt f e).1; omega))
theorem useU {u : Nat → Nat → Bool} {P : Nat → Prop} {p q : Nat} {O : List Nat} {k : Nat} (hq : O[k]? = some q) (hu : ∀ x y, u x y = true → P x ∨ x = p ∧ y ∈ O.take k) : ∀ x y, setU u p q x y = true → P x ∨ x = p ∧ y ∈ O.take (k + 1) := by
  intro x y h
  rw [List.take_add_one, hq]
  unfold setU at h
  split at h
  · rename_i e
    exact .inr ⟨e.1, by simp [e.2]⟩
  · rcases hu x y h with h | h
    · exact .inl h
    · exact .inr ⟨h.1, by simp [h.2]⟩
/-- The list that is run over stays as it is. -/
def OKeep (U : Nat) (aO : Option Addr) (O : List Nat) (vx : Value) (wr : World) : Prop :=
  O ≠ [] → ∃ gO, aO = some ⟨gO, 0, none⟩ ∧ gO < wr.heap.size ∧ U < gO ∧ vx.ownBlock ≠ some gO ∧ ∀ (j q : Nat), O[j]? = some q → wr.cell? ⟨gO, j, none⟩ = some (.int .i64 (q : Int))
theorem OKeep.start {U base : Nat} {aO : Option Addr} {cO : Nat} {O : List Nat} {vx : Value} {wr : World} (h : wr.ownsRow base 3 1 (.slice aO O.length cO) O.length (ints (nats O))) (hU : U < base) (hv : ∀ g, vx.ownBlock = some g → g < base) : OKeep U aO O vx wr := by
  intro hO
  have hpos : 0 < O.length := by cases O with
    | nil => exact absurd rfl hO
    | cons _ _ => simp
  obtain ⟨g, cap, e, h1, h2, _⟩ := own_succ h hpos
  obtain ⟨rfl, rfl⟩ : aO = some ⟨g, 0, none⟩ ∧ cO = cap := by simpa using e
  refine ⟨g, rfl, h2, by omega, fun e => by have := hv g e; omega, fun j q hj => ?_⟩
  exact (Rd.of_own h).cellAt (by simp [ints, nats, hj])
theorem OKeep.set {U : Nat} {aO : Option Addr} {O : List Nat} {vx : Value} {wr : World} (h : OKeep U aO O vx wr) {f : Nat} (hf : f ≤ U) (j : Nat) (v : Value) : OKeep U aO O vx (wr.setCell ⟨f, j, none⟩ v) := by
  intro hO
  obtain ⟨g, h1, h2, h3, h4, h5⟩ := h hO
  refine ⟨g, h1, by simpa [World.setCell] using h2, h3, h4, fun k q hk => ?_⟩
  rw [World.cell?_setCell_far]
  · exact h5 k q hk
  · simp; omega
theorem OKeep.app {U : Nat} {aO : Option Addr} {O : List Nat} {vx v' : Value} {wr w' : World} (h : OKeep U aO O vx wr) (o : Obj) (hg : (wr.alloc o).grownBy w' vx.ownBlock) {g : Nat} (hv : v'.ownBlock = some g) (hl : vx.ownBlock = some g ∨ g = (wr.alloc o).heap.size) : OKeep U aO O v' w' := by
  intro hO
  obtain ⟨gO, h1, h2, h3, h4, h5⟩ := h hO
  have hs := hg.size
  simp at hs
  refine ⟨gO, h1, by omega, h3, ?_, fun k q hk => ?_⟩
  · rw [hv]
    rcases hl with hl | hl
    · rw [← hl]; exact h4
    · simp at hl
      simp
      omega
  · rw [hg.cell_far ⟨gO, k, none⟩ (by simp; omega) (by exact fun e => h4 e.symm), World.cell?_alloc_past _ _ _ h2]
    exact h5 k q hk

set_option maxRecDepth 4000 in
set_option maxHeartbeats 3200000 in
theorem flows_any (S H o : Int) (ev : Value) (es : List (Int × Int)) (w : World) (hr : Rd w 2 ev es.length (edgeCells es)) :
    Calls Try.prog 5 #[topV S ev H, .int .i64 o] w fun e w' => e = .returned (.bool true) ∧ Below w.heap.size w w' := by
  have hT0 := Lib.hid (TopIn.mk1 (S := S) (H := H) w hr)
  have hz := Lib.hid zero36
  obtain ⟨g0, hg0⟩ : ∃ g0, gridU (fun _ _ => false) = g0 := ⟨_, rfl⟩
  have Hg0 := Lib.hid hg0
  have hz2 := hz.out
  rw [hg0] at hz2
  have Hz2 := Lib.hid hz2
  clear hz2 hg0 hz
  unfold topV
  obtain ⟨ea, ek, rfl⟩ := rd_slice hr
  obtain ⟨ok, hok⟩ : ∃ ok, decide (okT S es H) = ok := ⟨_, rfl⟩
  have Hok := Lib.hid hok
  clear hok
  go_enter Try.func5, Try.ntmps5
  go_wp2_with fail
  refine (good_any S H _ es _ hT0.out.rd).mono ?_
  rintro e w1 ⟨rfl, hb⟩
  rw [Hok.out]
  have hT1 := Lib.hid (hT0.out.next hb)
  obtain ⟨c0, c1, c2⟩ := hT1.out.cells
  clear hb
  cases ok with
  | false =>
    go_wp2_with fail
    refine (lives_any _).mono ?_
    rintro e w2 ⟨rfl, hb⟩
    go_wp2
    go_ret
    exact ⟨rfl, (hT1.out.next hb).below⟩
  | true =>
    by_cases hbig : 200 < es.length
    · go_wp2_with fail
      refine (lives_any _).mono ?_
      rintro e w2 ⟨rfl, hb⟩
      go_wp2
      go_ret
      exact ⟨rfl, (hT1.out.next hb).below⟩
    · have hsm : es.length ≤ 200 := by omega
      have hd2 : decide (200 < (es.length : Int)) = false := by simp; omega
      clear hbig
      by_cases h1 : o < 1
      · go_wp2_with fail
        refine (lives_any _).mono ?_
        rintro e w2 ⟨rfl, hb⟩
        go_wp2
        go_ret
        exact ⟨rfl, (hT1.out.next hb).below⟩
      · have h1' : 1 ≤ o := by omega
        have hd3 : decide (o < 1) = false := by simp; omega
        clear h1
        by_cases h2 : S < o
        · go_wp2_with fail
          refine (lives_any _).mono ?_
          rintro e w2 ⟨rfl, hb⟩
          go_wp2
          go_ret
          exact ⟨rfl, (hT1.out.next hb).below⟩
        · have h2' : o ≤ S := by omega
          have hd4 : decide (S < o) = false := by simp; omega
          clear h2
          have hT := Lib.hid (of_decide_eq_true Hok.out)
          have hS8 := hT.out.2.1
          obtain ⟨a, rfl⟩ : ∃ a : Nat, o = (a : Int) := ⟨o.toNat, by omega⟩
          have ha9 : a < 9 := by omega
          have ha1 : 1 ≤ a := by omega
          have hz2 := Hz2.out
          go_wp2_with fail
          clear hz2
          have hAz := hT1.out.size
          have hBz := hT1.out.lt
          clear c0 c1 c2
          go_loopw [7, 8, 9, 11, 13] (fun vn dd _ _ _ wr => ∃ (d : Nat) (L : List Nat) (G : Nat → Int) (u : Nat → Nat → Bool), dd = .int .i64 ((d : Int) + 1) ∧ FlowHead S es H a d L G u ∧ wr.ownsRow (w1.heap.size + 1 + 1) 3 1 vn L.length (ints (nats L)) ∧ wr.heap[w1.heap.size]? = some (.cells (atA G) 34 (0, 0)) ∧ wr.heap[w1.heap.size + 1]? = some (.cells (gridU u) 36 (0, 0)) ∧ TopIn w.heap.size S H (.slice ea es.length ek) es w wr) (fun _ dd _ _ _ _ => 20 - (intOf dd).toNat)
          case atStart =>
            have e1 : ([Value.int .i64 0, .int .i64 0, .int .i64 0, .int .i64 0, .int .i64 0, .int .i64 0, .int .i64 0, .int .i64 0, .int .i64 0].set a (.int .i64 1)).toArray = atA (fst es a (0 + 1)) := by
              rw [← atA_start es ha9]
              simp [farA, List.range, List.range.loop]
            refine ⟨0, [a], fst es a (0 + 1), fun _ _ => false, rfl, flow_start hT.out ha9, ?_, ?_, ?_, ((hT1.out.alloc _).alloc _).alloc _⟩
            · refine ⟨rfl, .inr ⟨w1.heap.size + 1 + 1, 1, #[.int .i64 (a : Int)], by simp, Nat.le_refl _, ?_, Nat.le_refl _, by decide, rfl, rfl⟩⟩
              simpa using heap_alloc_new ((w1.alloc _).alloc (.cells g0 36)) (.cells #[.int .i64 (a : Int)] 3)
            · rw [← e1, Below.heap_alloc _ _ _ (by simp; omega), Below.heap_alloc _ _ _ (by simp)]
              exact heap_alloc_new _ _
            · rw [Hg0.out, Below.heap_alloc _ _ _ (by simp)]
              simpa using heap_alloc_new (w1.alloc _) (.cells g0 36)
          case round =>
            rename World => wq
            obtain ⟨d, L, G, u, rfl, hF, hown, q2, q3, hTq⟩ := hrel
            have hUz : w1.heap.size + 1 < wq.heap.size := lt_of_block q3
            rcases hF with hA | ⟨hL0, hG⟩
            · have HA := Lib.hid hA
              obtain ⟨hL0, hdH, hL, hnd, hL9, hcn, hG, hu⟩ := hA
              have hcS := cnt_le hT.out.2.2.2.2 ha1 h2' hS8 d
              obtain ⟨gn, cn, rfl, hg1, hg2, hg3, hg4⟩ := own_succ hown hL0
              have hRd := Rd.of_own hown
              have hd20 : (d : Int) + 1 < 20 := by omega
              have hL9' : L.length ≤ 9223372036854775807 := by omega
              subst hG
              have HL := Lib.hid hL
              have Hnd := Lib.hid hnd
              have Hu := Lib.hid hu
              have Q2 := Lib.hid q2
              have Q3 := Lib.hid q3
              have HTq := Lib.hid hTq
              clear hL hnd hu q2 q3 hTq hown
              go_wp2
              go_loopw [9, 11, 13, 53, 62] (fun vx _ _ ix _ wr => ∃ (i : Nat) (N : List Nat) (u : Nat → Nat → Bool), i ≤ L.length ∧ ix = .int .i64 (i : Int) ∧ Nset (fst es a (d + 1)) (hitH es H d L i) N ∧ (∀ p q, u p q = true → fst es a d p ≠ -1 ∨ p ∈ L.take i) ∧ wr.ownsRow wq.heap.size 3 1 vx N.length (ints (nats N)) ∧ wr.heap[w1.heap.size]? = some (.cells (atA (hitF (fst es a (d + 1)) ((d : Int) + 1) (hitH es H d L i))) 34 (0, 0)) ∧ wr.heap[w1.heap.size + 1]? = some (.cells (gridU u) 36 (0, 0)) ∧ Keep2 wq.heap.size w1.heap.size (w1.heap.size + 1) wq wr ∧ TopIn w.heap.size S H (.slice ea es.length ek) es w wr) (fun _ _ _ ix _ _ => L.length - (intOf ix).toNat)
              case atStart =>
                refine ⟨0, [], u, by omega, rfl, ⟨by simp, fun b => by simp [hitH_zero]⟩, fun p q h => .inl (Hu.out p q h), World.ownsRow_nil _ _ _ _, ?_, Q3.out, Keep2.refl _ _ _ _, HTq.out⟩
                rw [show hitF (fst es a (d + 1)) ((d : Int) + 1) (hitH es H d L 0) = fst es a (d + 1) from by funext b; unfold hitF; rw [hitH_zero, if_neg (fun h => by have := h.2; simp at this)]]
                exact Q2.out
              case round =>
                rename World => wa
                obtain ⟨i, N, u2, hi, rfl, hN, hu2, hown, p2, p3, hK, hTa⟩ := hrel
                have hkz := hK.size
                by_cases hil : i < L.length
                · obtain ⟨p, hp⟩ : ∃ p, L[i]? = some p := ⟨_, List.getElem?_eq_getElem hil⟩
                  have hpm := List.mem_of_getElem? hp
                  have hpS := rch_in hT.out.2.2.2.2 ha1 h2' ((HL.out p).1 hpm).1
                  have hp9 : p < 9 := by omega
                  have hcell := (World.cell?_of_block (a := ⟨gn, i, none⟩) (hK.block gn hg2 (by omega) (by omega))).trans (hRd.cellAt (j := i) (u := .int .i64 (p : Int)) (by simp [ints, nats, hp]))
                  have hON := Lib.hid (onward_H hT.out ha1 h2' HL.out hpm hdH)
                  have hO9 := onH_len es H d a p
                  obtain ⟨c0, c1, c2⟩ := hTa.cells
                  have Hp := Lib.hid hp
                  have Hpm := Lib.hid hpm
                  have HN := Lib.hid hN
                  have Hu2 := Lib.hid hu2
                  have P2 := Lib.hid p2
                  have P3 := Lib.hid p3
                  have Own := Lib.hid hown
                  have HTa := Lib.hid hTa
                  have HK := Lib.hid hK
                  clear hp hpm hN hu2 p2 p3 hown hTa hpS hK
                  go_wp2_with fail
                  refine (onward_any S H (a : Int) (p : Int) _ es _ HTa.out.rd).mono ?_
                  rintro e wo ⟨vo, rfl, hoo, hbo⟩
                  rw [hON.out] at hoo
                  obtain ⟨aO, cO, rfl⟩ := rd_slice (Rd.of_own hoo)
                  have hnl : (nats (onH es H d a p)).length = (onH es H d a p).length := by simp [nats]
                  rw [hnl] at hoo ⊢
                  clear c0 c1 c2 hcell
                  have hwa := hbo.size
                  have P2b := Lib.hid ((hbo.block _ (by omega)).trans P2.out)
                  have P3b := Lib.hid ((hbo.block _ (by omega)).trans P3.out)
                  have HTb := Lib.hid (HTa.out.next hbo)
                  have HKb := Lib.hid (HK.out.below hkz hbo)
                  have Ownb := Lib.hid (below_own Own.out hbo (Nat.le_refl _))
                  have HOk := Lib.hid (OKeep.start (U := w1.heap.size + 1) hoo (by omega) (fun g hg => (Own.out.lt g hg).2))
                  have hNl := HN.out.len
                  obtain ⟨O, hO⟩ : ∃ O, onH es H d a p = O := ⟨_, rfl⟩
                  have hOm : ∀ b, b ∈ O → b < 9 ∧ hasE es p b = true ∧ b ≠ a := fun b hb => onH_mem (H := H) (d := d) (hO ▸ hb)
                  have hOn : O.Nodup := hO ▸ onH_nodup es H d a p
                  have HHa := Lib.hid (fun b (hb : fst es a (d + 1) b = -1) => hitH_all (H := H) hT.out.2.2.2.2 hS8 Hp.out b hb)
                  rw [hO] at HOk hO9 HHa ⊢
                  have HOm := Lib.hid hOm
                  have HOn := Lib.hid hOn
                  have hO9' : O.length ≤ 9223372036854775807 := by omega
                  clear hON hoo hnl hOm hOn hO P2 P3 HTa HK Own hkz hbo
                  go_wp2
                  go_loopw [9, 13, 62] (fun vx _ ix wr => ∃ (k : Nat) (N : List Nat) (u : Nat → Nat → Bool), k ≤ O.length ∧ ix = .int .i64 (k : Int) ∧ Nset (fst es a (d + 1)) (hitP (hitH es H d L i) O k) N ∧ (∀ x y, u x y = true → fst es a d x ≠ -1 ∨ x ∈ L.take i ∨ x = p ∧ y ∈ O.take k) ∧ wr.ownsRow wq.heap.size 3 1 vx N.length (ints (nats N)) ∧ wr.heap[w1.heap.size]? = some (.cells (atA (hitF (fst es a (d + 1)) ((d : Int) + 1) (hitP (hitH es H d L i) O k))) 34 (0, 0)) ∧ wr.heap[w1.heap.size + 1]? = some (.cells (gridU u) 36 (0, 0)) ∧ Keep2 wq.heap.size w1.heap.size (w1.heap.size + 1) wq wr ∧ OKeep (w1.heap.size + 1) aO O vx wr ∧ TopIn w.heap.size S H (.slice ea es.length ek) es w wr) (fun _ _ ix _ => O.length - (intOf ix).toNat)
                  case atStart => exact ⟨0, N, u2, by omega, rfl, by rw [hitP_zero]; exact HN.out, fun x y h => (Hu2.out x y h).elim .inl (fun h => .inr (.inl h)), Ownb.out, by rw [hitP_zero]; exact P2b.out, P3b.out, HKb.out, HOk.out, HTb.out⟩
                  case round =>
                    clear HN P2b P3b HTb HKb Ownb HOk hNl Hu2
                    rename World => wb
                    obtain ⟨k, M, u3, hk, rfl, hM, hu3, hown, p2, p3, hK, hOk, hTb⟩ := hrel
                    have hkz := hK.size
                    have hMl := hM.len
                    by_cases hkl : k < O.length
                    · obtain ⟨q, hq⟩ : ∃ q, O[k]? = some q := ⟨_, List.getElem?_eq_getElem hkl⟩
                      have hqm := List.mem_of_getElem? hq
                      obtain ⟨hq9, hqe, hqa⟩ := HOm.out q hqm
                      have hq1 : 1 ≤ q := by
                        have := (hT.out.2.2.2.2.1 _ (of_decide_eq_true hqe)).2.2.1
                        simp only at this
                        omega
                      obtain ⟨gO, rfl, hgO1, hgO2, hgO3, hgO4⟩ := hOk (by intro e; subst e; simp at hkl)
                      have hcq := hgO4 k q hq
                      have hfresh : u3 p q = false := by
                        cases hh : u3 p q with
                        | false => rfl
                        | true =>
                          exfalso
                          rcases hu3 p q hh with h | h | h
                          · exact h ((HL.out p).1 Hpm.out).2
                          · have := Hnd.out
                            rw [List.mem_iff_getElem?] at h
                            obtain ⟨j, hj⟩ := h
                            have hji : j < i := by have := (List.getElem?_eq_some_iff.1 hj).1; simp at this; omega
                            rw [List.getElem?_take_of_lt hji] at hj
                            exact absurd (nodup_idx this hj Hp.out) (by omega)
                          · have := HOn.out
                            obtain ⟨_, h⟩ := h
                            rw [List.mem_iff_getElem?] at h
                            obtain ⟨j, hj⟩ := h
                            have hjk : j < k := by have := (List.getElem?_eq_some_iff.1 hj).1; simp at this; omega
                            rw [List.getElem?_take_of_lt hjk] at hj
                            exact absurd (nodup_idx this hj hq) (by omega)
                      have hcu := (cell_of_row _ _ (p * 9 + q) _ _ _ p3).trans (gridU_get u3 hp9 hq9)
                      rw [hfresh] at hcu
                      have hfu : wb.frozen? ⟨w1.heap.size + 1, p * 9 + q, none⟩ = false := by simp [World.frozen?, p3]
                      have hca := (cell_of_row _ _ q _ _ _ p2).trans (atA_get _ hq9)
                      have hfa : wb.frozen? ⟨w1.heap.size, q, none⟩ = false := by simp [World.frozen?, p2]
                      have hu4 := Lib.hid (useU (P := fun x => fst es a d x ≠ -1 ∨ x ∈ L.take i) (p := p) hq (fun x y h => (hu3 x y h).elim (fun h => .inl (.inl h)) (fun h => h.elim (fun h => .inl (.inr h)) .inr)))
                      have hd1 : decide ((q : Int) < 1) = false := by simp; omega
                      have hd8 : decide (8 < (q : Int)) = false := by simp; omega
                      have p3b := heap_setCell_same wb _ (p * 9 + q) _ _ (.bool true) p3
                      rw [gridU_set u3 hp9 hq9] at p3b
                      have p2b : (wb.setCell ⟨w1.heap.size + 1, p * 9 + q, none⟩ (.bool true)).heap[w1.heap.size]? = _ := (Below.heap_setCell wb ⟨w1.heap.size + 1, p * 9 + q, none⟩ (.bool true) w1.heap.size (by simp)).trans p2
                      have Own2 := Lib.hid (own_set hown (f := w1.heap.size + 1) (by omega) (p * 9 + q) (.bool true))
                      have HK2 := Lib.hid (hK.setCell (f := w1.heap.size + 1) (.inr rfl) (p * 9 + q) (.bool true))
                      have HOk2 := Lib.hid (hOk.set (f := w1.heap.size + 1) (Nat.le_refl _) (p * 9 + q) (.bool true))
                      have HTb2 := Lib.hid (hTb.setCell hr (C := w1.heap.size + 1) (k := p * 9 + q) (by omega) (by omega) (.bool true))
                      have Hq := Lib.hid hq
                      by_cases hz1 : hitF (fst es a (d + 1)) ((d : Int) + 1) (hitP (hitH es H d L i) O k) q = -1
                      · rw [hz1] at hca
                        replace hca : wb.cell? ⟨w1.heap.size, q, none⟩ = some (.int .i64 0) := hca
                        obtain ⟨hF0, hh0⟩ := (far_new (by omega)).1 hz1
                        have hM2 := Lib.hid ((hit_new (F := fst es a (d + 1)) (d := (d : Int) + 1) (h := hitP (hitH es H d L i) O k) (h' := hitP (hitH es H d L i) O (k + 1)) hq9 hF0 hh0 (hitP_self _ hq) (fun b hb => hitP_ne _ hq b hb)).2 M hM)
                        have p2c := heap_setCell_same _ _ q _ _ (.int .i64 ((d : Int) + 1 + 1)) p2b
                        rw [atA_new hq9 hF0 (hitP_self _ hq) (fun b hb => hitP_ne _ hq b hb)] at p2c
                        have p3c : ((wb.setCell ⟨w1.heap.size + 1, p * 9 + q, none⟩ (.bool true)).setCell ⟨w1.heap.size, q, none⟩ (.int .i64 ((d : Int) + 1 + 1))).heap[w1.heap.size + 1]? = _ := (Below.heap_setCell _ ⟨w1.heap.size, q, none⟩ (.int .i64 ((d : Int) + 1 + 1)) (w1.heap.size + 1) (by simp)).trans p3b
                        have Own3 := Lib.hid (own_set Own2.out (f := w1.heap.size) (by omega) q (.int .i64 ((d : Int) + 1 + 1)))
                        have HK3 := Lib.hid (HK2.out.setCell (f := w1.heap.size) (.inl rfl) q (.int .i64 ((d : Int) + 1 + 1)))
                        have HOk3 := Lib.hid (HOk2.out.set (f := w1.heap.size) (by omega) q (.int .i64 ((d : Int) + 1 + 1)))
                        have HTb3 := Lib.hid (HTb2.out.setCell hr (C := w1.heap.size) (k := q) (by omega) (by omega) (.int .i64 ((d : Int) + 1 + 1)))
                        have P2c := Lib.hid p2c
                        have P3c := Lib.hid p3c
                        have hd9 : (d : Int) + 1 ≤ 19 := by omega
                        have hnew := heap_alloc_new ((wb.setCell ⟨w1.heap.size + 1, p * 9 + q, none⟩ (.bool true)).setCell ⟨w1.heap.size, q, none⟩ (.int .i64 ((d : Int) + 1 + 1))) (.cells #[.int .i64 (q : Int)] 3)
                        have hsz3 : ((wb.setCell ⟨w1.heap.size + 1, p * 9 + q, none⟩ (.bool true)).setCell ⟨w1.heap.size, q, none⟩ (.int .i64 ((d : Int) + 1 + 1))).heap.size = wb.heap.size := by simp [World.setCell]
                        rw [hsz3] at hnew
                        have Hnew := Lib.hid hnew
                        have Hsz3 := Lib.hid hsz3
                        clear hnew hsz3
                        clear hq hM p2 p3 p2b p3b p2c p3c hown hK hOk hTb hu3 hz1 hF0 hh0 hgO4 hfresh
                        go_wp2_with (at_builtin; refine wpList_app_int rfl _ _ rfl wq.heap.size _ M.length (ints (nats M)) rfl (Own3.out.alloc _) rfl Hnew.out (by omega) (by simp [World.setCell]; omega) ?_; intro g5 k5 w5 ho5 hgr5 hl5 hlt5)
                        have hs5 := hgr5.size
                        rw [show (((wb.setCell ⟨w1.heap.size + 1, p * 9 + q, none⟩ (.bool true)).setCell ⟨w1.heap.size, q, none⟩ (.int .i64 ((d : Int) + 1 + 1))).alloc (.cells #[.int .i64 (q : Int)] 3)).heap.size = wb.heap.size + 1 by simp [World.setCell]] at hs5
                        have hrow : ∀ j, Value.ownBlock _ = some j → wq.heap.size ≤ j := fun j hj => (Own3.out.lt j hj).1
                        refine ⟨⟨k + 1, M ++ [q], setU u3 p q, by omega, by go_num, hM2.out, fun x y h => (hu4.out x y h).elim (fun h => h.elim .inl (fun h => .inr (.inl h))) (fun h => .inr (.inr h)), ?_, ?_, ?_, ?_, ?_, ?_⟩, by simp [intOf]; omega⟩
                        · rw [List.length_append, show ints (nats (M ++ [q])) = ints (nats M) ++ [.int .i64 (q : Int)] by simp [ints, nats]]
                          exact ho5
                        · exact (hgr5.block _ (by simp [World.setCell]; omega) (fun e => by have := hrow _ e.symm; omega)).trans ((Below.heap_alloc _ _ _ (by rw [Hsz3.out]; omega)).trans P2c.out)
                        · exact (hgr5.block _ (by simp [World.setCell]; omega) (fun e => by have := hrow _ e.symm; omega)).trans ((Below.heap_alloc _ _ _ (by rw [Hsz3.out]; omega)).trans P3c.out)
                        · exact (HK3.out.alloc (by rw [Hsz3.out]; omega) _).grown (by simp [World.setCell]; omega) hgr5 hrow
                        · exact HOk3.out.app _ hgr5 rfl hl5
                        · exact TopIn.grown hr (Nat.le_refl _) (HTb3.out.alloc _) hgr5 (fun j hj => by have := hrow j hj; omega)
                      · have hs := hit_same (F := fst es a (d + 1)) (d := (d : Int) + 1) (h := hitP (hitH es H d L i) O k) (h' := hitP (hitH es H d L i) O (k + 1)) (k := q) (fun b hb => hitP_ne _ hq b hb) (by
                          cases hh : hitP (hitH es H d L i) O k q with
                          | true => left; rw [hitP_self _ hq]
                          | false => right; exact fun e => hz1 ((far_new (by omega)).2 ⟨e, hh⟩))
                        have hM2 := Lib.hid (hs.2 M hM)
                        rw [← hs.1] at p2b
                        have P2b := Lib.hid p2b
                        have P3b := Lib.hid p3b
                        generalize hitF (fst es a (d + 1)) ((d : Int) + 1) (hitP (hitH es H d L i) O k) q = z at hz1 hca
                        have hz2 : (z + 1 == 0) = false := by simp; omega
                        obtain ⟨z1, hz3⟩ : ∃ z1, z + 1 = z1 := ⟨_, rfl⟩
                        rw [hz3] at hca hz2
                        clear hq hM p2 p3 p2b p3b hown hK hOk hTb hu3 hgO4 hfresh hs hz1 hz3
                        go_wp2
                        go_roundw
                        case rel => exact ⟨k + 1, M, setU u3 p q, by omega, by go_num, hM2.out, fun x y h => (hu4.out x y h).elim (fun h => h.elim .inl (fun h => .inr (.inl h))) (fun h => .inr (.inr h)), Own2.out, P2b.out, P3b.out, HK2.out, HOk2.out, HTb2.out⟩
                        case measure => simp [intOf]; omega
                    · obtain rfl : k = O.length := by omega
                      have hcg := hit_congr (F := fst es a (d + 1)) (d := (d : Int) + 1) (h := hitP (hitH es H d L i) O O.length) (h' := hitH es H d L (i + 1)) (fun b hb => HHa.out b hb)
                      rw [← hcg.1] at p2
                      have hM2 := Lib.hid (hcg.2 M hM)
                      have P2 := Lib.hid p2
                      have P3 := Lib.hid p3
                      have Own := Lib.hid hown
                      have HK := Lib.hid hK
                      have HTb := Lib.hid hTb
                      have Hu3 := Lib.hid hu3
                      clear hcg hM p2 p3 hown hK hTb hu3
                      go_wp2
                      go_roundw
                      case rel => exact ⟨i + 1, M, u3, by omega, by go_num, hM2.out, fun x y h => (Hu3.out x y h).elim .inl (fun h => .inr (by rw [List.take_add_one, Hp.out]; exact h.elim (fun h => by simp [h]) (fun h => by simp [h.1]))), Own.out, P2.out, P3.out, HK.out, HTb.out⟩
                      case measure => simp [intOf]; omega
                · obtain rfl : i = L.length := by omega
                  have hFn := Lib.hid (flow_go hT.out ha1 h2' HA.out hN hu2)
                  have Own := Lib.hid (own_base hown (show w1.heap.size + 1 + 1 ≤ wq.heap.size by omega))
                  have P2 := Lib.hid p2
                  have P3 := Lib.hid p3
                  have HTa := Lib.hid hTa
                  clear hN hu2 hown p2 p3 hTa hK
                  go_wp2
                  go_roundw
                  case rel => exact ⟨d + 1, N, _, u2, by go_num, hFn.out, Own.out, P2.out, P3.out, HTa.out⟩
                  case measure => simp [intOf]; omega
            · subst hL0
              subst hG
              rw [List.length_nil] at hown
              obtain ⟨na, nc, rfl⟩ := rd_slice (Rd.of_own hown)
              obtain ⟨c0, c1, c2⟩ := hTq.cells
              have Q2 := Lib.hid q2
              have HTq := Lib.hid hTq
              clear q2 q3 hTq hown
              go_wp2
              go_loopw [14, 15, 17] (fun nv _ _ wr => ∃ n : Nat, 1 ≤ n ∧ (n : Int) ≤ S + 1 ∧ nv = .int .i64 (n : Int) ∧ wr.heap[w1.heap.size]? = some (.cells (atA (gH S es H a)) 34 (0, 0)) ∧ TopIn w.heap.size S H (.slice ea es.length ek) es w wr) (fun nv _ _ _ => 10 - (intOf nv).toNat)
              case atStart => exact ⟨1, by omega, by omega, rfl, Q2.out, HTq.out⟩
              case round =>
                clear c0 c1 c2
                rename World => wn
                obtain ⟨n, hn1, hnS, rfl, p2, hTn⟩ := hrel
                obtain ⟨c0, c1, c2⟩ := hTn.cells
                by_cases hns : (n : Int) ≤ S
                · have hn9 : n < 9 := by omega
                  have P2 := Lib.hid p2
                  have HTn := Lib.hid hTn
                  have hAz : w1.heap.size < wn.heap.size := lt_of_block p2
                  clear p2 hTn
                  go_wp2_with fail
                  refine (within_any S H (a : Int) _ es _ HTn.out.rd).mono ?_
                  rintro e w2 ⟨v, rfl, hown, hb⟩
                  obtain ⟨va, vc, rfl⟩ := rd_slice (Rd.of_own hown)
                  have hL9 := within_len S es H (a : Int) 9
                  have hR := Rd.of_own hown
                  have hg := gH_in hT.out ha1 h2' hn1 hns
                  have P2b := Lib.hid ((hb.block _ hAz).trans P2.out)
                  have HTb := Lib.hid (HTn.out.next hb)
                  obtain ⟨W, hW⟩ : ∃ W, within S es H (a : Int) 9 = W := ⟨_, rfl⟩
                  rw [hW] at hL9 hR hg ⊢
                  have Hg := Lib.hid hg
                  clear hown hb c0 c1 c2 hW hg P2 HTn
                  go_wp2
                  go_loopw [15, 17, 108] (fun iv _ ix wr => ∃ i : Nat, i ≤ W.length ∧ ix = .int .i64 (i : Int) ∧ iv = .bool (decide ((n : Int) ∈ W.take i)) ∧ wr = w2) (fun _ _ ix _ => W.length - (intOf ix).toNat)
                  case atStart => exact ⟨0, by omega, rfl, by simp, rfl⟩
                  case round =>
                    obtain ⟨i, hi, rfl, rfl, rfl⟩ := hrel
                    by_cases hil : i < W.length
                    · obtain ⟨x, hxi⟩ : ∃ x, W[i]? = some x := ⟨_, List.getElem?_eq_getElem hil⟩
                      obtain ⟨_, a', cap', ee, _, _, _, h4⟩ := hR
                      obtain ⟨rfl, rfl⟩ : va = a' ∧ vc = cap' := by simpa using ee
                      obtain ⟨b, off, rfl, hbb, hcell⟩ := h4 (by omega)
                      have hd := hcell i (.int .i64 x) (by simp [ints, hxi])
                      have hms := Lib.hid (show decide ((n : Int) ∈ W.take (i + 1)) = (decide ((n : Int) ∈ W.take i) || x == (n : Int)) by
                        rw [List.take_add_one, hxi]
                        simp only [List.mem_append, Option.toList, List.mem_singleton]
                        rw [Bool.eq_iff_iff]
                        simp
                        constructor
                        · rintro (h | h)
                          · exact .inl h
                          · exact .inr h.symm
                        · rintro (h | h)
                          · exact .inl h
                          · exact .inr h.symm)
                      obtain ⟨z, hz⟩ : ∃ z, decide ((n : Int) ∈ W.take i) = z := ⟨_, rfl⟩
                      rw [hz] at hms ⊢
                      clear hcell h4 ee hxi hz
                      have hW9 : W.length ≤ 9223372036854775807 := by omega
                      cases z with
                      | true =>
                        go_wp2
                        go_roundw
                        case rel => exact ⟨i + 1, by omega, by go_num, by rw [hms.out]; rfl, trivial⟩
                        case measure => simp [intOf]; omega
                      | false =>
                        obtain ⟨t, ht⟩ : ∃ t, (x == (n : Int)) = t := ⟨_, rfl⟩
                        have Ht := Lib.hid ht
                        rw [ht] at hms
                        go_wp2
                        go_roundw
                        case rel => exact ⟨i + 1, by omega, by go_num, by rw [hms.out]; rfl, trivial⟩
                        case measure => simp [intOf]; omega
                    · obtain rfl : i = W.length := by omega
                      rw [List.take_length]
                      obtain ⟨hg1, hg2, hg3⟩ := Hg.out
                      obtain ⟨z, hz⟩ : ∃ z, gH S es H a n = z := ⟨_, rfl⟩
                      have hca := Lib.hid ((cell_of_row _ _ n _ _ _ P2b.out).trans (atA_get _ hn9))
                      rw [hz] at hg1 hg2 hg3 hca
                      obtain ⟨f, hf⟩ : ∃ f, farI S es H (a : Int) (n : Int) = f := ⟨_, rfl⟩
                      have Hf := Lib.hid hf
                      rw [hf] at hg2
                      have hb := farI_lt S es H (a : Int) (n : Int)
                      rw [hf] at hb
                      obtain ⟨hb1, hb2⟩ := hb
                      clear hz hf hR
                      have hTq := HTb.out
                      have hn0 : (0 : Int) ≤ (n : Int) := by omega
                      have hn9' : (n : Int) < 9 := by omega
                      by_cases hin : (n : Int) ∈ W
                      · obtain ⟨hfz, hzH⟩ := hg2 (hg1.1 hin)
                        have hz0 := hg1.1 hin
                        obtain ⟨y, hy⟩ : ∃ y, z + 1 = y := ⟨_, rfl⟩
                        have hcn := hca.out
                        rw [hy] at hcn
                        have hy0 : decide (0 < y) = true := by simp; omega
                        have hyw : IntKind.i64.wrap (y - 1) = f := by
                          rw [IntWalk.i64_in _ (by omega)]
                          omega
                        have hfH : decide (H < f) = false := by simp; omega
                        rw [decide_eq_true hin]
                        clear hg1 hg2 hg3 hfz hzH hz0 hy hca hin
                        go_wp2_with fail
                        obtain ⟨c0, c1, c2⟩ := hTq.cells
                        go_region_held3 (fun w' => TopIn w.heap.size S H (.slice ea es.length ek) es w w' ∧ w'.heap[w1.heap.size]? = some (.cells (atA (gH S es H a)) 34 (0, 0)) ∧ w'.cell? ⟨w.heap.size, 0, none⟩ = some (.int .i64 S) ∧ w'.cell? ⟨w.heap.size, 1, none⟩ = some (.slice ea es.length ek) ∧ w'.cell? ⟨w.heap.size, 2, none⟩ = some (.int .i64 H) ∧ w'.cell? ⟨w1.heap.size, n, none⟩ = some (.int .i64 y))
                          (first | exact ⟨hTq.drew, P2b.out, hTq.drew.cells.1, hTq.drew.cells.2.1, hTq.drew.cells.2.2, hcn⟩ | (go_split_ands; have hTz := TopIn.next (by assumption) hb; exact ⟨hTz, P2n.out, hTz.cells.1, hTz.cells.2.1, hTz.cells.2.2, hcn2⟩))
                          (first
                            | (go_at_call 19; refine (far_any S H (a : Int) (n : Int) _ es _ ?_).mono ?_; (go_split_ands; exact TopIn.rd (by assumption)); rintro e wf ⟨rfl, hb⟩; rw [Hf.out]; have P2n := Lib.hid ((hb.block _ (by exact lt_of_block P2b.out)).trans P2b.out); have hcn2 := (World.cell?_of_block (a := ⟨w1.heap.size, n, none⟩) (hb.block _ (by exact lt_of_block P2b.out))).trans hcn))
                        have hTf := Lib.hid (show TopIn w.heap.size S H (.slice ea es.length ek) es w wf from by go_split_ands; assumption)
                        clear hTq
                        go_wp2
                        refine ⟨⟨n + 1, by omega, by omega, by go_num, P2n.out, hTf.out⟩, by simp [intOf]; omega⟩
                      · have hz1 := hg3 (Int.not_lt.1 (fun h => hin (hg1.2 h)))
                        subst hz1
                        have hcn := hca.out
                        rw [show ((-1 : Int) + 1) = 0 from rfl] at hcn
                        rw [decide_eq_false hin]
                        clear hg1 hg2 hg3 hca hin
                        go_wp2_with fail
                        obtain ⟨c0, c1, c2⟩ := hTq.cells
                        go_quiet (fail)
                        have hTf := Lib.hid (hTq.next (below_drewN (Below.refl _ _) nq))
                        clear hTq
                        go_wp2
                        refine ⟨⟨n + 1, by omega, by omega, by go_num, P2b.out, hTf.out⟩, by simp [intOf]; omega⟩
                · obtain hnS1 : (n : Int) = S + 1 := by omega
                  have hself := Lib.hid (far_self hT.out ha1 h2')
                  have HTn := Lib.hid hTn
                  clear p2 hTn
                  go_wp2_with fail
                  refine (far_any S H (a : Int) (a : Int) _ es _ HTn.out.rd).mono ?_
                  rintro e w2 ⟨rfl, hb⟩
                  rw [hself.out]
                  have hT2 := Lib.hid (HTn.out.next hb)
                  clear hb
                  go_wp2_with fail
                  refine (lives_any _).mono ?_
                  rintro e w3 ⟨rfl, hb⟩
                  go_wp2
                  go_ret
                  exact ⟨rfl, (hT2.out.next hb).below⟩
end Go.Proofs.Ytipdggjalhjpnab
