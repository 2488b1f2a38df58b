/-
  Topologies: the program's levels.
-/
import Derived.Test.YtipdggjalhjpnabReach
namespace Go.Proofs.Ytipdggjalhjpnab
open Go.RowKit
set_option linter.unusedSimpArgs false
set_option linter.unusedVariables false

def nats (L : List Nat) : List Int := L.map fun n => ((n : Nat) : Int)
structure Keep (B fb : Nat) (w0 w : World) : Prop where
  size : w0.heap.size ≤ w.heap.size
  block : ∀ k, k < B → k ≠ fb → w.heap[k]? = w0.heap[k]?
theorem Keep.refl (B fb : Nat) (w : World) : Keep B fb w w := ⟨Nat.le_refl _, fun _ _ _ => rfl⟩
theorem Keep.alloc {B fb : Nat} {w0 w : World} (h : Keep B fb w0 w) (hB : B ≤ w.heap.size) (o : Obj) : Keep B fb w0 (w.alloc o) :=
  ⟨by have := h.size; simp; omega, fun k hk hf => (Below.heap_alloc _ _ _ (by omega)).trans (h.block k hk hf)⟩
theorem Keep.setCell {B fb : Nat} {w0 w : World} (h : Keep B fb w0 w) (j : Nat) (v : Value) : Keep B fb w0 (w.setCell ⟨fb, j, none⟩ v) :=
  ⟨by have := h.size; simp [World.setCell]; exact this, fun k hk hf => (Below.heap_setCell _ _ _ _ (by simpa using hf)).trans (h.block k hk hf)⟩
theorem Keep.grown {B fb : Nat} {w0 w w' : World} {row : Option Nat} (h : Keep B fb w0 w) (hB : B ≤ w.heap.size) (hg : w.grownBy w' row) (hr : ∀ k, row = some k → B ≤ k) : Keep B fb w0 w' :=
  ⟨Nat.le_trans h.size hg.size, fun k hk hf => (hg.block k (by omega) (fun e => by have := hr k e.symm; omega)).trans (h.block k hk hf)⟩
theorem size34 (F : Nat → Int) : (Try.prog.info? 34).map (·.size) = some (farA F).size := by
  rw [show (farA F).size = 9 by simp [farA]]; kernel_rfl
theorem farA_one (F : Nat → Int) : (farA F).all (·.oneCell') = true := by simp [farA, Value.oneCell']
theorem farA_init {i : Nat} (hi : i < 9) : (farA fun b => if b < i then -1 else 0).setIfInBounds i (.int .i64 (-1)) = farA fun b => if b < i + 1 then -1 else 0 := by
  refine farA_set _ _ hi (-1) ?_ ?_
  · show (if i < i + 1 then (-1 : Int) else 0) = -1
    rw [if_pos (by omega)]
  · intro b hb
    show (if b < i + 1 then (-1 : Int) else 0) = if b < i then -1 else 0
    by_cases h : b < i
    · rw [if_pos h, if_pos (by omega)]
    · rw [if_neg h, if_neg (by omega)]
def levF (S : Int) (es : List (Int × Int)) (H a : Int) (b : Nat) : Int := if okT S es H ∧ btw a S = true then levI S es a.toNat b else -1

theorem Rd.cellAt {w : World} {g n cap : Nat} {cs : List Value} (h : Rd w 1 (.slice (some ⟨g, 0, none⟩) n cap) n cs) {j : Nat} {u : Value} (hj : cs[j]? = some u) : w.cell? ⟨g, j, none⟩ = some u := by
  obtain ⟨hl, a, cap', e, _, _, _, h4⟩ := h
  have := (List.getElem?_eq_some_iff.1 hj).1
  obtain ⟨b, off, rfl, _, hc⟩ := h4 (by omega)
  obtain ⟨⟨rfl, rfl⟩, rfl⟩ : (g = b ∧ 0 = off) ∧ cap = cap' := by simpa using e
  have h5 := hc j u hj
  rwa [Nat.zero_add] at h5
theorem hit_same {F : Nat → Int} {d : Int} {h h' : Nat → Bool} {k : Nat} (h1 : ∀ b, b ≠ k → h' b = h b) (h2 : h' k = h k ∨ F k ≠ -1) : hitF F d h' = hitF F d h ∧ ∀ N, Nset F h N → Nset F h' N := by
  have key : ∀ b, (F b = -1 ∧ h' b = true) ↔ (F b = -1 ∧ h b = true) := fun b => by
    by_cases hb : b = k
    · subst hb
      rcases h2 with h2 | h2
      · rw [h2]
      · exact ⟨fun h => absurd h.1 h2, fun h => absurd h.1 h2⟩
    · rw [h1 b hb]
  refine ⟨funext fun b => ?_, fun N hN => ⟨hN.1, fun b => ?_⟩⟩
  · unfold hitF
    by_cases hb : F b = -1 ∧ h b = true
    · rw [if_pos hb, if_pos ((key b).2 hb)]
    · rw [if_neg hb, if_neg (fun h => hb ((key b).1 h))]
  · rw [hN.2 b, key b]
theorem hit_new {F : Nat → Int} {d : Int} {h h' : Nat → Bool} {k : Nat} (hk : k < 9) (hF : F k = -1) (h0 : h k = false) (h1 : h' k = true) (h2 : ∀ b, b ≠ k → h' b = h b) :
    (farA (hitF F d h)).setIfInBounds k (.int .i64 d) = farA (hitF F d h') ∧ ∀ N, Nset F h N → Nset F h' (N ++ [k]) := by
  refine ⟨farA_set _ _ hk d ?_ ?_, fun N hN => ⟨?_, fun b => ?_⟩⟩
  · unfold hitF; rw [if_pos ⟨hF, h1⟩]
  · intro b hb; unfold hitF; rw [h2 b hb]
  · rw [List.nodup_append]
    refine ⟨hN.1, by simp, fun x hx y hy => ?_⟩
    rw [List.mem_singleton.1 hy]
    intro e
    subst e
    have := ((hN.2 x).1 hx).2.2
    rw [h0] at this
    cases this
  · rw [List.mem_append, List.mem_singleton, hN.2 b]
    by_cases hb : b = k
    · subst hb; simp [hk, hF, h1]
    · rw [h2 b hb]; simp [hb]
theorem far_new {F : Nat → Int} {d : Int} {h : Nat → Bool} {k : Nat} (hd : 0 ≤ d) : hitF F d h k = -1 ↔ F k = -1 ∧ h k = false := by
  unfold hitF
  split
  · rename_i hh
    refine ⟨fun e => by omega, fun e => ?_⟩
    rw [e.2] at hh
    exact absurd hh.2 (by decide)
  · rename_i hh
    refine ⟨fun e => ⟨e, ?_⟩, fun e => e.1⟩
    cases hk : h k with
    | false => rfl
    | true => exact absurd ⟨e, hk⟩ hh
theorem far_start (es : List (Int × Int)) {a : Nat} (ha : a < 9) : (farA fun _ => (-1 : Int)).setIfInBounds a (.int .i64 0) = farA (fst es a (0 + 1)) := by
  refine farA_set _ _ ha 0 ?_ ?_
  · simp [fst, rch, List.range, List.range.loop]
  · intro b hb
    simp [fst, rch, List.range, List.range.loop, hb]
def hitL (es : List (Int × Int)) (L : List Nat) (i : Nat) (b : Nat) : Bool := (L.take i).any fun j => hasE es j b
def hitK (es : List (Int × Int)) (L : List Nat) (i p k : Nat) (b : Nat) : Bool := hitL es L i b || (hasE es p b && decide (b < k))
theorem hitL_zero (es : List (Int × Int)) (L : List Nat) (b : Nat) : hitL es L 0 b = false := by simp [hitL]
theorem hitK_zero (es : List (Int × Int)) (L : List Nat) (i p : Nat) : hitK es L i p 0 = hitL es L i := by funext b; simp [hitK]
theorem hitK_all {S : Int} {es : List (Int × Int)} (h : okE S es) (hS : S ≤ 8) {L : List Nat} {i p : Nat} (hp : L[i]? = some p) : hitK es L i p 9 = hitL es L (i + 1) := by
  funext b
  unfold hitK hitL
  rw [List.take_add_one, hp, List.any_append]
  simp only [Option.toList, List.any_cons, List.any_nil, Bool.or_false]
  cases he : hasE es p b with
  | false => simp
  | true =>
    have := (h.1 _ (of_decide_eq_true he)).2.2.2.1
    simp only at this
    simp; omega
theorem hitK_ne (es : List (Int × Int)) (L : List Nat) (i p k : Nat) (b : Nat) (hb : b ≠ k) : hitK es L i p (k + 1) b = hitK es L i p k b := by
  unfold hitK
  rw [show decide (b < k + 1) = decide (b < k) by rw [decide_eq_decide]; omega]
theorem hitK_self (es : List (Int × Int)) (L : List Nat) (i p k : Nat) : hitK es L i p (k + 1) k = (hitL es L i k || hasE es p k) := by simp [hitK]
theorem hitK_at (es : List (Int × Int)) (L : List Nat) (i p k : Nat) : hitK es L i p k k = hitL es L i k := by simp [hitK]

set_option maxRecDepth 4000 in
set_option maxHeartbeats 3200000 in
theorem levels_any (S H n : Int) (ev : Value) (es : List (Int × Int)) (w : World) (hr : Rd w 2 ev es.length (edgeCells es)) :
    Calls Try.prog 43 #[topV S ev H, .int .i64 n] w fun e w' => e = .returned (.agg (farA (levF S es H n))) ∧ Below w.heap.size w w' := by
  have hB := Below.refl w.heap.size w
  have hz := Lib.hid zero79
  obtain ⟨g0, hg0⟩ : ∃ g0, gridA [] = g0 := ⟨_, rfl⟩
  obtain ⟨G, hG⟩ : ∃ G, gridA (drawn S es H) = G := ⟨_, rfl⟩
  have Hg := Lib.hid hG
  have Hg0 := Lib.hid hg0
  have Hs := Lib.hid (show g0.size = G.size by rw [← hg0, ← hG, gridA_size, gridA_size])
  have Hn := Lib.hid (show (Try.prog.info? 79).map (·.size) = some G.size by rw [← hG]; exact size79 _)
  have Hm := Lib.hid (show G.all (·.oneCell') = true by rw [← hG]; exact gridA_one _)
  clear hg0 hG
  unfold topV
  go_enter Try.func43, Try.ntmps43
  go_wp2
  go_step3
  go_wp2
  go_loopw [6, 16] (fun _ ix wr => ∃ i : Nat, i ≤ 9 ∧ ix = .int .i64 (i : Int) ∧ wr.heap[w.heap.size]? = some (.cells #[.int .i64 S, ev, .int .i64 H] 24 (0, 0)) ∧ wr.heap[w.heap.size + 1]? = some (.cells (farA fun _ => 0) 34 (0, 0)) ∧ wr.heap[w.heap.size + 1 + 1]? = some (.cells (farA fun b => if b < i then -1 else 0) 34 (0, 0)) ∧ Below w.heap.size w wr) (fun _ ix _ => 9 - (intOf ix).toNat)
  case atStart =>
    have e0 : farA (fun _ => 0) = #[.int .i64 0, .int .i64 0, .int .i64 0, .int .i64 0, .int .i64 0, .int .i64 0, .int .i64 0, .int .i64 0, .int .i64 0] := rfl
    have e1 : farA (fun b => if b < 0 then -1 else 0) = #[.int .i64 0, .int .i64 0, .int .i64 0, .int .i64 0, .int .i64 0, .int .i64 0, .int .i64 0, .int .i64 0, .int .i64 0] := rfl
    refine ⟨0, by omega, rfl, ?_, ?_, ?_, ((hB.alloc (Nat.le_refl _) _).alloc (by simp) _).alloc (by simp; omega) _⟩
    · rw [Below.heap_alloc _ _ _ (by simp; omega), Below.heap_alloc _ _ _ (by simp), heap_alloc_new]
    · rw [Below.heap_alloc _ _ _ (by simp), e0]
      simpa using heap_alloc_new (w.alloc (.cells #[.int .i64 S, ev, .int .i64 H] 24)) (.cells #[.int .i64 0, .int .i64 0, .int .i64 0, .int .i64 0, .int .i64 0, .int .i64 0, .int .i64 0, .int .i64 0, .int .i64 0] 34)
    · rw [e1]
      simpa using heap_alloc_new ((w.alloc (.cells #[.int .i64 S, ev, .int .i64 H] 24)).alloc (.cells #[.int .i64 0, .int .i64 0, .int .i64 0, .int .i64 0, .int .i64 0, .int .i64 0, .int .i64 0, .int .i64 0, .int .i64 0] 34)) (.cells #[.int .i64 0, .int .i64 0, .int .i64 0, .int .i64 0, .int .i64 0, .int .i64 0, .int .i64 0, .int .i64 0, .int .i64 0] 34)
  case round =>
    rename World => wo
    obtain ⟨i, hi, rfl, hb1, hb2, hb3, hB⟩ := hrel
    have hsz := hB.size
    have hbz := lt_of_block hb3
    by_cases hlt : i < 9
    · have hc := (cell_of_row _ _ i _ _ _ hb3).trans (farA_get _ hlt)
      have hf : wo.frozen? ⟨w.heap.size + 1 + 1, i, none⟩ = false := by simp [World.frozen?, hb3]
      have B1 := Lib.hid hb1
      have B2 := Lib.hid hb2
      have B3 := Lib.hid hb3
      clear hb1 hb2 hb3
      go_wp2
      refine ⟨⟨i + 1, by omega, by go_num, ?_, ?_, ?_, hB.setCell (by simp; omega) _⟩, by simp [intOf]; omega⟩
      · rw [Below.heap_setCell _ _ _ _ (by simp; omega)]; exact B1.out
      · rw [Below.heap_setCell _ _ _ _ (by simp)]; exact B2.out
      · rw [heap_setCell_same wo _ _ _ _ _ B3.out, farA_init hlt]
    · obtain rfl : i = 9 := by omega
      rw [farA_congr (F' := fun _ => -1) (fun b hb => by simp [hb])] at hb3
      have hz2 := hz.out
      rw [Hg0.out] at hz2
      have hx := hr.keep hB
      obtain ⟨c0, c1, c2⟩ := cells3 hb1
      have B1 := Lib.hid hb1
      have B2 := Lib.hid hb2
      have B3 := Lib.hid hb3
      have hlz := Lib.hid hbz
      clear hb1 hb2 hb3 hbz hlt
      obtain ⟨X, hX⟩ : ∃ X, farA (fun _ => (-1 : Int)) = X := ⟨_, rfl⟩
      have Hx := Lib.hid hX
      have Xs := Lib.hid (show (Try.prog.info? 34).map (·.size) = some X.size by rw [← hX]; exact size34 _)
      have Xo := Lib.hid (show X.all (·.oneCell') = true by rw [← hX]; exact farA_one _)
      have Xz := Lib.hid (show (farA fun _ => 0).size = X.size by rw [← hX]; simp [farA])
      rw [hX] at B3
      clear hX
      by_cases hT : okT S es H
      · by_cases hbn : btw n S = true
        · have hb2 : 1 ≤ n ∧ n ≤ S := by simpa [btw] using hbn
          obtain ⟨a, rfl⟩ : ∃ a : Nat, n = (a : Int) := ⟨n.toNat, by omega⟩
          have hE := Lib.hid hT.2.2.2.2
          have hS8 := hT.2.1
          have ha9 : a < 9 := by omega
          have ha1 : 1 ≤ a := by omega
          have haS := hb2.2
          have hD := Lib.hid (show drawn S es H = es by unfold drawn; rw [if_pos hT])
          have hok := Lib.hid (decide_eq_true hT)
          have hF := Lib.hid (show levF S es H (a : Int) = levI S es a by funext b; unfold levF; rw [if_pos ⟨hT, hbn⟩]; simp)
          have Xa := Lib.hid (show X[a]? = some (.int .i64 (-1)) by rw [← Hx.out]; exact farA_get _ ha9)
          clear hT hb2
          go_wp2_with (first | (go_at_call 39; refine (draw_any S H ev es _ hx).mono ?_; rintro e w1 ⟨rfl, hb⟩; rw [Hg.out, hok.out]; have T0 := (hb.block _ (by have := hlz.out; omega)).trans B1.out; obtain ⟨c0, c1, c2⟩ := cells3 T0; have hz1 : w.heap.size + 1 + 1 < w1.heap.size := (by have h1 := hlz.out; have h2 := hb.size; omega); have hz0 : w.heap.size < w1.heap.size := (by omega); have R2 := Lib.hid (fun o : Obj => (Below.heap_alloc w1 o _ (by omega)).trans ((hb.block _ (by have := hlz.out; omega)).trans B2.out)); have R3 := Lib.hid (fun o : Obj => (Below.heap_alloc w1 o _ (by omega)).trans ((hb.block _ (by have := hlz.out; omega)).trans B3.out)); have hB1 := hB.trans (hb.mono hsz); clear hb T0; have fc := fun o => (cell_of_row _ _ a _ _ _ (R3.out o)).trans Xa.out; have ff := fun o : Obj => (show (w1.alloc o).frozen? ⟨w.heap.size + 1 + 1, a, none⟩ = false by simp [World.frozen?, R3.out o])) | (with_reducible refine wpList_store_new (t := 79) g0 G ?_ ?_ Hn.out Hs.out Hm.out ?_; (simp [Act.eval, Act.put]); (simp [Act.eval, Act.put])) | (go_at_call 41; with_reducible refine (between_any _ _ _).mono ?_; rintro e w2 ⟨rfl, rfl⟩) | (with_reducible refine wpList_load_row (t := 34) (w.heap.size + 1 + 1) X 9 3 ?_ Try.underlying34 Xs.out 34 (0, 0) (R3.out _) ?_; (simp [Act.eval, Act.put])) | (with_reducible refine wpList_store_row (t := 34) (w.heap.size + 1) (farA fun _ => 0) X ?_ ?_ Xs.out 34 (R2.out _) Xz.out Xo.out ?_; (simp [Act.eval, Act.put]); (simp [Act.eval, Act.put])))
          go_step3
          go_wp2
          go_loopw [9, 10, 11] (fun vn dd _ wr => ∃ (d : Nat) (L : List Nat), dd = .int .i64 ((d : Int) + 1) ∧ Lset es a d L ∧ d + 1 ≤ cnt es a d ∧ 0 < L.length ∧ L.length ≤ 9 ∧ wr.ownsRow w.heap.size 3 1 vn L.length (ints (nats L)) ∧ wr.heap[w.heap.size + 1]? = some (.cells (farA fun _ => 0) 34 (0, 0)) ∧ wr.heap[w.heap.size + 1 + 1]? = some (.cells (farA (fst es a (d + 1))) 34 (0, 0)) ∧ wr.heap[w1.heap.size]? = some (.cells G 79 (0, 0)) ∧ Below w.heap.size w wr) (fun _ dd _ _ => 10 - (intOf dd).toNat)
          case atStart =>
            have hzz : w.heap.size + 1 < w1.heap.size := by omega
            have W2 := (Below.heap_alloc w1 (.cells G 79) _ hzz).symm.trans (R2.out _)
            have W3 := (Below.heap_alloc w1 (.cells G 79) _ hz1).symm.trans (R3.out _)
            refine ⟨0, [a], rfl, Lset.nil es a, cnt_zero es ha9, by simp, by simp, ⟨by simp [ints, nats], .inr ⟨w1.heap.size + 1, 1, #[.int .i64 (a : Int)], rfl, by omega, ?_, Nat.le_refl _, by decide, rfl, by simp [ints, nats]⟩⟩, ?_, ?_, ?_, ((hB1.setCell (by simp; omega) _).alloc (by simp [World.setCell]; omega) _).alloc (by simp [World.setCell]; omega) _⟩
            · simpa [World.setCell] using heap_alloc_new ((w1.setCell ⟨w.heap.size + 1 + 1, a, none⟩ (.int .i64 0)).alloc (.cells G 79)) (.cells #[.int .i64 (a : Int)] 3)
            · rw [Below.heap_alloc _ _ _ (by simp [World.setCell]; omega), Below.heap_alloc _ _ _ (by simp [World.setCell]; omega), Below.heap_setCell _ _ _ _ (by simp)]
              exact W2
            · rw [Below.heap_alloc _ _ _ (by simp [World.setCell]; omega), Below.heap_alloc _ _ _ (by simp [World.setCell]; omega), heap_setCell_same w1 _ _ _ _ _ W3, ← Hx.out, far_start es ha9]
            · rw [Below.heap_alloc _ _ _ (by simp [World.setCell])]
              simpa [World.setCell] using heap_alloc_new (w1.setCell ⟨w.heap.size + 1 + 1, a, none⟩ (.int .i64 0)) (.cells G 79)
          case round =>
            rename World => wq
            obtain ⟨d, L, rfl, hL, hcn, hL0, hL9, hown, q2, q3, q4, hC⟩ := hrel
            obtain ⟨gn, cn, rfl, hg1, hg2, hg3, hg4⟩ := own_succ hown hL0
            have hRd := Rd.of_own hown
            have hczq := hC.size
            have hgq : w1.heap.size < wq.heap.size := lt_of_block q4
            have Q2 := Lib.hid q2
            have Q3 := Lib.hid q3
            have Q4 := Lib.hid q4
            have Ow := Lib.hid hown
            have HL := Lib.hid hL
            have hfg : w.heap.size + 1 + 1 ≠ gn := fun e => own_ne hown (e ▸ q3) (by decide) (by simp [Value.ownBlock, e])
            have hfG : w.heap.size + 1 + 1 ≠ w1.heap.size := by omega
            clear q2 q3 q4 hown hL
            go_wp2
            go_loopw [11, 13, 14, 15, 45, 52] (fun vx _ _ _ ix _ wr => ∃ (i : Nat) (N : List Nat), i ≤ L.length ∧ ix = .int .i64 (i : Int) ∧ Nset (fst es a (d + 1)) (hitL es L i) N ∧ wr.ownsRow wq.heap.size 3 1 vx N.length (ints (nats N)) ∧ wr.heap[w.heap.size + 1 + 1]? = some (.cells (farA (hitF (fst es a (d + 1)) ((d : Int) + 1) (hitL es L i))) 34 (0, 0)) ∧ Keep wq.heap.size (w.heap.size + 1 + 1) wq wr ∧ Below w.heap.size w wr) (fun _ _ _ _ ix _ _ => L.length - (intOf ix).toNat)
            case atStart =>
              refine ⟨0, [], by omega, rfl, ⟨by simp, fun b => by simp [hitL_zero]⟩, World.ownsRow_nil _ _ _ _, ?_, Keep.refl _ _ _, hC⟩
              rw [farA_congr (F' := fst es a (d + 1)) (fun b _ => by unfold hitF; rw [if_neg (fun h => by rw [hitL_zero] at h; exact absurd h.2 (by decide))])]
              exact Q3.out
            case round =>
              rename World => wa
              obtain ⟨i, N, hi, rfl, hN, hown, p3, hK, hA⟩ := hrel
              have hkz := hK.size
              by_cases hil : i < L.length
              · obtain ⟨p, hp⟩ : ∃ p, L[i]? = some p := ⟨_, List.getElem?_eq_getElem hil⟩
                have hpS := rch_in hE.out ha1 haS ((HL.out p).1 (List.mem_of_getElem? hp)).1
                have hp9 : p < 9 := by omega
                have hcell := (World.cell?_of_block (a := ⟨gn, i, none⟩) (hK.block gn hg2 (Ne.symm hfg))).trans (hRd.cellAt (j := i) (u := .int .i64 (p : Int)) (by simp [ints, nats, hp]))
                have hgr := Lib.hid ((hK.block _ hgq (Ne.symm hfG)).trans Q4.out)
                have Hp := Lib.hid hp
                have HN := Lib.hid hN
                have P3 := Lib.hid p3
                have Own := Lib.hid hown
                clear hp hN p3 hown hpS
                go_wp2_with (with_reducible refine wpList_load_part (t := 35) w1.heap.size (p * 9) G (rowV es p) 9 4 ?_ Try.underlying35 (size35 _ _) 79 (0, 0) hgr.out (by rw [← Hg.out, hD.out]; exact rowV_grid es hp9) ?_; (simp [Act.eval, Act.put]))
                obtain ⟨R, hR⟩ : ∃ R, (rowV es p).toArray = R := ⟨_, rfl⟩
                rw [hR]
                have HR := Lib.hid (fun (q : Nat) (hq : q < 9) => show R[q]? = some (.bool (hasE es p q)) by unfold hasE; rw [← hR, ← any_in2 hE.out hS8 hq]; simp [rowV, hq])
                clear hR
                go_loopw [11, 14, 15, 52] (fun vx _ _ ix wr => ∃ (k : Nat) (N : List Nat), k ≤ 9 ∧ ix = .int .i64 (k : Int) ∧ Nset (fst es a (d + 1)) (hitK es L i p k) N ∧ wr.ownsRow wq.heap.size 3 1 vx N.length (ints (nats N)) ∧ wr.heap[w.heap.size + 1 + 1]? = some (.cells (farA (hitF (fst es a (d + 1)) ((d : Int) + 1) (hitK es L i p k))) 34 (0, 0)) ∧ Keep wq.heap.size (w.heap.size + 1 + 1) wq wr ∧ Below w.heap.size w wr) (fun _ _ _ ix _ => 9 - (intOf ix).toNat)
                case atStart => exact ⟨0, N, by omega, rfl, by rw [hitK_zero]; exact HN.out, Own.out, by rw [hitK_zero]; exact P3.out, hK, hA⟩
                case round =>
                  clear HN P3 Own hcell hgr hK hA hkz
                  rename World => wb
                  obtain ⟨k, M, hk, rfl, hM, hown, p3, hK, hA⟩ := hrel
                  have hkz := hK.size
                  by_cases hk9 : k < 9
                  · have hRk := HR.out k hk9
                    have hix := fun w' : World => run_index_one (P := Try.prog) w' 35 4 9 R k _ Try.underlying35 hk9 Try.isAgg4 Try.sizeOf4 hRk
                    have hMl := hM.len
                    clear hRk
                    cases he : hasE es p k with
                    | false =>
                      rw [he] at hix
                      have hs := hit_same (F := fst es a (d + 1)) (d := (d : Int) + 1) (h := hitK es L i p k) (h' := hitK es L i p (k + 1)) (k := k) (fun b hb => hitK_ne es L i p k b hb) (.inl (by rw [hitK_self, hitK_at, he, Bool.or_false]))
                      have hM2 := Lib.hid (hs.2 M hM)
                      have P3 := Lib.hid (hs.1 ▸ p3)
                      have Own := Lib.hid hown
                      clear hM p3 hown he hs
                      go_wp2
                      go_roundw
                      case rel => exact ⟨k + 1, M, by omega, by go_num, hM2.out, Own.out, P3.out, hK, hA⟩
                      case measure => simp [intOf]; omega
                    | true =>
                      rw [he] at hix
                      have hfc := (cell_of_row _ _ k _ _ _ p3).trans (farA_get _ hk9)
                      have hff : wb.frozen? ⟨w.heap.size + 1 + 1, k, none⟩ = false := by simp [World.frozen?, p3]
                      by_cases hz1 : hitF (fst es a (d + 1)) ((d : Int) + 1) (hitK es L i p k) k = -1
                      · rw [hz1] at hfc
                        obtain ⟨hF0, hh0⟩ := (far_new (by omega)).1 hz1
                        have hs := hit_new (F := fst es a (d + 1)) (d := (d : Int) + 1) (h := hitK es L i p k) (h' := hitK es L i p (k + 1)) hk9 hF0 hh0 (by rw [hitK_self, he, Bool.or_true]) (fun b hb => hitK_ne es L i p k b hb)
                        have hM2 := Lib.hid (hs.2 M hM)
                        have hfn := own_ne hown p3 (by decide)
                        have hown2 := hown.kept (w' := wb.setCell ⟨w.heap.size + 1 + 1, k, none⟩ (.int .i64 ((d : Int) + 1))) (row := some (w.heap.size + 1 + 1)) ⟨rfl, rfl, rfl, by simp [World.setCell], fun j _ hj => Below.heap_setCell _ _ _ _ (fun e => hj (by simpa using e))⟩ (.inr hfn)
                        have p4 := heap_setCell_same wb _ k _ _ (.int .i64 ((d : Int) + 1)) p3
                        rw [hs.1] at p4
                        have P4 := Lib.hid p4
                        have Own := Lib.hid hown2
                        have hfbz : w.heap.size + 1 + 1 < wb.heap.size := by omega
                        have hF2 := Lib.hid hfn
                        have rk := rd_one (wb.setCell ⟨w.heap.size + 1 + 1, k, none⟩ (.int .i64 ((d : Int) + 1))) (.int .i64 (k : Int)) 3
                        have ek : (wb.setCell ⟨w.heap.size + 1 + 1, k, none⟩ (.int .i64 ((d : Int) + 1))).heap.size = wb.heap.size := by simp [World.setCell]
                        rw [ek] at rk
                        have Rk := Lib.hid rk
                        clear rk ek
                        clear hM p3 hown he hs hz1 hF0 hh0 hown2 p4 hfn
                        go_wp2_with (at_builtin; refine wpList_app _ rfl _ _ 28 rfl wq.heap.size 3 (.int .i64 0) 1 8 Try.underlying28 Try.info3 rfl (by decide) _ _ _ 1 _ [_] rfl rfl (Own.out.alloc _) Rk.out (by simp [Value.oneCell']) (by omega) (by unfold maxLen; omega) (by simp [World.setCell]; omega) ?_; intro v5 w5 ho5 hgr5)
                        have e1 : (wb.setCell ⟨w.heap.size + 1 + 1, k, none⟩ (.int .i64 ((d : Int) + 1))).heap.size = wb.heap.size := by simp [World.setCell]
                        refine ⟨⟨k + 1, M ++ [k], by omega, by go_num, hM2.out, ?_, ?_, ?_, ?_⟩, by simp [intOf]; omega⟩
                        · rw [List.length_append, show ints (nats (M ++ [k])) = ints (nats M) ++ [.int .i64 (k : Int)] by simp [ints, nats]]
                          exact ho5
                        · exact (hgr5.block _ (by simp [World.setCell]; omega) (fun e => hF2.out e.symm)).trans ((Below.heap_alloc _ _ _ (by rw [e1]; exact hfbz)).trans P4.out)
                        · exact ((hK.setCell _ _).alloc (by rw [e1]; exact hkz) _).grown (by simp [World.setCell]; omega) hgr5 (fun j hj => (Own.out.lt j hj).1)
                        · exact ((hA.setCell (by simp; omega) _).alloc (by rw [e1]; omega) _).grown hgr5 (by simp [World.setCell]; omega) (fun j hj => Nat.le_trans hczq (Own.out.lt j hj).1)
                      · have hs := hit_same (F := fst es a (d + 1)) (d := (d : Int) + 1) (h := hitK es L i p k) (h' := hitK es L i p (k + 1)) (k := k) (fun b hb => hitK_ne es L i p k b hb) (by
                          cases hq : hitK es L i p k k with
                          | true => left; rw [hitK_self, he, Bool.or_true]
                          | false => right; exact fun e => hz1 ((far_new (by omega)).2 ⟨e, hq⟩))
                        have hM2 := Lib.hid (hs.2 M hM)
                        have P3 := Lib.hid (hs.1 ▸ p3)
                        have Own := Lib.hid hown
                        generalize hitF (fst es a (d + 1)) ((d : Int) + 1) (hitK es L i p k) k = z at hz1 hfc
                        clear hM p3 hown he hs
                        go_wp2
                        go_roundw
                        case rel => exact ⟨k + 1, M, by omega, by go_num, hM2.out, Own.out, P3.out, hK, hA⟩
                        case measure => simp [intOf]; omega
                  · obtain rfl : k = 9 := by omega
                    have hM2 := Lib.hid hM
                    have P3 := Lib.hid p3
                    have Own := Lib.hid hown
                    clear hM p3 hown
                    go_wp2
                    go_roundw
                    case rel => exact ⟨i + 1, M, by omega, by go_num, by rw [← hitK_all hE.out hS8 Hp.out]; exact hM2.out, Own.out, by rw [← hitK_all hE.out hS8 Hp.out]; exact P3.out, hK, hA⟩
                    case measure => simp [intOf]; omega
              · obtain rfl : i = L.length := by omega
                have hLany : hitL es L L.length = fun b => L.any fun j => hasE es j b := by funext b; unfold hitL; rw [List.take_length]
                rw [hLany] at hN p3
                have hfn : farA (hitF (fst es a (d + 1)) ((d : Int) + 1) (fun b => L.any fun j => hasE es j b)) = farA (fst es a (d + 2)) := congrArg farA (funext fun b => hit_next hE.out hS8 ha1 haS HL.out b)
                rw [hfn] at p3
                have hL2 := next_Lset hE.out hS8 ha1 haS HL.out hN
                have hNl := hN.len
                have p2 := (hK.block (w.heap.size + 1) (by omega) (by omega)).trans Q2.out
                have p4 := (hK.block _ hgq (Ne.symm hfG)).trans Q4.out
                obtain ⟨xa, xc, rfl⟩ := rd_slice (Rd.of_own hown)
                have HL2 := Lib.hid hL2
                have P2 := Lib.hid p2
                have P3 := Lib.hid p3
                have P4 := Lib.hid p4
                have Own := Lib.hid hown
                clear hLany hfn hN hL2 p2 p3 p4 hown
                by_cases hN0 : N = []
                · subst hN0
                  have hfin := Lib.hid (show farA (fst es a (d + 2)) = farA (levI S es a) from congrArg farA (funext fun b => lev_done hE.out hS8 ha1 haS hcn HL2.out b))
                  have Zs := Lib.hid (size34 (fst es a (d + 2)))
                  have Zo := Lib.hid (farA_one (fst es a (d + 2)))
                  obtain ⟨Z, hZ⟩ : ∃ Z, farA (fst es a (d + 2)) = Z := ⟨_, rfl⟩
                  rw [hZ] at P3 hfin Zs Zo
                  have Zz := Lib.hid (show (farA fun _ => 0).size = Z.size by rw [← hZ]; simp [farA])
                  clear hZ
                  go_wp2_with (first | (with_reducible refine wpList_load_row (t := 34) (w.heap.size + 1 + 1) Z 9 3 ?_ Try.underlying34 Zs.out 34 (0, 0) P3.out ?_; (simp [Act.eval, Act.put])) | (with_reducible refine wpList_store_row (t := 34) (w.heap.size + 1) (farA fun _ => 0) Z ?_ ?_ Zs.out 34 P2.out Zz.out Zo.out ?_; (simp [Act.eval, Act.put]); (simp [Act.eval, Act.put])))
                  rw [Exit.noGoto_ret]
                  refine ret_cell (w.heap.size + 1) Z 9 3 rfl (by simp [Act.put]) Try.underlying34 Zs.out 34 (0, 0) (setRow_heap _ _ _ _ _ _ P2.out) rfl ⟨?_, ?_⟩
                  · rw [hF.out, hfin.out]
                  · exact below_setRow hA (by omega) _
                · have hpos : 0 < N.length := by cases N with
                    | nil => exact absurd rfl hN0
                    | cons _ _ => simp
                  clear hN0
                  have hg := Lib.hid (some_grows hE.out hS8 ha1 haS HL2.out (List.getElem_mem hpos))
                  have hcb := cnt_le hE.out ha1 haS hS8 d
                  go_wp2
                  go_roundw
                  case rel => exact ⟨d + 1, N, by go_num, HL2.out, by have := hg.out; omega, hpos, hNl, own_base Own.out hczq, P2.out, P3.out, P4.out, hA⟩
                  case measure => simp [intOf]; omega
        · have hF := Lib.hid (show levF S es H n = fun _ => -1 by funext b; unfold levF; rw [if_neg (fun h => hbn h.2)])
          have hok := Lib.hid (decide_eq_true hT)
          clear hT
          simp at hbn
          go_wp2_with (first | (go_at_call 39; refine (draw_any S H ev es _ hx).mono ?_; rintro e w1 ⟨rfl, hb⟩; rw [Hg.out, hok.out]; have T0 := (hb.block _ (by have := hlz.out; omega)).trans B1.out; obtain ⟨c0, c1, c2⟩ := cells3 T0; have hz1 : w.heap.size + 1 + 1 < w1.heap.size := (by have h1 := hlz.out; have h2 := hb.size; omega); have hz0 : w.heap.size < w1.heap.size := (by omega); have R2 := Lib.hid (fun o : Obj => (Below.heap_alloc w1 o _ (by omega)).trans ((hb.block _ (by have := hlz.out; omega)).trans B2.out)); have R3 := Lib.hid (fun o : Obj => (Below.heap_alloc w1 o _ (by omega)).trans ((hb.block _ (by have := hlz.out; omega)).trans B3.out)); have hB1 := hB.trans (hb.mono hsz); clear hb T0) | (with_reducible refine wpList_store_new (t := 79) g0 G ?_ ?_ Hn.out Hs.out Hm.out ?_; (simp [Act.eval, Act.put]); (simp [Act.eval, Act.put])) | (go_at_call 41; with_reducible refine (between_any _ _ _).mono ?_; rintro e w2 ⟨rfl, rfl⟩) | (with_reducible refine wpList_load_row (t := 34) (w.heap.size + 1 + 1) X 9 3 ?_ Try.underlying34 Xs.out 34 (0, 0) (R3.out _) ?_; (simp [Act.eval, Act.put])) | (with_reducible refine wpList_store_row (t := 34) (w.heap.size + 1) (farA fun _ => 0) X ?_ ?_ Xs.out 34 (R2.out _) Xz.out Xo.out ?_; (simp [Act.eval, Act.put]); (simp [Act.eval, Act.put])))
          rw [Exit.noGoto_ret]
          refine ret_cell (w.heap.size + 1) X 9 3 rfl (by simp [Act.put]) Try.underlying34 Xs.out 34 (0, 0) (setRow_heap _ _ _ _ _ _ (R2.out _)) rfl ⟨?_, ?_⟩
          · rw [hF.out, Hx.out]
          · exact below_setRow (hB1.alloc (by omega) _) (by omega) _
      · have hF := Lib.hid (show levF S es H n = fun _ => -1 by funext b; unfold levF; rw [if_neg (fun h => hT h.1)])
        have hok := Lib.hid (decide_eq_false hT)
        clear hT
        go_wp2_with (first | (go_at_call 39; refine (draw_any S H ev es _ hx).mono ?_; rintro e w1 ⟨rfl, hb⟩; rw [Hg.out, hok.out]; have T0 := (hb.block _ (by have := hlz.out; omega)).trans B1.out; obtain ⟨c0, c1, c2⟩ := cells3 T0; have hz1 : w.heap.size + 1 + 1 < w1.heap.size := (by have h1 := hlz.out; have h2 := hb.size; omega); have hz0 : w.heap.size < w1.heap.size := (by omega); have R2 := Lib.hid (fun o : Obj => (Below.heap_alloc w1 o _ (by omega)).trans ((hb.block _ (by have := hlz.out; omega)).trans B2.out)); have R3 := Lib.hid (fun o : Obj => (Below.heap_alloc w1 o _ (by omega)).trans ((hb.block _ (by have := hlz.out; omega)).trans B3.out)); have hB1 := hB.trans (hb.mono hsz); clear hb T0) | (with_reducible refine wpList_store_new (t := 79) g0 G ?_ ?_ Hn.out Hs.out Hm.out ?_; (simp [Act.eval, Act.put]); (simp [Act.eval, Act.put])) | (go_at_call 41; with_reducible refine (between_any _ _ _).mono ?_; rintro e w2 ⟨rfl, rfl⟩) | (with_reducible refine wpList_load_row (t := 34) (w.heap.size + 1 + 1) X 9 3 ?_ Try.underlying34 Xs.out 34 (0, 0) (R3.out _) ?_; (simp [Act.eval, Act.put])) | (with_reducible refine wpList_store_row (t := 34) (w.heap.size + 1) (farA fun _ => 0) X ?_ ?_ Xs.out 34 (R2.out _) Xz.out Xo.out ?_; (simp [Act.eval, Act.put]); (simp [Act.eval, Act.put])))
        rw [Exit.noGoto_ret]
        refine ret_cell (w.heap.size + 1) X 9 3 rfl (by simp [Act.put]) Try.underlying34 Xs.out 34 (0, 0) (setRow_heap _ _ _ _ _ _ (R2.out _)) rfl ⟨?_, ?_⟩
        · rw [hF.out, Hx.out]
        · exact below_setRow (hB1.alloc (by omega) _) (by omega) _
end Go.Proofs.Ytipdggjalhjpnab
