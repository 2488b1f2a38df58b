/-
  Plans: each id with each of its sites (the program's everywhere).
-/
import Derived.Test.YtipdggjalhjpnabPlan4
import Derived.RangeFuncNested
import Derived.RangeFuncBound
import Derived.RangeFuncCalls
import Derived.RangeFuncLeaves
import Derived.Shelf.Abstract
import Derived.Shelf.RegionOpen
import Derived.OwnWalkIn
import Derived.TacticsInMore
import Derived.LoopNIn
import Derived.LoopIn
import Derived.Maps.AppendAt
namespace Go.Proofs.Ytipdggjalhjpnab
open Go.RowKit Go.Shelf
attribute [local go_sem] Oper.semAt_some
set_option linter.unusedSimpArgs false
set_option linter.unusedVariables false

/-- What a round keeps: the blocks of Fx, and those from D on that hold numbers or ids. -/
def KeepI (Fx : Nat → Prop) (D : Nat) (W W' : World) : Prop :=
  W.heap.size ≤ W'.heap.size ∧ (∀ k, Fx k → W'.heap[k]? = W.heap[k]?) ∧ ∀ (k : Nat) (cs : Array Value) (e : TypeId) (f : Nat × Nat), D ≤ k → W.heap[k]? = some (.cells cs e f) → e = 3 ∨ e = 62 → W'.heap[k]? = some (.cells cs e f)
theorem KeepI.trans {Fx : Nat → Prop} {D : Nat} {A B C : World} (h : KeepI Fx D A B) (k : KeepI Fx D B C) : KeepI Fx D A C :=
  ⟨Nat.le_trans h.1 k.1, fun j hj => (k.2.1 j hj).trans (h.2.1 j hj), fun j cs e f hD hj he => k.2.2 j cs e f hD (h.2.2 j cs e f hD hj he) he⟩
theorem KeepI.putObj {Fx : Nat → Prop} {D : Nat} (hF : ∀ k, Fx k → k < D) (W : World) (l : Nat) (o o' : Obj) (hl : D ≤ l) (h : W.heap[l]? = some o) (hc : o.isCells = false) : KeepI Fx D W (W.putObj l o') := by
  have hg := grownBy_putObj' W l o'
  refine ⟨hg.size, fun k hk => ?_, fun k cs e f hD hk he => ?_⟩
  · by_cases hlt : k < W.heap.size
    · exact hg.block k hlt (fun e => by have := hF k hk; simp at e; omega)
    · have h1 : W.heap[k]? = none := Array.getElem?_eq_none (by omega)
      have h2 : (W.putObj l o').heap[k]? = none := Array.getElem?_eq_none (by
        have : (W.putObj l o').heap.size = W.heap.size := by simp [World.putObj]
        omega)
      rw [h1, h2]
  · have hkl : k ≠ l := by
      rintro rfl
      rw [hk] at h
      cases h
      cases hc
    exact (hg.block k (lt_of_block hk) (by simpa using hkl)).trans hk
/-- Each id, with each of its sites. -/
def seqL (S : Int) (es : List (Int × Int)) (H : Int) (l : List Pub) : List (Pub × Int) := l.flatMap fun p => (sitesL S es H p).map fun n => (p, n)
theorem seqL_snoc (S : Int) (es : List (Int × Int)) (H : Int) (l : List Pub) (p : Pub) : seqL S es H (l ++ [p]) = seqL S es H l ++ (sitesL S es H p).map fun n => (p, n) := by simp [seqL]
theorem seqL_len (S : Int) (es : List (Int × Int)) (H : Int) : ∀ l : List Pub, (seqL S es H l).length ≤ l.length * 9
  | [] => by simp [seqL]
  | p :: l => by
    have h1 := seqL_len S es H l
    have h3 := sites_len S es H p
    unfold seqL at h1 ⊢
    rw [List.flatMap_cons, List.length_append, List.length_map, List.length_cons, Nat.add_mul]
    omega
def encP (x : Pub × Int) : Array Value := #[.agg #[.int .i64 x.1.origin, .int .u64 x.1.seq, .bool x.1.fed], .int .i64 x.2]
theorem grown_of_below {W W' : World} (h : Below W.heap.size W W') : W.grownBy W' none := ⟨h.os, h.tape, h.output, h.size, fun k hk _ => h.block k hk⟩

theorem Rd.keepB {w w' : World} {size n : Nat} {v : Value} {cs : List Value} (h : Rd w size v n cs) (hz : w.heap.size ≤ w'.heap.size) (hb : ∀ k, k < w.heap.size → w'.heap[k]? = w.heap[k]?) : Rd w' size v n cs := by
  obtain ⟨hl, a, cap, rfl, h1, h2, h3, h4⟩ := h
  refine ⟨hl, a, cap, rfl, h1, h2, h3, fun h => ?_⟩
  obtain ⟨b, off, rfl, hbl, hc⟩ := h4 h
  exact ⟨b, off, rfl, Nat.lt_of_lt_of_le hbl hz, fun j u hj => (World.cell?_of_block (a := ⟨b, off + j, none⟩) (hb b hbl)).trans (hc j u hj)⟩
theorem own_keepI {Fx : Nat → Prop} {D : Nat} {W W' : World} (hk : KeepI Fx D W W') {base : Nat} {v : Value} {n : Nat} {xs : List Value} (h : W.ownsRow base 3 1 v n xs) (hD : D ≤ base) : W'.ownsRow base 3 1 v n xs := by
  refine ⟨h.1, ?_⟩
  rcases h.2 with hn | ⟨g, cap, cur, h1, h2, h3, h4⟩
  · exact .inl hn
  · exact .inr ⟨g, cap, cur, h1, h2, hk.2.2 _ _ _ _ (Nat.le_trans hD h2) h3 (.inl rfl), h4⟩
theorem seqL_lt {S : Int} {es : List (Int × Int)} {H : Int} {l : List Pub} {i k : Nat} {p : Pub} (hp : l[i]? = some p) (hk : k < (sitesL S es H p).length) : (seqL S es H (l.take i) ++ ((sitesL S es H p).take k).map fun n => (p, n)).length < (seqL S es H l).length := by
  have h1 : l = l.take i ++ (p :: l.drop (i + 1)) := by
    have := (List.getElem?_eq_some_iff.1 hp)
    obtain ⟨hi, he⟩ := this
    rw [← he, List.getElem_cons_drop, List.take_append_drop]
  have h2 : seqL S es H l = seqL S es H (l.take i) ++ ((sitesL S es H p).map (fun n => (p, n)) ++ seqL S es H (l.drop (i + 1))) := by
    conv => lhs; rw [h1]
    simp [seqL]
  rw [h2]
  simp only [List.length_append, List.length_map, List.length_take]
  omega
def ItIn (S H : Int) (ev v : Value) (w : World) (B1 B2 D : Nat) (wr : World) : Prop :=
  wr.heap[B1]? = some (.cells #[v] 46 (0, 0)) ∧ wr.heap[B2]? = some (.cells #[.int .i64 S, ev, .int .i64 H] 24 (0, 0)) ∧ w.heap.size ≤ wr.heap.size ∧ D ≤ wr.heap.size ∧ ∀ k, k < w.heap.size → wr.heap[k]? = w.heap[k]?
theorem ItIn.below {S H : Int} {ev v : Value} {w : World} {B1 B2 D : Nat} {wr w' : World} (h : ItIn S H ev v w B1 B2 D wr) (hb : Below wr.heap.size wr w') : ItIn S H ev v w B1 B2 D w' :=
  ⟨(hb.block _ (lt_of_block h.1)).trans h.1, (hb.block _ (lt_of_block h.2.1)).trans h.2.1, Nat.le_trans h.2.2.1 hb.size, Nat.le_trans h.2.2.2.1 hb.size, fun k hk => (hb.block k (by have := h.2.2.1; omega)).trans (h.2.2.2.2 k hk)⟩
theorem ItIn.keep {S H : Int} {ev v : Value} {w : World} {B1 B2 D : Nat} {wr w' : World} {Fx : Nat → Prop} (h : ItIn S H ev v w B1 B2 D wr) (hk : KeepI Fx D wr w') (hF : ∀ k, k < w.heap.size → Fx k) (h1 : Fx B1) (h2 : Fx B2) : ItIn S H ev v w B1 B2 D w' :=
  ⟨(hk.2.1 _ h1).trans h.1, (hk.2.1 _ h2).trans h.2.1, Nat.le_trans h.2.2.1 hk.1, Nat.le_trans h.2.2.2.1 hk.1, fun k hk2 => (hk.2.1 k (hF k hk2)).trans (h.2.2.2.2 k hk2)⟩

set_option maxRecDepth 100000 in
set_option maxHeartbeats 2000000 in
theorem every1_in (S H : Int) (ev v : Value) (es : List (Int × Int)) (xs : List Pub) (w : World) (hx : xs.length ≤ 1000) (n l B1 B2 D : Nat) (hn : 1 ≤ n) (Fx : Nat → Prop)
    (J Jx : List (Pub × Int) → World → Prop)
    (W : World) (hJ : AbidesFrom W.heap.size J)
    (hY : ∀ pre x W, J pre W → pre.length < (seqL S es H xs).length → YieldAt Fence.wide (n - 1) Try.prog l (encP x) W fun e W' =>
      (e = .returned (.bool true) ∧ J (pre ++ [x]) W' ∧ KeepI Fx D W W') ∨ (e = .returned (.bool false) ∧ Jx (pre ++ [x]) W'))
    (hF : ∀ k, k < w.heap.size → Fx k) (h1 : Fx B1) (h2 : Fx B2) (hD : D ≤ W.heap.size)
    (hv : Rd w 3 v xs.length (xs.flatMap Pub.cs)) (hr : Rd w 2 ev es.length (edgeCells es)) (hW : Below w.heap.size w W)
    (hb1 : W.heap[B1]? = some (.cells #[v] 46 (0, 0))) (hb2 : W.heap[B2]? = some (.cells #[.int .i64 S, ev, .int .i64 H] 24 (0, 0))) (h0 : J [] W) :
    CallsIn Fence.wide n Try.prog 50 #[.func (.yield l) #[] #[], .pointer (some ⟨B1, 0, none⟩), .pointer (some ⟨B2, 0, none⟩)] W fun e W' => (∃ v, e = .returned v) ∧
      ((∃ ys, ys = seqL S es H xs ∧ J ys W') ∨ (∃ pre : List (Pub × Int), True ∧ Jx pre W')) := by
  obtain ⟨va, vc, rfl⟩ := rd_slice hv
  have c1 := cell_of_row _ _ 0 _ _ _ hb1
  refine callsIn_of_wp Try.func50 rfl trivial ?_ rfl
  simp only [Try.ntmps50, List.size_toArray, List.length_cons, List.length_nil, Nat.reduceAdd, Nat.reduceSub, Array.replicate_succ, Array.replicate_zero, List.push_toArray, List.append_toArray, List.nil_append, List.cons_append]
  gi_wp2
  have hI0 : ItIn S H ev (.slice va xs.length vc) w B1 B2 D W := ⟨hb1, hb2, hW.size, hD, fun k hk => hW.block k hk⟩
  have HI0 := Lib.hid hI0
  clear hI0 hb1 hb2 c1
  gi_loopw [5, 7, 10] (fun _ _ ix wr => ∃ i : Nat, i ≤ xs.length ∧ ix = .int .i64 (i : Int) ∧ J (seqL S es H (xs.take i)) wr ∧ ItIn S H ev (.slice va xs.length vc) w B1 B2 D wr) (fun _ _ ix _ => xs.length - (intOf ix).toNat)
  case atStart => exact ⟨0, by omega, rfl, h0, HI0.out⟩
  case round =>
    rename World => wq
    obtain ⟨i, hi, rfl, hJq, hIq⟩ := hrel
    have HJq := Lib.hid hJq
    have HIq := Lib.hid hIq
    have hlen : xs.length ≤ 9223372036854775807 := by omega
    clear hJq hIq
    by_cases hil : i < xs.length
    · obtain ⟨⟨o, s, f⟩, hxi⟩ : ∃ x, xs[i]? = some x := ⟨_, List.getElem?_eq_getElem hil⟩
      obtain ⟨b, off, rfl, hbb, d0, d1, d2⟩ := pub_at (hv.keepB HIq.out.2.2.1 HIq.out.2.2.2.2) hxi
      simp only at d0 d1 d2
      have hBz := lt_of_block HIq.out.2.1
      have hP := Lib.hid (heap_alloc_new wq (.cells #[.int .i64 o, .int .u64 s, .bool f] 62))
      have hbA := (Below.refl wq.heap.size wq).alloc (Nat.le_refl _) (.cells #[.int .i64 o, .int .u64 s, .bool f] 62)
      have HIp := Lib.hid (HIq.out.below hbA)
      have HJp := Lib.hid (hJ _ _ _ none HJq.out (grown_of_below hbA) (fun r e => by cases e))
      obtain ⟨e0, e1, e2⟩ := cells3 HIq.out.2.1
      have hRp := Lib.hid (hr.keepB HIp.out.2.2.1 HIp.out.2.2.2.2)
      have Hxi := Lib.hid hxi
      clear hxi hbA
      gi_wp2_with fail
      refine ⟨trivial, ?_⟩
      refine (callsIn_wide.2 (sites_any S H _ es ⟨o, s, f⟩ _ hRp.out)).mono ?_
      rintro e w1 ⟨u, rfl, hown, hb⟩
      obtain ⟨ua, uc, rfl⟩ := rd_slice (Rd.of_own hown)
      have HI1 := Lib.hid (HIp.out.below hb)
      have HJ1 := Lib.hid (hJ _ _ _ none HJp.out (grown_of_below hb) (fun r e => by cases e))
      have hP1 := Lib.hid ((hb.block _ (lt_of_block hP.out)).trans hP.out)
      have HownL := Lib.hid hown
      have hL9 := sites_len S es H ⟨o, s, f⟩
      have hDp := HIp.out.2.2.2.1
      have hDq := HIq.out.2.2.2.1
      have hSt := Lib.hid (fun k (h : k < (sitesL S es H ⟨o, s, f⟩).length) => seqL_lt Hxi.out h)
      have hSn := Lib.hid (show seqL S es H (xs.take (i + 1)) = seqL S es H (xs.take i) ++ (sitesL S es H ⟨o, s, f⟩).map fun n => ((⟨o, s, f⟩ : Pub), n) by rw [List.take_add_one, Hxi.out]; exact seqL_snoc _ _ _ _ _)
      generalize sitesL S es H ⟨o, s, f⟩ = L at hL9 hSt hSn HownL
      clear hown hb d0 d1 d2 e0 e1 e2 hP HIp HJp HIq HJq hRp Hxi
      gi_wp2
      gi_loopw [7, 18] (fun _ ix wr => ∃ k : Nat, k ≤ L.length ∧ ix = .int .i64 (k : Int) ∧ J (seqL S es H (xs.take i) ++ (L.take k).map fun n => ((⟨o, s, f⟩ : Pub), n)) wr ∧ ItIn S H ev (.slice (some ⟨b, off, none⟩) xs.length vc) w B1 B2 D wr ∧ wr.heap[wq.heap.size]? = some (.cells #[.int .i64 o, .int .u64 s, .bool f] 62 (0, 0)) ∧ wr.ownsRow (wq.alloc (.cells #[.int .i64 o, .int .u64 s, .bool f] 62)).heap.size 3 1 (.slice ua L.length uc) L.length (ints L)) (fun _ ix _ => L.length - (intOf ix).toNat)
      case atStart => exact ⟨0, by omega, rfl, by simpa using HJ1.out, HI1.out, hP1.out, HownL.out⟩
      case round =>
        rename World => wb
        obtain ⟨k, hk, rfl, hJb, hIb, hPb, hOb⟩ := hrel
        by_cases hkl : k < L.length
        · obtain ⟨x, hxk⟩ : ∃ x, L[k]? = some x := ⟨_, List.getElem?_eq_getElem hkl⟩
          obtain ⟨_, a', cap', ee, _, _, _, h4⟩ := Rd.of_own hOb
          obtain ⟨rfl, rfl⟩ : ua = a' ∧ uc = cap' := by simpa using ee
          obtain ⟨b2, off2, rfl, hbb2, hcell⟩ := h4 (by omega)
          have hd := hcell k (.int .i64 x) (by simp [ints, hxk])
          obtain ⟨d0, d1, d2⟩ := cells3 hPb
          have hKl := Lib.hid (show (L.take (k + 1)).map (fun n => ((⟨o, s, f⟩ : Pub), n)) = (L.take k).map (fun n => ((⟨o, s, f⟩ : Pub), n)) ++ [(⟨o, s, f⟩, x)] by rw [List.take_add_one, hxk, List.map_append]; rfl)
          obtain ⟨fn, tmps, assign, body, hy, hR⟩ := hY _ (⟨o, s, f⟩, x) wb hJb (hSt.out k hkl)
          dsimp only [encP] at hy
          have HIb := Lib.hid hIb
          have HPb := Lib.hid hPb
          have HOb := Lib.hid hOb
          have HR := Lib.hid hR
          clear hcell h4 ee hxk hJb hIb hPb hOb hR
          gi_wp2
          refine HR.out.mono ?_
          rintro e W3 (⟨rfl, hJ3, hk3⟩ | ⟨rfl, hJx3⟩)
          · have hI3 := Lib.hid (HIb.out.keep hk3 hF h1 h2)
            have hP3 := Lib.hid (hk3.2.2 _ _ _ _ hDq HPb.out (.inr rfl))
            have hO3 := Lib.hid (own_keepI hk3 HOb.out hDp)
            have HJ3 := Lib.hid hJ3
            clear hJ3 hk3 hd d0 d1 d2
            gi_wp2
            go_roundw
            case rel => exact ⟨k + 1, by omega, by go_num, by rw [hKl.out, ← List.append_assoc]; exact HJ3.out, hI3.out, hP3.out, hO3.out⟩
            case measure => simp [intOf]; omega
          · gi_wp2
            refine bodyPost_ret (results_none rfl _ _ _) rfl ?_
            exact ⟨⟨_, rfl⟩, .inr ⟨_, trivial, hJx3⟩⟩
        · obtain rfl : k = L.length := by omega
          rw [List.take_length, ← hSn.out] at hJb
          have HJb := Lib.hid hJb
          have HIb := Lib.hid hIb
          clear hJb hIb hPb hOb
          gi_wp2
          go_roundw
          case rel => exact ⟨i + 1, by omega, by go_num, HJb.out, HIb.out⟩
          case measure => simp [intOf]; omega
    · obtain rfl : i = xs.length := by omega
      have hJe := HJq.out
      rw [List.take_length] at hJe
      gi_wp2
      go_end0
      exact ⟨⟨_, rfl⟩, .inl ⟨_, rfl, hJe⟩⟩
end Go.Proofs.Ytipdggjalhjpnab
