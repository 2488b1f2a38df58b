/-
  Plans: an event's error (the reference's wrong).
-/
import Derived.Test.YtipdggjalhjpnabPlanC
namespace Go.Proofs.Ytipdggjalhjpnab
open Go.RowKit
set_option linter.unusedSimpArgs false
set_option linter.unusedVariables false

def pubO : Option Pub → Array Value
  | some p => #[.int .i64 p.origin, .int .u64 p.seq, .bool p.fed]
  | none => #[.int .i64 0, .int .u64 0, .bool false]
/-- The topology, the event and the id that was found, each in its box. -/
def WrIn (B : Nat) (S H : Int) (ev : Value) (es : List (Int × Int)) (w0 : World) (x : Ev) (p : Option Pub) (W : World) : Prop :=
  TopIn B S H ev es w0 W ∧ W.heap[B + 1]? = some (.cells #[.int .i64 x.site, .string x.queue, .int .i64 x.origin, .int .u64 x.seq] 93 (0, 0)) ∧ W.heap[B + 1 + 1]? = some (.cells (pubO p) 65 (0, 0))
section
variable {B : Nat} {S H : Int} {ev : Value} {es : List (Int × Int)} {w0 : World} {x : Ev} {p : Option Pub} {W W' : World}
theorem WrIn.next (h : WrIn B S H ev es w0 x p W) (hb : Below W.heap.size W W') : WrIn B S H ev es w0 x p W' :=
  ⟨h.1.next hb, (hb.block _ (lt_of_block h.2.1)).trans h.2.1, (hb.block _ (lt_of_block h.2.2)).trans h.2.2⟩
theorem WrIn.alloc (h : WrIn B S H ev es w0 x p W) (o : Obj) : WrIn B S H ev es w0 x p (W.alloc o) := h.next ((Below.refl _ _).alloc (Nat.le_refl _) _)
end
theorem WrIn.found {S H : Int} {ev : Value} {es : List (Int × Int)} {w0 : World} {x : Ev} {W : World} (h : WrIn w0.heap.size S H ev es w0 x none W) (hr : Rd w0 2 ev es.length (edgeCells es)) (p : Pub) :
    WrIn w0.heap.size S H ev es w0 x (some p) (((W.setCell ⟨w0.heap.size + 1 + 1, 0, none⟩ (.int .i64 p.origin)).setCell ⟨w0.heap.size + 1 + 1, 1, none⟩ (.int .u64 p.seq)).setCell ⟨w0.heap.size + 1 + 1, 2, none⟩ (.bool p.fed)) := by
  obtain ⟨h1, h2, h3⟩ := h
  refine ⟨((h1.setCell hr (by omega) (by omega) _).setCell hr (by omega) (by omega) _).setCell hr (by omega) (by omega) _, ?_, ?_⟩
  · rw [Below.heap_setCell _ _ _ _ (by simp), Below.heap_setCell _ _ _ _ (by simp), Below.heap_setCell _ _ _ _ (by simp)]
    exact h2
  · rw [heap_setCell_same _ _ _ _ _ _ (heap_setCell_same _ _ _ _ _ _ (heap_setCell_same _ _ _ _ _ _ h3))]
    rfl
theorem cells4 {w : World} {g : Nat} {u0 u1 u2 u3 : Value} {t : TypeId} {f : Nat × Nat} (h : w.heap[g]? = some (.cells #[u0, u1, u2, u3] t f)) : w.cell? ⟨g, 0, none⟩ = some u0 ∧ w.cell? ⟨g, 1, none⟩ = some u1 ∧ w.cell? ⟨g, 2, none⟩ = some u2 ∧ w.cell? ⟨g, 3, none⟩ = some u3 :=
  ⟨by have := cell_of_row _ _ 0 _ _ _ h; simpa using this, by have := cell_of_row _ _ 1 _ _ _ h; simpa using this, by have := cell_of_row _ _ 2 _ _ _ h; simpa using this, by have := cell_of_row _ _ 3 _ _ _ h; simpa using this⟩

set_option maxRecDepth 8000 in
set_option maxHeartbeats 3200000 in
theorem wrong_any (S H : Int) (ev v sv : Value) (es : List (Int × Int)) (xs : List Pub) (ahead : List Ev) (x : Ev) (w : World) (hx : xs.length ≤ 1000) (ha : ahead.length ≤ 1000) (hr : Rd w 2 ev es.length (edgeCells es)) (hv : Rd w 3 v xs.length (xs.flatMap Pub.cs)) (hs : Rd w 4 sv ahead.length (ahead.flatMap Ev.cs)) :
    Calls Try.prog 48 #[topV S ev H, v, sv, .agg #[.int .i64 x.site, .string x.queue, .int .i64 x.origin, .int .u64 x.seq]] w fun e w' => e = .returned (.int .i64 (wrongL S es H xs ahead x)) ∧ Below w.heap.size w w' := by
  obtain ⟨va, vc, rfl⟩ := rd_slice hv
  obtain ⟨sa, sc, rfl⟩ := rd_slice hs
  obtain ⟨n, q, o, s⟩ := x
  have hW0 := Lib.hid (show WrIn w.heap.size S H ev es w ⟨n, q, o, s⟩ none (((w.alloc (.cells #[.int .i64 S, ev, .int .i64 H] 24)).alloc (.cells #[.int .i64 n, .string q, .int .i64 o, .int .u64 s] 93)).alloc (.cells #[.int .i64 0, .int .u64 0, .bool false] 65)) from
    ⟨((TopIn.mk1 (S := S) (H := H) w hr).alloc _).alloc _, by rw [Below.heap_alloc _ _ _ (by simp), heap_alloc_at]; simp, by rw [heap_alloc_at]; simp [pubO]⟩)
  unfold topV
  simp only
  go_enter Try.func48, Try.ntmps48
  go_wp2
  go_loopw [9, 12, 20] (fun fv _ ix wr => ∃ i : Nat, i ≤ xs.length ∧ ix = .int .i64 (i : Int) ∧ fv = .bool (firstP (xs.take i) o s).isSome ∧ WrIn w.heap.size S H ev es w ⟨n, q, o, s⟩ (firstP (xs.take i) o s) wr) (fun _ _ ix _ => xs.length - (intOf ix).toNat)
  case atStart => exact ⟨0, by omega, rfl, rfl, hW0.out⟩
  case round =>
    clear hW0
    rename World => wq
    obtain ⟨i, hi, rfl, rfl, hWq⟩ := hrel
    have HWq := Lib.hid hWq
    have hqz := hWq.1.size
    have hqB := lt_of_block hWq.2.2
    have hxl : xs.length ≤ 9223372036854775807 := by omega
    obtain ⟨x0, x1, x2, x3⟩ := cells4 hWq.2.1
    simp only at x0 x1 x2 x3
    have hqB1 : w.heap.size + 1 < wq.heap.size := by omega
    have hqB0 : w.heap.size < wq.heap.size := by omega
    clear hWq
    by_cases hil : i < xs.length
    · obtain ⟨⟨yo, ys, yf⟩, hxi⟩ : ∃ x, xs[i]? = some x := ⟨_, List.getElem?_eq_getElem hil⟩
      obtain ⟨b, off, rfl, hbb, d0, d1, d2⟩ := pub_at (hv.keep HWq.out.1.below) hxi
      have hf1 := Lib.hid (show firstP (xs.take (i + 1)) o s = if (firstP (xs.take i) o s).isSome = true then firstP (xs.take i) o s else if sameId o s ⟨yo, ys, yf⟩ = true then some ⟨yo, ys, yf⟩ else none by rw [List.take_add_one, hxi]; exact firstP_snoc _ _ _ _)
      have HW1 := Lib.hid (HWq.out.alloc (.cells #[.int .i64 yo, .int .u64 ys, .bool yf] 65))
      simp only at d0 d1 d2
      obtain ⟨t1, ht1⟩ : ∃ t, (yo == o) = t := ⟨_, rfl⟩
      obtain ⟨t2, ht2⟩ : ∃ t, (ys == s) = t := ⟨_, rfl⟩
      have hid : sameId o s ⟨yo, ys, yf⟩ = (t1 && t2) := by unfold sameId; simp only [ht1, ht2]
      rw [hid] at hf1
      clear hid
      cases hp : firstP (xs.take i) o s with
      | some p =>
        rw [hp] at hf1 HWq HW1
        simp only [Option.isSome_some]
        clear hp hxi
        cases t1 <;> cases t2
        all_goals
          go_wp2
          go_roundw
          case rel => exact ⟨i + 1, by omega, by go_num, by rw [hf1.out]; rfl, by rw [hf1.out]; exact HW1.out⟩
          case measure => simp [intOf]; omega
      | none =>
        rw [hp] at hf1 HWq HW1
        simp only [Option.isSome_none]
        clear hp hxi
        by_cases ht : (t1 && t2) = false
        · have hf2 := Lib.hid (show firstP (xs.take (i + 1)) o s = none by rw [hf1.out, ht]; rfl)
          cases t1 <;> cases t2
          all_goals first
            | (exfalso; revert ht; decide)
            | (clear hf1 ht; go_wp2; go_roundw; (case rel => exact ⟨i + 1, by omega, by go_num, by rw [hf2.out]; rfl, by rw [hf2.out]; exact HW1.out⟩); (case measure => simp [intOf]; omega))
        · obtain ⟨rfl, rfl⟩ : t1 = true ∧ t2 = true := by cases t1 <;> cases t2 <;> simp at ht ⊢
          clear ht
          have hp0 : wq.heap[w.heap.size + 1 + 1]? = some (.cells #[.int .i64 0, .int .u64 0, .bool false] 65 (0, 0)) := HWq.out.2.2
          obtain ⟨p0, p1, p2⟩ := cells3 hp0
          have f0 : ∀ k, wq.frozen? ⟨w.heap.size + 1 + 1, k, none⟩ = false := fun k => by simp [World.frozen?, hp0]
          have F0 := f0 0
          have F1 := f0 1
          have F2 := f0 2
          clear f0
          clear hp0
          have HW2 := Lib.hid ((HWq.out.found hr ⟨yo, ys, yf⟩).alloc (.cells #[.int .i64 yo, .int .u64 ys, .bool yf] 65))
          go_wp2
          go_roundw
          case rel => exact ⟨i + 1, by omega, by go_num, by rw [hf1.out]; rfl, by rw [hf1.out]; exact HW2.out⟩
          case measure => simp [intOf]; omega
    · obtain rfl : i = xs.length := by omega
      rw [List.take_length] at HWq ⊢
      cases hp : firstP xs o s with
      | none =>
        have hw3 := Lib.hid (show wrongL S es H xs ahead ⟨n, q, o, s⟩ = 3 by unfold wrongL; simp only [hp])
        rw [hp] at HWq
        simp only [Option.isSome_none]
        clear hp
        go_wp2
        go_ret
        rw [hw3.out]
        exact ⟨rfl, HWq.out.1.below⟩
      | some p =>
        have hw3 := Lib.hid (show wrongL S es H xs ahead ⟨n, q, o, s⟩ = if isAt (sitesL S es H p) n = true then if isEv ahead ⟨n, q, o, s⟩ = true then 4 else 0 else 2 by unfold wrongL; simp only [hp])
        rw [hp] at HWq
        simp only [Option.isSome_some]
        clear hp
        obtain ⟨po, ps, pf⟩ := p
        obtain ⟨p0, p1, p2⟩ := cells3 (show wq.heap[w.heap.size + 1 + 1]? = some (.cells #[.int .i64 po, .int .u64 ps, .bool pf] 65 (0, 0)) from HWq.out.2.2)
        obtain ⟨c0, c1, c2⟩ := HWq.out.1.cells
        go_wp2_with fail
        refine (rsites_any S H _ es ⟨po, ps, pf⟩ _ HWq.out.1.rd).mono ?_
        rintro e w2 ⟨u, rfl, hown, hb⟩
        obtain ⟨ua, uc, rfl⟩ := rd_slice (Rd.of_own hown)
        have hL9 := sites_len S es H ⟨po, ps, pf⟩
        generalize sitesL S es H ⟨po, ps, pf⟩ = L at hown hL9 hw3 ⊢
        have HW2 := Lib.hid (HWq.out.next hb)
        have HR2 := Lib.hid (Rd.of_own hown)
        clear hown hb p0 p1 p2 c0 c1 c2 x0 x1 x2 x3
        go_wp2
        go_loopw [13, 15, 41] (fun bv _ ix wr => ∃ k : Nat, k ≤ L.length ∧ ix = .int .i64 (k : Int) ∧ bv = .bool (isAt (L.take k) n) ∧ WrIn w.heap.size S H ev es w ⟨n, q, o, s⟩ (some ⟨po, ps, pf⟩) wr ∧ Rd wr 1 (.slice ua L.length uc) L.length (ints L)) (fun _ _ ix _ => L.length - (intOf ix).toNat)
        case atStart => exact ⟨0, by omega, rfl, rfl, HW2.out, HR2.out⟩
        case round =>
          rename World => wb
          obtain ⟨k, hk, rfl, rfl, hWb, hRb⟩ := hrel
          obtain ⟨x0, x1, x2, x3⟩ := cells4 hWb.2.1
          simp only at x0 x1 x2 x3
          have HWb := Lib.hid hWb
          have HRb := Lib.hid hRb
          clear hWb hRb
          by_cases hkl : k < L.length
          · obtain ⟨m, hm⟩ : ∃ x, L[k]? = some x := ⟨_, List.getElem?_eq_getElem hkl⟩
            obtain ⟨_, a', cap', ee, _, _, _, h4⟩ := HRb.out
            obtain ⟨rfl, rfl⟩ : ua = a' ∧ uc = cap' := by simpa using ee
            obtain ⟨b2, off2, rfl, hbb2, hcell⟩ := h4 (by omega)
            have hd := hcell k (.int .i64 m) (by simp [ints, hm])
            have hat := Lib.hid (show isAt (L.take (k + 1)) n = (isAt (L.take k) n || m == n) by rw [List.take_add_one, hm]; exact isAt_snoc _ _ _)
            generalize isAt (L.take k) n = z at hat ⊢
            obtain ⟨t, ht⟩ : ∃ t, (m == n) = t := ⟨_, rfl⟩
            have hat2 := Lib.hid (show isAt (L.take (k + 1)) n = (z || t) by rw [← ht]; exact hat.out)
            clear hcell h4 ee hm hat
            cases z <;> cases t
            all_goals
              go_wp2
              go_roundw
              case rel => exact ⟨k + 1, by omega, by go_num, by rw [hat2.out]; rfl, HWb.out, HRb.out⟩
              case measure => simp [intOf]; omega
          · obtain rfl : k = L.length := by omega
            rw [List.take_length]
            generalize isAt L n = z at hw3 ⊢
            cases z with
            | false =>
              go_wp2
              go_ret
              rw [hw3.out]
              exact ⟨rfl, HWb.out.1.below⟩
            | true =>
              go_wp2
              go_loopw [17, 57] (fun _ ix wr => ∃ j : Nat, j ≤ ahead.length ∧ ix = .int .i64 (j : Int) ∧ isEv (ahead.take j) ⟨n, q, o, s⟩ = false ∧ WrIn w.heap.size S H ev es w ⟨n, q, o, s⟩ (some ⟨po, ps, pf⟩) wr) (fun _ ix _ => ahead.length - (intOf ix).toNat)
              case atStart => exact ⟨0, by omega, rfl, rfl, HWb.out⟩
              case round =>
                clear x0 x1 x2 x3
                rename World => wc
                obtain ⟨j, hj, rfl, hno, hWc⟩ := hrel
                have Hno := Lib.hid hno
                obtain ⟨x0, x1, x2, x3⟩ := cells4 hWc.2.1
                simp only at x0 x1 x2 x3
                have hz1 := lt_of_block hWc.2.1
                have hzl : ahead.length ≤ 9223372036854775807 := by omega
                have HWc := Lib.hid hWc
                clear hWc hno
                by_cases hjl : j < ahead.length
                · obtain ⟨⟨yn, yq, yo, ys⟩, hyj⟩ : ∃ y, ahead[j]? = some y := ⟨_, List.getElem?_eq_getElem hjl⟩
                  obtain ⟨b3, off3, rfl, hb3, y0, y1, y2, y3⟩ := ev_at (hs.keep HWc.out.1.below) hyj
                  simp only at y0 y1 y2 y3
                  have HW3 := Lib.hid (HWc.out.alloc (.cells #[.int .i64 yn, .string yq, .int .i64 yo, .int .u64 ys] 93))
                  have hall := Lib.hid (fun h : (⟨yn, yq, yo, ys⟩ : Ev) = ⟨n, q, o, s⟩ => (show isEv ahead ⟨n, q, o, s⟩ = true from isEv_iff.2 (h ▸ List.mem_of_getElem? hyj)))
                  have hin := Lib.hid (show isEv (ahead.take (j + 1)) ⟨n, q, o, s⟩ = eqEv ⟨yn, yq, yo, ys⟩ ⟨n, q, o, s⟩ by rw [List.take_add_one, hyj]; exact (isEv_snoc _ _ _).trans (by rw [Hno.out, Bool.false_or]))
                  obtain ⟨t1, ht1⟩ : ∃ t, (yn == n) = t := ⟨_, rfl⟩
                  obtain ⟨t2, ht2⟩ : ∃ t, (yq.toList == q.toList) = t := ⟨_, rfl⟩
                  obtain ⟨t3, ht3⟩ : ∃ t, (yo == o) = t := ⟨_, rfl⟩
                  obtain ⟨t4, ht4⟩ : ∃ t, (ys == s) = t := ⟨_, rfl⟩
                  have heq : eqEv ⟨yn, yq, yo, ys⟩ ⟨n, q, o, s⟩ = (t1 && (t2 && (t3 && t4))) := by unfold eqEv; simp only [ht1, ht2, ht3, ht4]
                  have Heq := Lib.hid heq
                  clear heq hyj
                  by_cases ht : (t1 && (t2 && (t3 && t4))) = true
                  · have hv4 := Lib.hid (show wrongL S es H xs ahead ⟨n, q, o, s⟩ = 4 by rw [hw3.out, hall.out (eqEv_iff.1 (Heq.out.trans ht))]; rfl)
                    obtain ⟨rfl, rfl, rfl, rfl⟩ : t1 = true ∧ t2 = true ∧ t3 = true ∧ t4 = true := by cases t1 <;> cases t2 <;> cases t3 <;> cases t4 <;> simp at ht ⊢
                    clear ht Heq
                    go_wp2
                    go_ret
                    rw [hv4.out]
                    exact ⟨rfl, HW3.out.1.below⟩
                  · have hno2 := Lib.hid (show isEv (ahead.take (j + 1)) ⟨n, q, o, s⟩ = false by rw [hin.out, Heq.out]; simpa using ht)
                    clear Heq
                    cases t1 <;> cases t2 <;> cases t3 <;> cases t4
                    all_goals first
                      | (exact absurd rfl ht)
                      | (clear ht; go_wp2; go_roundw; (case rel => exact ⟨j + 1, by omega, by go_num, hno2.out, HW3.out⟩); (case measure => simp [intOf]; omega))
                · obtain rfl : j = ahead.length := by omega
                  rw [List.take_length] at Hno
                  have hv0 := Lib.hid (show wrongL S es H xs ahead ⟨n, q, o, s⟩ = 0 by rw [hw3.out, Hno.out]; rfl)
                  go_wp2
                  go_ret
                  rw [hv0.out]
                  exact ⟨rfl, HWc.out.1.below⟩
end Go.Proofs.Ytipdggjalhjpnab
