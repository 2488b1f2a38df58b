/-
  Plans: the first wrong event (the reference's Check).
-/
import Derived.Test.YtipdggjalhjpnabPlanW
namespace Go.Proofs.Ytipdggjalhjpnab
open Go.RowKit
set_option linter.unusedSimpArgs false
set_option linter.unusedVariables false

theorem rd_take {w : World} {α : Type} {f : α → List Value} {size : Nat} (hf : ∀ x, (f x).length = size) {a : Option Addr} {cap : Nat} {xs : List α} (h : Rd w size (.slice a xs.length cap) xs.length (xs.flatMap f)) {i : Nat} (hi : i ≤ xs.length) :
    Rd w size (.slice a i cap) (xs.take i).length ((xs.take i).flatMap f) := by
  obtain ⟨hl, a', cap', e, h1, h2, h3, h4⟩ := h
  obtain ⟨rfl, rfl⟩ : a = a' ∧ cap = cap' := by simpa using e
  have hlen : (xs.take i).length = i := by rw [List.length_take]; omega
  refine ⟨flat_len hf _, a, cap, by rw [hlen], by omega, h2, fun ha => ?_, fun hp => ?_⟩
  · have := h3 ha
    exact ⟨by omega, this.2⟩
  · have hpos : 0 < xs.length * size := by
      refine Nat.lt_of_lt_of_le hp (Nat.mul_le_mul_right _ ?_)
      omega
    obtain ⟨b, off, rfl, hb, hc⟩ := h4 hpos
    refine ⟨b, off, rfl, hb, fun j u hj => hc j u ?_⟩
    have hjl := (List.getElem?_eq_some_iff.1 hj).1
    conv => lhs; rw [← List.take_append_drop i xs]
    rw [List.flatMap_append, List.getElem?_append_left hjl]
    exact hj
theorem rd_cap {w : World} {size n cap : Nat} {a : Option Addr} {cs : List Value} (h : Rd w size (.slice a n cap) n cs) : n ≤ cap ∧ cap ≤ 9223372036854775807 := by
  obtain ⟨hl, a', cap', e, h1, h2, _⟩ := h
  obtain ⟨rfl, rfl⟩ : a = a' ∧ cap = cap' := by simpa using e
  unfold maxLen at h2
  exact ⟨h1, by omega⟩
/-- The topology and an event, each in its box. -/
def EvIn (B C : Nat) (S H : Int) (ev : Value) (es : List (Int × Int)) (w0 : World) (x : Ev) (t : TypeId) (W : World) : Prop :=
  TopIn B S H ev es w0 W ∧ W.heap[C]? = some (.cells #[.int .i64 x.site, .string x.queue, .int .i64 x.origin, .int .u64 x.seq] t (0, 0))
section
variable {B C : Nat} {S H : Int} {ev : Value} {es : List (Int × Int)} {w0 : World} {x : Ev} {t : TypeId} {W W' : World}
theorem EvIn.next (h : EvIn B C S H ev es w0 x t W) (hb : Below W.heap.size W W') : EvIn B C S H ev es w0 x t W' := ⟨h.1.next hb, (hb.block _ (lt_of_block h.2)).trans h.2⟩
theorem EvIn.drew (h : EvIn B C S H ev es w0 x t W) : EvIn B C S H ev es w0 x t W.drew := h.next (below_drew (Below.refl _ _))
theorem EvIn.rd (h : EvIn B C S H ev es w0 x t W) : Rd W 2 ev es.length (edgeCells es) := h.1.rd
theorem EvIn.below (h : EvIn B C S H ev es w0 x t W) : Below w0.heap.size w0 W := h.1.below
theorem EvIn.all (h : EvIn B C S H ev es w0 x t W) : EvIn B C S H ev es w0 x t W ∧ W.cell? ⟨B, 0, none⟩ = some (.int .i64 S) ∧ W.cell? ⟨B, 1, none⟩ = some ev ∧ W.cell? ⟨B, 2, none⟩ = some (.int .i64 H) ∧ W.cell? ⟨C, 0, none⟩ = some (.int .i64 x.site) ∧ W.cell? ⟨C, 1, none⟩ = some (.string x.queue) ∧ W.cell? ⟨C, 2, none⟩ = some (.int .i64 x.origin) ∧ W.cell? ⟨C, 3, none⟩ = some (.int .u64 x.seq) :=
  ⟨h, h.1.cells.1, h.1.cells.2.1, h.1.cells.2.2, cells4 h.2⟩
end

set_option maxRecDepth 8000 in
set_option maxHeartbeats 3200000 in
theorem rcheck_any (S H : Int) (ev v sv : Value) (es : List (Int × Int)) (xs : List Pub) (evs : List Ev) (w : World) (hx : xs.length ≤ 1000) (hev : evs.length ≤ 1000) (hr : Rd w 2 ev es.length (edgeCells es)) (hv : Rd w 3 v xs.length (xs.flatMap Pub.cs)) (hs : Rd w 4 sv evs.length (evs.flatMap Ev.cs)) :
    Calls Try.prog 37 #[topV S ev H, v, sv] w fun e w' => e = .returned (.tuple #[.int .i64 (checkL S es H xs evs).1, .int .i64 (checkL S es H xs evs).2]) ∧ Below w.heap.size w w' := by
  obtain ⟨va, vc, rfl⟩ := rd_slice hv
  obtain ⟨sa, sc, rfl⟩ := rd_slice hs
  obtain ⟨hc1, hc2⟩ := rd_cap hs
  have hT0 := Lib.hid (TopIn.mk1 (S := S) (H := H) w hr)
  have hmx : Try.prog.follows .mixedOrders = true := by kernel_rfl
  unfold topV
  go_enter Try.func37, Try.ntmps37
  go_wp2
  go_loopw [8, 9, 10, 13] (fun _ _ _ ix wr => ∃ i : Nat, i ≤ evs.length ∧ ix = .int .i64 (i : Int) ∧ rightTo S es H xs evs i ∧ TopIn w.heap.size S H ev es w wr) (fun _ _ _ ix _ => evs.length - (intOf ix).toNat)
  case atStart => exact ⟨0, by omega, rfl, rightTo_zero, hT0.out⟩
  case round =>
    clear hT0
    rename World => wq
    obtain ⟨i, hi, rfl, hri, hTq⟩ := hrel
    have HTq := Lib.hid hTq
    have Hri := Lib.hid hri
    have hBz := hTq.lt
    clear hTq hri
    have hel : evs.length ≤ 9223372036854775807 := by omega
    by_cases hil : i < evs.length
    · obtain ⟨⟨n, q, o, s⟩, hxi⟩ : ∃ x, evs[i]? = some x := ⟨_, List.getElem?_eq_getElem hil⟩
      obtain ⟨b, off, rfl, hbb, d0, d1, d2, d3⟩ := ev_at (hs.keep HTq.out.below) hxi
      simp only at d0 d1 d2 d3
      have hw := Lib.hid (wrAt_of (S := S) (es := es) (H := H) (l := xs) hxi)
      have hE := EvIn.drew (show EvIn w.heap.size wq.heap.size S H ev es w ⟨n, q, o, s⟩ 93 (wq.alloc (.cells #[.int .i64 n, .string q, .int .i64 o, .int .u64 s] 93)) from ⟨HTq.out.alloc _, heap_alloc_new _ _⟩)
      have i0 : (0 : Int) ≤ (i : Int) := by omega
      have i1 : (i : Int) ≤ (sc : Int) := by omega
      clear hxi
      go_wp2_with fail
      go_region_held3 (fun w' => EvIn w.heap.size wq.heap.size S H ev es w ⟨n, q, o, s⟩ 93 w' ∧ w'.cell? ⟨w.heap.size, 0, none⟩ = some (.int .i64 S) ∧ w'.cell? ⟨w.heap.size, 1, none⟩ = some ev ∧ w'.cell? ⟨w.heap.size, 2, none⟩ = some (.int .i64 H) ∧ w'.cell? ⟨wq.heap.size, 0, none⟩ = some (.int .i64 n) ∧ w'.cell? ⟨wq.heap.size, 1, none⟩ = some (.string q) ∧ w'.cell? ⟨wq.heap.size, 2, none⟩ = some (.int .i64 o) ∧ w'.cell? ⟨wq.heap.size, 3, none⟩ = some (.int .u64 s))
        (first | exact hE.all | (go_split_ands; exact EvIn.all (EvIn.next (by assumption) hb)))
        (first | (go_at_call 48; refine (wrong_any S H _ _ _ es xs (evs.take i) ⟨n, q, o, s⟩ _ hx ?_ ?_ ?_ ?_).mono ?_; (rw [List.length_take]; omega); (go_split_ands; exact EvIn.rd (by assumption)); (go_split_ands; exact hv.keep (EvIn.below (by assumption))); (go_split_ands; exact rd_take (f := Ev.cs) (size := 4) (fun _ => rfl) (hs.keep (EvIn.below (by assumption))) hi); rintro e w2 ⟨rfl, hb⟩; rw [← hw.out]))
      go_split_ands
      have HE2 := Lib.hid (show EvIn w.heap.size wq.heap.size S H ev es w ⟨n, q, o, s⟩ 93 w2 by assumption)
      generalize hwr : wrAt S es H xs evs i = r
      have Hwr := Lib.hid hwr
      clear hwr hw
      by_cases h0 : r = 0
      · obtain rfl := h0
        go_wp2
        go_roundw
        case rel => exact ⟨i + 1, by omega, by go_num, rightTo_succ Hri.out Hwr.out, HE2.out.1⟩
        case measure => simp [intOf]; omega
      · have hb0 : (r == 0) = false := beq_eq_false_iff_ne.2 h0
        have hC := Lib.hid (checkL_at Hri.out hil (by rw [Hwr.out]; exact h0))
        rw [Hwr.out] at hC
        clear h0
        go_wp2
        go_ret2
        rw [hC.out]
        exact ⟨rfl, HE2.out.below⟩
    · obtain rfl : i = evs.length := by omega
      have hC := Lib.hid (checkL_all Hri.out)
      go_wp2
      go_ret2
      rw [hC.out]
      exact ⟨rfl, HTq.out.below⟩
end Go.Proofs.Ytipdggjalhjpnab
