/-
  Topologies: a Topology that lies in a box, carried from call to call.
-/
import Derived.Test.YtipdggjalhjpnabROnward
import Derived.Test.YtipdggjalhjpnabTPlain
import Derived.Test.YtipdggjalhjpnabInts
import Derived.Deep.RegionHeld3
import Derived.Outline
namespace Go.Proofs.Ytipdggjalhjpnab
open Go.RowKit
set_option linter.unusedSimpArgs false
set_option linter.unusedVariables false

/-- Block B is a box of the Topology, its edges read, and what was there at w0 is as it was. -/
def TopIn (B : Nat) (S H : Int) (ev : Value) (es : List (Int × Int)) (w0 W : World) : Prop :=
  W.heap[B]? = some (.cells #[.int .i64 S, ev, .int .i64 H] 24 (0, 0)) ∧ Rd W 2 ev es.length (edgeCells es) ∧ Below w0.heap.size w0 W
theorem TopIn.next {B : Nat} {S H : Int} {ev : Value} {es : List (Int × Int)} {w0 W W1 : World} (h : TopIn B S H ev es w0 W) (hb : Below W.heap.size W W1) : TopIn B S H ev es w0 W1 :=
  ⟨(hb.block _ (lt_of_block h.1)).trans h.1, h.2.1.keep hb, h.2.2.trans (hb.mono h.2.2.size)⟩
theorem TopIn.rd {B : Nat} {S H : Int} {ev : Value} {es : List (Int × Int)} {w0 W : World} (h : TopIn B S H ev es w0 W) : Rd W 2 ev es.length (edgeCells es) := h.2.1
theorem TopIn.cells {B : Nat} {S H : Int} {ev : Value} {es : List (Int × Int)} {w0 W : World} (h : TopIn B S H ev es w0 W) : W.cell? ⟨B, 0, none⟩ = some (.int .i64 S) ∧ W.cell? ⟨B, 1, none⟩ = some ev ∧ W.cell? ⟨B, 2, none⟩ = some (.int .i64 H) := cells3 h.1
theorem TopIn.lt {B : Nat} {S H : Int} {ev : Value} {es : List (Int × Int)} {w0 W : World} (h : TopIn B S H ev es w0 W) : B < W.heap.size := lt_of_block h.1
theorem TopIn.size {B : Nat} {S H : Int} {ev : Value} {es : List (Int × Int)} {w0 W : World} (h : TopIn B S H ev es w0 W) : w0.heap.size ≤ W.heap.size := h.2.2.size
theorem TopIn.below {B : Nat} {S H : Int} {ev : Value} {es : List (Int × Int)} {w0 W : World} (h : TopIn B S H ev es w0 W) : Below w0.heap.size w0 W := h.2.2
theorem TopIn.mk1 {S H : Int} {ev : Value} {es : List (Int × Int)} (w : World) (hr : Rd w 2 ev es.length (edgeCells es)) : TopIn w.heap.size S H ev es w (w.alloc (.cells #[.int .i64 S, ev, .int .i64 H] 24)) :=
  ⟨heap_alloc_new _ _, hr.keep ((Below.refl _ _).alloc (Nat.le_refl _) _), (Below.refl _ _).alloc (Nat.le_refl _) _⟩
theorem TopIn.mk2 {S H : Int} {ev : Value} {es : List (Int × Int)} (w : World) (hr : Rd w 2 ev es.length (edgeCells es)) {B : Nat} (hB : B = w.heap.size) {w0 : World} (h0 : Below w0.heap.size w0 w) : TopIn B S H ev es w0 (w.alloc (.cells #[.int .i64 S, ev, .int .i64 H] 24)) := by
  subst hB
  exact ⟨heap_alloc_new _ _, hr.keep ((Below.refl _ _).alloc (Nat.le_refl _) _), h0.alloc h0.size _⟩
theorem TopIn.alloc {B : Nat} {S H : Int} {ev : Value} {es : List (Int × Int)} {w0 W : World} (h : TopIn B S H ev es w0 W) (o : Obj) : TopIn B S H ev es w0 (W.alloc o) := h.next ((Below.refl _ _).alloc (Nat.le_refl _) _)
theorem TopIn.drew {B : Nat} {S H : Int} {ev : Value} {es : List (Int × Int)} {w0 W : World} (h : TopIn B S H ev es w0 W) : TopIn B S H ev es w0 W.drew := ⟨h.1, h.2.1.keep (below_drew (Below.refl _ _)), below_drew h.2.2⟩

def ring3 : List (Int × Int) := [(1, 2), (2, 3), (3, 1)]
theorem ring3_ok : decide (okT 3 ring3 1) = true := by
  have : okT 3 ring3 1 := ⟨by decide, by decide, by decide, by decide, by decide, by decide⟩
  exact decide_eq_true this
theorem ring3_within : within 3 ring3 1 1 9 = [1, 2] := by
  have h : okT 3 ring3 1 := of_decide_eq_true ring3_ok
  unfold within okW levF
  simp only [if_pos (show okT 3 ring3 1 ∧ btw 1 3 = true from ⟨h, rfl⟩)]
  decide +kernel
theorem ring3_far (b : Int) : farI 3 ring3 1 1 b = if btw b 3 = true then levI 3 ring3 1 b.toNat else -1 := by
  have h : okT 3 ring3 1 := of_decide_eq_true ring3_ok
  unfold farI levF
  rw [if_pos (show okT 3 ring3 1 ∧ btw 1 3 = true from ⟨h, rfl⟩)]
  rfl
theorem ring3_onward : onward 3 ring3 1 1 2 = [] := by
  unfold onward
  rw [ring3_far, show levI 3 ring3 1 (2 : Int).toNat = 1 by decide +kernel]
  rfl
theorem ring3_far3 : farI 3 ring3 1 1 3 = 2 := by rw [ring3_far]; decide +kernel
theorem ring3_rounds : roundsI 3 ring3 1 = 1 := by
  have h : okT 3 ring3 1 := of_decide_eq_true ring3_ok
  have hw : ∀ n : Nat, 1 ≤ n → n ≤ 3 → within 3 ring3 1 (n : Int) 9 = ((List.range 9).filter fun b : Nat => decide (levI 3 ring3 n b ≠ -1) && decide (levI 3 ring3 n b ≤ 1)).map fun b => ((b : Nat) : Int) := by
    intro n h1 h2
    unfold within okW levF
    simp only [if_pos (show okT 3 ring3 1 ∧ btw (n : Int) 3 = true from ⟨h, by simp [btw]; omega⟩)]
    rfl
  have hf : ∀ (n : Nat) (b : Int), 1 ≤ n → n ≤ 3 → farI 3 ring3 1 (n : Int) b = if btw b 3 = true then levI 3 ring3 n b.toNat else -1 := by
    intro n b h1 h2
    unfold farI levF
    rw [if_pos (show okT 3 ring3 1 ∧ btw (n : Int) 3 = true from ⟨h, by simp [btw]; omega⟩)]
    rfl
  have w1 := hw 1 (by omega) (by omega)
  have w2 := hw 2 (by omega) (by omega)
  have w3 := hw 3 (by omega) (by omega)
  rw [show ((List.range 9).filter fun b : Nat => decide (levI 3 ring3 1 b ≠ -1) && decide (levI 3 ring3 1 b ≤ 1)) = [1, 2] by decide +kernel] at w1
  rw [show ((List.range 9).filter fun b : Nat => decide (levI 3 ring3 2 b ≠ -1) && decide (levI 3 ring3 2 b ≤ 1)) = [2, 3] by decide +kernel] at w2
  rw [show ((List.range 9).filter fun b : Nat => decide (levI 3 ring3 3 b ≠ -1) && decide (levI 3 ring3 3 b ≤ 1)) = [1, 3] by decide +kernel] at w3
  simp only [List.map_cons, List.map_nil] at w1 w2 w3
  have f1 := fun b => hf 1 b (by omega) (by omega)
  have f2 := fun b => hf 2 b (by omega) (by omega)
  have f3 := fun b => hf 3 b (by omega) (by omega)
  have w1' : within 3 ring3 1 1 9 = [1, 2] := w1
  have w2' : within 3 ring3 1 2 9 = [2, 3] := w2
  have w3' : within 3 ring3 1 3 9 = [1, 3] := w3
  have f1' : ∀ b, farI 3 ring3 1 1 b = if btw b 3 = true then levI 3 ring3 1 b.toNat else -1 := f1
  have f2' : ∀ b, farI 3 ring3 1 2 b = if btw b 3 = true then levI 3 ring3 2 b.toNat else -1 := f2
  have f3' : ∀ b, farI 3 ring3 1 3 b = if btw b 3 = true then levI 3 ring3 3 b.toNat else -1 := f3
  show rnd 3 ring3 1 3 = 1
  simp only [rnd, most, Int.natCast_zero, Int.zero_add, Int.natCast_one, show ((1 : Int) + 1) = 2 from rfl, show (((2 : Nat) : Int) + 1) = 3 from rfl, w1', w2', w3', List.foldl_cons, List.foldl_nil, f1', f2', f3']
  decide +kernel
end Go.Proofs.Ytipdggjalhjpnab
