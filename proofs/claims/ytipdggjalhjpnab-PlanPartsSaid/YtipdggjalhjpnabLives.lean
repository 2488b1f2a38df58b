/-
  Topologies: the examples of the document.
-/
import Derived.Test.YtipdggjalhjpnabTop
namespace Go.Proofs.Ytipdggjalhjpnab
open Go.RowKit
set_option linter.unusedSimpArgs false
set_option linter.unusedVariables false

theorem rd_edges (w : World) : Rd (w.alloc (.cells #[.int .i64 1, .int .i64 2, .int .i64 2, .int .i64 3, .int .i64 3, .int .i64 1] 39)) 2 (.slice (some ⟨w.heap.size, 0, none⟩) 3 3) ring3.length (edgeCells ring3) := by
  refine ⟨rfl, _, _, rfl, Nat.le_refl _, by decide, (fun h => by cases h), fun _ => ⟨w.heap.size, 0, rfl, by simp, fun j u hj => ?_⟩⟩
  rw [World.cell?_alloc_at _ _ _ _ rfl]
  simpa [edgeCells, ring3] using hj
theorem rd_ints2 (w : World) (x y : Int) : Rd (w.alloc (.cells #[.int .i64 x, .int .i64 y] 3)) 1 (.slice (some ⟨w.heap.size, 0, none⟩) 2 2) [x, y].length (ints [x, y]) := by
  refine ⟨rfl, _, _, rfl, Nat.le_refl _, by decide, (fun h => by cases h), fun _ => ⟨w.heap.size, 0, rfl, by simp, fun j u hj => ?_⟩⟩
  rw [World.cell?_alloc_at _ _ _ _ rfl]
  simpa [ints] using hj
theorem below_drewN' {B m : Nat} {w0 w : World} (h : Below B w0 w) : Below B w0 (w.drewN m) := below_drewN h m

set_option maxRecDepth 4000 in
set_option maxHeartbeats 800000 in
theorem lives_any (w : World) :
    Calls Try.prog 13 #[] w fun e w' => e = .returned (.bool true) ∧ Below w.heap.size w w' := by
  have hB := (Below.refl w.heap.size w).alloc (Nat.le_refl _) (.cells #[.int .i64 1, .int .i64 2, .int .i64 2, .int .i64 3, .int .i64 3, .int .i64 1] 39)
  have h0 := Lib.hid (TopIn.mk2 (S := 3) (H := 1) (B := w.heap.size + 1) (w0 := w) _ (rd_edges w) (by simp) hB)
  go_enter Try.func13, Try.ntmps13
  go_wp2_with fail
  refine (good_any 3 1 _ ring3 _ h0.out.rd).mono ?_
  rintro e w1 ⟨rfl, hb⟩
  rw [ring3_ok]
  have h1 := Lib.hid (h0.out.next hb)
  obtain ⟨c0, c1, c2⟩ := h1.out.cells
  clear hb
  go_wp2_with fail
  refine (within_any 3 1 1 _ ring3 _ h1.out.rd).mono ?_
  rintro e w2 ⟨v, rfl, hown, hb⟩
  rw [ring3_within] at hown
  have h2 := Lib.hid (h1.out.next hb)
  clear hb c0 c1 c2
  obtain ⟨c0, c1, c2⟩ := h2.out.cells
  have hR := Lib.hid ((Rd.of_own hown).keep ((Below.refl _ _).alloc (Nat.le_refl _) (.cells #[.int .i64 1, .int .i64 2] 3)))
  clear hown
  go_wp2_with fail
  refine (ints_any _ _ [1, 2] [1, 2] _ hR.out (rd_ints2 w2 1 2)).mono ?_
  rintro e w3 ⟨rfl, m, rfl⟩
  have h3 := Lib.hid (h2.out.next (below_drewN ((Below.refl _ _).alloc (Nat.le_refl _) (.cells #[.int .i64 1, .int .i64 2] 3)) m))
  clear c0 c1 c2 hR
  generalize (w2.alloc (.cells #[.int .i64 1, .int .i64 2] 3)).drewN m = w3 at h3 ⊢
  obtain ⟨c0, c1, c2⟩ := h3.out.cells
  rw [show (([1, 2] : List Int) == [1, 2]) = true from rfl]
  go_wp2_with fail
  refine (onward_any 3 1 1 2 _ ring3 _ h3.out.rd).mono ?_
  rintro e w4 ⟨v4, rfl, hown, hb⟩
  rw [ring3_onward] at hown
  obtain ⟨a4, k4, rfl⟩ := rd_slice (Rd.of_own hown)
  have h4 := Lib.hid (h3.out.next hb)
  clear hb c0 c1 c2 hown
  obtain ⟨c0, c1, c2⟩ := h4.out.cells
  go_wp2_with fail
  refine (far_any 3 1 1 3 _ ring3 _ h4.out.rd).mono ?_
  rintro e w5 ⟨rfl, hb⟩
  rw [ring3_far3]
  have h5 := Lib.hid (h4.out.next hb)
  clear hb c0 c1 c2
  obtain ⟨c0, c1, c2⟩ := h5.out.cells
  go_wp2_with fail
  refine (rounds_any 3 1 _ ring3 _ h5.out.rd).mono ?_
  rintro e w6 ⟨rfl, hb⟩
  rw [ring3_rounds]
  have h6 := Lib.hid (h5.out.next hb)
  clear hb c0 c1 c2
  go_wp2
  go_ret
  exact ⟨rfl, h6.out.2.2⟩
end Go.Proofs.Ytipdggjalhjpnab
