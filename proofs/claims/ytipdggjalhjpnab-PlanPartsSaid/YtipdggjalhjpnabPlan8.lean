/-
  Plans: the example of the document.
-/
import Derived.Test.YtipdggjalhjpnabPlan7
import Derived.Test.YtipdggjalhjpnabLives
namespace Go.Proofs.Ytipdggjalhjpnab
open Go.RowKit
set_option linter.unusedSimpArgs false
set_option linter.unusedVariables false

theorem edge2_sites : sitesL 2 [(1, 2)] 1 ⟨1, 1, true⟩ = [1, 2] := by decide +kernel
theorem edge2_most : mostN 2 [(1, 2)] 1 [⟨1, 1, true⟩] = 1 := by decide +kernel
theorem edge2_lacks : (lacksL 2 [(1, 2)] 1 [] [⟨1, 1, true⟩]).length = 2 := by decide +kernel
/-- The box of an id. -/
def PubIn (p : Pub) (w0 w : World) : Prop := w.heap[w0.heap.size]? = some (.cells #[.int .i64 p.origin, .int .u64 p.seq, .bool p.fed] 62 (0, 0)) ∧ Below w0.heap.size w0 w
theorem PubIn.mk1 (p : Pub) (w : World) : PubIn p w (w.alloc (.cells #[.int .i64 p.origin, .int .u64 p.seq, .bool p.fed] 62)) := ⟨heap_alloc_new _ _, (Below.refl _ _).alloc (Nat.le_refl _) _⟩
theorem PubIn.next {p : Pub} {w0 w w' : World} (h : PubIn p w0 w) (hb : Below w.heap.size w w') : PubIn p w0 w' := ⟨(hb.block _ (lt_of_block h.1)).trans h.1, h.2.trans (hb.mono h.2.size)⟩
theorem PubIn.drew {p : Pub} {w0 w : World} (h : PubIn p w0 w) : PubIn p w0 w.drew := ⟨h.1, below_drew h.2⟩
theorem PubIn.drewN {p : Pub} {w0 w : World} (h : PubIn p w0 w) (m : Nat) : PubIn p w0 (w.drewN m) := h.next (below_drewN (Below.refl _ _) m)
theorem PubIn.alloc {p : Pub} {w0 w : World} (h : PubIn p w0 w) (o : Obj) : PubIn p w0 (w.alloc o) := h.next ((Below.refl _ _).alloc (Nat.le_refl _) _)
theorem PubIn.cells {p : Pub} {w0 w : World} (h : PubIn p w0 w) : w.cell? ⟨w0.heap.size, 0, none⟩ = some (.int .i64 p.origin) ∧ w.cell? ⟨w0.heap.size, 1, none⟩ = some (.int .u64 p.seq) ∧ w.cell? ⟨w0.heap.size, 2, none⟩ = some (.bool p.fed) := cells3 h.1
theorem PubIn.below {p : Pub} {w0 w : World} (h : PubIn p w0 w) : Below w0.heap.size w0 w := h.2
theorem Rd.al {w : World} {size n : Nat} {v : Value} {cs : List Value} (h : Rd w size v n cs) (o : Obj) : Rd (w.alloc o) size v n cs := h.keep ((Below.refl _ _).alloc (Nat.le_refl _) _)
theorem rd_pub1 (w : World) (p : Pub) : Rd (w.alloc (.cells #[.int .i64 p.origin, .int .u64 p.seq, .bool p.fed] 62)) 3 (.slice (some ⟨w.heap.size, 0, none⟩) 1 1) [p].length ([p].flatMap Pub.cs) :=
  rd_blk (n := 1) (size := 3) (cs := #[.int .i64 p.origin, .int .u64 p.seq, .bool p.fed]) (t := 62) (heap_alloc_new _ _) rfl (by unfold maxLen; omega)
theorem rd_nil (w : World) (size : Nat) : Rd w size (.slice none 0 0) 0 [] := ⟨by simp, none, 0, rfl, Nat.le_refl _, by decide, (fun _ => ⟨rfl, rfl⟩), fun h => absurd h (by omega)⟩

theorem rd_pub1k {w : World} {k : Nat} (p : Pub) (hk : k = w.heap.size) : Rd (w.alloc (.cells #[.int .i64 p.origin, .int .u64 p.seq, .bool p.fed] 62)) 3 (.slice (some ⟨k, 0, none⟩) 1 1) [p].length ([p].flatMap Pub.cs) := hk ▸ rd_pub1 w p
theorem rd_ints2k {w : World} {k : Nat} (x y : Int) (hk : k = w.heap.size) : Rd (w.alloc (.cells #[.int .i64 x, .int .i64 y] 3)) 1 (.slice (some ⟨k, 0, none⟩) 2 2) [x, y].length (ints [x, y]) := hk ▸ rd_ints2 w x y
theorem size_drewN (w : World) (m : Nat) : (w.drewN m).heap.size = w.heap.size := rfl
theorem size_drew' (w : World) : w.drew.heap.size = w.heap.size := rfl
set_option maxRecDepth 8000 in
set_option maxHeartbeats 3200000 in
theorem lives2_any (w : World) :
    Calls Try.prog 28 #[] w fun e w' => e = .returned (.bool true) ∧ Below w.heap.size w w' := by
  have hP := Lib.hid (PubIn.mk1 ⟨1, 1, true⟩ w)
  have hmx : Try.prog.follows .mixedOrders = true := by kernel_rfl
  go_enter Try.func28, Try.ntmps28
  go_wp2_with fail
  have hT := hP.out
  obtain ⟨c0, c1, c2⟩ := hP.out.cells
  simp only at c0 c1 c2
  go_region_held3 (fun w' => PubIn ⟨1, 1, true⟩ w w' ∧ w'.cell? ⟨w.heap.size, 0, none⟩ = some (.int .i64 1) ∧ w'.cell? ⟨w.heap.size, 1, none⟩ = some (.int .u64 1) ∧ w'.cell? ⟨w.heap.size, 2, none⟩ = some (.bool true))
      (first | exact ⟨hT.drew, hT.drew.cells⟩ | (go_split_ands; have hTq := PubIn.next (by assumption) hb; exact ⟨hTq, hTq.cells⟩) | (go_split_ands; exact ⟨PubIn.alloc (by assumption) _, (PubIn.alloc (by assumption) _ : PubIn ⟨1, 1, true⟩ w _).cells⟩) | (go_split_ands; exact ⟨PubIn.drewN (by assumption) _, (PubIn.drewN (by assumption) _ : PubIn ⟨1, 1, true⟩ w _).cells⟩))
      (first
        | (go_at_call 46; refine (edge2_any _).mono ?_; rintro e w1 ⟨ev, rfl, hr, hb⟩)
        | (go_at_call 34; refine (sites_any 2 1 _ [(1, 2)] ⟨1, 1, true⟩ _ ?_).mono ?_; (repeat (first | assumption | exact rd_ints2k _ _ (by simp [size_drewN, size_drew']) | exact rd_pub1k ⟨1, 1, true⟩ (by simp [size_drewN, size_drew']) | refine Rd.al ?_ _ | refine Rd.keep ?_ (by assumption))); rintro e w2 ⟨v2, rfl, hown, hb⟩; rw [edge2_sites] at hown; have hRs := Rd.of_own hown)
        | (go_at_call 16; refine (ints_any _ _ [1, 2] [1, 2] _ ?_ ?_).mono ?_; (repeat (first | assumption | exact rd_ints2k _ _ (by simp [size_drewN, size_drew']) | exact rd_pub1k ⟨1, 1, true⟩ (by simp [size_drewN, size_drew']) | refine Rd.al ?_ _ | refine Rd.keep ?_ (by assumption))); (repeat (first | assumption | exact rd_ints2k _ _ (by simp [size_drewN, size_drew']) | exact rd_pub1k ⟨1, 1, true⟩ (by simp [size_drewN, size_drew']) | refine Rd.al ?_ _ | refine Rd.keep ?_ (by assumption))); rintro e w3 ⟨rfl, m, rfl⟩; rw [beq_self_eq_true])
        | (go_at_call 32; refine (most_any 2 1 _ _ [(1, 2)] [⟨1, 1, true⟩] _ (by decide) ?_ ?_).mono ?_; (repeat (first | assumption | exact rd_ints2k _ _ (by simp [size_drewN, size_drew']) | exact rd_pub1k ⟨1, 1, true⟩ (by simp [size_drewN, size_drew']) | refine Rd.al ?_ _ | refine Rd.keep ?_ (by assumption))); (repeat (first | assumption | exact rd_ints2k _ _ (by simp [size_drewN, size_drew']) | exact rd_pub1k ⟨1, 1, true⟩ (by simp [size_drewN, size_drew']) | refine Rd.al ?_ _ | refine Rd.keep ?_ (by assumption))); rintro e w4 ⟨rfl, hb⟩; rw [edge2_most])
        | (go_at_call 29; refine (lacks_any 2 1 _ _ _ [(1, 2)] [⟨1, 1, true⟩] [] _ (by decide) (by decide) ?_ ?_ (rd_nil _ _)).mono ?_; (repeat (first | assumption | exact rd_ints2k _ _ (by simp [size_drewN, size_drew']) | exact rd_pub1k ⟨1, 1, true⟩ (by simp [size_drewN, size_drew']) | refine Rd.al ?_ _ | refine Rd.keep ?_ (by assumption))); (repeat (first | assumption | exact rd_ints2k _ _ (by simp [size_drewN, size_drew']) | exact rd_pub1k ⟨1, 1, true⟩ (by simp [size_drewN, size_drew']) | refine Rd.al ?_ _ | refine Rd.keep ?_ (by assumption))); rintro e w4 ⟨v4, rfl, hown, hb⟩; rw [edge2_lacks] at hown; obtain ⟨a4, k4, rfl⟩ := rd_slice (Rd.of_own hown)))
  all_goals
    go_wp2
    go_ret
    go_split_ands
    exact ⟨rfl, PubIn.below (by assumption)⟩
end Go.Proofs.Ytipdggjalhjpnab
