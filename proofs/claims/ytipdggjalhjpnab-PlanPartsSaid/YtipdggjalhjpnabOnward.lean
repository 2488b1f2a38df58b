/-
  Topologies: the program's Onward.
-/
import Derived.Test.YtipdggjalhjpnabDelete
namespace Go.Proofs.Ytipdggjalhjpnab
open Go.RowKit
set_option linter.unusedSimpArgs false
set_option linter.unusedVariables false

theorem delete_nil (o : Int) (c : Nat) (w : World) (hc : w.cell? ⟨c, 0, none⟩ = some (.int .i64 o)) :
    Calls Try.prog 44 #[.slice none 0 0, fnV c] w fun e w' => e = .returned (.slice none 0 0) ∧ w' = w := by
  have hR : Rd w 1 (.slice none 0 0) ([] : List Int).length (ints []) := Rd.of_own (World.ownsRow_nil w 0 3 1)
  unfold fnV
  go_enter Try.func44, Try.ntmps44
  go_wp2_with (first | (go_at_call 49; refine (index_any _ [] o c _ hR hc).mono ?_; rintro e w2 ⟨i0, rfl, rfl, hi0⟩; rcases hi0 with ⟨rfl, hno⟩ | ⟨i0, rfl, hi1, hi2⟩; all_goals (try (simp at hi1))))
  go_ret
  exact ⟨rfl, rfl⟩
theorem delete_own (v : Value) (l : List Int) (o : Int) (c base : Nat) (w : World) (hown : w.ownsRow base 3 1 v l.length (ints l)) (hc : w.cell? ⟨c, 0, none⟩ = some (.int .i64 o)) (hcb : c < base) :
    Calls Try.prog 44 #[v, fnV c] w fun e w' => ∃ r, e = .returned r ∧ w'.ownsRow base 3 1 r (flt o l).length (ints (flt o l)) ∧ w.grownBy w' v.ownBlock := by
  rcases hown.2 with ⟨rfl, hl⟩ | ⟨g, cap, cur, rfl, hb, hg, hn, hm, hs, ht⟩
  · obtain rfl : l = [] := List.eq_nil_of_length_eq_zero hl
    refine (delete_nil o c w hc).mono ?_
    rintro e w' ⟨rfl, rfl⟩
    exact ⟨_, rfl, World.ownsRow_nil _ _ _ _, World.grownBy.refl _ _⟩
  · refine (delete_any g cap l o c base w hown hc (by omega)).mono ?_
    rintro e w' ⟨r, rfl, h1, h2⟩
    exact ⟨r, rfl, h1, h2⟩
/-- Where it goes on. -/
def onward (S : Int) (es : List (Int × Int)) (H o s : Int) : List Int := if farI S es H o s = -1 ∨ H ≤ farI S es H o s then [] else flt o (nextL S es H s)

set_option maxRecDepth 4000 in
set_option maxHeartbeats 800000 in
theorem onward_any (S H o s : Int) (ev : Value) (es : List (Int × Int)) (w : World) (hr : Rd w 2 ev es.length (edgeCells es)) :
    Calls Try.prog 23 #[topV S ev H, .int .i64 o, .int .i64 s] w fun e w' => ∃ v, e = .returned v ∧ w'.ownsRow w.heap.size 3 1 v (onward S es H o s).length (ints (onward S es H o s)) ∧ Below w.heap.size w w' := by
  have hB := Below.refl w.heap.size w
  have hA := (hB.alloc (Nat.le_refl _) (.cells #[.int .i64 S, ev, .int .i64 H] 24)).alloc (by simp) (.cells #[.int .i64 o] 3)
  have hx := hr.keep hA
  have T0 : ((w.alloc (.cells #[.int .i64 S, ev, .int .i64 H] 24)).alloc (.cells #[.int .i64 o] 3)).heap[w.heap.size]? = some (.cells #[.int .i64 S, ev, .int .i64 H] 24 (0, 0)) := (Below.heap_alloc _ _ _ (by simp)).trans (heap_alloc_new _ _)
  have T1 : ((w.alloc (.cells #[.int .i64 S, ev, .int .i64 H] 24)).alloc (.cells #[.int .i64 o] 3)).heap[w.heap.size + 1]? = some (.cells #[.int .i64 o] 3 (0, 0)) := by simpa using heap_alloc_new (w.alloc (.cells #[.int .i64 S, ev, .int .i64 H] 24)) (.cells #[.int .i64 o] 3)
  have T0 := Lib.hid T0
  have T1 := Lib.hid T1
  have hmf : ∀ (fn : Fn) (first cap : Array Value) (w : World), (Instr.makeFunc fn first cap).run Try.prog w = .ok (.func fn first cap) w := fun _ _ _ _ => rfl
  obtain ⟨z, hz⟩ : ∃ z, farI S es H o s = z := ⟨_, rfl⟩
  have HZ := Lib.hid hz
  have hO : onward S es H o s = if z = -1 ∨ H ≤ z then [] else flt o (nextL S es H s) := by rw [← hz]; rfl
  have HO := Lib.hid hO
  clear hz hO
  unfold topV
  by_cases h1 : z = -1
  · have hO := Lib.hid (show onward S es H o s = [] by rw [HO.out, if_pos (.inl h1)])
    go_enter Try.func23, Try.ntmps23
    go_wp2_with (first | (go_at_call 19; refine (far_any S H o s ev es _ hx).mono ?_; rintro e w1 ⟨rfl, hb⟩; rw [HZ.out]; have c0 := cells3 ((hb.block _ (lt_of_block T0.out)).trans T0.out); obtain ⟨c0, c1, c2⟩ := c0; replace hA := hA.trans (hb.mono hA.size)))
    go_ret
    exact ⟨_, rfl, by rw [hO.out]; exact World.ownsRow_nil _ _ _ _, hA⟩
  · by_cases h2 : H ≤ z
    · have hO := Lib.hid (show onward S es H o s = [] by rw [HO.out, if_pos (.inr h2)])
      go_enter Try.func23, Try.ntmps23
      go_wp2_with (first | (go_at_call 19; refine (far_any S H o s ev es _ hx).mono ?_; rintro e w1 ⟨rfl, hb⟩; rw [HZ.out]; have c0 := cells3 ((hb.block _ (lt_of_block T0.out)).trans T0.out); obtain ⟨c0, c1, c2⟩ := c0; replace hA := hA.trans (hb.mono hA.size)))
      go_ret
      exact ⟨_, rfl, by rw [hO.out]; exact World.ownsRow_nil _ _ _ _, hA⟩
    · have hO := Lib.hid (show onward S es H o s = flt o (nextL S es H s) by rw [HO.out, if_neg (fun h => h.elim h1 h2)])
      have h3 : z < H := by omega
      have h4 : decide (H ≤ z) = false := decide_eq_false h2
      have h5 : (z == -1) = false := by simp [h1]
      clear h2
      go_enter Try.func23, Try.ntmps23
      go_wp2_with (first | (go_at_call 19; refine (far_any S H o s ev es _ hx).mono ?_; rintro e w1 ⟨rfl, hb⟩; rw [HZ.out]; have t0 := (hb.block _ (lt_of_block T0.out)).trans T0.out; have t1 := (hb.block _ (lt_of_block T1.out)).trans T1.out; obtain ⟨c0, c1, c2⟩ := cells3 t0; replace hA := hA.trans (hb.mono hA.size); replace hx := hx.keep hb; have t0 := Lib.hid t0; have t1 := Lib.hid t1) | (go_at_call 17; refine (next_any S H s ev es _ hx).mono ?_; rintro e w2 ⟨v, rfl, hown, hb⟩; have hz1 := lt_of_block t1.out; have hsz1 := hA.size; have u1 := cell_of_one ((hb.block _ hz1).trans t1.out); have hA2 := hA.trans (hb.mono hA.size)) | (go_at_call 44; refine (delete_own v _ o (w.heap.size + 1) w1.heap.size _ hown u1 hz1).mono ?_; rintro e w3 ⟨r, rfl, ho3, hgr⟩))
      go_ret
      exact ⟨_, rfl, by rw [hO.out]; exact own_base ho3 hsz1, hA2.grown hgr (hA2.size) (fun k hk => Nat.le_trans hsz1 (hown.lt k hk).1)⟩
end Go.Proofs.Ytipdggjalhjpnab
