/-
  Plans: where one comes to (the program's Sites, the reference's), and two small ones.
-/
import Derived.Test.YtipdggjalhjpnabShare
import Derived.Test.YtipdggjalhjpnabTri
namespace Go.Proofs.Ytipdggjalhjpnab
open Go.RowKit
set_option linter.unusedSimpArgs false
set_option linter.unusedVariables false

def greatB (n m : Int) : Bool := decide (100 < n) || decide (100 < m)
set_option maxHeartbeats 800000 in
theorem great_any (S H m : Int) (ev : Value) (es : List (Int × Int)) (w : World) (hr : Rd w 2 ev es.length (edgeCells es)) :
    Calls Try.prog 27 #[topV S ev H, .int .i64 m] w fun e w' => e = .returned (.bool (greatB es.length m)) ∧ Below w.heap.size w w' := by
  have hB := (Below.refl w.heap.size w).alloc (Nat.le_refl _) (.cells #[.int .i64 S, ev, .int .i64 H] 24)
  obtain ⟨ea, ek, rfl⟩ := rd_slice hr
  unfold topV
  by_cases h1 : 100 < es.length
  · have hg := Lib.hid (show greatB es.length m = true by unfold greatB; rw [decide_eq_true (by omega)]; rfl)
    go_enter Try.func27, Try.ntmps27
    go_wp2
    go_ret
    exact ⟨congrArg (fun z => Ending.returned (.bool z)) hg.out.symm, hB⟩
  · have hg := Lib.hid (show greatB es.length m = decide (100 < m) by unfold greatB; rw [decide_eq_false (by omega)]; rfl)
    have h2 : decide ((100 : Int) < (es.length : Int)) = false := decide_eq_false (by omega)
    have h3 : decide (100 < es.length) = false := decide_eq_false h1
    go_enter Try.func27, Try.ntmps27
    go_wp2
    go_ret
    exact ⟨congrArg (fun z => Ending.returned (.bool z)) hg.out.symm, hB⟩

set_option maxHeartbeats 800000 in
theorem edge2_any (w : World) : Calls Try.prog 46 #[] w fun e w' => ∃ ev, e = .returned (topV 2 ev 1) ∧ Rd w' 2 ev [((1 : Int), (2 : Int))].length (edgeCells [(1, 2)]) ∧ Below w.heap.size w w' := by
  go_enter Try.func46, Try.ntmps46
  go_wp2
  refine bodyPost_ret (v := topV 2 (.slice (some ⟨w.heap.size + 1, 0, none⟩) 1 1) 1) (by simp [results, Try.results46, go_sem, topV]) rfl ⟨_, rfl, ?_, ?_⟩
  · exact rdE (x := 1) (y := 2) (k := w.heap.size + 1) (by rw [heap_alloc_at]; simp)
  · exact ((Below.refl _ _).alloc (Nat.le_refl _) _).alloc (by simp) _

/-- Where one comes to. -/
def sitesL (S : Int) (es : List (Int × Int)) (H : Int) (p : Pub) : List Int := if p.fed = true then within S es H p.origin 9 else if okT S es H ∧ btw p.origin S = true then [p.origin] else []
theorem own_one (w : World) (x : Int) {base : Nat} (hb : base ≤ w.heap.size) : (w.alloc (.cells #[.int .i64 x] 3)).ownsRow base 3 1 (.slice (some ⟨w.heap.size, 0, none⟩) 1 1) 1 [.int .i64 x] :=
  ⟨rfl, .inr ⟨w.heap.size, 1, #[.int .i64 x], rfl, hb, heap_alloc_new _ _, Nat.le_refl _, by decide, rfl, rfl⟩⟩
theorem far_self_or (S : Int) (es : List (Int × Int)) (H a : Int) : farI S es H a a = if okT S es H ∧ btw a S = true then 0 else -1 := by
  by_cases h : okT S es H ∧ btw a S = true
  · rw [if_pos h]
    obtain ⟨hT, hb⟩ := h
    obtain ⟨x, rfl, hx1, hx2⟩ := btw_nat hb
    rw [far_in hT hb hb]
    simp only [Int.toNat_natCast]
    have := lev_le hT.2.2.2.2 hT.2.1 hx1 hx2 (b := x) (k := 0) (by simp [rch])
    omega
  · rw [if_neg h]
    have := farI_bd S es H a a
    rcases this with h1 | h1
    · exact h1
    · obtain ⟨hT, hb, _⟩ := far_pos h1
      exact absurd ⟨hT, hb⟩ h

set_option maxRecDepth 4000 in
set_option maxHeartbeats 800000 in
theorem sites_any (S H : Int) (ev : Value) (es : List (Int × Int)) (p : Pub) (w : World) (hr : Rd w 2 ev es.length (edgeCells es)) :
    Calls Try.prog 34 #[topV S ev H, .agg #[.int .i64 p.origin, .int .u64 p.seq, .bool p.fed]] w fun e w' => ∃ v, e = .returned v ∧ w'.ownsRow w.heap.size 3 1 v (sitesL S es H p).length (ints (sitesL S es H p)) ∧ Below w.heap.size w w' := by
  obtain ⟨o, s, f⟩ := p
  have hT0 := Lib.hid ((TopIn.mk1 (S := S) (H := H) w hr).alloc (.cells #[.int .i64 o, .int .u64 s, .bool f] 62))
  have hP0 : ((w.alloc (.cells #[.int .i64 S, ev, .int .i64 H] 24)).alloc (.cells #[.int .i64 o, .int .u64 s, .bool f] 62)).heap[w.heap.size + 1]? = some (.cells #[.int .i64 o, .int .u64 s, .bool f] 62 (0, 0)) := by
    rw [heap_alloc_at]; simp
  have hP0 := Lib.hid hP0
  unfold topV
  cases f with
  | true =>
    have hS := Lib.hid (show sitesL S es H ⟨o, s, true⟩ = within S es H o 9 from rfl)
    go_enter Try.func34, Try.ntmps34
    go_wp2_with fail
    refine (within_any S H o _ es _ hT0.out.rd).mono ?_
    rintro e w1 ⟨v, rfl, hown, hb⟩
    have hz := hT0.out.size
    have hB := (hT0.out.next hb).below
    go_wp2
    go_ret
    exact ⟨_, rfl, by rw [hS.out]; exact own_base hown hz, hB⟩
  | false =>
    by_cases hk : okT S es H ∧ btw o S = true
    · have hS := Lib.hid (show sitesL S es H ⟨o, s, false⟩ = [o] from by unfold sitesL; rw [if_neg (by simp), if_pos hk])
      have hF := Lib.hid (show farI S es H o o = 0 by rw [far_self_or, if_pos hk])
      clear hk
      go_enter Try.func34, Try.ntmps34
      go_wp2_with fail
      refine (far_any S H o o _ es _ hT0.out.rd).mono ?_
      rintro e w1 ⟨rfl, hb⟩
      rw [hF.out]
      have hT1 := Lib.hid (hT0.out.next hb)
      have hP1 := (hb.block _ (lt_of_block hP0.out)).trans hP0.out
      obtain ⟨d0, d1, d2⟩ := cells3 hP1
      have hz := hT1.out.size
      clear hP1
      go_wp2
      go_ret
      exact ⟨_, rfl, by rw [hS.out]; exact own_one _ _ hz, hT1.out.below.alloc hz _⟩
    · have hS := Lib.hid (show sitesL S es H ⟨o, s, false⟩ = [] from by unfold sitesL; rw [if_neg (by simp), if_neg hk])
      have hF := Lib.hid (show farI S es H o o = -1 by rw [far_self_or, if_neg hk])
      clear hk
      go_enter Try.func34, Try.ntmps34
      go_wp2_with fail
      refine (far_any S H o o _ es _ hT0.out.rd).mono ?_
      rintro e w1 ⟨rfl, hb⟩
      rw [hF.out]
      have hT1 := Lib.hid (hT0.out.next hb)
      go_wp2
      go_ret
      exact ⟨_, rfl, by rw [hS.out]; exact World.ownsRow_nil _ _ _ _, hT1.out.below⟩

set_option maxRecDepth 4000 in
set_option maxHeartbeats 800000 in
theorem rsites_any (S H : Int) (ev : Value) (es : List (Int × Int)) (p : Pub) (w : World) (hr : Rd w 2 ev es.length (edgeCells es)) :
    Calls Try.prog 35 #[topV S ev H, .agg #[.int .i64 p.origin, .int .u64 p.seq, .bool p.fed]] w fun e w' => ∃ v, e = .returned v ∧ w'.ownsRow w.heap.size 3 1 v (sitesL S es H p).length (ints (sitesL S es H p)) ∧ Below w.heap.size w w' := by
  obtain ⟨o, s, f⟩ := p
  have hT0 := Lib.hid ((TopIn.mk1 (S := S) (H := H) w hr).alloc (.cells #[.int .i64 o, .int .u64 s, .bool f] 65))
  have hP0 : ((w.alloc (.cells #[.int .i64 S, ev, .int .i64 H] 24)).alloc (.cells #[.int .i64 o, .int .u64 s, .bool f] 65)).heap[w.heap.size + 1]? = some (.cells #[.int .i64 o, .int .u64 s, .bool f] 65 (0, 0)) := by
    rw [heap_alloc_at]; simp
  have hP0 := Lib.hid hP0
  unfold topV
  cases f with
  | true =>
    have hS := Lib.hid (show sitesL S es H ⟨o, s, true⟩ = within S es H o 9 from rfl)
    go_enter Try.func35, Try.ntmps35
    go_wp2_with fail
    refine (rwithin_any S H o _ es _ hT0.out.rd).mono ?_
    rintro e w1 ⟨v, rfl, hown, hb⟩
    have hz := hT0.out.size
    have hB := (hT0.out.next hb).below
    go_wp2
    go_ret
    exact ⟨_, rfl, by rw [hS.out]; exact own_base hown hz, hB⟩
  | false =>
    obtain ⟨ok, hok⟩ : ∃ ok, decide (okT S es H) = ok := ⟨_, rfl⟩
    have Hok := Lib.hid hok
    clear hok
    cases ok with
    | false =>
      have hS := Lib.hid (show sitesL S es H ⟨o, s, false⟩ = [] from by unfold sitesL; rw [if_neg (by simp), if_neg (fun h => of_decide_eq_false Hok.out h.1)])
      go_enter Try.func35, Try.ntmps35
      go_wp2_with fail
      refine (rgood_any S H _ es _ hT0.out.rd).mono ?_
      rintro e w1 ⟨rfl, hb⟩
      rw [Hok.out]
      have hT1 := Lib.hid (hT0.out.next hb)
      go_wp2
      go_ret
      exact ⟨_, rfl, by rw [hS.out]; exact World.ownsRow_nil _ _ _ _, hT1.out.below⟩
    | true =>
      by_cases h1 : o < 1
      · have hS := Lib.hid (show sitesL S es H ⟨o, s, false⟩ = [] from by unfold sitesL; rw [if_neg (by simp), if_neg (fun h => by have := h.2; simp [btw] at this; omega)])
        go_enter Try.func35, Try.ntmps35
        go_wp2_with fail
        refine (rgood_any S H _ es _ hT0.out.rd).mono ?_
        rintro e w1 ⟨rfl, hb⟩
        rw [Hok.out]
        have hT1 := Lib.hid (hT0.out.next hb)
        have hP1 := (hb.block _ (lt_of_block hP0.out)).trans hP0.out
        obtain ⟨d0, d1, d2⟩ := cells3 hP1
        clear hP1
        go_wp2
        go_ret
        exact ⟨_, rfl, by rw [hS.out]; exact World.ownsRow_nil _ _ _ _, hT1.out.below⟩
      · have h1' : 1 ≤ o := by omega
        have h1b : decide (o < 1) = false := decide_eq_false h1
        clear h1
        by_cases h2 : S < o
        · have hS := Lib.hid (show sitesL S es H ⟨o, s, false⟩ = [] from by unfold sitesL; rw [if_neg (by simp), if_neg (fun h => by have := h.2; simp [btw] at this; omega)])
          go_enter Try.func35, Try.ntmps35
          go_wp2_with fail
          refine (rgood_any S H _ es _ hT0.out.rd).mono ?_
          rintro e w1 ⟨rfl, hb⟩
          rw [Hok.out]
          have hT1 := Lib.hid (hT0.out.next hb)
          have hP1 := (hb.block _ (lt_of_block hP0.out)).trans hP0.out
          obtain ⟨d0, d1, d2⟩ := cells3 hP1
          obtain ⟨c0, c1, c2⟩ := hT1.out.cells
          clear hP1
          go_wp2
          go_ret
          exact ⟨_, rfl, by rw [hS.out]; exact World.ownsRow_nil _ _ _ _, hT1.out.below⟩
        · have h2' : o ≤ S := by omega
          have h2b : decide (S < o) = false := decide_eq_false h2
          clear h2
          have hS := Lib.hid (show sitesL S es H ⟨o, s, false⟩ = [o] from by unfold sitesL; rw [if_neg (by simp), if_pos ⟨of_decide_eq_true Hok.out, by simp [btw]; omega⟩])
          go_enter Try.func35, Try.ntmps35
          go_wp2_with fail
          refine (rgood_any S H _ es _ hT0.out.rd).mono ?_
          rintro e w1 ⟨rfl, hb⟩
          rw [Hok.out]
          have hT1 := Lib.hid (hT0.out.next hb)
          have hP1 := (hb.block _ (lt_of_block hP0.out)).trans hP0.out
          obtain ⟨d0, d1, d2⟩ := cells3 hP1
          obtain ⟨c0, c1, c2⟩ := hT1.out.cells
          have hz := hT1.out.size
          clear hP1
          go_wp2
          go_ret
          exact ⟨_, rfl, by rw [hS.out]; exact own_one _ _ hz, hT1.out.below.alloc hz _⟩
end Go.Proofs.Ytipdggjalhjpnab
