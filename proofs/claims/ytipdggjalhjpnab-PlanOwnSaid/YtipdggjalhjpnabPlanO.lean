/-
  Plans: what comes to its origin alone (the law of own).
-/
import Derived.Test.YtipdggjalhjpnabOPlain
namespace Go.Proofs.Ytipdggjalhjpnab
open Go.RowKit
set_option linter.unusedSimpArgs false
set_option linter.unusedVariables false

/-- The topology, the id and its copy in their boxes, and where it comes to. -/
def OwnIn (Q : Nat) (S H : Int) (ev : Value) (es : List (Int × Int)) (w0 : World) (o s : Int) (f : Bool) (u : Value) (l : List Int) (W : World) : Prop :=
  TopIn w0.heap.size S H ev es w0 W ∧ W.heap[w0.heap.size + 1]? = some (.cells #[.int .i64 o, .int .u64 s, .bool f] 62 (0, 0)) ∧ W.heap[Q]? = some (.cells #[.int .i64 o, .int .u64 s, .bool false] 62 (0, 0)) ∧ Rd W 1 u l.length (ints l)
section
variable {Q : Nat} {S H : Int} {ev : Value} {es : List (Int × Int)} {w0 : World} {o s : Int} {f : Bool} {u : Value} {l : List Int} {W W' : World}
theorem OwnIn.next (h : OwnIn Q S H ev es w0 o s f u l W) (hb : Below W.heap.size W W') : OwnIn Q S H ev es w0 o s f u l W' :=
  ⟨h.1.next hb, (hb.block _ (lt_of_block h.2.1)).trans h.2.1, (hb.block _ (lt_of_block h.2.2.1)).trans h.2.2.1, h.2.2.2.keep hb⟩
theorem OwnIn.drew (h : OwnIn Q S H ev es w0 o s f u l W) : OwnIn Q S H ev es w0 o s f u l W.drew := h.next (below_drew (Below.refl _ _))
theorem OwnIn.alloc (h : OwnIn Q S H ev es w0 o s f u l W) (x : Obj) : OwnIn Q S H ev es w0 o s f u l (W.alloc x) := h.next ((Below.refl _ _).alloc (Nat.le_refl _) _)
theorem OwnIn.top (h : OwnIn Q S H ev es w0 o s f u l W) : TopIn w0.heap.size S H ev es w0 W := h.1
theorem OwnIn.rd (h : OwnIn Q S H ev es w0 o s f u l W) : Rd W 2 ev es.length (edgeCells es) := h.1.rd
theorem OwnIn.pcells (h : OwnIn Q S H ev es w0 o s f u l W) : W.cell? ⟨w0.heap.size + 1, 0, none⟩ = some (.int .i64 o) ∧ W.cell? ⟨w0.heap.size + 1, 1, none⟩ = some (.int .u64 s) ∧ W.cell? ⟨w0.heap.size + 1, 2, none⟩ = some (.bool f) := cells3 h.2.1
theorem OwnIn.qcells (h : OwnIn Q S H ev es w0 o s f u l W) : W.cell? ⟨Q, 0, none⟩ = some (.int .i64 o) ∧ W.cell? ⟨Q, 1, none⟩ = some (.int .u64 s) ∧ W.cell? ⟨Q, 2, none⟩ = some (.bool false) := cells3 h.2.2.1
end

theorem own_cell0 {Q : Nat} {S H : Int} {ev : Value} {es : List (Int × Int)} {w0 : World} {o s : Int} {f : Bool} {b off uc : Nat} {W : World} (h : OwnIn Q S H ev es w0 o s f (.slice (some ⟨b, off, none⟩) 1 uc) [o] W) : W.cell? ⟨b, off, none⟩ = some (.int .i64 o) := by
  obtain ⟨_, a', cap', ee, _, _, _, h4⟩ := h.2.2.2
  obtain ⟨b', off', rfl, hbb, hcell⟩ := h4 (by simp)
  have l0 := hcell 0 (.int .i64 o) (by simp [ints])
  simp at ee
  obtain ⟨⟨rfl, rfl⟩, rfl⟩ := ee
  simpa using l0

theorem TopIn.hops {S H : Int} {ev : Value} {es : List (Int × Int)} {w0 W : World} (hr : Rd w0 2 ev es.length (edgeCells es)) (h : TopIn w0.heap.size S H ev es w0 W) (N : Int) : TopIn w0.heap.size S N ev es w0 (W.setCell ⟨w0.heap.size, 2, none⟩ (.int .i64 N)) := by
  have hb := h.2.2.setCell (p := ⟨w0.heap.size, 2, none⟩) (Nat.le_refl _) (.int .i64 N)
  exact ⟨by rw [heap_setCell_same _ _ _ _ _ _ h.1]; rfl, hr.keep hb, hb⟩

set_option maxRecDepth 8000 in
set_option maxHeartbeats 3200000 in
theorem planOwn_any (S H : Int) (ev : Value) (es : List (Int × Int)) (p : Pub) (w : World) (hr : Rd w 2 ev es.length (edgeCells es)) :
    Calls Try.prog 10 #[topV S ev H, .agg #[.int .i64 p.origin, .int .u64 p.seq, .bool p.fed]] w fun e w' => e = .returned (.bool true) ∧ Below w.heap.size w w' := by
  obtain ⟨o, s, f⟩ := p
  have hT0 := Lib.hid ((TopIn.mk1 (S := S) (H := H) w hr).alloc (.cells #[.int .i64 o, .int .u64 s, .bool f] 62))
  have hP0 : ((w.alloc (.cells #[.int .i64 S, ev, .int .i64 H] 24)).alloc (.cells #[.int .i64 o, .int .u64 s, .bool f] 62)).heap[w.heap.size + 1]? = some (.cells #[.int .i64 o, .int .u64 s, .bool f] 62 (0, 0)) := by
    rw [heap_alloc_at]; simp
  have HP0 := Lib.hid hP0
  obtain ⟨c0, c1, c2⟩ := hT0.out.cells
  clear hP0
  unfold topV
  go_enter Try.func10, Try.ntmps10
  go_wp2_with fail
  refine (great_any S H _ _ es _ hT0.out.rd).mono ?_
  rintro e w1 ⟨rfl, hb⟩
  have hT1 := Lib.hid (hT0.out.next hb)
  have HP1 := Lib.hid ((hb.block _ (lt_of_block HP0.out)).trans HP0.out)
  clear hb hT0 HP0 c0 c1 c2
  generalize hg : greatB _ _ = g
  cases g with
  | true =>
    go_wp2_with fail
    refine (lives2_any _).mono ?_
    rintro e w2 ⟨rfl, hb⟩
    have hT2 := Lib.hid (hT1.out.next hb)
    clear hb
    go_wp2
    go_ret
    exact ⟨rfl, hT2.out.below⟩
  | false =>
    clear hg
    obtain ⟨c0, c1, c2⟩ := hT1.out.cells
    obtain ⟨p0, p1, p2⟩ := cells3 HP1.out
    have z1 := hT1.out.lt
    have z2 := lt_of_block HP1.out
    have hT2 := Lib.hid (hT1.out.alloc (.cells #[.int .i64 o, .int .u64 s, .bool false] 62))
    go_wp2_with fail
    refine (sites_any S H _ es ⟨o, s, false⟩ _ hT2.out.rd).mono ?_
    rintro e w2 ⟨u, rfl, hown, hb⟩
    rw [sites_own] at hown
    have HP2 := (hb.block _ (by simp; omega)).trans ((Below.heap_alloc _ _ _ z2).trans HP1.out)
    have HQ2 := (hb.block w1.heap.size (by simp)).trans (heap_alloc_new _ _)
    have HT2 := hT2.out.next hb
    have HR2 := Rd.of_own hown
    obtain ⟨ua, uc, rfl⟩ := rd_slice HR2
    generalize hL : (if okT S es H ∧ btw o S = true then [o] else []) = L at HR2 HT2
    have hO2 := Lib.hid (show OwnIn w1.heap.size S H ev es w o s f _ L w2 from ⟨HT2, HP2, HQ2, HR2⟩)
    have hq : w.heap.size + 1 < w1.heap.size := z2
    clear HT2 HP2 HQ2 HR2 hown hb hT2 c0 c1 c2 p0 p1 p2 hT1 HP1
    obtain ⟨c0, c1, c2⟩ := hO2.out.1.cells
    obtain ⟨g, hg⟩ : ∃ g, decide (okT S es H ∧ btw o S = true) = g := ⟨_, rfl⟩
    have hgo : decide (okT S es H) = false → g = false := by
      intro h
      rw [← hg]
      exact decide_eq_false fun k => of_decide_eq_false h k.1
    have hgy : decide (okT S es H) = true → g = btw o S := by
      intro h
      rw [← hg]
      have := of_decide_eq_true h
      cases btw o S <;> simp [this]
    have hLg : L = if g = true then [o] else [] := by
      rw [← hL, ← hg]
      by_cases hh : okT S es H ∧ btw o S = true
      · rw [if_pos hh, decide_eq_true hh, if_pos rfl]
      · rw [if_neg hh, decide_eq_false hh, if_neg (by decide)]
    have HG := Lib.hid (And.intro hgo hgy)
    have HLg := Lib.hid hLg
    have Hg := Lib.hid hg
    clear hgo hgy hL hLg hg
    go_upto_region 6 with fail
    go_cut [7] (fun v wx => v = .bool g ∧ OwnIn w1.heap.size S H ev es w o s f (.slice ua L.length uc) L wx)
    case first =>
      go_wp2_with fail
      refine (good_any S H _ es _ hO2.out.rd).mono ?_
      rintro e w3 ⟨rfl, hb⟩
      have hO3 := Lib.hid (hO2.out.next hb)
      clear hb hO2 c0 c1 c2
      obtain ⟨c0, c1, c2⟩ := hO3.out.1.cells
      obtain ⟨p0, p1, p2⟩ := hO3.out.pcells
      obtain ⟨hgo, hgy⟩ := HG.out
      generalize decide (okT S es H) = t at hgo hgy ⊢
      cases t with
      | false =>
        obtain rfl := hgo rfl
        clear hgo hgy
        go_wp2
        go_meet
        exact ⟨rfl, hO3.out⟩
      | true =>
        have hgb := hgy rfl
        clear hgo hgy
        by_cases h1 : 1 ≤ o
        · by_cases h2 : o ≤ S
          · have : g = true := by rw [hgb]; simp [btw, h1, h2]
            subst this
            clear hgb
            go_wp2
            go_meet
            exact ⟨rfl, hO3.out⟩
          · have : g = false := by rw [hgb]; simp [btw, h2]
            subst this
            have h2' : S < o := by omega
            clear hgb h2
            go_wp2
            go_meet
            exact ⟨by first | (simp; done) | (simp; omega), hO3.out⟩
        · have : g = false := by rw [hgb]; simp [btw, h1]
          subst this
          have h1' : o < 1 := by omega
          clear hgb h1
          go_wp2
          go_meet
          exact ⟨by first | (simp; done) | (simp; omega), hO3.out⟩
    case rest =>
      obtain ⟨rfl, hO⟩ := hcut
      rename World => w4
      have hO4 := Lib.hid hO
      clear hO hO2 c0 c1 c2
      have hmx : Try.prog.follows .mixedOrders = true := by kernel_rfl
      have hO := hO4.out
      obtain ⟨c0, c1, c2⟩ := hO.1.cells
      obtain ⟨p0, p1, p2⟩ := hO.pcells
      obtain ⟨q0, q1, q2⟩ := hO.qcells
      have hLg := HLg.out
      go_upto_region 7 with fail
      go_cut [65] (fun v wx => v = .bool false ∧ ∃ u' l', OwnIn w1.heap.size S H ev es w o s f u' l' wx)
      case first =>
        cases g with
        | true =>
          rw [if_pos rfl] at hLg
          subst hLg
          obtain ⟨_, a', cap', ee, _, _, _, h4⟩ := hO.2.2.2
          obtain ⟨rfl, rfl⟩ : ua = a' ∧ uc = cap' := by simpa using ee
          obtain ⟨b, off, rfl, hbb, hcell⟩ := h4 (by simp)
          have l0 := hcell 0 (.int .i64 o) (by simp [ints])
          simp only [Nat.add_zero] at l0
          clear h4 ee hcell
          simp only [List.length_cons, List.length_nil, Nat.zero_add] at hO ⊢
          clear l0
          have hO4' := hO.drew
          clear hO c0 c1 c2 p0 p1 p2 q0 q1 q2
          refine wp_region_held_drew (S := fun w' => OwnIn w1.heap.size S H ev es w o s f (.slice (some ⟨b, off, none⟩) 1 uc) [o] w') hmx hO4' (fun hS => ?_)
          refine wpAnyH_take (i := 0) (v := .bool true) rfl (by kernel_rfl) (by kernel_rfl) (by kernel_rfl) (fun _ _ _ h => h) (Or.inl ⟨by rfl, ?_⟩) hS ?_
          · intro w' _; go_simp
          try simp only [List.getElem_toArray, List.getElem_cons_zero, List.getElem_cons_succ, Act.put, List.setIfInBounds_toArray, List.set_cons_zero, List.set_cons_succ]
          refine wpAnyH_take (i := 1) (v := (.slice (some ⟨b, off, none⟩) 1 uc)) rfl (by kernel_rfl) (by kernel_rfl) (by kernel_rfl) (fun _ _ _ h => h) (Or.inl ⟨by rfl, ?_⟩) hS ?_
          · intro w' _; go_simp
          try simp only [List.getElem_toArray, List.getElem_cons_zero, List.getElem_cons_succ, Act.put, List.setIfInBounds_toArray, List.set_cons_zero, List.set_cons_succ]
          refine wpAnyH_take (i := 2) (v := .int .i64 1) rfl (by kernel_rfl) (by kernel_rfl) (by kernel_rfl) (fun _ _ _ h => h) (Or.inl ⟨by rfl, ?_⟩) hS ?_
          · intro w' _; go_simp
          try simp only [List.getElem_toArray, List.getElem_cons_zero, List.getElem_cons_succ, Act.put, List.setIfInBounds_toArray, List.set_cons_zero, List.set_cons_succ]
          refine wpAnyH_take (i := 3) (v := .bool true) rfl (by kernel_rfl) (by kernel_rfl) (by kernel_rfl) (fun _ _ _ h => h) (Or.inl ⟨by rfl, ?_⟩) hS ?_
          · intro w' _; go_simp
          try simp only [List.getElem_toArray, List.getElem_cons_zero, List.getElem_cons_succ, Act.put, List.setIfInBounds_toArray, List.set_cons_zero, List.set_cons_succ]
          refine wpAnyH_take (i := 4) (v := .bool true) rfl (by kernel_rfl) (by kernel_rfl) (by kernel_rfl) (fun _ _ _ h => h) (Or.inl ⟨by rfl, ?_⟩) hS ?_
          · intro w' _; go_simp
          try simp only [List.getElem_toArray, List.getElem_cons_zero, List.getElem_cons_succ, Act.put, List.setIfInBounds_toArray, List.set_cons_zero, List.set_cons_succ]
          refine wpAnyH_take (i := 5) (v := (.slice (some ⟨b, off, none⟩) 1 uc)) rfl (by kernel_rfl) (by kernel_rfl) (by kernel_rfl) (fun _ _ _ h => h) (Or.inl ⟨by rfl, ?_⟩) hS ?_
          · intro w' _; go_simp
          try simp only [List.getElem_toArray, List.getElem_cons_zero, List.getElem_cons_succ, Act.put, List.setIfInBounds_toArray, List.set_cons_zero, List.set_cons_succ]
          refine wpAnyH_take (i := 6) (v := (.pointer (some ⟨b, off, none⟩))) rfl (by kernel_rfl) (by kernel_rfl) (by kernel_rfl) (fun _ _ _ h => h) (Or.inl ⟨by rfl, ?_⟩) hS ?_
          · intro w' _; go_simp
          try simp only [List.getElem_toArray, List.getElem_cons_zero, List.getElem_cons_succ, Act.put, List.setIfInBounds_toArray, List.set_cons_zero, List.set_cons_succ]
          refine wpAnyH_take (i := 7) (v := .int .i64 o) rfl (by kernel_rfl) (by kernel_rfl) (by kernel_rfl) (fun _ _ _ h => h) (Or.inl ⟨by rfl, ?_⟩) hS ?_
          · intro w' hw; have l0 := own_cell0 hw; obtain ⟨c0, c1, c2⟩ := hw.1.cells; obtain ⟨p0, p1, p2⟩ := hw.pcells; obtain ⟨q0, q1, q2⟩ := hw.qcells; go_simp
          try simp only [List.getElem_toArray, List.getElem_cons_zero, List.getElem_cons_succ, Act.put, List.setIfInBounds_toArray, List.set_cons_zero, List.set_cons_succ]
          refine wpAnyH_take (i := 8) (v := (.pointer (some ⟨w.heap.size + 1, 0, none⟩))) rfl (by kernel_rfl) (by kernel_rfl) (by kernel_rfl) (fun _ _ _ h => h) (Or.inl ⟨by rfl, ?_⟩) hS ?_
          · intro w' _; go_simp
          try simp only [List.getElem_toArray, List.getElem_cons_zero, List.getElem_cons_succ, Act.put, List.setIfInBounds_toArray, List.set_cons_zero, List.set_cons_succ]
          refine wpAnyH_take (i := 9) (v := (.pointer (some ⟨w.heap.size + 1, 0, none⟩))) rfl (by kernel_rfl) (by kernel_rfl) (by kernel_rfl) (fun _ _ _ h => h) (Or.inl ⟨by rfl, ?_⟩) hS ?_
          · intro w' _; go_simp
          try simp only [List.getElem_toArray, List.getElem_cons_zero, List.getElem_cons_succ, Act.put, List.setIfInBounds_toArray, List.set_cons_zero, List.set_cons_succ]
          refine wpAnyH_take (i := 10) (v := .int .i64 o) rfl (by kernel_rfl) (by kernel_rfl) (by kernel_rfl) (fun _ _ _ h => h) (Or.inl ⟨by rfl, ?_⟩) hS ?_
          · intro w' hw; have l0 := own_cell0 hw; obtain ⟨c0, c1, c2⟩ := hw.1.cells; obtain ⟨p0, p1, p2⟩ := hw.pcells; obtain ⟨q0, q1, q2⟩ := hw.qcells; go_simp
          try simp only [List.getElem_toArray, List.getElem_cons_zero, List.getElem_cons_succ, Act.put, List.setIfInBounds_toArray, List.set_cons_zero, List.set_cons_succ]
          refine wpAnyH_take (i := 11) (v := .bool true) rfl (by kernel_rfl) (by kernel_rfl) (by kernel_rfl) (fun _ _ _ h => h) (Or.inl ⟨by rfl, ?_⟩) hS ?_
          · intro w' _; go_simp
          try simp only [List.getElem_toArray, List.getElem_cons_zero, List.getElem_cons_succ, Act.put, List.setIfInBounds_toArray, List.set_cons_zero, List.set_cons_succ]
          refine wpAnyH_take (i := 12) (v := .bool true) rfl (by kernel_rfl) (by kernel_rfl) (by kernel_rfl) (fun _ _ _ h => h) (Or.inl ⟨by rfl, ?_⟩) hS ?_
          · intro w' _; go_simp
          try simp only [List.getElem_toArray, List.getElem_cons_zero, List.getElem_cons_succ, Act.put, List.setIfInBounds_toArray, List.set_cons_zero, List.set_cons_succ]
          refine wpAnyH_take (i := 13) (v := .bool false) rfl (by kernel_rfl) (by kernel_rfl) (by kernel_rfl) (fun _ _ _ h => h) (Or.inl ⟨by rfl, ?_⟩) hS ?_
          · intro w' _; go_simp
          try simp only [List.getElem_toArray, List.getElem_cons_zero, List.getElem_cons_succ, Act.put, List.setIfInBounds_toArray, List.set_cons_zero, List.set_cons_succ]
          refine wpAnyH_take (i := 14) (v := .bool false) rfl (by kernel_rfl) (by kernel_rfl) (by kernel_rfl) (fun _ _ _ h => h) (Or.inl ⟨by rfl, ?_⟩) hS ?_
          · intro w' _; go_simp
          try simp only [List.getElem_toArray, List.getElem_cons_zero, List.getElem_cons_succ, Act.put, List.setIfInBounds_toArray, List.set_cons_zero, List.set_cons_succ]
          refine wpAnyH_take (i := 15) (v := .bool true) rfl (by kernel_rfl) (by kernel_rfl) (by kernel_rfl) (fun _ _ _ h => h) (Or.inl ⟨by rfl, ?_⟩) hS ?_
          · intro w' _; go_simp
          try simp only [List.getElem_toArray, List.getElem_cons_zero, List.getElem_cons_succ, Act.put, List.setIfInBounds_toArray, List.set_cons_zero, List.set_cons_succ]
          refine wpAnyH_take (i := 16) (v := .bool false) rfl (by kernel_rfl) (by kernel_rfl) (by kernel_rfl) (fun _ _ _ h => h) (Or.inl ⟨by rfl, ?_⟩) hS ?_
          · intro w' _; go_simp
          try simp only [List.getElem_toArray, List.getElem_cons_zero, List.getElem_cons_succ, Act.put, List.setIfInBounds_toArray, List.set_cons_zero, List.set_cons_succ]
          refine wpAnyH_take (i := 17) (v := .bool false) rfl (by kernel_rfl) (by kernel_rfl) (by kernel_rfl) (fun _ _ _ h => h) (Or.inl ⟨by rfl, ?_⟩) hS ?_
          · intro w' _; go_simp
          try simp only [List.getElem_toArray, List.getElem_cons_zero, List.getElem_cons_succ, Act.put, List.setIfInBounds_toArray, List.set_cons_zero, List.set_cons_succ]
          refine wpAnyH_take (i := 18) (v := undef) rfl (by kernel_rfl) (by kernel_rfl) (by kernel_rfl) (fun _ _ _ h => h) (Or.inr ⟨by rfl, rfl⟩) hS ?_
          try simp only [List.getElem_toArray, List.getElem_cons_zero, List.getElem_cons_succ, Act.put, List.setIfInBounds_toArray, List.set_cons_zero, List.set_cons_succ]
          refine wpAnyH_take (i := 19) (v := undef) rfl (by kernel_rfl) (by kernel_rfl) (by kernel_rfl) (fun _ _ _ h => h) (Or.inr ⟨by rfl, rfl⟩) hS ?_
          try simp only [List.getElem_toArray, List.getElem_cons_zero, List.getElem_cons_succ, Act.put, List.setIfInBounds_toArray, List.set_cons_zero, List.set_cons_succ]
          refine wpAnyH_take (i := 20) (v := undef) rfl (by kernel_rfl) (by kernel_rfl) (by kernel_rfl) (fun _ _ _ h => h) (Or.inr ⟨by rfl, rfl⟩) hS ?_
          try simp only [List.getElem_toArray, List.getElem_cons_zero, List.getElem_cons_succ, Act.put, List.setIfInBounds_toArray, List.set_cons_zero, List.set_cons_succ]
          refine wpAnyH_take (i := 21) (v := .bool false) rfl (by kernel_rfl) (by kernel_rfl) (by kernel_rfl) (fun _ _ _ h => h) (Or.inl ⟨by rfl, ?_⟩) hS ?_
          · intro w' _; go_simp
          try simp only [List.getElem_toArray, List.getElem_cons_zero, List.getElem_cons_succ, Act.put, List.setIfInBounds_toArray, List.set_cons_zero, List.set_cons_succ]
          refine wpAnyH_take (i := 22) (v := .bool false) rfl (by kernel_rfl) (by kernel_rfl) (by kernel_rfl) (fun _ _ _ h => h) (Or.inl ⟨by rfl, ?_⟩) hS ?_
          · intro w' _; go_simp
          try simp only [List.getElem_toArray, List.getElem_cons_zero, List.getElem_cons_succ, Act.put, List.setIfInBounds_toArray, List.set_cons_zero, List.set_cons_succ]
          refine wpAnyH_take (i := 23) (v := .bool false) rfl (by kernel_rfl) (by kernel_rfl) (by kernel_rfl) (fun _ _ _ h => h) (Or.inl ⟨by rfl, ?_⟩) hS ?_
          · intro w' _; go_simp
          try simp only [List.getElem_toArray, List.getElem_cons_zero, List.getElem_cons_succ, Act.put, List.setIfInBounds_toArray, List.set_cons_zero, List.set_cons_succ]
          refine wpAnyH_take (i := 24) (v := (.agg #[.int .i64 S, ev, .int .i64 H])) rfl (by kernel_rfl) (by kernel_rfl) (by kernel_rfl) (fun _ _ _ h => h) (Or.inl ⟨by rfl, ?_⟩) hS ?_
          · intro w' hw; obtain ⟨c0, c1, c2⟩ := hw.1.cells; obtain ⟨p0, p1, p2⟩ := hw.pcells; obtain ⟨q0, q1, q2⟩ := hw.qcells; go_simp
          try simp only [List.getElem_toArray, List.getElem_cons_zero, List.getElem_cons_succ, Act.put, List.setIfInBounds_toArray, List.set_cons_zero, List.set_cons_succ]
          refine wpAnyH_take (i := 25) (v := (.agg #[.int .i64 o, .int .u64 s, .bool false])) rfl (by kernel_rfl) (by kernel_rfl) (by kernel_rfl) (fun _ _ _ h => h) (Or.inl ⟨by rfl, ?_⟩) hS ?_
          · intro w' hw; obtain ⟨c0, c1, c2⟩ := hw.1.cells; obtain ⟨p0, p1, p2⟩ := hw.pcells; obtain ⟨q0, q1, q2⟩ := hw.qcells; go_simp
          try simp only [List.getElem_toArray, List.getElem_cons_zero, List.getElem_cons_succ, Act.put, List.setIfInBounds_toArray, List.set_cons_zero, List.set_cons_succ]
          refine wpAnyH_ready (rs := [26]) (by kernel_rfl) (by simp) ?_
          refine AllReadyH.cons rfl (fun K hK => ?_) AllReadyH.nil
          go_simp
          have hSa := hS.alloc (.cells #[.int .i64 o, .int .u64 s, .bool false] 62)
          refine hK.out _ _ hSa (fun _ => ?_)
          clear hK K
          try simp only [List.getElem_toArray, List.getElem_cons_zero, List.getElem_cons_succ, Act.put, List.setIfInBounds_toArray, List.set_cons_zero, List.set_cons_succ]
          refine wpAnyH_ready (rs := [27]) (by kernel_rfl) (by simp) ?_
          refine AllReadyH.cons rfl (fun K hK => ?_) AllReadyH.nil
          go_simp
          refine (most_any S H _ _ es [⟨o, s, false⟩] _ (by simp) hSa.rd (rd_pub1k ⟨o, s, false⟩ (by simp [size_drewN, size_drew']))).mono ?_
          rintro e w5 ⟨rfl, hb⟩
          rw [most_own]
          have hSb := hSa.next hb
          refine hK.out _ _ hSb (fun _ => ?_)
          clear hK K
          try simp only [List.getElem_toArray, List.getElem_cons_zero, List.getElem_cons_succ, Act.put, List.setIfInBounds_toArray, List.set_cons_zero, List.set_cons_succ]
          refine wpAnyH_take (i := 28) (v := .bool false) rfl (by kernel_rfl) (by kernel_rfl) (by kernel_rfl) (fun _ _ _ h => h) (Or.inl ⟨by rfl, ?_⟩) hSb ?_
          · intro w' _; go_simp
          try simp only [List.getElem_toArray, List.getElem_cons_zero, List.getElem_cons_succ, Act.put, List.setIfInBounds_toArray, List.set_cons_zero, List.set_cons_succ]
          refine wpAnyH_take (i := 29) (v := .bool false) rfl (by kernel_rfl) (by kernel_rfl) (by kernel_rfl) (fun _ _ _ h => h) (Or.inl ⟨by rfl, ?_⟩) hSb ?_
          · intro w' _; go_simp
          try simp only [List.getElem_toArray, List.getElem_cons_zero, List.getElem_cons_succ, Act.put, List.setIfInBounds_toArray, List.set_cons_zero, List.set_cons_succ]
          refine wpAnyH_done (by kernel_rfl) ?_ _
          go_wp2
          go_meet
          exact ⟨rfl, _, _, hSb⟩
        | false =>
          rw [if_neg (by decide)] at hLg
          subst hLg
          simp only [List.length_nil] at hO ⊢
          have hO4' := hO.drew
          clear hO c0 c1 c2 p0 p1 p2 q0 q1 q2
          refine wp_region_held_drew (S := fun w' => OwnIn w1.heap.size S H ev es w o s f (.slice ua 0 uc) [] w') hmx hO4' (fun hS => ?_)
          refine wpAnyH_take (i := 0) (v := .bool false) rfl (by kernel_rfl) (by kernel_rfl) (by kernel_rfl) (fun _ _ _ h => h) (Or.inl ⟨by rfl, ?_⟩) hS ?_
          · intro w' _; go_simp
          try simp only [List.getElem_toArray, List.getElem_cons_zero, List.getElem_cons_succ, Act.put, List.setIfInBounds_toArray, List.set_cons_zero, List.set_cons_succ]
          refine wpAnyH_take (i := 1) (v := (.slice ua 0 uc)) rfl (by kernel_rfl) (by kernel_rfl) (by kernel_rfl) (fun _ _ _ h => h) (Or.inl ⟨by rfl, ?_⟩) hS ?_
          · intro w' _; go_simp
          try simp only [List.getElem_toArray, List.getElem_cons_zero, List.getElem_cons_succ, Act.put, List.setIfInBounds_toArray, List.set_cons_zero, List.set_cons_succ]
          refine wpAnyH_take (i := 2) (v := .int .i64 0) rfl (by kernel_rfl) (by kernel_rfl) (by kernel_rfl) (fun _ _ _ h => h) (Or.inl ⟨by rfl, ?_⟩) hS ?_
          · intro w' _; go_simp
          try simp only [List.getElem_toArray, List.getElem_cons_zero, List.getElem_cons_succ, Act.put, List.setIfInBounds_toArray, List.set_cons_zero, List.set_cons_succ]
          refine wpAnyH_take (i := 3) (v := .bool false) rfl (by kernel_rfl) (by kernel_rfl) (by kernel_rfl) (fun _ _ _ h => h) (Or.inl ⟨by rfl, ?_⟩) hS ?_
          · intro w' _; go_simp
          try simp only [List.getElem_toArray, List.getElem_cons_zero, List.getElem_cons_succ, Act.put, List.setIfInBounds_toArray, List.set_cons_zero, List.set_cons_succ]
          refine wpAnyH_take (i := 4) (v := .bool false) rfl (by kernel_rfl) (by kernel_rfl) (by kernel_rfl) (fun _ _ _ h => h) (Or.inl ⟨by rfl, ?_⟩) hS ?_
          · intro w' _; go_simp
          try simp only [List.getElem_toArray, List.getElem_cons_zero, List.getElem_cons_succ, Act.put, List.setIfInBounds_toArray, List.set_cons_zero, List.set_cons_succ]
          refine wpAnyH_take (i := 5) (v := undef) rfl (by kernel_rfl) (by kernel_rfl) (by kernel_rfl) (fun _ _ _ h => h) (Or.inr ⟨by rfl, rfl⟩) hS ?_
          try simp only [List.getElem_toArray, List.getElem_cons_zero, List.getElem_cons_succ, Act.put, List.setIfInBounds_toArray, List.set_cons_zero, List.set_cons_succ]
          refine wpAnyH_take (i := 6) (v := undef) rfl (by kernel_rfl) (by kernel_rfl) (by kernel_rfl) (fun _ _ _ h => h) (Or.inr ⟨by rfl, rfl⟩) hS ?_
          try simp only [List.getElem_toArray, List.getElem_cons_zero, List.getElem_cons_succ, Act.put, List.setIfInBounds_toArray, List.set_cons_zero, List.set_cons_succ]
          refine wpAnyH_take (i := 7) (v := undef) rfl (by kernel_rfl) (by kernel_rfl) (by kernel_rfl) (fun _ _ _ h => h) (Or.inr ⟨by rfl, rfl⟩) hS ?_
          try simp only [List.getElem_toArray, List.getElem_cons_zero, List.getElem_cons_succ, Act.put, List.setIfInBounds_toArray, List.set_cons_zero, List.set_cons_succ]
          refine wpAnyH_take (i := 8) (v := undef) rfl (by kernel_rfl) (by kernel_rfl) (by kernel_rfl) (fun _ _ _ h => h) (Or.inr ⟨by rfl, rfl⟩) hS ?_
          try simp only [List.getElem_toArray, List.getElem_cons_zero, List.getElem_cons_succ, Act.put, List.setIfInBounds_toArray, List.set_cons_zero, List.set_cons_succ]
          refine wpAnyH_take (i := 9) (v := undef) rfl (by kernel_rfl) (by kernel_rfl) (by kernel_rfl) (fun _ _ _ h => h) (Or.inr ⟨by rfl, rfl⟩) hS ?_
          try simp only [List.getElem_toArray, List.getElem_cons_zero, List.getElem_cons_succ, Act.put, List.setIfInBounds_toArray, List.set_cons_zero, List.set_cons_succ]
          refine wpAnyH_take (i := 10) (v := undef) rfl (by kernel_rfl) (by kernel_rfl) (by kernel_rfl) (fun _ _ _ h => h) (Or.inr ⟨by rfl, rfl⟩) hS ?_
          try simp only [List.getElem_toArray, List.getElem_cons_zero, List.getElem_cons_succ, Act.put, List.setIfInBounds_toArray, List.set_cons_zero, List.set_cons_succ]
          refine wpAnyH_take (i := 11) (v := undef) rfl (by kernel_rfl) (by kernel_rfl) (by kernel_rfl) (fun _ _ _ h => h) (Or.inr ⟨by rfl, rfl⟩) hS ?_
          try simp only [List.getElem_toArray, List.getElem_cons_zero, List.getElem_cons_succ, Act.put, List.setIfInBounds_toArray, List.set_cons_zero, List.set_cons_succ]
          refine wpAnyH_take (i := 12) (v := .bool false) rfl (by kernel_rfl) (by kernel_rfl) (by kernel_rfl) (fun _ _ _ h => h) (Or.inl ⟨by rfl, ?_⟩) hS ?_
          · intro w' _; go_simp
          try simp only [List.getElem_toArray, List.getElem_cons_zero, List.getElem_cons_succ, Act.put, List.setIfInBounds_toArray, List.set_cons_zero, List.set_cons_succ]
          refine wpAnyH_take (i := 13) (v := .bool false) rfl (by kernel_rfl) (by kernel_rfl) (by kernel_rfl) (fun _ _ _ h => h) (Or.inl ⟨by rfl, ?_⟩) hS ?_
          · intro w' _; go_simp
          try simp only [List.getElem_toArray, List.getElem_cons_zero, List.getElem_cons_succ, Act.put, List.setIfInBounds_toArray, List.set_cons_zero, List.set_cons_succ]
          refine wpAnyH_take (i := 14) (v := .bool false) rfl (by kernel_rfl) (by kernel_rfl) (by kernel_rfl) (fun _ _ _ h => h) (Or.inl ⟨by rfl, ?_⟩) hS ?_
          · intro w' _; go_simp
          try simp only [List.getElem_toArray, List.getElem_cons_zero, List.getElem_cons_succ, Act.put, List.setIfInBounds_toArray, List.set_cons_zero, List.set_cons_succ]
          refine wpAnyH_take (i := 15) (v := .bool false) rfl (by kernel_rfl) (by kernel_rfl) (by kernel_rfl) (fun _ _ _ h => h) (Or.inl ⟨by rfl, ?_⟩) hS ?_
          · intro w' _; go_simp
          try simp only [List.getElem_toArray, List.getElem_cons_zero, List.getElem_cons_succ, Act.put, List.setIfInBounds_toArray, List.set_cons_zero, List.set_cons_succ]
          refine wpAnyH_take (i := 16) (v := .bool true) rfl (by kernel_rfl) (by kernel_rfl) (by kernel_rfl) (fun _ _ _ h => h) (Or.inl ⟨by rfl, ?_⟩) hS ?_
          · intro w' _; go_simp
          try simp only [List.getElem_toArray, List.getElem_cons_zero, List.getElem_cons_succ, Act.put, List.setIfInBounds_toArray, List.set_cons_zero, List.set_cons_succ]
          refine wpAnyH_take (i := 17) (v := .bool true) rfl (by kernel_rfl) (by kernel_rfl) (by kernel_rfl) (fun _ _ _ h => h) (Or.inl ⟨by rfl, ?_⟩) hS ?_
          · intro w' _; go_simp
          try simp only [List.getElem_toArray, List.getElem_cons_zero, List.getElem_cons_succ, Act.put, List.setIfInBounds_toArray, List.set_cons_zero, List.set_cons_succ]
          refine wpAnyH_take (i := 18) (v := (.slice ua 0 uc)) rfl (by kernel_rfl) (by kernel_rfl) (by kernel_rfl) (fun _ _ _ h => h) (Or.inl ⟨by rfl, ?_⟩) hS ?_
          · intro w' _; go_simp
          try simp only [List.getElem_toArray, List.getElem_cons_zero, List.getElem_cons_succ, Act.put, List.setIfInBounds_toArray, List.set_cons_zero, List.set_cons_succ]
          refine wpAnyH_take (i := 19) (v := .int .i64 0) rfl (by kernel_rfl) (by kernel_rfl) (by kernel_rfl) (fun _ _ _ h => h) (Or.inl ⟨by rfl, ?_⟩) hS ?_
          · intro w' _; go_simp
          try simp only [List.getElem_toArray, List.getElem_cons_zero, List.getElem_cons_succ, Act.put, List.setIfInBounds_toArray, List.set_cons_zero, List.set_cons_succ]
          refine wpAnyH_take (i := 20) (v := .bool false) rfl (by kernel_rfl) (by kernel_rfl) (by kernel_rfl) (fun _ _ _ h => h) (Or.inl ⟨by rfl, ?_⟩) hS ?_
          · intro w' _; go_simp
          try simp only [List.getElem_toArray, List.getElem_cons_zero, List.getElem_cons_succ, Act.put, List.setIfInBounds_toArray, List.set_cons_zero, List.set_cons_succ]
          refine wpAnyH_take (i := 21) (v := .bool false) rfl (by kernel_rfl) (by kernel_rfl) (by kernel_rfl) (fun _ _ _ h => h) (Or.inl ⟨by rfl, ?_⟩) hS ?_
          · intro w' _; go_simp
          try simp only [List.getElem_toArray, List.getElem_cons_zero, List.getElem_cons_succ, Act.put, List.setIfInBounds_toArray, List.set_cons_zero, List.set_cons_succ]
          refine wpAnyH_take (i := 22) (v := .bool false) rfl (by kernel_rfl) (by kernel_rfl) (by kernel_rfl) (fun _ _ _ h => h) (Or.inl ⟨by rfl, ?_⟩) hS ?_
          · intro w' _; go_simp
          try simp only [List.getElem_toArray, List.getElem_cons_zero, List.getElem_cons_succ, Act.put, List.setIfInBounds_toArray, List.set_cons_zero, List.set_cons_succ]
          refine wpAnyH_take (i := 23) (v := .bool false) rfl (by kernel_rfl) (by kernel_rfl) (by kernel_rfl) (fun _ _ _ h => h) (Or.inl ⟨by rfl, ?_⟩) hS ?_
          · intro w' _; go_simp
          try simp only [List.getElem_toArray, List.getElem_cons_zero, List.getElem_cons_succ, Act.put, List.setIfInBounds_toArray, List.set_cons_zero, List.set_cons_succ]
          refine wpAnyH_take (i := 24) (v := (.agg #[.int .i64 S, ev, .int .i64 H])) rfl (by kernel_rfl) (by kernel_rfl) (by kernel_rfl) (fun _ _ _ h => h) (Or.inl ⟨by rfl, ?_⟩) hS ?_
          · intro w' hw; obtain ⟨c0, c1, c2⟩ := hw.1.cells; obtain ⟨p0, p1, p2⟩ := hw.pcells; obtain ⟨q0, q1, q2⟩ := hw.qcells; go_simp
          try simp only [List.getElem_toArray, List.getElem_cons_zero, List.getElem_cons_succ, Act.put, List.setIfInBounds_toArray, List.set_cons_zero, List.set_cons_succ]
          refine wpAnyH_take (i := 25) (v := (.agg #[.int .i64 o, .int .u64 s, .bool false])) rfl (by kernel_rfl) (by kernel_rfl) (by kernel_rfl) (fun _ _ _ h => h) (Or.inl ⟨by rfl, ?_⟩) hS ?_
          · intro w' hw; obtain ⟨c0, c1, c2⟩ := hw.1.cells; obtain ⟨p0, p1, p2⟩ := hw.pcells; obtain ⟨q0, q1, q2⟩ := hw.qcells; go_simp
          try simp only [List.getElem_toArray, List.getElem_cons_zero, List.getElem_cons_succ, Act.put, List.setIfInBounds_toArray, List.set_cons_zero, List.set_cons_succ]
          refine wpAnyH_ready (rs := [26]) (by kernel_rfl) (by simp) ?_
          refine AllReadyH.cons rfl (fun K hK => ?_) AllReadyH.nil
          go_simp
          have hSa := hS.alloc (.cells #[.int .i64 o, .int .u64 s, .bool false] 62)
          refine hK.out _ _ hSa (fun _ => ?_)
          clear hK K
          try simp only [List.getElem_toArray, List.getElem_cons_zero, List.getElem_cons_succ, Act.put, List.setIfInBounds_toArray, List.set_cons_zero, List.set_cons_succ]
          refine wpAnyH_ready (rs := [27]) (by kernel_rfl) (by simp) ?_
          refine AllReadyH.cons rfl (fun K hK => ?_) AllReadyH.nil
          go_simp
          refine (most_any S H _ _ es [⟨o, s, false⟩] _ (by simp) hSa.rd (rd_pub1k ⟨o, s, false⟩ (by simp [size_drewN, size_drew']))).mono ?_
          rintro e w5 ⟨rfl, hb⟩
          rw [most_own]
          have hSb := hSa.next hb
          refine hK.out _ _ hSb (fun _ => ?_)
          clear hK K
          try simp only [List.getElem_toArray, List.getElem_cons_zero, List.getElem_cons_succ, Act.put, List.setIfInBounds_toArray, List.set_cons_zero, List.set_cons_succ]
          refine wpAnyH_take (i := 28) (v := .bool false) rfl (by kernel_rfl) (by kernel_rfl) (by kernel_rfl) (fun _ _ _ h => h) (Or.inl ⟨by rfl, ?_⟩) hSb ?_
          · intro w' _; go_simp
          try simp only [List.getElem_toArray, List.getElem_cons_zero, List.getElem_cons_succ, Act.put, List.setIfInBounds_toArray, List.set_cons_zero, List.set_cons_succ]
          refine wpAnyH_take (i := 29) (v := .bool false) rfl (by kernel_rfl) (by kernel_rfl) (by kernel_rfl) (fun _ _ _ h => h) (Or.inl ⟨by rfl, ?_⟩) hSb ?_
          · intro w' _; go_simp
          try simp only [List.getElem_toArray, List.getElem_cons_zero, List.getElem_cons_succ, Act.put, List.setIfInBounds_toArray, List.set_cons_zero, List.set_cons_succ]
          refine wpAnyH_done (by kernel_rfl) ?_ _
          go_wp2
          go_meet
          exact ⟨rfl, _, _, hSb⟩
      case rest =>
        clear hLg hO c0 c1 c2 p0 p1 p2 q0 q1 q2
        obtain ⟨rfl, u', l', hO⟩ := hcut
        rename World => w5
        have hO5 := Lib.hid hO
        clear hO hO4
        obtain ⟨c0, c1, c2⟩ := hO5.out.1.cells
        obtain ⟨p0, p1, p2⟩ := hO5.out.pcells
        go_wp2_with fail
        refine (sites_any S H _ es ⟨o, s, true⟩ _ hO5.out.rd).mono ?_
        rintro e w6 ⟨u6, rfl, hown, hb⟩
        rw [show sitesL S es H ⟨o, s, true⟩ = within S es H o 9 by simp [sitesL]] at hown
        have HR6 := Rd.of_own hown
        obtain ⟨a6, k6, rfl⟩ := rd_slice HR6
        have hO6 := Lib.hid (hO5.out.next hb)
        have hin := Lib.hid (within_self S es H o)
        have hWl : (within S es H o 9).length ≤ 9 := by
          unfold within
          rw [List.length_map]
          exact Nat.le_trans (List.length_filter_le _ _) (by simp)
        generalize within S es H o 9 = L6 at HR6 hin hWl
        have hR6 := Lib.hid HR6
        clear hown hb HR6 hO5 c0 c1 c2 p0 p1 p2
        go_wp2
        go_loopw [9, 11, 73] (fun v9 _ ix wr => ∃ i : Nat, i ≤ L6.length ∧ ix = .int .i64 (i : Int) ∧ v9 = .bool ((L6.take i).any fun n => n == o) ∧ OwnIn w1.heap.size S H ev es w o s f u' l' wr ∧ Rd wr 1 (.slice a6 L6.length k6) L6.length (ints L6)) (fun _ _ ix _ => L6.length - (intOf ix).toNat)
        case atStart => exact ⟨0, by omega, rfl, rfl, hO6.out, hR6.out⟩
        case round =>
          rename World => wi
          obtain ⟨i, hi, rfl, rfl, hOi, hRi⟩ := hrel
          obtain ⟨p0, p1, p2⟩ := hOi.pcells
          have HOi := Lib.hid hOi
          have HRi := Lib.hid hRi
          clear hOi hRi
          by_cases hil : i < L6.length
          · obtain ⟨x, hxi⟩ : ∃ x, L6[i]? = some x := ⟨_, List.getElem?_eq_getElem hil⟩
            obtain ⟨_, a', cap', ee, _, _, _, h4⟩ := HRi.out
            obtain ⟨rfl, rfl⟩ : a6 = a' ∧ k6 = cap' := by simpa using ee
            obtain ⟨b2, off2, rfl, hbb2, hcell⟩ := h4 (by omega)
            have hd := hcell i (.int .i64 x) (by simp [ints, hxi])
            have hany := Lib.hid (show (L6.take (i + 1)).any (fun n => n == o) = ((L6.take i).any (fun n => n == o) || (x == o)) by rw [List.take_add_one, hxi]; simp)
            generalize (L6.take i).any (fun n => n == o) = z at hany ⊢
            obtain ⟨t, ht⟩ : ∃ t, (x == o) = t := ⟨_, rfl⟩
            have hany2 := Lib.hid (show (L6.take (i + 1)).any (fun n => n == o) = (z || t) by rw [← ht]; exact hany.out)
            clear hcell h4 ee hxi hany
            cases z <;> cases t
            all_goals
              go_wp2
              go_roundw
              case rel => exact ⟨i + 1, by omega, by go_num, by rw [hany2.out]; rfl, HOi.out, HRi.out⟩
              case measure => simp [intOf]; omega
          · obtain rfl : i = L6.length := by omega
            rw [List.take_length, hin.out, Hg.out]
            obtain ⟨c0, c1, c2⟩ := HOi.out.1.cells
            have hb2 := HOi.out.1.1
            have df : wi.frozen? ⟨w.heap.size, 2, none⟩ = false := by simp [World.frozen?, hb2]
            have hzi := HOi.out.1.lt
            clear hb2
            have hT7 := Lib.hid ((TopIn.hops hr HOi.out.1 0).alloc (.cells #[.int .i64 o, .int .u64 s, .bool f] 62))
            go_wp2_with fail
            refine (most_any S 0 ev _ es [⟨o, s, f⟩] _ (by simp) hT7.out.rd (rd_pub1k ⟨o, s, f⟩ (by simp [World.setCell]))).mono ?_
            rintro e w8 ⟨rfl, hb⟩
            rw [most_none]
            have hT8 := Lib.hid (hT7.out.next hb)
            clear hb c0 c1 c2 df
            go_wp2_with fail
            refine (lives2_any _).mono ?_
            rintro e w9 ⟨rfl, hb⟩
            have hT9 := Lib.hid (hT8.out.next hb)
            clear hb
            go_wp2
            go_ret
            exact ⟨rfl, hT9.out.below⟩
end Go.Proofs.Ytipdggjalhjpnab
