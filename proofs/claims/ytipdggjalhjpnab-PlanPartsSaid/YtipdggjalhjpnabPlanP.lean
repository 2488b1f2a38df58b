/-
  Plans: events that are right are right in part (the law of parts).
-/
import Derived.Test.YtipdggjalhjpnabPlanX
import Derived.Test.YtipdggjalhjpnabPlanF
namespace Go.Proofs.Ytipdggjalhjpnab
open Go.RowKit
set_option linter.unusedSimpArgs false
set_option linter.unusedVariables false

theorem info70 : (Try.prog.info? 70).map (fun i => (i.zero, i.size, i.bytes)) = some (some (.agg #[.int .i64 0, .string ⟨#[]⟩, .int .i64 0, .int .u64 0]), 4, 40) := by kernel_rfl
theorem ev_one (l : List Ev) : ∀ u ∈ l.flatMap Ev.cs, u.oneCell' = true := by
  intro u hu
  obtain ⟨e, _, hu⟩ := List.mem_flatMap.1 hu
  simp [Ev.cs] at hu
  rcases hu with rfl | rfl | rfl | rfl <;> rfl
theorem rd_evs {w : World} {v : Value} {l : List Ev} {n o s : Int} {q : ByteArray} (h : Rd w 4 v (l.length + 1) (l.flatMap Ev.cs ++ [.int .i64 n, .string q, .int .i64 o, .int .u64 s])) : Rd w 4 v (l ++ [(⟨n, q, o, s⟩ : Ev)]).length ((l ++ [(⟨n, q, o, s⟩ : Ev)]).flatMap Ev.cs) := by
  rw [List.length_append, List.flatMap_append]
  simpa [Ev.cs] using h

set_option maxRecDepth 8000 in
set_option maxHeartbeats 6400000 in
theorem planParts_any (S H : Int) (ev v sv : Value) (es : List (Int × Int)) (xs : List Pub) (evs : List Ev) (w : World) (hl1 : xs.length ≤ 140737488355328) (hl2 : evs.length ≤ 140737488355328) (hr : Rd w 2 ev es.length (edgeCells es)) (hv : Rd w 3 v xs.length (xs.flatMap Pub.cs)) (hs : Rd w 4 sv evs.length (evs.flatMap Ev.cs)) :
    Calls Try.prog 12 #[topV S ev H, v, sv] w fun e w' => e = .returned (.bool true) ∧ Below w.heap.size w w' := by
  obtain ⟨va, vc, rfl⟩ := rd_slice hv
  obtain ⟨sa, sc, rfl⟩ := rd_slice hs
  obtain ⟨hc1, hc2⟩ := rd_cap hs
  have hT0 := Lib.hid (TopIn.mk1 (S := S) (H := H) w hr)
  unfold topV
  go_enter Try.func12, Try.ntmps12
  go_wp2_with fail
  refine (great_any S H _ _ es _ hT0.out.rd).mono ?_
  rintro e w1 ⟨rfl, hb⟩
  have hT1 := Lib.hid (hT0.out.next hb)
  clear hb hT0
  generalize hg : greatB _ _ = g
  cases g with
  | true =>
    go_wp2_with fail
    refine (lives2_any _).mono ?_
    rintro e w2 ⟨rfl, hb⟩
    have hT2 := Lib.hid (hT1.out.next hb)
    clear hb
    go_wp2
    go_ret
    exact ⟨rfl, hT2.out.below⟩
  | false =>
    obtain ⟨g1, g2⟩ := greatB_no hg
    clear hg
    have hxl : xs.length ≤ 1000 := by omega
    have hel : evs.length ≤ 999 := by omega
    have hmx : Try.prog.follows .mixedOrders = true := by kernel_rfl
    have hel2 : evs.length ≤ 9223372036854775807 := by omega
    obtain ⟨c0, c1, c2⟩ := hT1.out.cells
    go_wp2_with fail
    refine (check_any S H _ _ _ es xs evs _ hxl (by omega) hT1.out.rd (hv.keep hT1.out.below) (hs.keep hT1.out.below)).mono ?_
    rintro e w2 ⟨rfl, hb⟩
    have hT2 := Lib.hid (hT1.out.next hb)
    clear hb c0 c1 c2 hT1
    obtain ⟨c0, c1, c2⟩ := hT2.out.cells
    rcases checkL_or S es H xs evs with ⟨hri, hC⟩ | ⟨k, hk, hri, hw, hC⟩
    · rw [hC]
      clear hC
      by_cases h0 : evs.length = 0
      · obtain rfl := List.eq_nil_of_length_eq_zero h0
        clear h0 hri
        simp only [List.length_nil]
        go_wp2_with fail
        refine (lives2_any _).mono ?_
        rintro e w3 ⟨rfl, hb⟩
        have hT3 := Lib.hid (hT2.out.next hb)
        clear hb
        go_wp2
        go_ret
        exact ⟨rfl, hT3.out.below⟩
      · obtain ⟨⟨n, q, o, s⟩, hx0⟩ : ∃ x, evs[0]? = some x := ⟨_, List.getElem?_eq_getElem (by omega)⟩
        obtain ⟨b, off, rfl, hbb, d0, d1, d2, d3⟩ := ev_at (hs.keep hT2.out.below) hx0
        simp only [Nat.zero_mul, Nat.add_zero] at d0 d1 d2 d3
        have hAg := Lib.hid (check_again (S := S) (es := es) (H := H) (l := xs) hx0 hri)
        have p0 : (0 : Int) < (evs.length : Int) := by omega
        have q0 : 0 < evs.length := by omega
        have b0 : ((evs.length : Int) == 0) = false := beq_eq_false_iff_ne.2 (by omega)
        have b1 : (evs.length == 0) = false := beq_eq_false_iff_ne.2 (by omega)
        clear hri hx0 h0
        go_wp2_with fail
        have hS0 : Below w2.heap.size w2 w2.drew := below_drew (Below.refl _ _)
        refine wp_region_held_drew (S := fun w' => Below w2.heap.size w2 w') hmx hS0 (fun hS => ?_)
        clear hS0 c0 c1 c2
        refine wpAnyH_take (i := 0) (v := (.agg #[.int .i64 S, ev, .int .i64 H])) rfl (by kernel_rfl) (by kernel_rfl) (by kernel_rfl) (fun _ _ _ h => h) (Or.inl ⟨by rfl, ?_⟩) hS ?_
        · intro w' hw; obtain ⟨c0, c1, c2⟩ := (hT2.out.next hw).cells; go_simp
        try simp only [List.getElem_toArray, List.getElem_cons_zero, List.getElem_cons_succ, Act.put, List.setIfInBounds_toArray, List.set_cons_zero, List.set_cons_succ]
        refine wpAnyH_take (i := 1) (v := (.slice va xs.length vc)) rfl (by kernel_rfl) (by kernel_rfl) (by kernel_rfl) (fun _ _ _ h => h) (Or.inl ⟨by rfl, ?_⟩) hS ?_
        · intro w' _; go_simp
        try simp only [List.getElem_toArray, List.getElem_cons_zero, List.getElem_cons_succ, Act.put, List.setIfInBounds_toArray, List.set_cons_zero, List.set_cons_succ]
        refine wpAnyH_take (i := 3) (v := (.slice (some ⟨b, off, none⟩) evs.length sc)) rfl (by kernel_rfl) (by kernel_rfl) (by kernel_rfl) (fun _ _ _ h => h) (Or.inl ⟨by rfl, ?_⟩) hS ?_
        · intro w' _; go_simp
        try simp only [List.getElem_toArray, List.getElem_cons_zero, List.getElem_cons_succ, Act.put, List.setIfInBounds_toArray, List.set_cons_zero, List.set_cons_succ]
        refine wpAnyH_take (i := 5) (v := (.slice (some ⟨b, off, none⟩) evs.length sc)) rfl (by kernel_rfl) (by kernel_rfl) (by kernel_rfl) (fun _ _ _ h => h) (Or.inl ⟨by rfl, ?_⟩) hS ?_
        · intro w' _; go_simp
        try simp only [List.getElem_toArray, List.getElem_cons_zero, List.getElem_cons_succ, Act.put, List.setIfInBounds_toArray, List.set_cons_zero, List.set_cons_succ]
        refine wpAnyH_take (i := 6) (v := (.pointer (some ⟨b, off, none⟩))) rfl (by kernel_rfl) (by kernel_rfl) (by kernel_rfl) (fun _ _ _ h => h) (Or.inl ⟨by rfl, ?_⟩) hS ?_
        · intro w' _; go_simp
        try simp only [List.getElem_toArray, List.getElem_cons_zero, List.getElem_cons_succ, Act.put, List.setIfInBounds_toArray, List.set_cons_zero, List.set_cons_succ]
        refine wpAnyH_take (i := 7) (v := (.agg #[.int .i64 n, .string q, .int .i64 o, .int .u64 s])) rfl (by kernel_rfl) (by kernel_rfl) (by kernel_rfl) (fun _ _ _ h => h) (Or.inl ⟨by rfl, ?_⟩) hS ?_
        · intro w' hw; have e0 := (hw.cell (p := ⟨b, off, none⟩) hbb).trans d0; have e1 := (hw.cell (p := ⟨b, off + 1, none⟩) hbb).trans d1; have e2 := (hw.cell (p := ⟨b, off + 2, none⟩) hbb).trans d2; have e3 := (hw.cell (p := ⟨b, off + 3, none⟩) hbb).trans d3; go_simp
        try simp only [List.getElem_toArray, List.getElem_cons_zero, List.getElem_cons_succ, Act.put, List.setIfInBounds_toArray, List.set_cons_zero, List.set_cons_succ]
        refine wpAnyH_ready (rs := [2, 8]) (by kernel_rfl) (by simp) ?_
        refine AllReadyH.cons rfl (fun K hK => ?_) (AllReadyH.cons rfl (fun K hK => ?_) AllReadyH.nil)
        · go_simp
          have hS2 : Below w2.heap.size w2 (w2.drew.alloc (.cells #[] 70)) := hS.alloc (by simp [size_drew']) _
          refine hK.out _ _ hS2 (fun _ => ?_)
          clear hK K
          try simp only [List.getElem_toArray, List.getElem_cons_zero, List.getElem_cons_succ, Act.put, List.setIfInBounds_toArray, List.set_cons_zero, List.set_cons_succ]
          refine wpAnyH_ready (rs := [4, 8]) (by kernel_rfl) (by simp) ?_
          refine AllReadyH.cons rfl (fun K hK => ?_) (AllReadyH.cons rfl (fun K hK => ?_) AllReadyH.nil)
          · refine step_app rfl (.tmp 43) (.tmp 44) 68 rfl w2.heap.size 70 (.agg #[.int .i64 0, .string ⟨#[]⟩, .int .i64 0, .int .u64 0]) 4 40 Try.underlying68 info70 rfl (by decide) _ _ 0 evs.length [] (evs.flatMap Ev.cs) (by first | rfl | (simp [Act.eval, Act.put])) (by first | rfl | (simp [Act.eval, Act.put])) (own00 4 (heap_alloc_new _ _) ?_) ((hs.keep hT2.out.below).keep hS2) (ev_one evs) (by omega) (by unfold maxLen; omega) ?_ ?_
            · simp [size_drew']
            · exact hS2.size
            intro v5 w5 ho5 hg5
            simp only [Nat.zero_add, List.nil_append] at ho5
            have hS5 : Below w2.heap.size w2 w5 := hS2.grown hg5 hS2.size (fun k hk => by simp [Value.ownBlock, size_drew'] at hk; omega)
            refine hK.out _ _ hS5 (fun _ => ?_)
            clear hK K
            try simp only [List.getElem_toArray, List.getElem_cons_zero, List.getElem_cons_succ, Act.put, List.setIfInBounds_toArray, List.set_cons_zero, List.set_cons_succ]
            refine wpAnyH_ready (rs := [8]) (by kernel_rfl) (by simp) ?_
            refine AllReadyH.cons rfl (fun K hK => ?_) AllReadyH.nil
            go_simp
            have hS6 : Below w2.heap.size w2 (w5.alloc (.cells #[.int .i64 n, .string q, .int .i64 o, .int .u64 s] 70)) := hS5.alloc hS5.size _
            have hX6 := heap_alloc_new w5 (.cells #[.int .i64 n, .string q, .int .i64 o, .int .u64 s] 70)
            have ho6 := ho5.alloc (.cells #[.int .i64 n, .string q, .int .i64 o, .int .u64 s] 70)
            refine hK.out _ _ hS6 (fun _ => ?_)
            clear hK K
            try simp only [List.getElem_toArray, List.getElem_cons_zero, List.getElem_cons_succ, Act.put, List.setIfInBounds_toArray, List.set_cons_zero, List.set_cons_succ]
            refine wpAnyH_ready (rs := [9]) (by kernel_rfl) (by simp) ?_
            refine AllReadyH.cons rfl (fun K hK => ?_) AllReadyH.nil
            refine step_app rfl (.tmp 45) (.tmp 49) 68 rfl w2.heap.size 70 (.agg #[.int .i64 0, .string ⟨#[]⟩, .int .i64 0, .int .u64 0]) 4 40 Try.underlying68 info70 rfl (by decide) _ _ evs.length 1 (evs.flatMap Ev.cs) [.int .i64 n, .string q, .int .i64 o, .int .u64 s] (by first | rfl | (simp [Act.eval, Act.put])) (by first | rfl | (simp [Act.eval, Act.put])) ho6 (rd_blk (n := 1) (size := 4) hX6 rfl (by unfold maxLen; omega)) (by simp [Value.oneCell']) (by omega) (by unfold maxLen; omega) hS6.size ?_
            intro v7 w7 ho7 hg7
            have hS7 : Below w2.heap.size w2 w7 := hS6.grown hg7 hS6.size (fun k hk => (ho6.lt k hk).1)
            obtain ⟨ya, yc, rfl⟩ := rd_slice (Rd.of_own ho7)
            refine hK.out _ _ hS7 (fun _ => ?_)
            clear hK K
            try simp only [List.getElem_toArray, List.getElem_cons_zero, List.getElem_cons_succ, Act.put, List.setIfInBounds_toArray, List.set_cons_zero, List.set_cons_succ]
            refine wpAnyH_ready (rs := [10]) (by kernel_rfl) (by simp) ?_
            refine AllReadyH.cons rfl (fun K hK => ?_) AllReadyH.nil
            go_simp
            refine (check_any S H _ _ _ es xs (evs ++ [⟨n, q, o, s⟩]) _ hxl (by simp; omega) (hT2.out.next hS7).rd ((hv.keep hT2.out.below).keep hS7) (rd_evs (Rd.of_own ho7))).mono ?_
            rintro e w8 ⟨rfl, hb⟩
            rw [hAg.out]
            have hS8 : Below w2.heap.size w2 w8 := hS7.trans (hb.mono hS7.size)
            clear hb
            refine hK.out _ _ hS8 (fun _ => ?_)
            clear hK K
            try simp only [List.getElem_toArray, List.getElem_cons_zero, List.getElem_cons_succ, Act.put, List.setIfInBounds_toArray, List.set_cons_zero, List.set_cons_succ]
            refine wpAnyH_take (i := 11) (v := (.tuple #[.int .i64 (evs.length : Int), .int .i64 4])) rfl (by kernel_rfl) (by kernel_rfl) (by kernel_rfl) (fun _ _ _ h => h) (Or.inl ⟨by rfl, ?_⟩) hS8 ?_
            · intro w' _; go_simp
            try simp only [List.getElem_toArray, List.getElem_cons_zero, List.getElem_cons_succ, Act.put, List.setIfInBounds_toArray, List.set_cons_zero, List.set_cons_succ]
            refine wpAnyH_take (i := 12) (v := (.int .i64 (evs.length : Int))) rfl (by kernel_rfl) (by kernel_rfl) (by kernel_rfl) (fun _ _ _ h => h) (Or.inl ⟨by rfl, ?_⟩) hS8 ?_
            · intro w' _; go_simp
            try simp only [List.getElem_toArray, List.getElem_cons_zero, List.getElem_cons_succ, Act.put, List.setIfInBounds_toArray, List.set_cons_zero, List.set_cons_succ]
            refine wpAnyH_take (i := 13) (v := (.int .i64 4)) rfl (by kernel_rfl) (by kernel_rfl) (by kernel_rfl) (fun _ _ _ h => h) (Or.inl ⟨by rfl, ?_⟩) hS8 ?_
            · intro w' _; go_simp
            try simp only [List.getElem_toArray, List.getElem_cons_zero, List.getElem_cons_succ, Act.put, List.setIfInBounds_toArray, List.set_cons_zero, List.set_cons_succ]
            refine wpAnyH_take (i := 14) (v := (.int .i64 (evs.length : Int))) rfl (by kernel_rfl) (by kernel_rfl) (by kernel_rfl) (fun _ _ _ h => h) (Or.inl ⟨by rfl, ?_⟩) hS8 ?_
            · intro w' _; go_simp
            try simp only [List.getElem_toArray, List.getElem_cons_zero, List.getElem_cons_succ, Act.put, List.setIfInBounds_toArray, List.set_cons_zero, List.set_cons_succ]
            refine wpAnyH_take (i := 15) (v := (.int .i64 4)) rfl (by kernel_rfl) (by kernel_rfl) (by kernel_rfl) (fun _ _ _ h => h) (Or.inl ⟨by rfl, ?_⟩) hS8 ?_
            · intro w' _; go_simp
            try simp only [List.getElem_toArray, List.getElem_cons_zero, List.getElem_cons_succ, Act.put, List.setIfInBounds_toArray, List.set_cons_zero, List.set_cons_succ]
            refine wpAnyH_done (by kernel_rfl) ?_ _
            go_wp2_with fail
            refine (lives2_any _).mono ?_
            rintro e w9 ⟨rfl, hb⟩
            have hT9 := Lib.hid ((hT2.out.next hS8).next hb)
            clear hb
            go_wp2
            go_ret
            exact ⟨rfl, hT9.out.below⟩
          · go_simp
            have hS3 : Below w2.heap.size w2 ((w2.drew.alloc (.cells #[] 70)).alloc (.cells #[.int .i64 n, .string q, .int .i64 o, .int .u64 s] 70)) := hS2.alloc hS2.size _
            refine hK.out _ _ hS3 (fun _ => ?_)
            clear hK K
            try simp only [List.getElem_toArray, List.getElem_cons_zero, List.getElem_cons_succ, Act.put, List.setIfInBounds_toArray, List.set_cons_zero, List.set_cons_succ]
            refine wpAnyH_ready (rs := [4]) (by kernel_rfl) (by simp) ?_
            refine AllReadyH.cons rfl (fun K hK => ?_) AllReadyH.nil
            refine step_app rfl (.tmp 43) (.tmp 44) 68 rfl w2.heap.size 70 (.agg #[.int .i64 0, .string ⟨#[]⟩, .int .i64 0, .int .u64 0]) 4 40 Try.underlying68 info70 rfl (by decide) _ _ 0 evs.length [] (evs.flatMap Ev.cs) (by first | rfl | (simp [Act.eval, Act.put])) (by first | rfl | (simp [Act.eval, Act.put])) (own00 4 (by rw [drew_heap, Below.heap_alloc _ _ _ (by simp)]; exact heap_alloc_new _ _) ?_) ((hs.keep hT2.out.below).keep hS3) (ev_one evs) (by omega) (by unfold maxLen; omega) ?_ ?_
            · simp [size_drew']
            · exact hS3.size
            intro v5 w5 ho5 hg5
            simp only [Nat.zero_add, List.nil_append] at ho5
            have hS5 : Below w2.heap.size w2 w5 := hS3.grown hg5 hS3.size (fun k hk => by simp [Value.ownBlock, size_drew'] at hk; omega)
            have hX5 : w5.heap[w2.heap.size + 1]? = some (.cells #[.int .i64 n, .string q, .int .i64 o, .int .u64 s] 70 (0, 0)) := (hg5.block _ (by simp [size_drew']) (by simp [Value.ownBlock, size_drew'])).trans (by rw [drew_heap, heap_alloc_at]; simp [size_drew'])
            refine hK.out _ _ hS5 (fun _ => ?_)
            clear hK K
            try simp only [List.getElem_toArray, List.getElem_cons_zero, List.getElem_cons_succ, Act.put, List.setIfInBounds_toArray, List.set_cons_zero, List.set_cons_succ]
            refine wpAnyH_ready (rs := [9]) (by kernel_rfl) (by simp) ?_
            refine AllReadyH.cons rfl (fun K hK => ?_) AllReadyH.nil
            refine step_app rfl (.tmp 45) (.tmp 49) 68 rfl w2.heap.size 70 (.agg #[.int .i64 0, .string ⟨#[]⟩, .int .i64 0, .int .u64 0]) 4 40 Try.underlying68 info70 rfl (by decide) _ _ evs.length 1 (evs.flatMap Ev.cs) [.int .i64 n, .string q, .int .i64 o, .int .u64 s] (by first | rfl | (simp [Act.eval, Act.put])) (by first | rfl | (simp [Act.eval, Act.put])) ho5 (rd_blk (n := 1) (size := 4) hX5 rfl (by unfold maxLen; omega)) (by simp [Value.oneCell']) (by omega) (by unfold maxLen; omega) hS5.size ?_
            intro v7 w7 ho7 hg7
            have hS7 : Below w2.heap.size w2 w7 := hS5.grown hg7 hS5.size (fun k hk => (ho5.lt k hk).1)
            obtain ⟨ya, yc, rfl⟩ := rd_slice (Rd.of_own ho7)
            refine hK.out _ _ hS7 (fun _ => ?_)
            clear hK K
            try simp only [List.getElem_toArray, List.getElem_cons_zero, List.getElem_cons_succ, Act.put, List.setIfInBounds_toArray, List.set_cons_zero, List.set_cons_succ]
            refine wpAnyH_ready (rs := [10]) (by kernel_rfl) (by simp) ?_
            refine AllReadyH.cons rfl (fun K hK => ?_) AllReadyH.nil
            go_simp
            refine (check_any S H _ _ _ es xs (evs ++ [⟨n, q, o, s⟩]) _ hxl (by simp; omega) (hT2.out.next hS7).rd ((hv.keep hT2.out.below).keep hS7) (rd_evs (Rd.of_own ho7))).mono ?_
            rintro e w8 ⟨rfl, hb⟩
            rw [hAg.out]
            have hS8 : Below w2.heap.size w2 w8 := hS7.trans (hb.mono hS7.size)
            clear hb
            refine hK.out _ _ hS8 (fun _ => ?_)
            clear hK K
            try simp only [List.getElem_toArray, List.getElem_cons_zero, List.getElem_cons_succ, Act.put, List.setIfInBounds_toArray, List.set_cons_zero, List.set_cons_succ]
            refine wpAnyH_take (i := 11) (v := (.tuple #[.int .i64 (evs.length : Int), .int .i64 4])) rfl (by kernel_rfl) (by kernel_rfl) (by kernel_rfl) (fun _ _ _ h => h) (Or.inl ⟨by rfl, ?_⟩) hS8 ?_
            · intro w' _; go_simp
            try simp only [List.getElem_toArray, List.getElem_cons_zero, List.getElem_cons_succ, Act.put, List.setIfInBounds_toArray, List.set_cons_zero, List.set_cons_succ]
            refine wpAnyH_take (i := 12) (v := (.int .i64 (evs.length : Int))) rfl (by kernel_rfl) (by kernel_rfl) (by kernel_rfl) (fun _ _ _ h => h) (Or.inl ⟨by rfl, ?_⟩) hS8 ?_
            · intro w' _; go_simp
            try simp only [List.getElem_toArray, List.getElem_cons_zero, List.getElem_cons_succ, Act.put, List.setIfInBounds_toArray, List.set_cons_zero, List.set_cons_succ]
            refine wpAnyH_take (i := 13) (v := (.int .i64 4)) rfl (by kernel_rfl) (by kernel_rfl) (by kernel_rfl) (fun _ _ _ h => h) (Or.inl ⟨by rfl, ?_⟩) hS8 ?_
            · intro w' _; go_simp
            try simp only [List.getElem_toArray, List.getElem_cons_zero, List.getElem_cons_succ, Act.put, List.setIfInBounds_toArray, List.set_cons_zero, List.set_cons_succ]
            refine wpAnyH_take (i := 14) (v := (.int .i64 (evs.length : Int))) rfl (by kernel_rfl) (by kernel_rfl) (by kernel_rfl) (fun _ _ _ h => h) (Or.inl ⟨by rfl, ?_⟩) hS8 ?_
            · intro w' _; go_simp
            try simp only [List.getElem_toArray, List.getElem_cons_zero, List.getElem_cons_succ, Act.put, List.setIfInBounds_toArray, List.set_cons_zero, List.set_cons_succ]
            refine wpAnyH_take (i := 15) (v := (.int .i64 4)) rfl (by kernel_rfl) (by kernel_rfl) (by kernel_rfl) (fun _ _ _ h => h) (Or.inl ⟨by rfl, ?_⟩) hS8 ?_
            · intro w' _; go_simp
            try simp only [List.getElem_toArray, List.getElem_cons_zero, List.getElem_cons_succ, Act.put, List.setIfInBounds_toArray, List.set_cons_zero, List.set_cons_succ]
            refine wpAnyH_done (by kernel_rfl) ?_ _
            go_wp2_with fail
            refine (lives2_any _).mono ?_
            rintro e w9 ⟨rfl, hb⟩
            have hT9 := Lib.hid ((hT2.out.next hS8).next hb)
            clear hb
            go_wp2
            go_ret
            exact ⟨rfl, hT9.out.below⟩
        · go_simp
          have hS2 : Below w2.heap.size w2 (w2.drew.alloc (.cells #[.int .i64 n, .string q, .int .i64 o, .int .u64 s] 70)) := hS.alloc (by simp [size_drew']) _
          refine hK.out _ _ hS2 (fun _ => ?_)
          clear hK K
          try simp only [List.getElem_toArray, List.getElem_cons_zero, List.getElem_cons_succ, Act.put, List.setIfInBounds_toArray, List.set_cons_zero, List.set_cons_succ]
          refine wpAnyH_ready (rs := [2]) (by kernel_rfl) (by simp) ?_
          refine AllReadyH.cons rfl (fun K hK => ?_) AllReadyH.nil
          go_simp
          have hS3 : Below w2.heap.size w2 ((w2.drew.alloc (.cells #[.int .i64 n, .string q, .int .i64 o, .int .u64 s] 70)).alloc (.cells #[] 70)) := hS2.alloc hS2.size _
          refine hK.out _ _ hS3 (fun _ => ?_)
          clear hK K
          try simp only [List.getElem_toArray, List.getElem_cons_zero, List.getElem_cons_succ, Act.put, List.setIfInBounds_toArray, List.set_cons_zero, List.set_cons_succ]
          refine wpAnyH_ready (rs := [4]) (by kernel_rfl) (by simp) ?_
          refine AllReadyH.cons rfl (fun K hK => ?_) AllReadyH.nil
          refine step_app rfl (.tmp 43) (.tmp 44) 68 rfl w2.heap.size 70 (.agg #[.int .i64 0, .string ⟨#[]⟩, .int .i64 0, .int .u64 0]) 4 40 Try.underlying68 info70 rfl (by decide) _ _ 0 evs.length [] (evs.flatMap Ev.cs) (by first | rfl | (simp [Act.eval, Act.put])) (by first | rfl | (simp [Act.eval, Act.put])) (own00 4 (by rw [drew_heap, heap_alloc_at]; simp [size_drew']) ?_) ((hs.keep hT2.out.below).keep hS3) (ev_one evs) (by omega) (by unfold maxLen; omega) ?_ ?_
          · simp [size_drew']
          · exact hS3.size
          intro v5 w5 ho5 hg5
          simp only [Nat.zero_add, List.nil_append] at ho5
          have hS5 : Below w2.heap.size w2 w5 := hS3.grown hg5 hS3.size (fun k hk => by simp [Value.ownBlock, size_drew'] at hk; omega)
          have hX5 : w5.heap[w2.heap.size]? = some (.cells #[.int .i64 n, .string q, .int .i64 o, .int .u64 s] 70 (0, 0)) := (hg5.block _ (by simp [size_drew']; omega) (by simp [Value.ownBlock, size_drew'])).trans (by rw [drew_heap, Below.heap_alloc _ _ _ (by simp [size_drew'])]; exact heap_alloc_new _ _)
          refine hK.out _ _ hS5 (fun _ => ?_)
          clear hK K
          try simp only [List.getElem_toArray, List.getElem_cons_zero, List.getElem_cons_succ, Act.put, List.setIfInBounds_toArray, List.set_cons_zero, List.set_cons_succ]
          refine wpAnyH_ready (rs := [9]) (by kernel_rfl) (by simp) ?_
          refine AllReadyH.cons rfl (fun K hK => ?_) AllReadyH.nil
          refine step_app rfl (.tmp 45) (.tmp 49) 68 rfl w2.heap.size 70 (.agg #[.int .i64 0, .string ⟨#[]⟩, .int .i64 0, .int .u64 0]) 4 40 Try.underlying68 info70 rfl (by decide) _ _ evs.length 1 (evs.flatMap Ev.cs) [.int .i64 n, .string q, .int .i64 o, .int .u64 s] (by first | rfl | (simp [Act.eval, Act.put])) (by first | rfl | (simp [Act.eval, Act.put])) ho5 (rd_blk (n := 1) (size := 4) hX5 rfl (by unfold maxLen; omega)) (by simp [Value.oneCell']) (by omega) (by unfold maxLen; omega) hS5.size ?_
          intro v7 w7 ho7 hg7
          have hS7 : Below w2.heap.size w2 w7 := hS5.grown hg7 hS5.size (fun k hk => (ho5.lt k hk).1)
          obtain ⟨ya, yc, rfl⟩ := rd_slice (Rd.of_own ho7)
          refine hK.out _ _ hS7 (fun _ => ?_)
          clear hK K
          try simp only [List.getElem_toArray, List.getElem_cons_zero, List.getElem_cons_succ, Act.put, List.setIfInBounds_toArray, List.set_cons_zero, List.set_cons_succ]
          refine wpAnyH_ready (rs := [10]) (by kernel_rfl) (by simp) ?_
          refine AllReadyH.cons rfl (fun K hK => ?_) AllReadyH.nil
          go_simp
          refine (check_any S H _ _ _ es xs (evs ++ [⟨n, q, o, s⟩]) _ hxl (by simp; omega) (hT2.out.next hS7).rd ((hv.keep hT2.out.below).keep hS7) (rd_evs (Rd.of_own ho7))).mono ?_
          rintro e w8 ⟨rfl, hb⟩
          rw [hAg.out]
          have hS8 : Below w2.heap.size w2 w8 := hS7.trans (hb.mono hS7.size)
          clear hb
          refine hK.out _ _ hS8 (fun _ => ?_)
          clear hK K
          try simp only [List.getElem_toArray, List.getElem_cons_zero, List.getElem_cons_succ, Act.put, List.setIfInBounds_toArray, List.set_cons_zero, List.set_cons_succ]
          refine wpAnyH_take (i := 11) (v := (.tuple #[.int .i64 (evs.length : Int), .int .i64 4])) rfl (by kernel_rfl) (by kernel_rfl) (by kernel_rfl) (fun _ _ _ h => h) (Or.inl ⟨by rfl, ?_⟩) hS8 ?_
          · intro w' _; go_simp
          try simp only [List.getElem_toArray, List.getElem_cons_zero, List.getElem_cons_succ, Act.put, List.setIfInBounds_toArray, List.set_cons_zero, List.set_cons_succ]
          refine wpAnyH_take (i := 12) (v := (.int .i64 (evs.length : Int))) rfl (by kernel_rfl) (by kernel_rfl) (by kernel_rfl) (fun _ _ _ h => h) (Or.inl ⟨by rfl, ?_⟩) hS8 ?_
          · intro w' _; go_simp
          try simp only [List.getElem_toArray, List.getElem_cons_zero, List.getElem_cons_succ, Act.put, List.setIfInBounds_toArray, List.set_cons_zero, List.set_cons_succ]
          refine wpAnyH_take (i := 13) (v := (.int .i64 4)) rfl (by kernel_rfl) (by kernel_rfl) (by kernel_rfl) (fun _ _ _ h => h) (Or.inl ⟨by rfl, ?_⟩) hS8 ?_
          · intro w' _; go_simp
          try simp only [List.getElem_toArray, List.getElem_cons_zero, List.getElem_cons_succ, Act.put, List.setIfInBounds_toArray, List.set_cons_zero, List.set_cons_succ]
          refine wpAnyH_take (i := 14) (v := (.int .i64 (evs.length : Int))) rfl (by kernel_rfl) (by kernel_rfl) (by kernel_rfl) (fun _ _ _ h => h) (Or.inl ⟨by rfl, ?_⟩) hS8 ?_
          · intro w' _; go_simp
          try simp only [List.getElem_toArray, List.getElem_cons_zero, List.getElem_cons_succ, Act.put, List.setIfInBounds_toArray, List.set_cons_zero, List.set_cons_succ]
          refine wpAnyH_take (i := 15) (v := (.int .i64 4)) rfl (by kernel_rfl) (by kernel_rfl) (by kernel_rfl) (fun _ _ _ h => h) (Or.inl ⟨by rfl, ?_⟩) hS8 ?_
          · intro w' _; go_simp
          try simp only [List.getElem_toArray, List.getElem_cons_zero, List.getElem_cons_succ, Act.put, List.setIfInBounds_toArray, List.set_cons_zero, List.set_cons_succ]
          refine wpAnyH_done (by kernel_rfl) ?_ _
          go_wp2_with fail
          refine (lives2_any _).mono ?_
          rintro e w9 ⟨rfl, hb⟩
          have hT9 := Lib.hid ((hT2.out.next hS8).next hb)
          clear hb
          go_wp2
          go_ret
          exact ⟨rfl, hT9.out.below⟩
    · rw [hC]
      have hP1 := Lib.hid (check_part (S := S) (es := es) (H := H) (l := xs) (Nat.le_of_lt hk) hri)
      have hP2 := Lib.hid (check_next (S := S) (es := es) (H := H) (l := xs) hk hri hw)
      generalize wrAt S es H xs evs k = r at hw hP2 ⊢
      have hb0 : (r == 0) = false := beq_eq_false_iff_ne.2 hw
      have k0 : (0 : Int) ≤ (k : Int) := by omega
      have k1 : (k : Int) < (evs.length : Int) := by omega
      have k2 : (k : Int) ≤ (sc : Int) := by omega
      have k3 : (0 : Int) ≤ (k : Int) + 1 := by omega
      have k4 : (k : Int) + 1 ≤ (sc : Int) := by omega
      have k5 : decide ((evs.length : Int) ≤ (k : Int)) = false := decide_eq_false (by omega)
      have k6 : decide (evs.length ≤ k) = false := decide_eq_false (by omega)
      have k7 : decide ((k : Int) < 0) = false := decide_eq_false (by omega)
      have kle1 : k ≤ evs.length := by omega
      have kle2 : k + 1 ≤ evs.length := by omega
      clear hC hri hw
      go_wp2_with fail
      have hT := hT2.out.drew
      go_region_held3 (fun w' => TopIn w.heap.size S H ev es w w' ∧ w'.cell? ⟨w.heap.size, 0, none⟩ = some (.int .i64 S) ∧ w'.cell? ⟨w.heap.size, 1, none⟩ = some ev ∧ w'.cell? ⟨w.heap.size, 2, none⟩ = some (.int .i64 H))
        (first | exact ⟨hT, hT.cells⟩ | (go_split_ands; have hTz := TopIn.next (by assumption) hb; exact ⟨hTz, hTz.cells⟩))
        (first
          | (go_at_call 36; refine (check_any S H _ _ _ es xs (evs.take k) _ hxl ?_ ?_ ?_ ?_).mono ?_; (rw [List.length_take]; omega); (go_split_ands; exact TopIn.rd (by assumption)); (go_split_ands; exact hv.keep (TopIn.below (by assumption))); (go_split_ands; exact rd_take (f := Ev.cs) (size := 4) (fun _ => rfl) (hs.keep (TopIn.below (by assumption))) kle1); rintro e w3 ⟨rfl, hb⟩; rw [hP1.out]))
      go_split_ands
      have hT3 := Lib.hid (show TopIn w.heap.size S H ev es w w3 by assumption)
      clear c0 c1 c2 hT hb
      obtain ⟨c0, c1, c2⟩ := hT3.out.cells
      have hT4 := hT3.out.drew
      go_wp2_with fail
      have kw : IntKind.i64.wrap ((k : Int) + 1) = (k : Int) + 1 := IntWalk.i64_in _ (by omega)
      have kn : ((k : Int) + 1).toNat = k + 1 := by omega
      go_region_held3 (fun w' => TopIn w.heap.size S H ev es w w' ∧ w'.cell? ⟨w.heap.size, 0, none⟩ = some (.int .i64 S) ∧ w'.cell? ⟨w.heap.size, 1, none⟩ = some ev ∧ w'.cell? ⟨w.heap.size, 2, none⟩ = some (.int .i64 H))
        (first | exact ⟨hT4, hT4.cells⟩ | (go_split_ands; have hTz := TopIn.next (by assumption) hb; exact ⟨hTz, hTz.cells⟩))
        (first
          | (go_at_call 36; refine (check_any S H _ _ _ es xs (evs.take (k + 1)) _ hxl ?_ ?_ ?_ ?_).mono ?_; (rw [List.length_take]; omega); (go_split_ands; exact TopIn.rd (by assumption)); (go_split_ands; exact hv.keep (TopIn.below (by assumption))); (go_split_ands; exact rd_take (f := Ev.cs) (size := 4) (fun _ => rfl) (hs.keep (TopIn.below (by assumption))) kle2); rintro e w4 ⟨rfl, hb⟩; rw [hP2.out]))
      clear kw kn
      go_split_ands
      have hT5 := Lib.hid (show TopIn w.heap.size S H ev es w w4 by assumption)
      clear c0 c1 c2 hT4 hb
      go_wp2_with fail
      refine (lives2_any _).mono ?_
      rintro e w5 ⟨rfl, hb⟩
      have hT6 := Lib.hid (hT5.out.next hb)
      clear hb
      go_wp2
      go_ret
      exact ⟨rfl, hT6.out.below⟩
end Go.Proofs.Ytipdggjalhjpnab
