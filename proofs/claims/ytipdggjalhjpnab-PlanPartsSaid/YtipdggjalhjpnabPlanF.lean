/-
  Plans: what lacks, once it is seen, lacks no more (the law of fills).
-/
import Derived.Test.YtipdggjalhjpnabFil
import Derived.Test.YtipdggjalhjpnabPlanL
namespace Go.Proofs.Ytipdggjalhjpnab
open Go.RowKit
set_option linter.unusedSimpArgs false
set_option linter.unusedVariables false

theorem own00 {W : World} {k base : Nat} {t : TypeId} (size : Nat) (h : W.heap[k]? = some (.cells #[] t (0, 0))) (hb : base ≤ k) : W.ownsRow base t size (.slice (some ⟨k, 0, none⟩) 0 0) 0 [] :=
  ⟨by simp, .inr ⟨k, 0, #[], rfl, hb, h, Nat.le_refl _, by decide, by simp, by simp⟩⟩
theorem sn_one (l : List Sn) : ∀ u ∈ l.flatMap Sn.cs, u.oneCell' = true := by
  intro u hu
  obtain ⟨e, _, hu⟩ := List.mem_flatMap.1 hu
  simp [Sn.cs] at hu
  rcases hu with rfl | rfl | rfl <;> rfl

theorem mul_in {a b : Nat} (ha : a ≤ 100) (hb : b ≤ 100) : IntKind.i64.wrap ((a : Int) * (b : Int)) = (a : Int) * (b : Int) := by
  have h1 : a * b ≤ 100 * 100 := Nat.mul_le_mul ha hb
  have h2 : ((a * b : Nat) : Int) ≤ 10000 := by omega
  have h3 : (0 : Int) ≤ ((a * b : Nat) : Int) := by omega
  rw [Int.natCast_mul] at h2 h3
  exact IntWalk.i64_in _ (by omega)
theorem app_one {w2 w5 : World} {t : TypeId} {size n : Nat} {v5 : Value} {xs : List Value} (h : w5.ownsRow w2.heap.size t size v5 (0 + n) ([] ++ xs)) (hg : (w2.alloc (.cells #[] t)).grownBy w5 (Value.slice (some ⟨w2.heap.size, 0, none⟩) 0 0).ownBlock) : Hid (w5.ownsRow w2.heap.size t size v5 n xs) ∧ w2.heap.size ≤ w5.heap.size ∧ Hid (Below w2.heap.size w2 w5) := by
  have hb : Below w2.heap.size w2 w5 := ((Below.refl w2.heap.size w2).alloc (Nat.le_refl _) (.cells #[] t)).grown hg (by simp) (fun k hk => by simp [Value.ownBlock] at hk; omega)
  exact ⟨Lib.hid (by simpa using h), hb.size, Lib.hid hb⟩

theorem app_two {w2 w5 w6 : World} {t : TypeId} {size n m : Nat} {v5 v6 : Value} {xs ys : List Value} (h : Hid (w5.ownsRow w2.heap.size t size v5 n xs)) (hb : Hid (Below w2.heap.size w2 w5)) (hg : w5.grownBy w6 v5.ownBlock) (ho : w6.ownsRow w2.heap.size t size v6 (n + m) (xs ++ ys)) :
    Hid (w6.ownsRow w2.heap.size t size v6 (n + m) (xs ++ ys)) ∧ w2.heap.size ≤ w6.heap.size ∧ Hid (Below w2.heap.size w2 w6) ∧ Hid (Rd w6 size v6 (n + m) (xs ++ ys)) := by
  have hB : Below w2.heap.size w2 w6 := hb.out.grown hg hb.out.size (fun k hk => (h.out.lt k hk).1)
  exact ⟨Lib.hid ho, hB.size, Lib.hid hB, Lib.hid (Rd.of_own ho)⟩
theorem rd_app {w : World} {v : Value} {l m : List Sn} (h : Rd w 3 v (l.length + m.length) (l.flatMap Sn.cs ++ m.flatMap Sn.cs)) : Rd w 3 v (l ++ m).length ((l ++ m).flatMap Sn.cs) := by
  rw [List.length_append, List.flatMap_append]; exact h

set_option maxRecDepth 8000 in
set_option maxHeartbeats 3200000 in
theorem planFills_any (S H : Int) (ev v sv : Value) (es : List (Int × Int)) (xs : List Pub) (seen : List Sn) (w : World) (hl1 : xs.length ≤ 140737488355328) (hl2 : seen.length ≤ 140737488355328) (hr : Rd w 2 ev es.length (edgeCells es)) (hv : Rd w 3 v xs.length (xs.flatMap Pub.cs)) (hs : Rd w 3 sv seen.length (seen.flatMap Sn.cs)) :
    Calls Try.prog 9 #[topV S ev H, v, sv] w fun e w' => e = .returned (.bool true) ∧ Below w.heap.size w w' := by
  obtain ⟨va, vc, rfl⟩ := rd_slice hv
  obtain ⟨sa, sc, rfl⟩ := rd_slice hs
  obtain ⟨ea, ec, rfl⟩ := rd_slice hr
  have hT0 := Lib.hid (TopIn.mk1 (S := S) (H := H) w hr)
  unfold topV
  go_enter Try.func9, Try.ntmps9
  go_wp2_with fail
  refine (great_any S H _ _ es _ hT0.out.rd).mono ?_
  rintro e w1 ⟨rfl, hb⟩
  have hT1 := Lib.hid (hT0.out.next hb)
  clear hb hT0
  generalize hg : greatB _ _ = g
  cases g with
  | true =>
    go_wp2_with fail
    refine (lives2_any _).mono ?_
    rintro e w2 ⟨rfl, hb⟩
    have hT2 := Lib.hid (hT1.out.next hb)
    clear hb
    go_wp2
    go_ret
    exact ⟨rfl, hT2.out.below⟩
  | false =>
    obtain ⟨g1, g2⟩ := greatB_no hg
    clear hg
    have hxl : xs.length ≤ 1000 := by omega
    have hsl : seen.length ≤ 2000 := by omega
    have hsl2 : seen.length ≤ 100 := by omega
    have hxl2 : xs.length ≤ 100 := by omega
    have hel : es.length ≤ 100 := by omega
    have hz1 := hT1.out.size
    obtain ⟨c0, c1, c2⟩ := hT1.out.cells
    go_wp2_with fail
    refine (lacks_any S H _ _ _ es xs seen _ hxl hsl hT1.out.rd (hv.keep hT1.out.below) (hs.keep hT1.out.below)).mono ?_
    rintro e w2 ⟨u2, rfl, hown, hb⟩
    obtain ⟨ua, uc, rfl⟩ := rd_slice (Rd.of_own hown)
    have hT2 := Lib.hid (hT1.out.next hb)
    have hLL := lacksL_len S es H seen xs
    have hLf := Lib.hid (lacks_full S es H seen xs)
    have hLn := lacks_le S es H seen xs
    have hL9 : (lacksL S es H seen xs).length ≤ 900 := by omega
    generalize lacksL S es H seen xs = L at hown hLf hLn hL9 ⊢
    have Own2 := Lib.hid hown
    have hz2 := hT2.out.size
    clear hown hb hLL c0 c1 c2 hT1
    go_wp2_with (first
      | (at_builtin; refine wpList_app _ rfl (.tmp 24) (.tmp 25) 47 rfl w2.heap.size 53 (.agg #[.int .i64 0, .int .i64 0, .int .u64 0]) 3 24 Try.underlying47 info53 rfl (by decide) _ _ 0 seen.length [] (seen.flatMap Sn.cs) rfl rfl (own00 3 (heap_alloc_new _ _) (Nat.le_refl _)) ((hs.keep hT2.out.below).al _) (sn_one seen) (by omega) (by unfold maxLen; omega) (by simp) ?_; intro v5 w5 ho5 hgr5; obtain ⟨h5, hz5, HB5⟩ := app_one ho5 hgr5; clear ho5 hgr5; obtain ⟨ya, yc, rfl⟩ := rd_slice (Rd.of_own h5.out))
      | (at_builtin; (refine wpList_app _ rfl (.tmp 26) (.tmp 27) 47 rfl w2.heap.size 53 (.agg #[.int .i64 0, .int .i64 0, .int .u64 0]) 3 24 Try.underlying47 info53 rfl (by decide) _ _ seen.length L.length (seen.flatMap Sn.cs) (L.flatMap Sn.cs) rfl rfl h5.out ((Rd.of_own Own2.out).keep HB5.out) (sn_one L) (by omega) (by unfold maxLen; omega) hz5 ?_); intro v6 w6 ho6 hgr6))
    obtain ⟨hA6, hz6, HB6, hN6⟩ := app_two h5 HB5 hgr6 ho6
    obtain ⟨xa, xc, rfl⟩ := rd_slice hN6.out
    have hT6 := Lib.hid (hT2.out.next HB6.out)
    have hLs := Lib.hid ((Rd.of_own Own2.out).keep HB6.out)
    clear h5 HB5 ho6 hgr6 hA6
    go_loopw [9, 11, 31] (fun nv _ ix wr => ∃ i : Nat, i ≤ xs.length ∧ ix = .int .i64 (i : Int) ∧ nv = .int .i64 (siteN S es H (xs.take i) : Int) ∧ Below w6.heap.size w6 wr) (fun _ _ ix _ => xs.length - (intOf ix).toNat)
    case atStart => exact ⟨0, by omega, rfl, rfl, Below.refl _ _⟩
    case round =>
      rename World => wq
      obtain ⟨i, hi, rfl, rfl, hbq⟩ := hrel
      have HTq := Lib.hid (hT6.out.next hbq)
      have hqz := hbq.size
      have HBq := Lib.hid hbq
      obtain ⟨c0, c1, c2⟩ := HTq.out.cells
      have hBz := HTq.out.lt
      clear hbq
      by_cases hil : i < xs.length
      · obtain ⟨⟨o, s, f⟩, hxi⟩ : ∃ x, xs[i]? = some x := ⟨_, List.getElem?_eq_getElem hil⟩
        obtain ⟨b, off, rfl, hbb, d0, d1, d2⟩ := pub_at (hv.keep HTq.out.below) hxi
        have hms := Lib.hid (show siteN S es H (xs.take (i + 1)) = siteN S es H (xs.take i) + (sitesL S es H ⟨o, s, f⟩).length by rw [List.take_add_one, hxi]; exact siteN_snoc _ _ _ _ _)
        have hle := siteN_le S es H (xs.take i)
        have hlt : (xs.take i).length ≤ 100 := by rw [List.length_take]; omega
        have hs9 := sites_len S es H ⟨o, s, f⟩
        generalize siteN S es H (xs.take i) = A at hms hle ⊢
        have hA9 : A ≤ 900 := by omega
        simp only at d0 d1 d2
        have hTp := Lib.hid (HTq.out.alloc (.cells #[.int .i64 o, .int .u64 s, .bool f] 62))
        clear hxi hle hlt
        go_wp2_with fail
        refine (sites_any S H _ es ⟨o, s, f⟩ _ hTp.out.rd).mono ?_
        rintro e w7 ⟨u, rfl, hown, hb⟩
        obtain ⟨ua7, uc7, rfl⟩ := rd_slice (Rd.of_own hown)
        have HB7 := Lib.hid ((HBq.out.alloc hqz _).trans (hb.mono (by simp; omega)))
        generalize (sitesL S es H ⟨o, s, f⟩).length = z at hs9 hms hown ⊢
        clear hown hb
        go_wp2
        go_roundw
        case rel => exact ⟨i + 1, by omega, by go_num, by rw [hms.out]; go_num, HB7.out⟩
        case measure => simp [intOf]; omega
      · obtain rfl : i = xs.length := by omega
        rw [List.take_length]
        have hSn := Lib.hid (lacks_none S es H xs)
        have hN9 := siteN_le S es H xs
        have hM := most_edges S es H xs
        generalize siteN S es H xs = N at hSn hN9 hLn ⊢
        have hN : N ≤ 900 := by omega
        have hmx : Try.prog.follows .mixedOrders = true := by kernel_rfl
        have hNN := Lib.hid (hN6.out.keep HBq.out)
        clear hN9
        have hd1 : decide (N < L.length) = false := decide_eq_false (by omega)
        go_wp2_with fail
        refine (lacks_any S H _ _ _ es xs (seen ++ L) _ hxl (by rw [List.length_append]; omega) HTq.out.rd (hv.keep HTq.out.below) (rd_app hNN.out)).mono ?_
        rintro e w8 ⟨u8, rfl, hown, hb⟩
        rw [hLf.out] at hown
        obtain ⟨ua8, uc8, rfl⟩ := rd_slice (Rd.of_own hown)
        have hT8 := Lib.hid (HTq.out.next hb)
        clear hown hb c0 c1 c2
        obtain ⟨c0, c1, c2⟩ := hT8.out.cells
        go_wp2_with fail
        refine (lacks_any S H _ _ _ es xs [] _ hxl (by simp) hT8.out.rd (hv.keep hT8.out.below) (rd_nil _ _)).mono ?_
        rintro e w9 ⟨u9, rfl, hown, hb⟩
        rw [hSn.out] at hown
        obtain ⟨ua9, uc9, rfl⟩ := rd_slice (Rd.of_own hown)
        have hT9 := Lib.hid (hT8.out.next hb)
        clear hown hb c0 c1 c2
        obtain ⟨c0, c1, c2⟩ := hT9.out.cells
        have hW9 := hT9.out
        obtain ⟨g, hg⟩ : ∃ g, decide (okT S es H) = g := ⟨_, rfl⟩
        have Hg := Lib.hid hg
        have hmul : IntKind.i64.wrap ((xs.length : Int) * (es.length : Int)) = (xs.length : Int) * (es.length : Int) := mul_in hxl2 hel
        have hle : decide ((mostN S es H xs : Int) ≤ (xs.length : Int) * (es.length : Int)) = true := decide_eq_true (by have := Int.ofNat_le.2 hM; rw [Int.natCast_mul] at this; exact this)
        clear hg
        go_wp2_with fail
        cases g with
        | true =>
          go_region_held3 (fun w' => TopIn w.heap.size S H (.slice ea es.length ec) es w w' ∧ w'.cell? ⟨w.heap.size, 0, none⟩ = some (.int .i64 S) ∧ w'.cell? ⟨w.heap.size, 1, none⟩ = some (.slice ea es.length ec) ∧ w'.cell? ⟨w.heap.size, 2, none⟩ = some (.int .i64 H))
            (first | exact ⟨hW9.drew, hW9.drew.cells⟩ | (go_split_ands; have hTz := TopIn.next (by assumption) hb; exact ⟨hTz, hTz.cells⟩))
            (first
              | (go_at_call 14; refine (good_any S H _ es _ ?_).mono ?_; (go_split_ands; exact TopIn.rd (by assumption)); rintro e wa ⟨rfl, hb⟩; rw [Hg.out])
              | (go_at_call 32; refine (most_any S H _ _ es xs _ hxl ?_ ?_).mono ?_; (go_split_ands; exact TopIn.rd (by assumption)); (go_split_ands; exact hv.keep (TopIn.below (by assumption))); rintro e wb ⟨rfl, hb⟩)
              | (go_at_call 28; refine (lives2_any _).mono ?_; rintro e wc ⟨rfl, hb⟩))
          all_goals
            go_wp2
            go_ret
            go_split_ands
            exact ⟨rfl, TopIn.below (by assumption)⟩
        | false =>
          clear c0 c1 c2
          have hW9d := hW9.drew
          refine wp_region_held_drew (S := fun w' => TopIn w.heap.size S H (.slice ea es.length ec) es w w') hmx hW9d (fun hS => ?_)
          clear hW9
          refine wpAnyH_take (i := 0) (v := (.agg #[.int .i64 S, .slice ea es.length ec, .int .i64 H])) rfl (by kernel_rfl) (by kernel_rfl) (by kernel_rfl) (fun _ _ _ h => h) (Or.inl ⟨by rfl, ?_⟩) hS ?_
          · intro w' hw; obtain ⟨c0, c1, c2⟩ := hw.cells; go_simp
          try simp only [List.getElem_toArray, List.getElem_cons_zero, List.getElem_cons_succ, Act.put, List.setIfInBounds_toArray, List.set_cons_zero, List.set_cons_succ]
          refine wpAnyH_ready (rs := [1]) (by kernel_rfl) (by simp) ?_
          refine AllReadyH.cons rfl (fun K hK => ?_) AllReadyH.nil
          go_simp
          refine (good_any S H _ es _ hS.rd).mono ?_
          rintro e wa ⟨rfl, hb⟩
          rw [Hg.out]
          have hSa := hS.next hb
          clear hb
          refine hK.out _ _ hSa (fun _ => ?_)
          clear hK K
          try simp only [List.getElem_toArray, List.getElem_cons_zero, List.getElem_cons_succ, Act.put, List.setIfInBounds_toArray, List.set_cons_zero, List.set_cons_succ]
          refine wpAnyH_take (i := 2) (v := .bool true) rfl (by kernel_rfl) (by kernel_rfl) (by kernel_rfl) (fun _ _ _ h => h) (Or.inl ⟨by rfl, ?_⟩) hSa ?_
          · intro w' _; go_simp
          try simp only [List.getElem_toArray, List.getElem_cons_zero, List.getElem_cons_succ, Act.put, List.setIfInBounds_toArray, List.set_cons_zero, List.set_cons_succ]
          refine wpAnyH_take (i := 3) (v := .bool true) rfl (by kernel_rfl) (by kernel_rfl) (by kernel_rfl) (fun _ _ _ h => h) (Or.inl ⟨by rfl, ?_⟩) hSa ?_
          · intro w' _; go_simp
          try simp only [List.getElem_toArray, List.getElem_cons_zero, List.getElem_cons_succ, Act.put, List.setIfInBounds_toArray, List.set_cons_zero, List.set_cons_succ]
          refine wpAnyH_take (i := 4) (v := undef) rfl (by kernel_rfl) (by kernel_rfl) (by kernel_rfl) (fun _ _ _ h => h) (Or.inr ⟨by rfl, rfl⟩) hSa ?_
          try simp only [List.getElem_toArray, List.getElem_cons_zero, List.getElem_cons_succ, Act.put, List.setIfInBounds_toArray, List.set_cons_zero, List.set_cons_succ]
          refine wpAnyH_take (i := 5) (v := undef) rfl (by kernel_rfl) (by kernel_rfl) (by kernel_rfl) (fun _ _ _ h => h) (Or.inr ⟨by rfl, rfl⟩) hSa ?_
          try simp only [List.getElem_toArray, List.getElem_cons_zero, List.getElem_cons_succ, Act.put, List.setIfInBounds_toArray, List.set_cons_zero, List.set_cons_succ]
          refine wpAnyH_take (i := 6) (v := undef) rfl (by kernel_rfl) (by kernel_rfl) (by kernel_rfl) (fun _ _ _ h => h) (Or.inr ⟨by rfl, rfl⟩) hSa ?_
          try simp only [List.getElem_toArray, List.getElem_cons_zero, List.getElem_cons_succ, Act.put, List.setIfInBounds_toArray, List.set_cons_zero, List.set_cons_succ]
          refine wpAnyH_take (i := 7) (v := undef) rfl (by kernel_rfl) (by kernel_rfl) (by kernel_rfl) (fun _ _ _ h => h) (Or.inr ⟨by rfl, rfl⟩) hSa ?_
          try simp only [List.getElem_toArray, List.getElem_cons_zero, List.getElem_cons_succ, Act.put, List.setIfInBounds_toArray, List.set_cons_zero, List.set_cons_succ]
          refine wpAnyH_take (i := 8) (v := undef) rfl (by kernel_rfl) (by kernel_rfl) (by kernel_rfl) (fun _ _ _ h => h) (Or.inr ⟨by rfl, rfl⟩) hSa ?_
          try simp only [List.getElem_toArray, List.getElem_cons_zero, List.getElem_cons_succ, Act.put, List.setIfInBounds_toArray, List.set_cons_zero, List.set_cons_succ]
          refine wpAnyH_take (i := 9) (v := undef) rfl (by kernel_rfl) (by kernel_rfl) (by kernel_rfl) (fun _ _ _ h => h) (Or.inr ⟨by rfl, rfl⟩) hSa ?_
          try simp only [List.getElem_toArray, List.getElem_cons_zero, List.getElem_cons_succ, Act.put, List.setIfInBounds_toArray, List.set_cons_zero, List.set_cons_succ]
          refine wpAnyH_take (i := 10) (v := undef) rfl (by kernel_rfl) (by kernel_rfl) (by kernel_rfl) (fun _ _ _ h => h) (Or.inr ⟨by rfl, rfl⟩) hSa ?_
          try simp only [List.getElem_toArray, List.getElem_cons_zero, List.getElem_cons_succ, Act.put, List.setIfInBounds_toArray, List.set_cons_zero, List.set_cons_succ]
          refine wpAnyH_take (i := 11) (v := undef) rfl (by kernel_rfl) (by kernel_rfl) (by kernel_rfl) (fun _ _ _ h => h) (Or.inr ⟨by rfl, rfl⟩) hSa ?_
          try simp only [List.getElem_toArray, List.getElem_cons_zero, List.getElem_cons_succ, Act.put, List.setIfInBounds_toArray, List.set_cons_zero, List.set_cons_succ]
          refine wpAnyH_take (i := 12) (v := undef) rfl (by kernel_rfl) (by kernel_rfl) (by kernel_rfl) (fun _ _ _ h => h) (Or.inr ⟨by rfl, rfl⟩) hSa ?_
          try simp only [List.getElem_toArray, List.getElem_cons_zero, List.getElem_cons_succ, Act.put, List.setIfInBounds_toArray, List.set_cons_zero, List.set_cons_succ]
          refine wpAnyH_take (i := 13) (v := undef) rfl (by kernel_rfl) (by kernel_rfl) (by kernel_rfl) (fun _ _ _ h => h) (Or.inr ⟨by rfl, rfl⟩) hSa ?_
          try simp only [List.getElem_toArray, List.getElem_cons_zero, List.getElem_cons_succ, Act.put, List.setIfInBounds_toArray, List.set_cons_zero, List.set_cons_succ]
          refine wpAnyH_take (i := 14) (v := .bool true) rfl (by kernel_rfl) (by kernel_rfl) (by kernel_rfl) (fun _ _ _ h => h) (Or.inl ⟨by rfl, ?_⟩) hSa ?_
          · intro w' _; go_simp
          try simp only [List.getElem_toArray, List.getElem_cons_zero, List.getElem_cons_succ, Act.put, List.setIfInBounds_toArray, List.set_cons_zero, List.set_cons_succ]
          refine wpAnyH_take (i := 15) (v := .bool true) rfl (by kernel_rfl) (by kernel_rfl) (by kernel_rfl) (fun _ _ _ h => h) (Or.inl ⟨by rfl, ?_⟩) hSa ?_
          · intro w' _; go_simp
          try simp only [List.getElem_toArray, List.getElem_cons_zero, List.getElem_cons_succ, Act.put, List.setIfInBounds_toArray, List.set_cons_zero, List.set_cons_succ]
          refine wpAnyH_ready (rs := [16]) (by kernel_rfl) (by simp) ?_
          refine AllReadyH.cons rfl (fun K hK => ?_) AllReadyH.nil
          go_simp
          refine (lives2_any _).mono ?_
          rintro e wc ⟨rfl, hb⟩
          have hSb := hSa.next hb
          clear hb
          refine hK.out _ _ hSb (fun _ => ?_)
          clear hK K
          try simp only [List.getElem_toArray, List.getElem_cons_zero, List.getElem_cons_succ, Act.put, List.setIfInBounds_toArray, List.set_cons_zero, List.set_cons_succ]
          refine wpAnyH_take (i := 17) (v := .bool true) rfl (by kernel_rfl) (by kernel_rfl) (by kernel_rfl) (fun _ _ _ h => h) (Or.inl ⟨by rfl, ?_⟩) hSb ?_
          · intro w' _; go_simp
          try simp only [List.getElem_toArray, List.getElem_cons_zero, List.getElem_cons_succ, Act.put, List.setIfInBounds_toArray, List.set_cons_zero, List.set_cons_succ]
          refine wpAnyH_take (i := 18) (v := .bool true) rfl (by kernel_rfl) (by kernel_rfl) (by kernel_rfl) (fun _ _ _ h => h) (Or.inl ⟨by rfl, ?_⟩) hSb ?_
          · intro w' _; go_simp
          try simp only [List.getElem_toArray, List.getElem_cons_zero, List.getElem_cons_succ, Act.put, List.setIfInBounds_toArray, List.set_cons_zero, List.set_cons_succ]
          refine wpAnyH_done (by kernel_rfl) ?_ _
          go_wp2
          go_ret
          exact ⟨rfl, hSb.below⟩
end Go.Proofs.Ytipdggjalhjpnab
