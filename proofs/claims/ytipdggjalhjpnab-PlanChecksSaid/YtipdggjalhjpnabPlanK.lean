/-
  Plans: the first wrong event (the law of checks).
-/
import Derived.Test.YtipdggjalhjpnabPlanX
import Derived.Test.YtipdggjalhjpnabPlanL
namespace Go.Proofs.Ytipdggjalhjpnab
open Go.RowKit
set_option linter.unusedSimpArgs false
set_option linter.unusedVariables false

set_option maxRecDepth 8000 in
set_option maxHeartbeats 3200000 in
theorem planChecks_any (S H : Int) (ev v sv : Value) (es : List (Int × Int)) (xs : List Pub) (evs : List Ev) (w : World) (hl1 : xs.length ≤ 140737488355328) (hl2 : evs.length ≤ 140737488355328) (hok : ∀ x ∈ evs, x.ok) (hr : Rd w 2 ev es.length (edgeCells es)) (hv : Rd w 3 v xs.length (xs.flatMap Pub.cs)) (hs : Rd w 4 sv evs.length (evs.flatMap Ev.cs)) :
    Calls Try.prog 11 #[topV S ev H, v, sv] w fun e w' => e = .returned (.bool true) ∧ Below w.heap.size w w' := by
  obtain ⟨va, vc, rfl⟩ := rd_slice hv
  obtain ⟨sa, sc, rfl⟩ := rd_slice hs
  have hT0 := Lib.hid (TopIn.mk1 (S := S) (H := H) w hr)
  unfold topV
  go_enter Try.func11, Try.ntmps11
  go_wp2_with fail
  refine (great_any S H _ _ es _ hT0.out.rd).mono ?_
  rintro e w1 ⟨rfl, hb⟩
  have hT1 := Lib.hid (hT0.out.next hb)
  clear hb hT0
  generalize hg : greatB _ _ = g
  cases g with
  | true =>
    go_wp2_with fail
    refine (lives2_any _).mono ?_
    rintro e w2 ⟨rfl, hb⟩
    have hT2 := Lib.hid (hT1.out.next hb)
    clear hb
    go_wp2
    go_ret
    exact ⟨rfl, hT2.out.below⟩
  | false =>
    obtain ⟨g1, g2⟩ := greatB_no hg
    clear hg
    have hxl : xs.length ≤ 1000 := by omega
    have hel : evs.length ≤ 1000 := by omega
    have hmx : Try.prog.follows .mixedOrders = true := by kernel_rfl
    have hel2 : evs.length ≤ 9223372036854775807 := by omega
    go_wp2
    go_loopw [8, 23] (fun _ ix wr => ∃ i : Nat, i ≤ evs.length ∧ ix = .int .i64 (i : Int) ∧ TopIn w.heap.size S H ev es w wr) (fun _ ix _ => evs.length - (intOf ix).toNat)
    case atStart => exact ⟨0, by omega, rfl, hT1.out⟩
    case round =>
      clear hT1
      rename World => wq
      obtain ⟨i, hi, rfl, hTq⟩ := hrel
      have HTq := Lib.hid hTq
      have hBz := hTq.lt
      obtain ⟨c0, c1, c2⟩ := hTq.cells
      clear hTq
      by_cases hil : i < evs.length
      · obtain ⟨⟨n, q, o, s⟩, hxi⟩ : ∃ x, evs[i]? = some x := ⟨_, List.getElem?_eq_getElem hil⟩
        obtain ⟨b, off, rfl, hbb, d0, d1, d2, d3⟩ := ev_at (hs.keep HTq.out.below) hxi
        have hqs : q.size ≤ 9223372036854775807 := by have := hok _ (List.mem_of_getElem? hxi); unfold Ev.ok maxLen at this; simp only at this; omega
        simp only at d0 d1 d2 d3
        have hT2 := Lib.hid (HTq.out.alloc (.cells #[.int .i64 n, .string q, .int .i64 o, .int .u64 s] 70))
        clear hxi c0 c1 c2
        by_cases hq : 200 < q.size
        · go_wp2_with fail
          refine (lives2_any _).mono ?_
          rintro e w2 ⟨rfl, hb⟩
          have hT3 := Lib.hid (hT2.out.next hb)
          clear hb
          go_wp2
          go_ret
          exact ⟨rfl, hT3.out.below⟩
        · have hq2 : q.size ≤ 200 := by omega
          clear hq
          go_wp2
          go_roundw
          case rel => exact ⟨i + 1, by omega, by go_num, hT2.out⟩
          case measure => simp [intOf]; omega
      · obtain rfl : i = evs.length := by omega
        go_wp2_with fail
        refine (check_any S H _ _ _ es xs evs _ hxl hel HTq.out.rd (hv.keep HTq.out.below) (hs.keep HTq.out.below)).mono ?_
        rintro e w2 ⟨rfl, hb⟩
        have hT2 := Lib.hid (HTq.out.next hb)
        clear hb c0 c1 c2
        obtain ⟨c0, c1, c2⟩ := hT2.out.cells
        have hT := hT2.out.drew
        go_wp2_with fail
        go_region_held3 (fun w' => TopIn w.heap.size S H ev es w w' ∧ w'.cell? ⟨w.heap.size, 0, none⟩ = some (.int .i64 S) ∧ w'.cell? ⟨w.heap.size, 1, none⟩ = some ev ∧ w'.cell? ⟨w.heap.size, 2, none⟩ = some (.int .i64 H))
          (first | exact ⟨hT, hT.cells⟩ | (go_split_ands; have hTz := TopIn.next (by assumption) hb; exact ⟨hTz, hTz.cells⟩))
          (first
            | (go_at_call 31; refine (pubs_any _ xs _ hxl ?_).mono ?_; (go_split_ands; exact hv.keep (TopIn.below (by assumption))); rintro e w3 ⟨v3, rfl, hownP, hb⟩; have hRP := Rd.of_own hownP)
            | (go_at_call 38; refine (events_any _ evs _ hel ?_).mono ?_; (go_split_ands; exact hs.keep (TopIn.below (by assumption))); rintro e w4 ⟨v4, rfl, hownE, hb⟩; have hRE := Rd.of_own hownE; have hRP4 := hRP.keep hb)
            | (go_at_call 37; refine (rcheck_any S H _ _ _ es xs evs _ hxl hel ?_ hRP4 hRE).mono ?_; (go_split_ands; exact TopIn.rd (by assumption)); rintro e w5 ⟨rfl, hb⟩))
        go_split_ands
        have HT5 := Lib.hid (show TopIn w.heap.size S H ev es w w5 by assumption)
        clear hRP hRP4 hRE hownP hownE hb c0 c1 c2 hT
        generalize checkL S es H xs evs = r
        obtain ⟨r1, r2⟩ := r
        go_wp2_with fail
        refine (lives2_any _).mono ?_
        rintro e w6 ⟨rfl, hb⟩
        have HT6 := Lib.hid (HT5.out.next hb)
        clear hb
        go_wp2
        go_ret
        exact ⟨rfl, HT6.out.below⟩
end Go.Proofs.Ytipdggjalhjpnab
