/-
  Plans: what lacks (the law of Lacks).
-/
import Derived.Test.YtipdggjalhjpnabPlan8
namespace Go.Proofs.Ytipdggjalhjpnab
open Go.RowKit
set_option linter.unusedSimpArgs false
set_option linter.unusedVariables false

theorem greatB_no {n m : Int} (h : greatB n m = false) : n ≤ 100 ∧ m ≤ 100 := by
  unfold greatB at h
  rw [Bool.or_eq_false_iff] at h
  have h1 := of_decide_eq_false h.1
  have h2 := of_decide_eq_false h.2
  omega

/-- The topology in its box, and two lists that are alike. -/
def TwoIn (B : Nat) (S H : Int) (ev : Value) (es : List (Int × Int)) (w0 : World) (va vb : Value) (n : Nat) (cs : List Value) (W : World) : Prop := TopIn B S H ev es w0 W ∧ Rd W 3 va n cs ∧ Rd W 3 vb n cs
section
variable {B : Nat} {S H : Int} {ev : Value} {es : List (Int × Int)} {w0 : World} {va vb : Value} {n : Nat} {cs : List Value} {W W' : World}
theorem TwoIn.next (h : TwoIn B S H ev es w0 va vb n cs W) (hb : Below W.heap.size W W') : TwoIn B S H ev es w0 va vb n cs W' := ⟨h.1.next hb, h.2.1.keep hb, h.2.2.keep hb⟩
theorem TwoIn.drew (h : TwoIn B S H ev es w0 va vb n cs W) : TwoIn B S H ev es w0 va vb n cs W.drew := h.next (below_drew (Below.refl _ _))
theorem TwoIn.drewN (h : TwoIn B S H ev es w0 va vb n cs W) (m : Nat) : TwoIn B S H ev es w0 va vb n cs (W.drewN m) := h.next (below_drewN (Below.refl _ _) m)
theorem TwoIn.alloc (h : TwoIn B S H ev es w0 va vb n cs W) (o : Obj) : TwoIn B S H ev es w0 va vb n cs (W.alloc o) := h.next ((Below.refl _ _).alloc (Nat.le_refl _) _)
theorem TwoIn.top (h : TwoIn B S H ev es w0 va vb n cs W) : TopIn B S H ev es w0 W := h.1
theorem TwoIn.rd (h : TwoIn B S H ev es w0 va vb n cs W) : Rd W 2 ev es.length (edgeCells es) := h.1.rd
theorem TwoIn.below (h : TwoIn B S H ev es w0 va vb n cs W) : Below w0.heap.size w0 W := h.1.below
theorem TwoIn.cells (h : TwoIn B S H ev es w0 va vb n cs W) : W.cell? ⟨B, 0, none⟩ = some (.int .i64 S) ∧ W.cell? ⟨B, 1, none⟩ = some ev ∧ W.cell? ⟨B, 2, none⟩ = some (.int .i64 H) := h.1.cells
end

set_option maxRecDepth 8000 in
set_option maxHeartbeats 3200000 in
theorem planLacks_any (S H : Int) (ev v sv : Value) (es : List (Int × Int)) (xs : List Pub) (seen : List Sn) (w : World) (hl1 : xs.length ≤ 140737488355328) (hl2 : seen.length ≤ 140737488355328) (hr : Rd w 2 ev es.length (edgeCells es)) (hv : Rd w 3 v xs.length (xs.flatMap Pub.cs)) (hs : Rd w 3 sv seen.length (seen.flatMap Sn.cs)) :
    Calls Try.prog 8 #[topV S ev H, v, sv] w fun e w' => e = .returned (.bool true) ∧ Below w.heap.size w w' := by
  obtain ⟨va, vc, rfl⟩ := rd_slice hv
  obtain ⟨sa, sc, rfl⟩ := rd_slice hs
  have hT0 := Lib.hid (TopIn.mk1 (S := S) (H := H) w hr)
  unfold topV
  go_enter Try.func8, Try.ntmps8
  go_wp2_with fail
  refine (great_any S H _ _ es _ hT0.out.rd).mono ?_
  rintro e w1 ⟨rfl, hb⟩
  have hT1 := Lib.hid (hT0.out.next hb)
  clear hb hT0
  generalize hg : greatB _ _ = g
  cases g with
  | true =>
    go_wp2_with fail
    refine (lives2_any _).mono ?_
    rintro e w2 ⟨rfl, hb⟩
    have hT2 := Lib.hid (hT1.out.next hb)
    clear hb
    go_wp2
    go_ret
    exact ⟨rfl, hT2.out.below⟩
  | false =>
    obtain ⟨g1, g2⟩ := greatB_no hg
    clear hg
    have hxl : xs.length ≤ 1000 := by omega
    have hsl : seen.length ≤ 2000 := by omega
    go_wp2
    go_loopw [7, 9, 25] (fun u _ ix wr => ∃ i : Nat, i ≤ seen.length ∧ ix = .int .i64 (i : Int) ∧ wr.ownsRow w.heap.size 54 3 u i ((seen.take i).flatMap Sn.cs) ∧ TopIn w.heap.size S H ev es w wr) (fun _ _ ix _ => seen.length - (intOf ix).toNat)
    case atStart => exact ⟨0, by omega, rfl, World.ownsRow_nil _ _ _ _, hT1.out⟩
    case round =>
      rename World => wq
      obtain ⟨i, hi, rfl, hown, hTq⟩ := hrel
      have HTq := Lib.hid hTq
      have hqz := hTq.size
      have hBz := hTq.lt
      obtain ⟨c0, c1, c2⟩ := hTq.cells
      have Own := Lib.hid hown
      clear hTq hown
      by_cases hil : i < seen.length
      · obtain ⟨⟨x, o, s⟩, hxi⟩ : ∃ x, seen[i]? = some x := ⟨_, List.getElem?_eq_getElem hil⟩
        obtain ⟨b, off, rfl, hbb, d0, d1, d2⟩ := sn_at (hs.keep HTq.out.below) hxi
        have hX := Lib.hid (show (seen.take (i + 1)).flatMap Sn.cs = (seen.take i).flatMap Sn.cs ++ [.int .i64 x, .int .i64 o, .int .u64 s] by rw [List.take_add_one, hxi, List.flatMap_append]; simp [Sn.cs])
        simp only at d0 d1 d2
        have Rk := Lib.hid (rd_blk (W := (wq.alloc (.cells #[.int .i64 x, .int .i64 o, .int .u64 s] 53)).alloc (.cells #[.int .i64 x, .int .i64 o, .int .u64 s] 54)) (k := wq.heap.size + 1) (n := 1) (size := 3) (cs := #[.int .i64 x, .int .i64 o, .int .u64 s]) (t := 54) (by rw [heap_alloc_at]; simp) rfl (by unfold maxLen; omega))
        clear hxi c0 c1 c2
        go_wp2_with (first | (at_builtin; refine wpList_app _ rfl _ _ 48 rfl w.heap.size 54 (.agg #[.int .i64 0, .int .i64 0, .int .u64 0]) 3 24 Try.underlying48 info54 rfl (by decide) _ _ i 1 _ [.int .i64 x, .int .i64 o, .int .u64 s] rfl rfl ((Own.out.alloc _).alloc _) Rk.out (by simp [Value.oneCell']) (by omega) (by unfold maxLen; omega) (by simp; omega) ?_; intro v5 w5 ho5 hgr5))
        go_roundw
        case rel => exact ⟨i + 1, by omega, by go_num, by rw [hX.out]; exact ho5, TopIn.next2 hr ((HTq.out.alloc _).alloc _) hgr5 ((Own.out.alloc _).alloc _) (by decide) (Nat.le_refl _)⟩
        case measure => simp [intOf]; omega
      · obtain rfl : i = seen.length := by omega
        have HRs := Rd.of_own Own.out
        rw [List.take_length] at HRs
        obtain ⟨ua, uc, rfl⟩ := rd_slice HRs
        have HR := Lib.hid HRs
        clear Own HRs
        have hmx : Try.prog.follows .mixedOrders = true := by kernel_rfl
        have hT := HTq.out
        have hR := HR.out
        go_wp2_with fail
        go_region_held3 (fun w' => TopIn w.heap.size S H ev es w w' ∧ Rd w' 3 (.slice ua seen.length uc) seen.length (seen.flatMap Sn.cs) ∧ w'.cell? ⟨w.heap.size, 0, none⟩ = some (.int .i64 S) ∧ w'.cell? ⟨w.heap.size, 1, none⟩ = some ev ∧ w'.cell? ⟨w.heap.size, 2, none⟩ = some (.int .i64 H))
          (first | exact ⟨hT.drew, hR.keep (below_drew (Below.refl _ _)), hT.drew.cells⟩ | (go_split_ands; have hTz := TopIn.next (by assumption) hb; exact ⟨hTz, Rd.keep (by assumption) hb, hTz.cells⟩))
          (first
            | (go_at_call 29; refine (lacks_any S H _ _ _ es xs seen _ hxl hsl ?_ ?_ ?_).mono ?_; (go_split_ands; exact TopIn.rd (by assumption)); (go_split_ands; exact hv.keep (TopIn.below (by assumption))); (go_split_ands; exact hs.keep (TopIn.below (by assumption))); rintro e w2 ⟨v2, rfl, hownA, hb⟩; have hRA := Rd.of_own hownA)
            | (go_at_call 31; refine (pubs_any _ xs _ hxl ?_).mono ?_; (go_split_ands; exact hv.keep (TopIn.below (by assumption))); rintro e w3 ⟨v3, rfl, hownP, hb⟩; have hRP := Rd.of_own hownP; have hRA3 := hRA.keep hb)
            | (go_at_call 30; refine (rlacks_any S H _ _ _ es xs seen _ hxl hsl ?_ hRP ?_).mono ?_; (go_split_ands; exact TopIn.rd (by assumption)); (go_split_ands; assumption); rintro e w4 ⟨v4, rfl, hownB, hb⟩; have hRB := Rd.of_own hownB; have hRA4 := hRA3.keep hb))
        go_split_ands
        obtain ⟨wa, wc, rfl⟩ := rd_slice hRA
        obtain ⟨wb, wd, rfl⟩ := rd_slice hRB
        have hLL := lacksL_len S es H seen xs
        have HT4 := Lib.hid (show TwoIn w.heap.size S H ev es w _ _ _ _ w4 from ⟨by assumption, hRA4, hRB⟩)
        clear hRA hRA3 hRP hownA hownP hownB hRA4 hRB hb
        obtain ⟨c0, c1, c2⟩ := HT4.out.cells
        have hL2 : (lacksL S es H seen xs).length ≤ 9000 := by omega
        have hT4 := HT4.out
        go_wp2_with fail
        go_region_held3 (fun w' => TwoIn w.heap.size S H ev es w (.slice wa (lacksL S es H seen xs).length wc) (.slice wb (lacksL S es H seen xs).length wd) (lacksL S es H seen xs).length ((lacksL S es H seen xs).flatMap Sn.cs) w' ∧ w'.cell? ⟨w.heap.size, 0, none⟩ = some (.int .i64 S) ∧ w'.cell? ⟨w.heap.size, 1, none⟩ = some ev ∧ w'.cell? ⟨w.heap.size, 2, none⟩ = some (.int .i64 H))
          (first | exact ⟨hT4.drew, hT4.drew.cells⟩ | (go_split_ands; have hTz := TwoIn.next (by assumption) hb; exact ⟨hTz, hTz.cells⟩))
          (first
            | (go_at_call 32; refine (most_any S H _ _ es xs _ hxl ?_ ?_).mono ?_; (go_split_ands; exact TwoIn.rd (by assumption)); (go_split_ands; exact hv.keep (TwoIn.below (by assumption))); rintro e w5 ⟨rfl, hb⟩)
            | (go_at_call 31; refine (pubs_any _ xs _ hxl ?_).mono ?_; (go_split_ands; exact hv.keep (TwoIn.below (by assumption))); rintro e w6 ⟨v6, rfl, hownP, hb⟩; have hRP := Rd.of_own hownP)
            | (go_at_call 33; refine (rmost_any S H _ _ es xs _ hxl ?_ hRP).mono ?_; (go_split_ands; exact TwoIn.rd (by assumption)); rintro e w7 ⟨rfl, hb⟩))
        go_split_ands
        have HT7 := Lib.hid (show TwoIn w.heap.size S H ev es w _ _ _ _ w7 by assumption)
        clear hRP hownP hb c0 c1 c2 hT4 HT4
        generalize lacksL S es H seen xs = L at HT7 hL2
        go_wp2
        go_loopw [12, 64] (fun _ ix wr => ∃ k : Nat, k ≤ L.length ∧ ix = .int .i64 (k : Int) ∧ TwoIn w.heap.size S H ev es w (.slice wa L.length wc) (.slice wb L.length wd) L.length (L.flatMap Sn.cs) wr) (fun _ ix _ => L.length - (intOf ix).toNat)
        case atStart => exact ⟨0, by omega, rfl, HT7.out⟩
        case round =>
          rename World => wb
          obtain ⟨k, hk, rfl, hTb⟩ := hrel
          have HTb := Lib.hid hTb
          clear hTb
          by_cases hkl : k < L.length
          · obtain ⟨⟨x, o, s⟩, hxk⟩ : ∃ x, L[k]? = some x := ⟨_, List.getElem?_eq_getElem hkl⟩
            obtain ⟨b, off, rfl, hbb, d0, d1, d2⟩ := sn_at HTb.out.2.1 hxk
            obtain ⟨b2, off2, rfl, hbb2, e0, e1, e2⟩ := sn_at HTb.out.2.2 hxk
            simp only at d0 d1 d2 e0 e1 e2
            clear hxk
            have hq : ∀ w' : World, (Op.equal 51 (.agg #[.int .i64 o, .int .u64 s]) (.agg #[.int .i64 o, .int .u64 s])).run Try.prog w' = .ok true w' := fun w' => by
              have := eq51 9998 w' o s o s
              rw [beq_self_eq_true, beq_self_eq_true] at this
              exact this
            have HTd := Lib.hid HTb.out.drew
            go_wp2
            go_region_held3 (fun w' => w'.cell? ⟨b, off + k * 3, none⟩ = some (.int .i64 x) ∧ w'.cell? ⟨b, off + k * 3 + 1, none⟩ = some (.int .i64 o) ∧ w'.cell? ⟨b, off + k * 3 + 2, none⟩ = some (.int .u64 s) ∧ w'.cell? ⟨b2, off2 + k * 3, none⟩ = some (.int .i64 x) ∧ w'.cell? ⟨b2, off2 + k * 3 + 1, none⟩ = some (.int .i64 o) ∧ w'.cell? ⟨b2, off2 + k * 3 + 2, none⟩ = some (.int .u64 s))
              (exact ⟨d0, d1, d2, e0, e1, e2⟩) (fail)
            go_wp2
            go_roundw
            case rel => exact ⟨k + 1, by omega, by go_num, HTd.out⟩
            case measure => simp [intOf]; omega
          · obtain rfl : k = L.length := by omega
            go_wp2
            go_loopw [14, 94] (fun _ ix wr => ∃ k : Nat, k ≤ xs.length ∧ ix = .int .i64 (k : Int) ∧ TopIn w.heap.size S H ev es w wr) (fun _ ix _ => xs.length - (intOf ix).toNat)
            case atStart => exact ⟨0, by omega, rfl, HTb.out.top⟩
            case round =>
              rename World => wc
              obtain ⟨k, hk, rfl, hTc⟩ := hrel
              have HTc := Lib.hid hTc
              have hcz := hTc.size
              have hBz := hTc.lt
              obtain ⟨c0, c1, c2⟩ := hTc.cells
              clear hTc
              by_cases hkl : k < xs.length
              · obtain ⟨⟨o, s, f⟩, hxk⟩ : ∃ x, xs[k]? = some x := ⟨_, List.getElem?_eq_getElem hkl⟩
                obtain ⟨b, off, rfl, hbb, d0, d1, d2⟩ := pub_at (hv.keep HTc.out.below) hxk
                simp only at d0 d1 d2
                have HP := Lib.hid (heap_alloc_new wc (.cells #[.int .i64 o, .int .u64 s, .bool f] 62))
                have HTp := Lib.hid (HTc.out.alloc (.cells #[.int .i64 o, .int .u64 s, .bool f] 62))
                clear hxk c0 c1 c2
                have hT5 := HTp.out
                have hP5 := HP.out
                obtain ⟨c0, c1, c2⟩ := hT5.cells
                obtain ⟨p0, p1, p2⟩ := cells3 hP5
                go_wp2
                go_region_held3 (fun w' => TopIn w.heap.size S H ev es w w' ∧ w'.heap[wc.heap.size]? = some (.cells #[.int .i64 o, .int .u64 s, .bool f] 62 (0, 0)) ∧ w'.cell? ⟨w.heap.size, 0, none⟩ = some (.int .i64 S) ∧ w'.cell? ⟨w.heap.size, 1, none⟩ = some ev ∧ w'.cell? ⟨w.heap.size, 2, none⟩ = some (.int .i64 H) ∧ w'.cell? ⟨wc.heap.size, 0, none⟩ = some (.int .i64 o) ∧ w'.cell? ⟨wc.heap.size, 1, none⟩ = some (.int .u64 s) ∧ w'.cell? ⟨wc.heap.size, 2, none⟩ = some (.bool f))
                  (first | exact ⟨hT5.drew, hP5, hT5.drew.cells.1, hT5.drew.cells.2.1, hT5.drew.cells.2.2, p0, p1, p2⟩ | (go_split_ands; have hTz := TopIn.next (by assumption) hb; have hPz := (hb.block wc.heap.size (lt_of_block (by assumption))).trans (by assumption); exact ⟨hTz, hPz, hTz.cells.1, hTz.cells.2.1, hTz.cells.2.2, cells3 hPz⟩))
                  (first
                    | (go_at_call 34; refine (sites_any S H _ es ⟨o, s, f⟩ _ ?_).mono ?_; (go_split_ands; exact TopIn.rd (by assumption)); rintro e w5 ⟨v5, rfl, hownA, hb⟩; have hRA := Rd.of_own hownA)
                    | (go_at_call 35; refine (rsites_any S H _ es ⟨o, s, f⟩ _ ?_).mono ?_; (go_split_ands; exact TopIn.rd (by assumption)); rintro e w6 ⟨v6, rfl, hownB, hb⟩; have hRB := Rd.of_own hownB; have hRA6 := hRA.keep hb)
                    | (go_at_call 16; refine (ints_any _ _ _ _ _ hRA6 hRB).mono ?_; rintro e w7 ⟨rfl, m, rfl⟩; rw [beq_self_eq_true]; have hb := below_drewN (Below.refl w6.heap.size w6) m))
                go_split_ands
                have HT9 := Lib.hid (show TopIn w.heap.size S H ev es w (w6.drewN m) by assumption)
                clear hRA hRA6 hRB hownA hownB hb
                go_wp2
                go_roundw
                case rel => exact ⟨k + 1, by omega, by go_num, HT9.out⟩
                case measure => simp [intOf]; omega
              · obtain rfl : k = xs.length := by omega
                clear c0 c1 c2
                go_wp2_with fail
                refine (lives2_any _).mono ?_
                rintro e w8 ⟨rfl, hb⟩
                have hT8 := Lib.hid (HTc.out.next hb)
                clear hb
                go_wp2
                go_ret
                exact ⟨rfl, hT8.out.below⟩
end Go.Proofs.Ytipdggjalhjpnab
