/-
  Topologies: the reference's Far.
-/
import Derived.Test.YtipdggjalhjpnabRReach
import Derived.Test.YtipdggjalhjpnabLevels
namespace Go.Proofs.Ytipdggjalhjpnab
open Go.RowKit
set_option linter.unusedSimpArgs false
set_option linter.unusedVariables false

set_option maxRecDepth 4000 in
set_option maxHeartbeats 3200000 in
theorem rfar_any (S H f t : Int) (ev : Value) (es : List (Int × Int)) (w : World) (hr : Rd w 2 ev es.length (edgeCells es)) :
    Calls Try.prog 20 #[topV S ev H, .int .i64 f, .int .i64 t] w fun e w' => e = .returned (.int .i64 (farI S es H f t)) ∧ Below w.heap.size w w' := by
  have hB := Below.refl w.heap.size w
  have hA := hB.alloc (Nat.le_refl _) (.cells #[.int .i64 S, ev, .int .i64 H] 24)
  have T0 := Lib.hid (heap_alloc_new w (.cells #[.int .i64 S, ev, .int .i64 H] 24))
  have hx := hr.keep hA
  unfold topV
  obtain ⟨ok, hok⟩ : ∃ ok, decide (okT S es H) = ok := ⟨_, rfl⟩
  have Hok := Lib.hid hok
  clear hok
  cases ok with
  | false =>
    have hF := Lib.hid (show farI S es H f t = -1 by unfold farI; split <;> first | rfl | exact levF_bad (of_decide_eq_false Hok.out))
    go_enter Try.func20, Try.ntmps20
    go_wp2_with (first | (go_at_call 15; refine (rgood_any S H ev es _ hx).mono ?_; rintro e w1 ⟨rfl, hb⟩; rw [Hok.out]; have hA1 := hA.trans (hb.mono hA.size)))
    go_ret
    exact ⟨congrArg (fun z => Ending.returned (.int .i64 z)) hF.out.symm, hA1⟩
  | true =>
    by_cases hf : btw f S = true
    · by_cases ht : btw t S = true
      · have hT := of_decide_eq_true Hok.out
        have hE := Lib.hid hT.2.2.2.2
        have hS8 := hT.2.1
        have hf2 : 1 ≤ f ∧ f ≤ S := by simpa [btw] using hf
        have ht2 : 1 ≤ t ∧ t ≤ S := by simpa [btw] using ht
        obtain ⟨a, rfl⟩ : ∃ a : Nat, f = (a : Int) := ⟨f.toNat, by omega⟩
        obtain ⟨b, rfl⟩ : ∃ b : Nat, t = (b : Int) := ⟨t.toNat, by omega⟩
        have ha9 : a < 9 := by omega
        have hb9 : b < 9 := by omega
        have hF := Lib.hid (show farI S es H (a : Int) (b : Int) = levI S es a b by unfold farI levF; rw [if_pos ht, if_pos ⟨hT, hf⟩]; simp)
        clear hT
        go_enter Try.func20, Try.ntmps20
        go_wp2_with (first | (go_at_call 15; refine (rgood_any S H ev es _ hx).mono ?_; rintro e w1 ⟨rfl, hb⟩; rw [Hok.out]; replace T0 := Lib.hid ((hb.block _ (lt_of_block T0.out)).trans T0.out); replace hA := hA.trans (hb.mono hA.size); obtain ⟨c0, c1, c2⟩ := cells3 T0.out; clear hb) | (go_at_call 40; refine (site_any S H _ _ _).mono ?_; rintro e w1 ⟨rfl, hb⟩; replace T0 := Lib.hid ((hb.block _ (lt_of_block T0.out)).trans T0.out); replace hA := hA.trans (hb.mono hA.size); obtain ⟨c0, c1, c2⟩ := cells3 T0.out; clear hb))
        rename World => wf
        have hx1 := hr.keep (show Below w.heap.size w wf from hA)
        have hfz := hA.size
        have tz := lt_of_block T0.out
        go_loopw [8, 9, 10, 11] (fun nv _ _ _ wr => ∃ n : Nat, (n : Int) ≤ S ∧ nv = .int .i64 (n : Int) ∧ (∀ m, m < n → rch es a m b = false) ∧ wr.heap[w.heap.size]? = some (.cells #[.int .i64 S, ev, .int .i64 H] 24 (0, 0)) ∧ wr.heap[wf.heap.size]? = some (.cells (boolA (rch es a n)) 35 (0, 0)) ∧ Below w.heap.size w wr) (fun nv _ _ _ _ => 9 - (intOf nv).toNat)
        case atStart =>
          have e1 : ([Value.bool false, .bool false, .bool false, .bool false, .bool false, .bool false, .bool false, .bool false, .bool false].set a (.bool true)).toArray = boolA (rch es a 0) := by
            rw [← boolA_set (fun _ => false) (rch es a 0) ha9 true (by simp [rch]) (fun b hb => by simp [rch, hb])]
            simp [boolA, List.range, List.range.loop]
          exact ⟨0, by omega, rfl, fun m hm => by omega, (Below.heap_alloc _ _ _ tz).trans T0.out, by rw [e1]; exact heap_alloc_new _ _, hA.alloc hfz _⟩
        case round =>
          rename World => wq
          obtain ⟨n, hn, rfl, hno, ht0, hat, hC⟩ := hrel
          obtain ⟨c0, c1, c2⟩ := cells3 ht0
          have hcz := hC.size
          by_cases hlt : (n : Int) < S
          · have hcb := (cell_of_row _ _ b _ _ _ hat).trans (boolA_get _ hb9)
            by_cases hrb : rch es a n b = true
            · rw [hrb] at hcb
              have hl := Lib.hid (lev_found (S := S) hlt hrb hno)
              go_wp2
              go_ret
              exact ⟨congrArg (fun z => Ending.returned (.int .i64 z)) (hF.out.trans hl.out).symm, hC⟩
            · simp at hrb
              rw [hrb] at hcb
              have Hat := Lib.hid hat
              have Ht0 := Lib.hid ht0
              have haz := lt_of_block hat
              have hrb2 := Lib.hid hrb
              clear hat ht0 hrb
              go_wp2
              go_loopw [10, 11] (fun kv _ wr => ∃ k : Nat, 1 ≤ k ∧ (k : Int) ≤ S + 1 ∧ kv = .int .i64 (k : Int) ∧ wr.heap[wq.heap.size]? = some (.cells (boolA fun x => decide (x < k) && rch es a (n + 1) x) 35 (0, 0)) ∧ Keep wq.heap.size wq.heap.size wq wr ∧ wq.heap.size < wr.heap.size ∧ Below w.heap.size w wr) (fun kv _ _ => 10 - (intOf kv).toNat)
              case atStart =>
                have e2 : boolA (fun x => decide (x < 1) && rch es a (n + 1) x) = boolA (fun _ => false) := boolA_congr (fun x _ => by
                  cases hq : rch es a (n + 1) x with
                  | false => simp
                  | true => have := rch_in hE.out (by omega) (by omega) hq; simp; omega)
                exact ⟨1, by omega, by omega, rfl, by rw [e2]; exact heap_alloc_new _ _, (Keep.refl _ _ _).alloc (Nat.le_refl _) _, by simp, hC.alloc hcz _⟩
              case round =>
                rename World => wk
                obtain ⟨k, hk1, hkS, rfl, hmr, hK, hkz, hD⟩ := hrel
                have u1 := (hK.block _ haz (by omega)).trans Hat.out
                have u0 := (hK.block _ (by have := hC.size; exact lt_of_block Ht0.out) (by have := lt_of_block Ht0.out; omega)).trans Ht0.out
                obtain ⟨c0, c1, c2⟩ := cells3 u0
                by_cases hks : (k : Int) ≤ S
                · have hk9 : k < 9 := by omega
                  have q1 := (cell_of_row _ _ k _ _ _ u1).trans (boolA_get _ hk9)
                  have q2 := (cell_of_row _ _ k _ _ _ hmr).trans (boolA_get _ hk9)
                  have q3 : wk.frozen? ⟨wq.heap.size, k, none⟩ = false := by simp [World.frozen?, hmr]
                  go_wp2
                  go_loopw [11] (fun jv wr => ∃ j : Nat, 1 ≤ j ∧ (j : Int) ≤ S + 1 ∧ jv = .int .i64 (j : Int) ∧ wr.heap[wq.heap.size]? = some (.cells (boolA fun x => if x = k then moreK es a n k j else decide (x < k) && rch es a (n + 1) x) 35 (0, 0)) ∧ Keep wq.heap.size wq.heap.size wq wr ∧ wq.heap.size < wr.heap.size ∧ Below w.heap.size w wr) (fun jv _ => 10 - (intOf jv).toNat)
                  case atStart =>
                    have e4 : (boolA fun x => decide (x < k) && rch es a (n + 1) x).setIfInBounds k (.bool (rch es a n k)) = boolA (fun x => if x = k then moreK es a n k 1 else decide (x < k) && rch es a (n + 1) x) :=
                      boolA_set _ _ hk9 _ (by simp [moreK_one hE.out (show 1 ≤ a by omega) (by omega)]) (fun x hx => by simp [hx])
                    exact ⟨1, by omega, by omega, rfl, by rw [heap_setCell_same wk _ _ _ _ _ hmr, e4], hK.setCell _ _, by simpa [World.setCell] using hkz, hD.setCell (by simp; omega) _⟩
                  case round =>
                    clear q1 q2 q3 c0 c1 c2 hmr
                    rename World => wj
                    obtain ⟨j, hj1, hjS, rfl, hmr, hJ, hjz, hG⟩ := hrel
                    have v1 := (hJ.block _ haz (by omega)).trans Hat.out
                    have v0 := (hJ.block _ (lt_of_block Ht0.out) (by have := lt_of_block Ht0.out; omega)).trans Ht0.out
                    obtain ⟨c0, c1, c2⟩ := cells3 v0
                    have hxj := hr.keep hG
                    by_cases hjs : (j : Int) ≤ S
                    · have hj9 : j < 9 := by omega
                      have hms := moreK_succ es a n k j
                      have q1 := (cell_of_row _ _ j _ _ _ v1).trans (boolA_get _ hj9)
                      cases hrj : rch es a n j with
                      | false =>
                        rw [hrj] at q1 hms
                        have hms2 := Lib.hid (show moreK es a n k (j + 1) = moreK es a n k j by rw [hms]; simp)
                        have Hmr := Lib.hid hmr
                        clear hms hmr hrj
                        go_wp2
                        go_roundw
                        case rel => exact ⟨j + 1, by omega, by omega, by go_num, by rw [hms2.out]; exact Hmr.out, hJ, hjz, hG⟩
                        case measure => simp [intOf]; omega
                      | true =>
                        rw [hrj] at q1 hms
                        have Hmr := Lib.hid hmr
                        clear hmr hrj
                        cases he : hasE es j k with
                        | false =>
                          have hed := Lib.hid (show decide (((j : Int), (k : Int)) ∈ es) = false from he)
                          have hms2 := Lib.hid (show moreK es a n k (j + 1) = moreK es a n k j by rw [hms, he]; simp)
                          clear hms he
                          go_wp2_with (first | (go_at_call 42; refine (edge_any S H (j : Int) (k : Int) ev es _ hxj).mono ?_; rintro e w2 ⟨rfl, hb⟩; rw [hed.out]; have m2 := (hb.block _ hjz).trans Hmr.out; have J2 : Keep wq.heap.size wq.heap.size wq w2 := ⟨Nat.le_trans hJ.size hb.size, fun x hx hf => (hb.block x (Nat.lt_of_lt_of_le hx hJ.size)).trans (hJ.block x hx hf)⟩; have z2 : wq.heap.size < w2.heap.size := Nat.lt_of_lt_of_le hjz hb.size; have G2 := hG.trans (hb.mono hG.size); have hcm := (cell_of_row _ _ k _ _ _ m2).trans (boolA_get _ hk9); have hfm : w2.frozen? ⟨wq.heap.size, k, none⟩ = false := (by simp [World.frozen?, m2]); have M2 := Lib.hid m2; clear m2))
                          go_roundw
                          case rel => exact ⟨j + 1, by omega, by omega, by go_num, by rw [hms2.out]; exact M2.out, J2, z2, G2⟩
                          case measure => simp [intOf]; omega
                        | true =>
                          have hed := Lib.hid (show decide (((j : Int), (k : Int)) ∈ es) = true from he)
                          have hms2 := Lib.hid (show moreK es a n k (j + 1) = true by rw [hms, he]; simp)
                          clear hms he
                          go_wp2_with (first | (go_at_call 42; refine (edge_any S H (j : Int) (k : Int) ev es _ hxj).mono ?_; rintro e w2 ⟨rfl, hb⟩; rw [hed.out]; have m2 := (hb.block _ hjz).trans Hmr.out; have J2 : Keep wq.heap.size wq.heap.size wq w2 := ⟨Nat.le_trans hJ.size hb.size, fun x hx hf => (hb.block x (Nat.lt_of_lt_of_le hx hJ.size)).trans (hJ.block x hx hf)⟩; have z2 : wq.heap.size < w2.heap.size := Nat.lt_of_lt_of_le hjz hb.size; have G2 := hG.trans (hb.mono hG.size); have hcm := (cell_of_row _ _ k _ _ _ m2).trans (boolA_get _ hk9); have hfm : w2.frozen? ⟨wq.heap.size, k, none⟩ = false := (by simp [World.frozen?, m2]); have M2 := Lib.hid m2; clear m2))
                          go_roundw
                          case rel => exact ⟨j + 1, by omega, by omega, by go_num, by rw [heap_setCell_same w2 _ _ _ _ _ M2.out, boolA_set _ (fun x => if x = k then moreK es a n k (j + 1) else decide (x < k) && rch es a (n + 1) x) hk9 true (by simp [hms2.out]) (fun x hx => by simp [hx])], J2.setCell _ _, by simpa [World.setCell] using z2, G2.setCell (by simp; omega) _⟩
                          case measure => simp [intOf]; omega
                    · have e5 : boolA (fun x => if x = k then moreK es a n k j else decide (x < k) && rch es a (n + 1) x) = boolA (fun x => decide (x < k + 1) && rch es a (n + 1) x) := boolA_congr (fun x _ => by
                        by_cases hxk : x = k
                        · subst hxk; simp [moreK_all hE.out hS8 (show 1 ≤ a by omega) (by omega) n x (j := j) (by omega) (by omega)]
                        · have : (x < k + 1) ↔ (x < k) := by omega
                          simp [hxk, this])
                      rw [e5] at hmr
                      have Hmr := Lib.hid hmr
                      clear hmr e5
                      go_wp2
                      go_roundw
                      case rel => exact ⟨k + 1, by omega, by omega, by go_num, Hmr.out, hJ, hjz, hG⟩
                      case measure => simp [intOf]; omega
                · have e3 : boolA (fun x => decide (x < k) && rch es a (n + 1) x) = boolA (rch es a (n + 1)) := boolA_congr (fun x _ => by
                    cases hq : rch es a (n + 1) x with
                    | false => simp
                    | true => have := rch_in hE.out (by omega) (by omega) hq; simp; omega)
                  rw [e3] at hmr
                  have M1 := Lib.hid hmr
                  have M2 := Lib.hid u1
                  have M3 := Lib.hid u0
                  obtain ⟨Y, hY⟩ : ∃ Y, boolA (rch es a (n + 1)) = Y := ⟨_, rfl⟩
                  have Ys := Lib.hid (show (Try.prog.info? 35).map (·.size) = some Y.size by rw [← hY]; exact size35b _)
                  have Yo := Lib.hid (show Y.all (·.oneCell') = true by rw [← hY]; exact boolA_one _)
                  have Yz := Lib.hid (show (boolA (rch es a n)).size = Y.size by rw [← hY]; simp [boolA])
                  have HY := Lib.hid hY
                  rw [hY] at M1
                  clear hmr u1 u0 hY e3
                  go_wp2_with (first | (with_reducible refine wpList_load_row (t := 35) wq.heap.size Y 9 4 ?_ Try.underlying35 Ys.out 35 (0, 0) M1.out ?_; (simp [Act.eval, Act.put])) | (with_reducible refine wpList_store_row (t := 35) wf.heap.size (boolA (rch es a n)) Y ?_ ?_ Ys.out 35 M2.out Yz.out Yo.out ?_; (simp [Act.eval, Act.put]); (simp [Act.eval, Act.put])))
                  refine ⟨⟨n + 1, by omega, by go_num, fun m hm => ?_, ?_, ?_, below_setRow hD (by omega) _⟩, by simp [intOf]; omega⟩
                  · rcases Nat.lt_or_ge m n with h | h
                    · exact hno m h
                    · obtain rfl : m = n := by omega
                      exact hrb2.out
                  · rw [setRow_other _ _ _ _ (by omega)]; exact M3.out
                  · rw [HY.out]; exact setRow_heap _ _ _ _ _ _ M2.out
          · have hl := Lib.hid (lev_none (S := S) (es := es) (a := a) (b := b) (fun m hm => hno m (by omega)))
            go_wp2
            go_ret
            exact ⟨congrArg (fun z => Ending.returned (.int .i64 z)) (hF.out.trans hl.out).symm, hC⟩
      · have hF := Lib.hid (show farI S es H f t = -1 by unfold farI; rw [if_neg ht])
        simp at ht
        go_enter Try.func20, Try.ntmps20
        go_wp2_with (first | (go_at_call 15; refine (rgood_any S H ev es _ hx).mono ?_; rintro e w1 ⟨rfl, hb⟩; rw [Hok.out]; replace T0 := Lib.hid ((hb.block _ (lt_of_block T0.out)).trans T0.out); replace hA := hA.trans (hb.mono hA.size); obtain ⟨c0, c1, c2⟩ := cells3 T0.out; clear hb) | (go_at_call 40; refine (site_any S H _ _ _).mono ?_; rintro e w1 ⟨rfl, hb⟩; replace T0 := Lib.hid ((hb.block _ (lt_of_block T0.out)).trans T0.out); replace hA := hA.trans (hb.mono hA.size); obtain ⟨c0, c1, c2⟩ := cells3 T0.out; clear hb))
        go_ret
        exact ⟨congrArg (fun z => Ending.returned (.int .i64 z)) hF.out.symm, hA⟩
    · have hF := Lib.hid (show farI S es H f t = -1 by
        unfold farI
        split
        · unfold levF; rw [if_neg (fun h => hf h.2)]
        · rfl)
      simp at hf
      go_enter Try.func20, Try.ntmps20
      go_wp2_with (first | (go_at_call 15; refine (rgood_any S H ev es _ hx).mono ?_; rintro e w1 ⟨rfl, hb⟩; rw [Hok.out]; replace T0 := Lib.hid ((hb.block _ (lt_of_block T0.out)).trans T0.out); replace hA := hA.trans (hb.mono hA.size); obtain ⟨c0, c1, c2⟩ := cells3 T0.out; clear hb) | (go_at_call 40; refine (site_any S H _ _ _).mono ?_; rintro e w1 ⟨rfl, hb⟩; replace T0 := Lib.hid ((hb.block _ (lt_of_block T0.out)).trans T0.out); replace hA := hA.trans (hb.mono hA.size); obtain ⟨c0, c1, c2⟩ := cells3 T0.out; clear hb))
      go_ret
      exact ⟨congrArg (fun z => Ending.returned (.int .i64 z)) hF.out.symm, hA⟩
end Go.Proofs.Ytipdggjalhjpnab
