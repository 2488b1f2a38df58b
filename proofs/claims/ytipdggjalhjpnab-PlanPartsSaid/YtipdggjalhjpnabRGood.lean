/-
  Topologies: the reference's Good.
-/
import Derived.Test.YtipdggjalhjpnabGood
namespace Go.Proofs.Ytipdggjalhjpnab
open Go.RowKit
set_option linter.unusedSimpArgs false
set_option linter.unusedVariables false

theorem cells3 {w : World} {g : Nat} {u0 u1 u2 : Value} {t : TypeId} {f : Nat × Nat} (h : w.heap[g]? = some (.cells #[u0, u1, u2] t f)) : w.cell? ⟨g, 0, none⟩ = some u0 ∧ w.cell? ⟨g, 1, none⟩ = some u1 ∧ w.cell? ⟨g, 2, none⟩ = some u2 :=
  ⟨cell_of_row _ _ 0 _ _ _ h, cell_of_row _ _ 1 _ _ _ h, cell_of_row _ _ 2 _ _ _ h⟩
theorem cells2 {w : World} {g : Nat} {u0 u1 : Value} {t : TypeId} {f : Nat × Nat} (h : w.heap[g]? = some (.cells #[u0, u1] t f)) : w.cell? ⟨g, 0, none⟩ = some u0 ∧ w.cell? ⟨g, 1, none⟩ = some u1 :=
  ⟨cell_of_row _ _ 0 _ _ _ h, cell_of_row _ _ 1 _ _ _ h⟩
set_option maxRecDepth 4000 in
set_option maxHeartbeats 1600000 in
theorem rgood_any (S H : Int) (ev : Value) (es : List (Int × Int)) (w : World) (hr : Rd w 2 ev es.length (edgeCells es)) :
    Calls Try.prog 15 #[topV S ev H] w fun e w' => e = .returned (.bool (decide (okT S es H))) ∧ Below w.heap.size w w' := by
  have hB := Below.refl w.heap.size w
  obtain ⟨a, cap, rfl⟩ := rd_slice hr
  have hmx : es.length ≤ 9223372036854775807 := by obtain ⟨_, a', c', e', k1, k2, _⟩ := hr; unfold maxLen at k2; omega
  obtain ⟨ok, hok⟩ : ∃ ok, decide (okT S es H) = ok := ⟨_, rfl⟩
  have Hok := Lib.hid hok
  unfold topV
  by_cases f0 : S < 1
  · obtain rfl : ok = false := by rw [← hok]; exact decide_eq_false (fun h => by have := h.1; omega)
    clear hok
    go_enter Try.func15, Try.ntmps15
    go_wp2
    go_ret
    exact ⟨congrArg (fun z => Ending.returned (.bool z)) Hok.out.symm, hB.alloc (Nat.le_refl _) _⟩
  by_cases f1 : 8 < S
  · obtain rfl : ok = false := by rw [← hok]; exact decide_eq_false (fun h => by have := h.2.1; omega)
    clear hok
    go_enter Try.func15, Try.ntmps15
    go_wp2
    go_ret
    exact ⟨congrArg (fun z => Ending.returned (.bool z)) Hok.out.symm, hB.alloc (Nat.le_refl _) _⟩
  by_cases f2 : H < 0
  · obtain rfl : ok = false := by rw [← hok]; exact decide_eq_false (fun h => by have := h.2.2.1; omega)
    clear hok
    go_enter Try.func15, Try.ntmps15
    go_wp2
    go_ret
    exact ⟨congrArg (fun z => Ending.returned (.bool z)) Hok.out.symm, hB.alloc (Nat.le_refl _) _⟩
  by_cases f3 : 8 < H
  · obtain rfl : ok = false := by rw [← hok]; exact decide_eq_false (fun h => by have := h.2.2.2.1; omega)
    clear hok
    go_enter Try.func15, Try.ntmps15
    go_wp2
    go_ret
    exact ⟨congrArg (fun z => Ending.returned (.bool z)) Hok.out.symm, hB.alloc (Nat.le_refl _) _⟩
  by_cases f4 : 64 < es.length
  · obtain rfl : ok = false := by rw [← hok]; exact decide_eq_false (fun h => by have := okE_len h.2.2.2.2 h.2.1; omega)
    clear hok
    go_enter Try.func15, Try.ntmps15
    go_wp2
    go_ret
    exact ⟨congrArg (fun z => Ending.returned (.bool z)) Hok.out.symm, hB.alloc (Nat.le_refl _) _⟩
  have hS1 : 1 ≤ S := by omega
  have hS8 : S ≤ 8 := by omega
  have hH0 : 0 ≤ H := by omega
  have hH8 : H ≤ 8 := by omega
  have hE6 : es.length ≤ 64 := by omega
  have hcap : es.length ≤ cap := by obtain ⟨_, a', c', e', k1, k2, _⟩ := hr; have := (Value.slice.injEq _ _ _ _ _ _).mp e'; omega
  clear f0 f1 f2 f3 f4 hmx
  have Dok := Lib.hid hok
  clear hok
  go_enter Try.func15, Try.ntmps15
  go_wp2
  go_loopw [3, 4, 6, 34] (fun _ _ _ ix wr => ∃ i : Nat, i ≤ es.length ∧ ix = .int .i64 (i : Int) ∧ okE S (es.take i) ∧ wr.heap[w.heap.size]? = some (.cells #[.int .i64 S, .slice a es.length cap, .int .i64 H] 24 (0, 0)) ∧ Below w.heap.size w wr) (fun _ _ _ ix _ => es.length - (intOf ix).toNat)
  case atStart => exact ⟨0, by omega, rfl, by simp [okE], heap_alloc_new _ _, hB.alloc (Nat.le_refl _) _⟩
  case round =>
    rename World => wo
    obtain ⟨i, hi, rfl, hok, hb1, hB⟩ := hrel
    have hwz := hB.size
    have hbz := lt_of_block hb1
    by_cases hlt : i < es.length
    · obtain ⟨⟨x, y⟩, he⟩ : ∃ e, es[i]? = some e := ⟨_, List.getElem?_eq_getElem hlt⟩
      obtain ⟨b, off, rfl, hbb, hx, hy⟩ := edge_at hr he
      replace hx := (hB.cell (p := ⟨b, off + i * 2, none⟩) hbb).trans hx
      replace hy := (hB.cell (p := ⟨b, off + i * 2 + 1, none⟩) hbb).trans hy
      have Hx := Lib.hid hok
      have He := Lib.hid he
      have B1 := Lib.hid hb1
      have bz := Lib.hid hbz
      clear hok he hb1 hbz
      have T0 := Lib.hid ((Below.heap_alloc wo (.cells #[.int .i64 x, .int .i64 y] 39) _ bz.out).trans B1.out)
      have E0 := Lib.hid (heap_alloc_new wo (.cells #[.int .i64 x, .int .i64 y] 39))
      have hA := hB.alloc hwz (.cells #[.int .i64 x, .int .i64 y] 39)
      obtain ⟨c0, c1, c2⟩ := cells3 T0.out
      obtain ⟨d0, d1⟩ := cells2 E0.out
      have hwr2 : wo.heap.size < wo.heap.size + 1 := Nat.lt_succ_self _
      by_cases hvx : btw x S = true
      · by_cases hvy : btw y S = true
        · by_cases hxy : x = y
          · subst hxy
            have hg : ok = false := by rw [← Dok.out]; exact decide_eq_false (fun h => (h.2.2.2.2.1 _ (List.mem_of_getElem? He.out)).2.2.2.2 rfl)
            subst hg
            go_wp2_with (first | (go_at_call 40; refine (site_any S H _ _ _).mono ?_; rintro e w1 ⟨rfl, hb⟩; replace T0 := Lib.hid ((hb.block _ (lt_of_block T0.out)).trans T0.out); replace E0 := Lib.hid ((hb.block _ (lt_of_block E0.out)).trans E0.out); replace hA := hA.trans (hb.mono hA.size); clear hb; obtain ⟨c0, c1, c2⟩ := cells3 T0.out; obtain ⟨d0, d1⟩ := cells2 E0.out))
            go_ret
            exact ⟨congrArg (fun z => Ending.returned (.bool z)) Hok.out.symm, hA⟩
          · have V := Lib.hid (show 1 ≤ x ∧ x ≤ S ∧ 1 ≤ y ∧ y ≤ S by have h1 : 1 ≤ x ∧ x ≤ S := by simpa [btw] using hvx
                                                                     have h2 : 1 ≤ y ∧ y ≤ S := by simpa [btw] using hvy
                                                                     omega)
            go_wp2_with (first | (go_at_call 40; refine (site_any S H _ _ _).mono ?_; rintro e w1 ⟨rfl, hb⟩; replace T0 := Lib.hid ((hb.block _ (lt_of_block T0.out)).trans T0.out); replace E0 := Lib.hid ((hb.block _ (lt_of_block E0.out)).trans E0.out); replace hA := hA.trans (hb.mono hA.size); clear hb; obtain ⟨c0, c1, c2⟩ := cells3 T0.out; obtain ⟨d0, d1⟩ := cells2 E0.out))
            go_loopw [6, 63] (fun _ jx wq => ∃ j : Nat, j ≤ i ∧ jx = .int .i64 (j : Int) ∧ (x, y) ∉ es.take j ∧ wq.heap[w.heap.size]? = some (.cells #[.int .i64 S, .slice (some ⟨b, off, none⟩) es.length cap, .int .i64 H] 24 (0, 0)) ∧ wq.heap[wo.heap.size]? = some (.cells #[.int .i64 x, .int .i64 y] 39 (0, 0)) ∧ Below w.heap.size w wq) (fun _ jx _ => i - (intOf jx).toNat)
            case atStart => exact ⟨0, by omega, rfl, by simp, T0.out, E0.out, hA⟩
            case round =>
              rename World => wq
              clear T0 E0 c0 c1 c2 d0 d1 hx hy
              obtain ⟨j, hj, rfl, hnj, t0, e0, hC⟩ := hrel
              have hcz := hC.size
              by_cases hjl : j < i
              · obtain ⟨⟨p, q⟩, hf⟩ : ∃ e, es[j]? = some e := ⟨_, List.getElem?_eq_getElem (by omega)⟩
                obtain ⟨b', off', ee, hbb', hx, hy⟩ := edge_at hr hf
                obtain ⟨rfl, rfl⟩ : b = b' ∧ off = off' := by simpa using ee
                replace hx := (hC.cell (p := ⟨b, off + j * 2, none⟩) hbb').trans hx
                replace hy := (hC.cell (p := ⟨b, off + j * 2 + 1, none⟩) hbb').trans hy
                obtain ⟨d0, d1⟩ := cells2 e0
                have hlz := lt_of_block e0
                have T1 := Lib.hid ((Below.heap_alloc wq (.cells #[.int .i64 p, .int .i64 q] 39) _ (lt_of_block t0)).trans t0)
                have E1 := Lib.hid ((Below.heap_alloc wq (.cells #[.int .i64 p, .int .i64 q] 39) _ hlz).trans e0)
                have Hf := Lib.hid hf
                have Hn := Lib.hid hnj
                clear t0 e0 hf hnj ee
                by_cases hpq : p = x ∧ q = y
                · obtain ⟨rfl, rfl⟩ := hpq
                  have hg : ok = false := by rw [← Dok.out]; exact decide_eq_false (fun h => dup_bad h.2.2.2.2.2 He.out (List.mem_iff_getElem?.2 ⟨j, by rw [List.getElem?_take, if_pos hjl]; exact Hf.out⟩))
                  subst hg
                  go_wp2
                  go_ret
                  exact ⟨congrArg (fun z => Ending.returned (.bool z)) Hok.out.symm, hC.alloc hcz _⟩
                · by_cases hpx : p = x
                  · have hqy : ¬ q = y := fun h => hpq ⟨hpx, h⟩
                    clear hpq
                    subst hpx
                    go_wp2
                    go_roundw
                    case rel => exact ⟨j + 1, by omega, by go_num, take_not Hf.out Hn.out (fun e => hqy (congrArg Prod.snd e)), T1.out, E1.out, hC.alloc hcz _⟩
                    case measure => simp [intOf]; omega
                  · clear hpq
                    go_wp2
                    go_roundw
                    case rel => exact ⟨j + 1, by omega, by go_num, take_not Hf.out Hn.out (fun e => hpx (congrArg Prod.fst e)), T1.out, E1.out, hC.alloc hcz _⟩
                    case measure => simp [intOf]; omega
              · obtain rfl : j = i := by omega
                have T1 := Lib.hid t0
                have Hn := Lib.hid hnj
                clear t0 e0 hnj
                go_wp2
                go_roundw
                case rel => exact ⟨j + 1, by omega, by go_num, by rw [List.take_add_one, He.out]; exact okE_snoc Hx.out ⟨V.out.1, V.out.2.1, V.out.2.2.1, V.out.2.2.2, hxy⟩ Hn.out, T1.out, hC⟩
                case measure => simp [intOf]; omega
        · have hg : ok = false := by rw [← Dok.out]; exact decide_eq_false (fun h => hvy (by have := h.2.2.2.2.1 _ (List.mem_of_getElem? He.out); simp [btw, this.2.2.1, this.2.2.2.1]))
          subst hg
          simp at hvy
          go_wp2_with (first | (go_at_call 40; refine (site_any S H _ _ _).mono ?_; rintro e w1 ⟨rfl, hb⟩; replace T0 := Lib.hid ((hb.block _ (lt_of_block T0.out)).trans T0.out); replace E0 := Lib.hid ((hb.block _ (lt_of_block E0.out)).trans E0.out); replace hA := hA.trans (hb.mono hA.size); clear hb; obtain ⟨c0, c1, c2⟩ := cells3 T0.out; obtain ⟨d0, d1⟩ := cells2 E0.out))
          go_ret
          exact ⟨congrArg (fun z => Ending.returned (.bool z)) Hok.out.symm, hA⟩
      · have hg : ok = false := by rw [← Dok.out]; exact decide_eq_false (fun h => hvx (by have := h.2.2.2.2.1 _ (List.mem_of_getElem? He.out); simp [btw, this.1, this.2.1]))
        subst hg
        simp at hvx
        go_wp2_with (first | (go_at_call 40; refine (site_any S H _ _ _).mono ?_; rintro e w1 ⟨rfl, hb⟩; replace T0 := Lib.hid ((hb.block _ (lt_of_block T0.out)).trans T0.out); replace E0 := Lib.hid ((hb.block _ (lt_of_block E0.out)).trans E0.out); replace hA := hA.trans (hb.mono hA.size); clear hb; obtain ⟨c0, c1, c2⟩ := cells3 T0.out; obtain ⟨d0, d1⟩ := cells2 E0.out))
        go_ret
        exact ⟨congrArg (fun z => Ending.returned (.bool z)) Hok.out.symm, hA⟩
    · obtain rfl : i = es.length := by omega
      rw [List.take_length] at hok
      have hg : ok = true := by rw [← Dok.out]; exact decide_eq_true ⟨hS1, hS8, hH0, hH8, hok⟩
      subst hg
      clear hok
      go_wp2
      go_ret
      exact ⟨congrArg (fun z => Ending.returned (.bool z)) Hok.out.symm, hB⟩
end Go.Proofs.Ytipdggjalhjpnab
