/-
  Topologies: the reference's Onward.
-/
import Derived.Test.YtipdggjalhjpnabRFar
import Derived.Test.YtipdggjalhjpnabRNext
import Derived.Test.YtipdggjalhjpnabOnward
import Derived.Test.YtipdggjalhjpnabRWithin
namespace Go.Proofs.Ytipdggjalhjpnab
open Go.RowKit
set_option linter.unusedSimpArgs false
set_option linter.unusedVariables false

set_option maxRecDepth 4000 in
set_option maxHeartbeats 1600000 in
theorem ronward_any (S H o s : Int) (ev : Value) (es : List (Int × Int)) (w : World) (hr : Rd w 2 ev es.length (edgeCells es)) :
    Calls Try.prog 24 #[topV S ev H, .int .i64 o, .int .i64 s] w fun e w' => ∃ v, e = .returned v ∧ w'.ownsRow w.heap.size 3 1 v (onward S es H o s).length (ints (onward S es H o s)) ∧ Below w.heap.size w w' := by
  have hB := Below.refl w.heap.size w
  have hA := hB.alloc (Nat.le_refl _) (.cells #[.int .i64 S, ev, .int .i64 H] 24)
  have hx := hr.keep hA
  have T0 := Lib.hid (heap_alloc_new w (.cells #[.int .i64 S, ev, .int .i64 H] 24))
  obtain ⟨z, hz⟩ : ∃ z, farI S es H o s = z := ⟨_, rfl⟩
  have HZ := Lib.hid hz
  have hbd := farI_bd S es H o s
  have hO : onward S es H o s = if z = -1 ∨ H ≤ z then [] else flt o (nextL S es H s) := by rw [← hz]; rfl
  rw [hz] at hbd
  have HO := Lib.hid hO
  clear hz hO
  unfold topV
  by_cases h1 : z = -1
  · have hO := Lib.hid (show onward S es H o s = [] by rw [HO.out, if_pos (.inl h1)])
    subst h1
    clear hbd
    go_enter Try.func24, Try.ntmps24
    go_wp2_with (first | (go_at_call 20; refine (rfar_any S H o s ev es _ hx).mono ?_; rintro e w1 ⟨rfl, hb⟩; rw [HZ.out]; have c0 := cells3 ((hb.block _ (lt_of_block T0.out)).trans T0.out); obtain ⟨c0, c1, c2⟩ := c0; replace hA := hA.trans (hb.mono hA.size)))
    go_ret
    exact ⟨_, rfl, by rw [hO.out]; exact World.ownsRow_nil _ _ _ _, hA⟩
  · have h0 : 0 ≤ z := by omega
    clear hbd
    by_cases h2 : H ≤ z
    · have hO := Lib.hid (show onward S es H o s = [] by rw [HO.out, if_pos (.inr h2)])
      go_enter Try.func24, Try.ntmps24
      go_wp2_with (first | (go_at_call 20; refine (rfar_any S H o s ev es _ hx).mono ?_; rintro e w1 ⟨rfl, hb⟩; rw [HZ.out]; have t0 := (hb.block _ (lt_of_block T0.out)).trans T0.out; obtain ⟨c0, c1, c2⟩ := cells3 t0; replace hA := hA.trans (hb.mono hA.size); replace hx := hx.keep hb; have t0 := Lib.hid t0))
      go_ret
      exact ⟨_, rfl, by rw [hO.out]; exact World.ownsRow_nil _ _ _ _, hA⟩
    · have hO := Lib.hid (show onward S es H o s = flt o (nextL S es H s) by rw [HO.out, if_neg (fun h => h.elim h1 h2)])
      have h3 : z < H := by omega
      have h4 : decide (H ≤ z) = false := decide_eq_false h2
      clear h2
      go_enter Try.func24, Try.ntmps24
      go_wp2_with (first | (go_at_call 20; refine (rfar_any S H o s ev es _ hx).mono ?_; rintro e w1 ⟨rfl, hb⟩; rw [HZ.out]; have t0 := (hb.block _ (lt_of_block T0.out)).trans T0.out; obtain ⟨c0, c1, c2⟩ := cells3 t0; replace hA := hA.trans (hb.mono hA.size); replace hx := hx.keep hb; have t0 := Lib.hid t0) | (go_at_call 18; refine (rnext_any S H s ev es _ hx).mono ?_; rintro e w2 ⟨v, rfl, hown, hb⟩; obtain ⟨va, vc, rfl⟩ := rd_slice (Rd.of_own hown); have hA2 := hA.trans (hb.mono hA.size)))
      have hR := Rd.of_own hown
      have hLl : (nextL S es H s).length ≤ 9 := by
        unfold nextL
        split
        · exact outs_len _ _ _
        · simp
      generalize nextL S es H s = L at hR hLl hO hown
      have hszA := hA2.size
      clear hown hb
      go_loopw [8, 10, 27] (fun vx _ ix wr => ∃ i : Nat, i ≤ L.length ∧ ix = .int .i64 (i : Int) ∧ wr.ownsRow w2.heap.size 3 1 vx (flt o (L.take i)).length (ints (flt o (L.take i))) ∧ Below w2.heap.size w2 wr) (fun _ _ ix _ => L.length - (intOf ix).toNat)
      case atStart => exact ⟨0, by omega, rfl, World.ownsRow_nil _ _ _ _, Below.refl _ _⟩
      case round =>
        rename World => wq
        obtain ⟨i, hi, rfl, hown, hD⟩ := hrel
        have hdz := hD.size
        by_cases hil : i < L.length
        · obtain ⟨x, hxi⟩ : ∃ x, L[i]? = some x := ⟨_, List.getElem?_eq_getElem hil⟩
          obtain ⟨_, a', cap', ee, _, _, _, h4'⟩ := hR
          obtain ⟨rfl, rfl⟩ : va = a' ∧ vc = cap' := by simpa using ee
          obtain ⟨b, off, rfl, hbb, hcell⟩ := h4' (by omega)
          have hd := (hD.cell (p := ⟨b, off + i, none⟩) hbb).trans (hcell i (.int .i64 x) (by simp [ints, hxi]))
          have hfn : flt o (L.take (i + 1)) = if x = o then flt o (L.take i) else flt o (L.take i) ++ [x] := by rw [List.take_add_one, hxi]; exact flt_snoc _ _ _
          have hfl : (flt o (L.take i)).length ≤ 9 := by
            have h1 : (flt o (L.take i)).length ≤ (L.take i).length := List.length_filter_le _ _
            rw [List.length_take] at h1; omega
          clear hcell h4' ee hxi
          by_cases hxo : x = o
          · have hO2 := Lib.hid (hfn.trans (if_pos hxo))
            clear hfn
            subst hxo
            go_wp2
            go_roundw
            case rel => exact ⟨i + 1, by omega, by go_num, by rw [hO2.out]; exact hown, hD⟩
            case measure => simp [intOf]; omega
          · have hO2 := Lib.hid (hfn.trans (if_neg hxo))
            clear hfn
            have hne : (x != o) = true := by simp [hxo]
            go_wp2_with (first | (at_builtin; refine wpList_app _ rfl _ _ 28 rfl w2.heap.size 3 (.int .i64 0) 1 8 Try.underlying28 Try.info3 rfl (by decide) _ _ _ 1 _ [_] rfl rfl (hown.alloc _) (rd_one _ _ _) (by simp [Value.oneCell']) (by omega) (by unfold maxLen; omega) (by simp; omega) ?_; intro v5 w5 ho5 hgr5))
            go_roundw
            case rel => exact ⟨i + 1, by omega, by go_num, by rw [hO2.out, List.length_append, ints_append]; exact ho5, (hD.alloc hdz _).grown hgr5 (by simp; omega) (fun k hk => (hown.lt k hk).1)⟩
            case measure => simp [intOf]; omega
        · obtain rfl : i = L.length := by omega
          rw [List.take_length] at hown
          have Ho := Lib.hid hown
          clear hown
          go_wp2
          go_ret
          exact ⟨_, rfl, by rw [hO.out]; exact own_base Ho.out hszA, hA2.trans (hD.mono hszA)⟩
end Go.Proofs.Ytipdggjalhjpnab
