/-
  Contract of the law SealRows.
-/
import Derived.Test.YtjinjlfocjohhaaDoorSCuts
import Derived.Test.YtjinjlfocjohhaaDoorSLaw2
import Derived.Test.YtjinjlfocjohhaaDoorShare3
namespace Go.Proofs.YtjinjlfocjohhaaDoor
open Go.RowKit
set_option linter.unusedSimpArgs false
set_option linter.unusedVariables false

theorem Tryd.info3' : (Tryd.prog.info? 3).map (fun i => (i.zero, i.size, i.bytes)) = some (some (.int .i64 0), 1, 8) := by kernel_rfl

theorem RdRows.at {w : World} {v : Value} {l : List (List Int)} (h : RdRows w v l) : ∃ a cap, v = .slice a l.length cap ∧ l.length ≤ cap ∧ cap ≤ maxLen ∧
    ∀ i x, l[i]? = some x → ∃ b off ca cc, a = some ⟨b, off, none⟩ ∧ w.cell? ⟨b, off + i, none⟩ = some (.slice ca x.length cc) ∧ Rd w 1 (.slice ca x.length cc) x.length (by8 x) := by
  obtain ⟨cells, ⟨hl, a, cap, rfl, h1, h2, h3, h4⟩, hc, hr⟩ := h
  refine ⟨a, cap, rfl, h1, h2, fun i x hx => ?_⟩
  have hi := (List.getElem?_eq_some_iff.1 hx).1
  obtain ⟨b, off, rfl, hb, hcell⟩ := h4 (by omega)
  have e := List.getElem?_eq_getElem (l := cells) (i := i) (by omega)
  have hR := hr i _ x e hx
  obtain ⟨ca, cc, hcc⟩ := rd_slice hR
  rw [hcc] at hR e
  exact ⟨b, off, ca, cc, rfl, hcell i _ e, hR⟩

theorem lt_of_cell {w : World} {b o : Nat} {v : Value} (h : w.cell? ⟨b, o, none⟩ = some v) : b < w.heap.size := World.block_lt_of_cell? w _ h
theorem Rd.cellAt {w : World} {g n cap : Nat} {cs : List Value} (h : Rd w 1 (.slice (some ⟨g, 0, none⟩) n cap) n cs) {j : Nat} {u : Value} (hj : cs[j]? = some u) : w.cell? ⟨g, j, none⟩ = some u := by
  obtain ⟨hl, a, cap', e, _, _, _, h4⟩ := h
  have := (List.getElem?_eq_some_iff.1 hj).1
  obtain ⟨b, off, rfl, _, hc⟩ := h4 (by omega)
  obtain ⟨⟨rfl, rfl⟩, rfl⟩ : (g = b ∧ 0 = off) ∧ cap = cap' := by simpa using e
  have h5 := hc j u hj
  rwa [Nat.zero_add] at h5
theorem Rd.front {w : World} {a : Option Addr} {cap : Nat} {z : List Int} (h : Rd w 1 (.slice a z.length cap) z.length (by8 z)) {k : Nat} (hk : k ≤ z.length) : Rd w 1 (.slice a k cap) (z.take k).length (by8 (z.take k)) := by
  have hl : (z.take k).length = k := by rw [List.length_take]; omega
  rw [hl]
  obtain ⟨h0, a', cap', e, h1, h2, h3, h4⟩ := h
  obtain ⟨rfl, rfl⟩ : a = a' ∧ cap = cap' := by simpa using e
  refine ⟨by simp [by8]; omega, a, cap, rfl, by omega, h2, fun e => ⟨by have := h3 e; omega, (h3 e).2⟩, fun hp => ?_⟩
  obtain ⟨b, off, e1, e2, e3⟩ := h4 (by omega)
  refine ⟨b, off, e1, e2, fun j u hj => e3 j u ?_⟩
  have hjk : j < k := by have := (List.getElem?_eq_some_iff.1 hj).1; simp [by8] at this; omega
  simpa [by8, List.getElem?_take, hjk] using hj
theorem Plain.front {a : Option Addr} {n cap k : Nat} (h : Plain (.slice a n cap)) : Plain (.slice a k cap) := by
  intro a' n' c' e hc
  obtain ⟨rfl, rfl, rfl⟩ : a = a' ∧ k = n' ∧ cap = c' := by simpa using e
  exact h _ _ _ rfl hc
set_option maxHeartbeats 6400000 in
theorem sealRows_any (u : Value) (l : List (List Int)) (c : Int) (w : World) (hw : Wid w) (hr : RdRows w u l) (hl : ∀ x ∈ l, Byt x ∧ x.length ≤ 140737488351232) (hll : l.length ≤ 140737488351232)
    (hc0 : 0 ≤ c) (hc1 : c ≤ 18446744073709551615) :
    Calls Tryd.prog 14 #[u, .int .u64 c] w fun e w' => e = .returned (.bool true) ∧ Below w.heap.size w w' := by
  have hB := Below.refl w.heap.size w
  obtain ⟨a, cap, rfl, hcap1, hcap2, hat0⟩ := hr.at
  have Hl := Lib.hid hl
  clear hl hat0
  go_enter Tryd.func14, Tryd.ntmps14
  go_wp2
  go_loopw [5, 6, 8, 18] (fun vb ve _ ix wr => ∃ i : Nat, i ≤ l.length ∧ ix = .int .i64 (i : Int) ∧ wr.ownsRow w.heap.size 5 1 vb (slen l i) (by8 (seals (l.take i))) ∧ wr.ownsRow w.heap.size 3 1 ve (i + 1) (endsV l i) ∧ slen l i ≤ 5008 ∧ ((0 < i → l.length ≤ 200) ∧ ∀ j x, j < i → l[j]? = some x → x.length ≤ 5000) ∧ Below w.heap.size w wr)
    (fun _ _ _ ix _ => l.length - (intOf ix).toNat)
  case atStart =>
    refine ⟨0, by omega, rfl, ?_, ⟨by simp [endsV], .inr ⟨w.heap.size, 1, #[.int .i64 0], rfl, Nat.le_refl _, heap_alloc_new w _, Nat.le_refl _, by decide, rfl, by simp [endsV, slen, seals]⟩⟩, by simp [slen, seals], ⟨(fun h => by omega), fun j x h => by omega⟩, hB.alloc (Nat.le_refl _) _⟩
    have e0 : slen l 0 = 0 := by simp [slen, seals]
    rw [e0]
    exact World.ownsRow_nil _ _ _ _
  case round =>
    obtain ⟨i, hi, rfl, hob, hoe, hsl, ⟨h200, hj5⟩, hB⟩ := hrel
    have Hj := Lib.hid hj5
    clear hj5
    have hwr := hw.below hB
    have hrr := hr.keep hB
    obtain ⟨a', cap', ee, _, _, hat⟩ := hrr.at
    obtain ⟨rfl, rfl⟩ : a = a' ∧ cap = cap' := by simpa using ee
    by_cases hlt : i < l.length
    · obtain ⟨x, hx⟩ : ∃ x, l[i]? = some x := ⟨_, List.getElem?_eq_getElem hlt⟩
      obtain ⟨b, off, ca, cc, rfl, hcell, hR⟩ := hat i x hx
      have hxm := Hl.out x (List.mem_of_getElem? hx)
      have Hx := Lib.hid hxm.1
      have hxl := hxm.2
      clear hxm hat ee
      obtain ⟨ba, bc, rfl⟩ := rd_slice (Rd.of_own hob)
      by_cases h5 : 5000 < slen l i + x.length
      · go_wp2_with (go_at_call 37; with_reducible refine (slives_any _ hwr).mono ?_; rintro e w7 ⟨rfl, hb7⟩)
        go_ret
        exact ⟨rfl, hB.trans (hb7.mono hB.size)⟩
      · by_cases h6 : 200 < l.length
        · go_wp2_with (go_at_call 37; with_reducible refine (slives_any _ hwr).mono ?_; rintro e w7 ⟨rfl, hb7⟩)
          go_ret
          exact ⟨rfl, hB.trans (hb7.mono hB.size)⟩
        · obtain ⟨eg, ec, rfl, hg1, hg2, hg3, hg4⟩ := own_succ hoe (by omega)
          have Ls := Lib.hid (seal_len (b := x) (by omega))
          have Hs := Lib.hid (slen_succ hx (by omega))
          have Hb := Lib.hid (show by8 (seals (l.take (i + 1))) = by8 (seals (l.take i)) ++ by8 (sealI x) by rw [List.take_add_one, hx, ← by8_append, ← seals_snoc]; rfl)
          have Ho := Lib.hid hob
          have hA := (Below.refl wr.heap.size wr).alloc (Nat.le_refl _) (.cells #[] 5)
          have H2 := (Rd.of_own hob).keep hA
          have hsz := hB.size
          clear hob
          go_wp2_with (first | (at_builtin; refine wpList_app _ rfl _ _ 30 rfl wr.heap.size 5 (.int .u8 0) 1 1 Tryd.underlying30 Tryd.info5 rfl (by decide) (.slice (some ⟨wr.heap.size, 0, none⟩) 0 0) _ _ (slen l i) _ _ rfl rfl (World.ownsRow_made (e := 5) (size := 1) wr #[] 0 (Nat.le_refl _) (Nat.zero_le _) rfl) H2 (by8_one _) (by omega) (by unfold maxLen; omega) (by simp) ?_; intro v2 w2 ho hgr; have hB1 := hA.grown hgr (by simp) (fun k hk => by simp [Value.ownBlock] at hk; omega); clear hgr H2 hA; have hw2 := hwr.below hB1; have hR2 := hR.keep hB1) | (go_at_call 40; with_reducible refine (seal_any _ x _ hw2 hR2 Hx.out hxl).mono ?_; rintro e w3 ⟨v3, rfl, ho3, hb3⟩; rw [Ls.out] at ho3; replace ho := below_own ho hb3 (Nat.le_refl _); have hB3 := hB1.trans (hb3.mono hB1.size); have H3 := Rd.of_own ho3; clear ho3 hb3) | (at_builtin; refine wpList_app _ rfl _ _ 30 rfl wr.heap.size 5 (.int .u8 0) 1 1 Tryd.underlying30 Tryd.info5 rfl (by decide) v2 _ _ (x.length + 8) _ _ rfl rfl ho H3 (by8_one _) (by omega) (by unfold maxLen; omega) hB3.size ?_; intro v4 w4 ho4 hgr; have hB4 := hB3.grown hgr hB3.size (fun k hk => (ho.lt k hk).1); clear hgr H3; obtain ⟨g4, c4, rfl, hq1, hq2, hq3, hq4⟩ := own_succ ho4 (by omega); have hoe4 := below_own hoe hB4 (Nat.le_refl _); have hs4 := hB4.size) | (at_builtin; refine wpList_app _ rfl _ _ 60 rfl w.heap.size 3 (.int .i64 0) 1 8 Tryd.underlying60 Tryd.info3' rfl (by decide) _ _ _ 1 _ [_] rfl rfl (hoe4.alloc _) (rd_one _ _ _) (by simp [Value.oneCell']) (by omega) (by unfold maxLen; omega) (by simp; omega) ?_; intro v5 w5 ho5 hgr5))
          have hob5 : w5.ownsRow w.heap.size 5 1 (.slice (some ⟨g4, 0, none⟩) (slen l i + (x.length + 8)) c4) (slen l (i + 1)) (by8 (seals (l.take (i + 1)))) := by
            rw [Hs.out, Hb.out]
            have h := ((own_base ho4 hsz).alloc (.cells #[.int .i64 ((slen l i : Int) + ((x.length : Int) + 8))] 3)).kept hgr5 (by
              rcases ho4.2 with ⟨h, _⟩ | ⟨g', cap', cur, h, _, hg, _⟩
              · simp at h
              · obtain ⟨rfl, rfl⟩ : g4 = g' ∧ c4 = cap' := by simpa using h
                exact .inr (fun e => own_ne hoe4 hg (by decide) e.symm))
            simpa using h
          have hoe5 : w5.ownsRow w.heap.size 3 1 v5 (i + 1 + 1) (endsV l (i + 1)) := by
            rw [endsV_succ, Hs.out]
            exact ho5
          have hB5 := ((hB.trans (hB4.mono hsz)).alloc (by omega) _).grown hgr5 (by simp; omega) (fun k hk => (hoe4.lt k hk).1)
          refine ⟨⟨i + 1, by omega, by go_num, hob5, hoe5, by rw [Hs.out]; omega, ⟨fun _ => by omega, fun j y hj hy => ?_⟩, hB5⟩, by simp [intOf]; omega⟩
          rcases Nat.lt_or_ge j i with hji | hji
          · exact Hj.out j y hji hy
          · obtain rfl : j = i := by omega
            rw [hx] at hy
            obtain rfl := Option.some.inj hy
            omega
    · obtain rfl : i = l.length := by omega
      have hLn : ∀ b ∈ l, b.length ≤ 1048576 ∧ Byt b := fun b hb => by
        obtain ⟨j, hj⟩ := List.mem_iff_getElem?.1 hb
        have := Hj.out j b (List.getElem?_eq_some_iff.1 hj).1 hj
        exact ⟨by omega, (Hl.out b hb).1⟩
      have e1 : slen l l.length = (seals l).length := by unfold slen; rw [List.take_length]
      rw [List.take_length] at hob
      generalize hz : seals l = z at hob e1
      rw [e1] at hob
      rw [e1] at hsl
      obtain ⟨k, hk⟩ : ∃ k : Nat, c % ((z.length : Int) + 1) = (k : Int) := ⟨(c % ((z.length : Int) + 1)).toNat, by have := Int.emod_nonneg c (show ((z.length : Int) + 1) ≠ 0 by omega); omega⟩
      have hkl : k ≤ z.length := by have := Int.emod_lt_of_pos c (show (0 : Int) < (z.length : Int) + 1 by omega); omega
      obtain ⟨j, hj1, hj2, hj3⟩ := cut_at l k (by rw [hz]; exact hkl)
      have hW1 := whole_all hLn
      have hW2 := whole_cut hLn hj1 hj2 hj3 (by rw [hz]; exact hkl)
      rw [hz] at hW1 hW2
      have Yz := Lib.hid (show Byt z from hz ▸ seals_byt (fun b hb => (hLn b hb).2))
      have Yk := Lib.hid (byt_take Yz.out k)
      have Lk := Lib.hid (show (z.take k).length = k by rw [List.length_take]; omega)
      have Lj := Lib.hid (show (l.take j).length = j by rw [List.length_take]; omega)
      have P1 := Lib.hid (own_plain hob)
      have hr1 := Rd.of_own hob
      clear hob hz hLn
      obtain ⟨ba, bc, rfl⟩ := rd_slice hr1
      obtain ⟨eg, ec, rfl, hg1, hg2, hg3, hg4⟩ := own_succ hoe (by omega)
      have hE := Rd.of_own hoe
      clear hoe hw hr
      rename_i hwOld
      replace hw := hwr
      obtain ⟨hz1, hz2⟩ := rd_lit hr1
      have P2 := Lib.hid (Plain.front (k := k) P1.out)
      have Ej : ∀ w' : World, Rd w' 1 (.slice (some ⟨eg, 0, none⟩) (l.length + 1) ec) (l.length + 1) (endsV l l.length) → j < l.length → w'.cell? ⟨eg, j + 1, none⟩ = some (.int .i64 ((slen l (j + 1) : Nat) : Int)) := fun w' h hj => h.cellAt (endsV_get l (by omega))
      have e5 : ¬ (slen l j : Int) > (k : Int) := by omega
      have e6 : (decide (j < l.length) && decide ((slen l (j + 1) : Int) ≤ (k : Int))) = false := by
        by_cases h : j < l.length
        · have := hj3 h
          simp; omega
        · simp [h]
      go_wp2_with (first | (go_at_call 44; with_reducible refine (whole_v (.slice ba z.length bc) z _ hw hr1 Yz.out (by omega) P1.out hW1).mono ?_; rintro e w3 ⟨r1, cells1, rfl, ho1, hrow1, hb1⟩; replace hw := hw.below hb1; replace hB := hB.trans (hb1.mono hB.size); replace hr1 := (hr1.keep hb1).front hkl; replace hrr := hrr.keep hb1; replace hE := hE.keep hb1; replace ho1 := Rd.of_own ho1; clear hb1) | (go_at_call 44; refine (whole_v (.slice ba k bc) (z.take k) _ hw hr1 Yk.out (by rw [Lk.out]; omega) P2.out hW2).mono ?_; rintro e w4 ⟨r2, cells2, rfl, ho2, hrow2, hb1⟩; rw [Lj.out] at ho2; replace hw := hw.below hb1; replace hB := hB.trans (hb1.mono hB.size); replace hrr := hrr.keep hb1; replace hE := hE.keep hb1; replace ho1 := ho1.keep hb1; replace hrow1 := hrow1.below hb1; replace ho2 := Rd.of_own ho2; clear hb1 hr1 hrow2; obtain ⟨a1, k1, rfl⟩ := rd_slice ho1; obtain ⟨a2, k2, rfl⟩ := rd_slice ho2; have hE3 := hE.cellAt (endsV_get l hj1); have hE4 := Ej w4 hE))
      · go_loopw [14, 116] (fun _ c wr => ∃ n : Nat, n ≤ l.length ∧ c = .int .i64 (n : Int) ∧ Below w4.heap.size w4 wr) (fun _ c _ => l.length - (intOf c).toNat)
        case atStart => exact ⟨0, Nat.zero_le _, rfl, Below.refl _ _⟩
        case round =>
          obtain ⟨n, hn, rfl, hBr⟩ := hrel
          have hwq := hw.below hBr
          by_cases hlt : n < l.length
          · obtain ⟨c1, y, f1, f2, f3⟩ := rows_at hrow1 hlt
            have Yb := Lib.hid (Hl.out y (List.mem_of_getElem? f2)).1
            obtain ⟨_, _, ee4, _, _, hat4⟩ := hrr.at
            obtain ⟨rfl, rfl⟩ := by simpa using ee4
            obtain ⟨b, off, ca, cc, rfl, hcell, hR⟩ := hat4 n y f2
            obtain ⟨hl1, a1', k1', ee1, _, _, _, hp1⟩ := ho1
            obtain ⟨b1, o1, rfl, hb1, hc1⟩ := hp1 (by omega)
            obtain ⟨rfl, rfl⟩ : a1 = some ⟨b1, o1, none⟩ ∧ k1 = k1' := by simpa using ee1
            have hbl := lt_of_cell hcell
            have d1 := (hBr.cell (p := ⟨b1, o1 + n, none⟩) hb1).trans (hc1 n _ f1)
            have d2 := (hBr.cell (p := ⟨b, off + n, none⟩) hbl).trans hcell
            have R1 := (Rd.of_own f3).keep hBr
            have R2 := hR.keep hBr
            clear hc1 hp1 ee1 f1 f2 f3 hat4 ee4 hR hcell hat
            obtain ⟨q1, q2, rfl⟩ := rd_slice R1
            go_wp2_with fail
            go_quiet ((go_at_call 34; exact Calls.quiet_of_same (same_any _ _ y y _ (R1.keep (below_drewN (Below.refl _ _) _)) (R2.keep (below_drewN (Below.refl _ _) _)) Yb.out Yb.out)))
            go_wp2
            go_roundw
            case rel => exact ⟨n + 1, by omega, by go_num, below_drewN hBr _⟩
            case measure => simp [intOf]; omega
          · go_wp2_with (go_at_call 37; with_reducible refine (slives_any _ hwq).mono ?_; rintro e w7 ⟨rfl, hb7⟩)
            go_ret
            exact ⟨rfl, (hB.trans (hBr.mono hB.size)).trans (hb7.mono (Nat.le_trans hB.size hBr.size))⟩
      · go_loopw [14, 116] (fun _ c wr => ∃ n : Nat, n ≤ l.length ∧ c = .int .i64 (n : Int) ∧ Below w4.heap.size w4 wr) (fun _ c _ => l.length - (intOf c).toNat)
        case atStart => exact ⟨0, Nat.zero_le _, rfl, Below.refl _ _⟩
        case round =>
          obtain ⟨n, hn, rfl, hBr⟩ := hrel
          have hwq := hw.below hBr
          by_cases hlt : n < l.length
          · obtain ⟨c1, y, f1, f2, f3⟩ := rows_at hrow1 hlt
            have Yb := Lib.hid (Hl.out y (List.mem_of_getElem? f2)).1
            obtain ⟨_, _, ee4, _, _, hat4⟩ := hrr.at
            obtain ⟨rfl, rfl⟩ := by simpa using ee4
            obtain ⟨b, off, ca, cc, rfl, hcell, hR⟩ := hat4 n y f2
            obtain ⟨hl1, a1', k1', ee1, _, _, _, hp1⟩ := ho1
            obtain ⟨b1, o1, rfl, hb1, hc1⟩ := hp1 (by omega)
            obtain ⟨rfl, rfl⟩ : a1 = some ⟨b1, o1, none⟩ ∧ k1 = k1' := by simpa using ee1
            have hbl := lt_of_cell hcell
            have d1 := (hBr.cell (p := ⟨b1, o1 + n, none⟩) hb1).trans (hc1 n _ f1)
            have d2 := (hBr.cell (p := ⟨b, off + n, none⟩) hbl).trans hcell
            have R1 := (Rd.of_own f3).keep hBr
            have R2 := hR.keep hBr
            clear hc1 hp1 ee1 f1 f2 f3 hat4 ee4 hR hcell hat
            obtain ⟨q1, q2, rfl⟩ := rd_slice R1
            go_wp2_with fail
            go_quiet ((go_at_call 34; exact Calls.quiet_of_same (same_any _ _ y y _ (R1.keep (below_drewN (Below.refl _ _) _)) (R2.keep (below_drewN (Below.refl _ _) _)) Yb.out Yb.out)))
            go_wp2
            go_roundw
            case rel => exact ⟨n + 1, by omega, by go_num, below_drewN hBr _⟩
            case measure => simp [intOf]; omega
          · go_wp2_with (go_at_call 37; with_reducible refine (slives_any _ hwq).mono ?_; rintro e w7 ⟨rfl, hb7⟩)
            go_ret
            exact ⟨rfl, (hB.trans (hBr.mono hB.size)).trans (hb7.mono (Nat.le_trans hB.size hBr.size))⟩
end Go.Proofs.YtjinjlfocjohhaaDoor
