/-
  Contract of the laws SealBack and SealApart.
-/
import Derived.Test.YtjinjlfocjohhaaDoorSLaw1
namespace Go.Proofs.YtjinjlfocjohhaaDoor
open Go.RowKit
set_option linter.unusedSimpArgs false
set_option linter.unusedVariables false

/-- A seal that is cut is too short. -/
theorem open_cut {b : List Int} (h : b.length ≤ 1048576) (hb : Byt b) {k : Nat} (hk : k < b.length + 8) : openI ((sealI b).take k) = ([], 0, 8) := by
  have hl := seal_len h
  have hl2 : ((sealI b).take k).length = k := by rw [List.length_take]; omega
  by_cases h4 : k < 4
  · exact open_few (by omega)
  · have hc : cnt ((sealI b).take k) = b.length := by
      have := (seal_parts (t := []) h hb).1
      unfold cnt at this ⊢
      rw [List.append_nil] at this
      rw [List.take_take, Nat.min_eq_left (by omega)]
      exact this
    exact open_short (by omega) (by omega) (by omega)

set_option maxHeartbeats 3200000 in
theorem sealBack_any (u v : Value) (xs ts : List Int) (c : Int) (w : World) (hw : Wid w) (hr : Rd w 1 u xs.length (by8 xs)) (hx : xs.length ≤ 140737488351232) (hy : Byt xs)
    (hs : Rd w 1 v ts.length (by8 ts)) (hsx : ts.length ≤ 140737488351232) (ht : Byt ts) (hc0 : 0 ≤ c) (hc1 : c ≤ 18446744073709551615) :
    Calls Tryd.prog 12 #[u, v, .int .u64 c] w fun e w' => e = .returned (.bool true) ∧ Below w.heap.size w w' := by
  have hB := Below.refl w.heap.size w
  obtain ⟨a, cap, rfl⟩ := rd_slice hr
  obtain ⟨a2, cap2, rfl⟩ := rd_slice hs
  by_cases h5 : 20000 < xs.length + ts.length
  · go_enter Tryd.func12, Tryd.ntmps12
    go_wp2_with (go_at_call 37; with_reducible refine (slives_any _ hw).mono ?_; rintro e w7 ⟨rfl, hb7⟩)
    go_ret
    exact ⟨rfl, hb7⟩
  · have hxl : xs.length ≤ 1048576 := by omega
    obtain ⟨k, hk⟩ : ∃ k : Nat, c % ((xs.length : Int) + 8) = (k : Int) := ⟨(c % ((xs.length : Int) + 8)).toNat, by have := Int.emod_nonneg c (show ((xs.length : Int) + 8) ≠ 0 by omega); omega⟩
    have hkl : k < xs.length + 8 := by have := Int.emod_lt_of_pos c (show (0 : Int) < (xs.length : Int) + 8 by omega); omega
    have Ls := Lib.hid (seal_len hxl)
    have Lt := Lib.hid (show ((sealI xs).take k).length = k by rw [List.length_take, Ls.out]; omega)
    have L3 := Lib.hid (show (sealI xs ++ ts).length = xs.length + 8 + ts.length by rw [List.length_append, Ls.out])
    have Y1 := Lib.hid hy
    have Y2 := Lib.hid (seal_byt hy)
    have Y3 := Lib.hid (show Byt (sealI xs ++ ts) from fun x hx => (List.mem_append.1 hx).elim (seal_byt hy x) (ht x))
    have Y4 := Lib.hid (byt_take (seal_byt hy) k)
    have O1 := Lib.hid (open_seal ts hxl hy)
    have O2 := Lib.hid (open_cut hxl hy hkl)
    clear hy ht
    go_enter Tryd.func12, Tryd.ntmps12
    go_wp2_with (first | (go_at_call 40; with_reducible refine (seal_any _ xs _ hw hr Y1.out hx).mono ?_; rintro e w1 ⟨v1, rfl, hown, hb1⟩; rw [Ls.out] at hown; replace hw := hw.below hb1; replace hB := hB.trans (hb1.mono hB.size); replace hr := hr.keep hb1; replace hs := hs.keep hb1; clear hb1; obtain ⟨g, gc, rfl, hg1, hg2, hg3, hg4⟩ := own_succ hown (by omega); have H1 := Rd.of_own hown; clear hown; have hB1 := (Below.refl w1.heap.size w1).alloc (Nat.le_refl _) (.cells #[] 5); have H2 := H1.keep hB1) | (at_builtin; refine wpList_app _ rfl _ _ 30 rfl w1.heap.size 5 (.int .u8 0) 1 1 Tryd.underlying30 Tryd.info5 rfl (by decide) (.slice (some ⟨w1.heap.size, 0, none⟩) 0 0) _ _ (xs.length + 8) _ _ rfl rfl (World.ownsRow_made (e := 5) (size := 1) w1 #[] 0 (Nat.le_refl _) (Nat.zero_le _) rfl) H2 (by8_one _) (by omega) (by unfold maxLen; omega) (by simp) ?_; intro v2 w2 ho hgr; replace hB1 := hB1.grown hgr (by simp) (fun k hk => by simp [Value.ownBlock] at hk; omega); clear hgr H2; have hs2 := hs.keep hB1) | (at_builtin; refine wpList_app _ rfl _ _ 30 rfl w1.heap.size 5 (.int .u8 0) 1 1 Tryd.underlying30 Tryd.info5 rfl (by decide) v2 _ _ ts.length _ _ rfl rfl ho hs2 (by8_one _) (by omega) (by unfold maxLen; omega) hB1.size ?_; intro v3 w3 ho3 hgr; replace hB1 := hB1.grown hgr hB1.size (fun k hk => (ho.lt k hk).1); clear hgr hs2; replace hw := hw.below hB1; replace hB := hB.trans (hB1.mono hB.size); replace H1 := H1.keep hB1; replace hr := hr.keep hB1; have H3 : Rd w3 1 v3 (sealI xs ++ ts).length (by8 (sealI xs ++ ts)) := (by { have h := Rd.of_own ho3; rw [L3.out, by8_append]; simpa using h }); clear ho3 ho hB1) | (go_at_call 42; with_reducible refine (popen_at v3 (sealI xs ++ ts) _ hw H3 Y3.out (by rw [L3.out]; omega) O1.out).mono ?_; rintro e w4 ⟨c1, rfl, hco, hb1⟩; replace hw := hw.below hb1; replace hB := hB.trans (hb1.mono hB.size); replace H1 := H1.keep hb1; replace hr := hr.keep hb1; have H4 := Rd.of_own hco; clear hco hb1; have H5 : Rd w4 1 (.slice (some ⟨g, 0, none⟩) k gc) ((sealI xs).take k).length (by8 ((sealI xs).take k)) := (by { rw [Lt.out]; have h := H1.piece 0 k gc (by8 ((sealI xs).take k)) (by omega) hg4 (by omega) (by simp [by8, List.map_take]); simpa using h })) | (go_at_call 42; with_reducible refine (popen_at (.slice (some ⟨g, 0, none⟩) k gc) ((sealI xs).take k) _ hw H5 Y4.out (by rw [Lt.out]; omega) O2.out).mono ?_; rintro e w5 ⟨c2, rfl, hco, hb1⟩; replace hw := hw.below hb1; replace hB := hB.trans (hb1.mono hB.size); replace hr := hr.keep hb1; replace H4 := H4.keep hb1; clear hco hb1) | (go_at_call 34; with_reducible refine (same_any c1 _ xs xs _ H4 hr Y1.out Y1.out).mono ?_; rintro e w6 ⟨rfl, rfl⟩) | (go_at_call 37; with_reducible refine (slives_any _ hw).mono ?_; rintro e w7 ⟨rfl, hb1⟩; replace hB := hB.trans (hb1.mono hB.size)))
    go_ret
    exact ⟨rfl, hB⟩

theorem seal_same {a b : List Int} (ha : a.length ≤ 1048576) (hb : b.length ≤ 1048576) (ya : Byt a) (yb : Byt b) : (sealI a == sealI b) = (a == b) := by
  rw [Bool.eq_iff_iff]
  simp only [beq_iff_eq]
  refine ⟨fun h => ?_, fun h => by rw [h]⟩
  have h1 := open_seal [] ha ya
  have h2 := open_seal [] hb yb
  rw [h, h2] at h1
  simp at h1
  exact h1.1.symm

set_option maxHeartbeats 3200000 in
theorem sealApart_any (u v : Value) (xs ts : List Int) (w : World) (hw : Wid w) (hr : Rd w 1 u xs.length (by8 xs)) (hx : xs.length ≤ 140737488351232) (hy : Byt xs)
    (hs : Rd w 1 v ts.length (by8 ts)) (hsx : ts.length ≤ 140737488351232) (ht : Byt ts) :
    Calls Tryd.prog 15 #[u, v] w fun e w' => e = .returned (.bool true) ∧ Below w.heap.size w w' := by
  have hB := Below.refl w.heap.size w
  obtain ⟨a, cap, rfl⟩ := rd_slice hr
  obtain ⟨a2, cap2, rfl⟩ := rd_slice hs
  by_cases h5 : 5000 < xs.length + ts.length
  · go_enter Tryd.func15, Tryd.ntmps15
    go_wp2_with (go_at_call 37; with_reducible refine (slives_any _ hw).mono ?_; rintro e w7 ⟨rfl, hb7⟩)
    go_ret
    exact ⟨rfl, hb7⟩
  · have hxl : xs.length ≤ 1048576 := by omega
    have htl : ts.length ≤ 1048576 := by omega
    have Ls := Lib.hid (seal_len hxl)
    have Lt := Lib.hid (seal_len htl)
    have Lss := Lib.hid (seal_len (b := sealI xs) (by rw [Ls.out]; omega))
    have Y1 := Lib.hid hy
    have Yt := Lib.hid ht
    have Y2 := Lib.hid (seal_byt hy)
    have Y3 := Lib.hid (seal_byt ht)
    have Y4 := Lib.hid (seal_byt (seal_byt hy))
    have f1 := seal_same hxl htl hy ht
    have O1 : openI (sealI (sealI xs)) = (sealI xs, xs.length + 16, 0) := by
      have := open_seal [] (b := sealI xs) (by rw [Ls.out]; omega) (seal_byt hy)
      rw [List.append_nil, Ls.out] at this
      exact this
    have O2 : openI (sealI xs) = (xs, xs.length + 8, 0) := by
      have := open_seal [] hxl hy
      rw [List.append_nil] at this
      exact this
    have O1 := Lib.hid O1
    have O2 := Lib.hid O2
    clear hy ht
    go_enter Tryd.func15, Tryd.ntmps15
    go_wp2_with (first | (go_at_call 40; with_reducible refine (seal_any (.slice a xs.length cap) xs _ hw hr Y1.out hx).mono ?_; rintro e w1 ⟨v1, rfl, hown, hb1⟩; replace hw := hw.below hb1; replace hB := hB.trans (hb1.mono hB.size); replace hr := hr.keep hb1; replace hs := hs.keep hb1; have H1 := Rd.of_own hown; clear hown hb1) | (go_at_call 40; with_reducible refine (seal_any (.slice a2 ts.length cap2) ts _ hw hs Yt.out hsx).mono ?_; rintro e w2 ⟨v2, rfl, hown, hb1⟩; replace hw := hw.below hb1; replace hB := hB.trans (hb1.mono hB.size); replace hr := hr.keep hb1; replace hs := hs.keep hb1; replace H1 := H1.keep hb1; have H2 := Rd.of_own hown; clear hown hb1) | (go_at_call 34; with_reducible refine (same_any v1 v2 _ _ _ H1 H2 Y2.out Y3.out).mono ?_; rintro e w3 ⟨rfl, rfl⟩) | (go_at_call 34; with_reducible refine (same_any (.slice a xs.length cap) (.slice a2 ts.length cap2) _ _ _ hr hs Y1.out Yt.out).mono ?_; rintro e w4 ⟨rfl, rfl⟩) | (go_at_call 40; with_reducible refine (seal_any v1 (sealI xs) _ hw H1 Y2.out (by rw [Ls.out]; omega)).mono ?_; rintro e w5 ⟨v3, rfl, hown, hb1⟩; replace hw := hw.below hb1; replace hB := hB.trans (hb1.mono hB.size); replace hr := hr.keep hb1; have H3 := Rd.of_own hown; clear hown hb1) | (go_at_call 42; with_reducible refine (popen_at v3 _ _ hw H3 Y4.out (by rw [Lss.out, Ls.out]; omega) O1.out).mono ?_; rintro e w6 ⟨c1, rfl, hown, hb1⟩; replace hw := hw.below hb1; replace hB := hB.trans (hb1.mono hB.size); replace hr := hr.keep hb1; have H4 := Rd.of_own hown; clear hown hb1) | (go_at_call 42; with_reducible refine (popen_at c1 _ _ hw H4 Y2.out (by rw [Ls.out]; omega) O2.out).mono ?_; rintro e w7 ⟨c2, rfl, hown, hb1⟩; replace hw := hw.below hb1; replace hB := hB.trans (hb1.mono hB.size); replace hr := hr.keep hb1; have H5 := Rd.of_own hown; clear hown hb1) | (go_at_call 34; with_reducible refine (same_any c2 (.slice a xs.length cap) _ _ _ H5 hr Y1.out Y1.out).mono ?_; rintro e w8 ⟨rfl, rfl⟩) | (go_at_call 37; with_reducible refine (slives_any _ hw).mono ?_; rintro e w9 ⟨rfl, hb1⟩; replace hB := hB.trans (hb1.mono hB.size)))
    go_ret
    exact ⟨rfl, hB⟩
end Go.Proofs.YtjinjlfocjohhaaDoor
