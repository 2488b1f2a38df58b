/-
  Contracts of the seal laws: lives, SealBytes.
-/
import Derived.Test.YtjinjlfocjohhaaDoorSealed
namespace Go.Proofs.YtjinjlfocjohhaaDoor
open Go.RowKit
set_option linter.unusedSimpArgs false
set_option linter.unusedVariables false

theorem open_one (x : Int) : (openI [x]).2.2 ≠ 0 := by simp [openI]
theorem byt_one {x : Int} (h : 0 ≤ x ∧ x ≤ 255) : Byt [x] := by
  intro y hy
  obtain rfl : y = x := by simpa using hy
  exact h
/-- A slice's address is written out where there is room. -/
theorem own_addr {w : World} {base : Nat} {e : TypeId} {size : Nat} {a : Option Addr} {n cap : Nat} {xs : List Value} (h : w.ownsRow base e size (.slice a n cap) n xs) : 0 < cap → ∃ b off, a = some ⟨b, off, none⟩ := by
  intro hc
  rcases h.2 with ⟨e1, _⟩ | ⟨g, cap', cur, e1, _⟩
  · simp at e1; omega
  · simp at e1; exact ⟨g, 0, e1.1⟩

def Plain (v : Value) : Prop := ∀ a n cap, v = .slice a n cap → 0 < cap → ∃ b off, a = some ⟨b, off, none⟩
theorem own_plain {w : World} {base : Nat} {e : TypeId} {size : Nat} {v : Value} {n : Nat} {xs : List Value} (h : w.ownsRow base e size v n xs) : Plain v := by
  rintro a m cap rfl hc
  rcases h.2 with ⟨e1, _⟩ | ⟨g, cap', cur, e1, _⟩
  · simp at e1; omega
  · simp at e1; exact ⟨g, 0, e1.1⟩
theorem whole_v (v : Value) (xs : List Int) (w : World) (hw : Wid w) (hr : Rd w 1 v xs.length (by8 xs)) (hby : Byt xs) (hx : xs.length ≤ 1000000000000) (hp : Plain v) {l : List (List Int)} {p : Nat} (hW : WholeIs xs l p) :
    Calls Tryd.prog 44 #[v] w fun e w' => ∃ r cells, e = .returned (.tuple #[r, .int .i64 (p : Int)]) ∧ w'.ownsRow w.heap.size 30 1 r l.length cells ∧ Rows w' w.heap.size cells l ∧ Below w.heap.size w w' := by
  obtain ⟨a, cap, rfl⟩ := rd_slice hr
  refine (whole_any a cap xs w hw hr hby hx (hp _ _ _ rfl)).mono ?_
  rintro e w' ⟨r, q, m, cells, rfl, h1, h2, h3, h4⟩
  obtain ⟨rfl, rfl⟩ := whole_same h1 hW
  exact ⟨r, cells, rfl, h2, h3, h4⟩
theorem swhole_v (v : Value) (xs : List Int) (w : World) (hr : Rd w 1 v xs.length (by8 xs)) (hby : Byt xs) (hx : xs.length ≤ 1000000000000) (hp : Plain v) {l : List (List Int)} {p : Nat} (hW : WholeIs xs l p) :
    Calls Tryd.prog 45 #[v] w fun e w' => ∃ r cells, e = .returned (.tuple #[r, .int .i64 (p : Int)]) ∧ w'.ownsRow w.heap.size 30 1 r l.length cells ∧ Rows w' w.heap.size cells l ∧ Below w.heap.size w w' := by
  obtain ⟨a, cap, rfl⟩ := rd_slice hr
  refine (swhole_any a cap xs w hr hby hx (hp _ _ _ rfl)).mono ?_
  rintro e w' ⟨r, q, m, cells, rfl, h1, h2, h3, h4⟩
  obtain ⟨rfl, rfl⟩ := whole_same h1 hW
  exact ⟨r, cells, rfl, h2, h3, h4⟩
/-- Any bytes are told in one way. -/
theorem whole_ex (xs : List Int) : ∃ l p, WholeIs xs l p := by
  have key : ∀ d p l, Parse xs p l → xs.length - p ≤ d → ∃ l p, WholeIs xs l p := by
    intro d
    induction d with
    | zero =>
      intro p l h hd
      refine ⟨l, p, h, ?_⟩
      have : xs.drop p = [] := List.drop_eq_nil_of_le (by omega)
      rw [this]; simp [openI]
    | succ d ih =>
      intro p l h hd
      obtain ⟨oc, on, oe, ho⟩ : ∃ oc on oe, openI (xs.drop p) = (oc, on, oe) := ⟨_, _, _, rfl⟩
      by_cases he : oe = 0
      · subst he
        have h2 := Parse.snoc h ho
        have := (open_zero ho).2.2.2.2.2
        exact ih _ _ h2 (by omega)
      · exact ⟨l, p, h, by rw [ho]; exact he⟩
  exact key xs.length 0 [] Parse.nil (by omega)
theorem two_ok : ∀ b ∈ [[], [(1 : Int)]], b.length ≤ 1048576 ∧ Byt b := by
  intro b hb
  simp at hb
  rcases hb with rfl | rfl
  · exact ⟨by simp, byt_nil⟩
  · exact ⟨by simp, byt_one (by decide)⟩
set_option maxHeartbeats 1600000 in
theorem slives_any (w : World) (hw : Wid w) : Calls Tryd.prog 37 #[] w fun e w' => e = .returned (.bool true) ∧ Below w.heap.size w w' := by
  have L0 := Lib.hid (seal_len (b := []) (by simp))
  have L1 := Lib.hid (seal_len (b := [1]) (by simp))
  have hB := Below.refl w.heap.size w
  have hW := whole_seals [[], [1]] [7] two_ok (open_one 7)
  have HW := Lib.hid hW
  have e8 : (seals [[], [1]]).length = 17 := by simp [seals, L0.out, L1.out]
  have L2 := Lib.hid (show (seals [[], [1]] ++ [7]).length = 18 by simp [e8])
  clear hW
  have L3 := Lib.hid (show by8 (seals [[], [1]] ++ [7]) = [] ++ by8 (sealI []) ++ by8 (sealI [1]) ++ [.int .u8 7] by simp [seals, by8])
  have HB := Lib.hid (show Byt (seals [[], [1]] ++ [7]) from by
    intro x hx
    simp [seals] at hx
    rcases hx with hx | hx | rfl
    · exact seal_byt byt_nil x hx
    · exact seal_byt (byt_one (by decide)) x hx
    · decide)
  go_enter Tryd.func37, Tryd.ntmps37
  go_wp2_with (first | (go_at_call 40; with_reducible refine (seal_any (.slice none 0 0) [] _ hw (rd_nil _) byt_nil (by simp)).mono ?_; rintro e w1 ⟨v1, rfl, hown, hb1⟩; rw [L0.out] at hown; replace hw := hw.below hb1; have hg0 := hw.lt; replace hB := hB.trans (hb1.mono hB.size); clear hb1; obtain ⟨g, gc, rfl, hg1, hg2, hg3, hg4⟩ := own_succ hown (by decide); have H1 := (Rd.of_own hown).keep ((Below.refl _ _).alloc (Nat.le_refl _) (.cells #[] 5))) | (at_builtin; refine wpList_app _ rfl _ _ 30 rfl w1.heap.size 5 (.int .u8 0) 1 1 Tryd.underlying30 Tryd.info5 rfl (by decide) (.slice (some ⟨w1.heap.size, 0, none⟩) 0 0) _ _ 8 _ _ rfl rfl (World.ownsRow_made (e := 5) (size := 1) w1 #[] 0 (Nat.le_refl _) (Nat.zero_le _) rfl) H1 (by8_one _) (by omega) (by unfold maxLen; omega) (by simp) ?_; intro v2 w2 ho2 hgr; have hB2 := ((Below.refl w1.heap.size w1).alloc (Nat.le_refl _) (.cells #[] 5)).grown hgr (by simp) (fun k hk => by simp [Value.ownBlock] at hk; omega); replace hw := hw.below hB2; replace hB := hB.trans (hB2.mono hB.size); clear hgr H1) | (go_at_call 40; with_reducible refine (seal_any (.slice (some ⟨w2.heap.size, 0, none⟩) 1 1) [1] _ (hw.below ((Below.refl _ _).alloc (Nat.le_refl _) _)) (rd_new _ _ _ _ rfl (by decide)) (byt_one (by decide)) (by simp)).mono ?_; rintro e w3 ⟨v3, rfl, hown3, hb3⟩; rw [L1.out] at hown3; have hz3 := hb3.size; have hB3 := ((Below.refl w2.heap.size w2).alloc (Nat.le_refl _) (.cells #[.int .u8 1] 5)).trans (hb3.mono (by simp)); replace ho2 := below_own ho2 hB3 (Nat.le_refl _); replace hw := hw.below hB3; replace hB := hB.trans (hB3.mono hB.size); clear hb3; have H3 := Rd.of_own hown3; have hz := (Nat.le_trans hB2.size hB3.size)) | (at_builtin; refine wpList_app _ rfl _ _ 30 rfl w1.heap.size 5 (.int .u8 0) 1 1 Tryd.underlying30 Tryd.info5 rfl (by decide) v2 _ _ 9 _ _ rfl rfl ho2 H3 (by8_one _) (by omega) (by unfold maxLen; omega) hz ?_; intro v4 w4 ho4 hgr; have hB4 := (Below.refl w1.heap.size w3).grown hgr hz (fun k hk => (ho2.lt k hk).1); clear hgr H3) | (at_builtin; refine wpList_app _ rfl _ _ 30 rfl w1.heap.size 5 (.int .u8 0) 1 1 Tryd.underlying30 Tryd.info5 rfl (by decide) v4 _ _ 1 _ [_] rfl rfl (ho4.alloc _) (rd_one _ _ _) (by intro u hu; simp at hu; subst hu; rfl) (by omega) (by unfold maxLen; omega) (by have := hB4.size; simp; omega) ?_; intro v5 w5 ho5 hgr; have hB5 := (hB4.alloc (by have := hB4.size; omega) _).grown hgr (by have := hB4.size; simp; omega) (fun k hk => (ho4.lt k hk).1); clear hgr) | (go_at_call 44; with_reducible refine (whole_v v5 (seals [[], [1]] ++ [7]) _ (hw.belowN hB5 hg0) (by { have h := Rd.of_own ho5; rw [L2.out]; rw [L3.out]; exact h }) HB.out (by rw [L2.out]; omega) (own_plain ho5) HW.out).mono ?_; rintro e w6 ⟨r, cells, rfl, ho6, hr6, hb6⟩; obtain ⟨g6, c6, rfl, _⟩ := own_succ ho6 (by decide)))
  go_ret
  have z := hB5.size
  exact ⟨rfl, (hB.trans (hB5.mono (by omega))).trans (hb6.mono (by omega))⟩

set_option maxHeartbeats 1600000 in
theorem sealBytes_any (v : Value) (xs : List Int) (w : World) (hw : Wid w) (hr : Rd w 1 v xs.length (by8 xs)) (hx : xs.length ≤ 140737488351232) (hy : Byt xs) :
    Calls Tryd.prog 10 #[v] w fun e w' => e = .returned (.bool true) ∧ Below w.heap.size w w' := by
  obtain ⟨a, cap, rfl⟩ := rd_slice hr
  have Hy := Lib.hid hy
  have Hs := Lib.hid (seal_byt hy)
  have HL := Lib.hid (lend_byt hy)
  have hB := Below.refl w.heap.size w
  clear hy
  by_cases h5 : 1200000 < xs.length
  · go_enter Tryd.func10, Tryd.ntmps10
    go_wp2_with (go_at_call 37; with_reducible refine (slives_any _ hw).mono ?_; rintro e w7 ⟨rfl, hb7⟩)
    go_ret
    exact ⟨rfl, hb7⟩
  · go_enter Tryd.func10, Tryd.ntmps10
    go_wp2_with (first | (go_at_call 31; with_reducible refine (lend_any _ xs _ hr hx).mono ?_; rintro e w1 ⟨g, gc, rfl, hown, hb1⟩; replace hw := hw.below hb1; replace hB := hB.trans (hb1.mono hB.size); replace hr := hr.keep hb1; have Ho := Rd.of_own hown; have Hl := lend_rd Ho; clear hown hb1) | (go_at_call 38; with_reducible refine (sum_any _ xs _ Hl Hy.out hx).mono ?_; rintro e w2 ⟨rfl, rfl⟩) | (go_at_call 39; with_reducible refine (ssum_any _ xs _ hr Hy.out hx).mono ?_; rintro e w3 ⟨rfl, rfl⟩) | (go_at_call 40; with_reducible refine (seal_any _ xs _ hw Hl Hy.out hx).mono ?_; rintro e w4 ⟨v1, rfl, hown1, hb1⟩; replace hw := hw.below hb1; replace hB := hB.trans (hb1.mono hB.size); replace hr := hr.keep hb1; replace Ho := Ho.keep hb1; have H1 := Rd.of_own hown1; clear hb1 hown1) | (go_at_call 41; with_reducible refine (sseal_any _ xs _ hr Hy.out hx).mono ?_; rintro e w5 ⟨v2, rfl, hown1, hb1⟩; replace hw := hw.below hb1; replace hB := hB.trans (hb1.mono hB.size); replace hr := hr.keep hb1; replace Ho := Ho.keep hb1; replace H1 := H1.keep hb1; have H2 := Rd.of_own hown1; clear hb1 hown1) | (go_at_call 34; with_reducible refine (same_any v1 v2 _ _ _ H1 H2 Hs.out Hs.out).mono ?_; rintro e w6 ⟨rfl, rfl⟩) | (go_at_call 36; with_reducible refine (kept_any _ _ xs (lend xs) _ (by rw [lend_length]; exact Ho) hr hx Hy.out HL.out).mono ?_; rintro e w7 ⟨rfl, hb1⟩; replace hw := hw.below hb1; replace hB := hB.trans (hb1.mono hB.size); clear hb1) | (go_at_call 37; with_reducible refine (slives_any _ hw).mono ?_; rintro e w8 ⟨rfl, hb1⟩; replace hB := hB.trans (hb1.mono hB.size)))
    go_ret
    exact ⟨rfl, hB⟩
end Go.Proofs.YtjinjlfocjohhaaDoor
