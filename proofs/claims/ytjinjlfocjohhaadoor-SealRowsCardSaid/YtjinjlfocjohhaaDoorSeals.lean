/-
  Contracts of seal.Seal and of its reference.
-/
import Derived.Test.YtjinjlfocjohhaaDoorSums
import Derived.Test.YtjinjlfocjohhaaDoorLaw2
namespace Go.Proofs.YtjinjlfocjohhaaDoor
open Go.RowKit
set_option linter.unusedSimpArgs false
set_option linter.unusedVariables false

/-- the count of bytes, and they. -/
def head (xs : List Int) : List Int := put [] 4 xs.length ++ xs
def sealI (xs : List Int) : List Int := if 1048576 < xs.length then [] else put (head xs) 4 (sumI (head xs))
theorem put4_len (u : Int) : (put [] 4 u).length = 4 := by simp [put, good, be]
theorem head_len (xs : List Int) : (head xs).length = 4 + xs.length := by unfold head; rw [List.length_append, put4_len]
theorem byt_nil : Byt [] := by intro x hx; simp at hx
theorem head_byt {xs : List Int} (h : Byt xs) : Byt (head xs) := fun x hx => (List.mem_append.1 hx).elim (put_byt byt_nil _ _ x) (h x)

theorem own_base {w : World} {base base' : Nat} {e : TypeId} {size : Nat} {v : Value} {n : Nat} {xs : List Value} (h : w.ownsRow base e size v n xs) (hb : base' ≤ base) : w.ownsRow base' e size v n xs := by
  refine ⟨h.1, ?_⟩
  rcases h.2 with hn | ⟨g, cap, cur, h1, h2, rest⟩
  · exact .inl hn
  · exact .inr ⟨g, cap, cur, h1, Nat.le_trans hb h2, rest⟩

set_option maxHeartbeats 800000 in
theorem seal_any (v : Value) (xs : List Int) (w : World) (hw : Wid w) (hr : Rd w 1 v xs.length (by8 xs)) (hby : Byt xs) (hx : xs.length ≤ 140737488351232) :
    Calls Tryd.prog 40 #[v] w fun e w' => ∃ v', e = .returned v' ∧ w'.ownsRow w.heap.size 5 1 v' (sealI xs).length (by8 (sealI xs)) ∧ Below w.heap.size w w' := by
  obtain ⟨a, cap, rfl⟩ := rd_slice hr
  have hwa := hw
  by_cases hb : 1048576 < xs.length
  · have Hs := Lib.hid (show sealI xs = [] by simp [sealI, hb])
    go_enter Tryd.func40, Tryd.ntmps40
    go_wp2
    go_ret
    exact ⟨_, rfl, by rw [Hs.out]; exact World.ownsRow_nil _ _ _ _, Below.refl _ _⟩
  · have Hs := Lib.hid (show sealI xs = put (head xs) 4 (sumI (head xs)) by simp [sealI, hb])
    have Hh := Lib.hid (head_byt hby)
    have hsb := (sumI_bd _ (head_byt hby))
    obtain ⟨hs0, hs1⟩ := hsb
    have hl := head_len xs
    have Hl := Lib.hid hl
    have hB := Below.refl w.heap.size w
    clear hl hby
    go_enter Tryd.func40, Tryd.ntmps40
    go_wp2_with (first | (go_at_call 22; with_reducible refine (put_any (.slice none 0 0) [] 4 _ _ hw (rd_nil _) (by simp) (by omega)).mono ?_; rintro e w1 ⟨v1, rfl, hown, hb1⟩; rw [put4_len] at hown; replace hw := hw.below hb1; replace hB := hB.trans (hb1.mono hB.size); replace hr := hr.keep hb1; clear hb1) | (at_builtin; refine wpList_app _ rfl _ _ 30 rfl w.heap.size 5 (.int .u8 0) 1 1 Tryd.underlying30 Tryd.info5 rfl (by decide) v1 _ _ xs.length _ _ rfl rfl hown hr (by8_one _) (by omega) (by unfold maxLen; omega) hB.size ?_; intro v2 w2 ho hgr; replace hB := hB.grown hgr hB.size (fun k hk => (hown.lt k hk).1); clear hgr hown hr; have hw2 := hwa.belowN hB hwa.lt; have H2 : Rd w2 1 v2 (head xs).length (by8 (head xs)) := (by { have h := Rd.of_own ho; rw [Hl.out]; unfold head; rw [by8_append]; exact h }); clear ho) | (go_at_call 38; with_reducible refine (sum_any v2 (head xs) _ H2 Hh.out (by rw [Hl.out]; omega)).mono ?_; rintro e w3 ⟨rfl, rfl⟩) | (go_at_call 22; with_reducible refine (put_any v2 (head xs) 4 _ _ hw2 H2 (by rw [Hl.out]; omega) hs0).mono ?_; rintro e w4 ⟨v4, rfl, hown, hb1⟩))
    go_ret
    refine ⟨_, rfl, ?_, hB.trans (hb1.mono hB.size)⟩
    rw [Hs.out]
    exact own_base hown hB.size

set_option maxHeartbeats 800000 in
theorem sseal_any (v : Value) (xs : List Int) (w : World) (hr : Rd w 1 v xs.length (by8 xs)) (hby : Byt xs) (hx : xs.length ≤ 140737488351232) :
    Calls Tryd.prog 41 #[v] w fun e w' => ∃ v', e = .returned v' ∧ w'.ownsRow w.heap.size 5 1 v' (sealI xs).length (by8 (sealI xs)) ∧ Below w.heap.size w w' := by
  obtain ⟨a, cap, rfl⟩ := rd_slice hr
  by_cases hb : 1048576 < xs.length
  · have Hs := Lib.hid (show sealI xs = [] by simp [sealI, hb])
    go_enter Tryd.func41, Tryd.ntmps41
    go_wp2
    go_ret
    exact ⟨_, rfl, by rw [Hs.out]; exact World.ownsRow_nil _ _ _ _, Below.refl _ _⟩
  · have Hs := Lib.hid (show sealI xs = put (head xs) 4 (sumI (head xs)) by simp [sealI, hb])
    have Hh := Lib.hid (head_byt hby)
    have hsb := (sumI_bd _ (head_byt hby))
    obtain ⟨hs0, hs1⟩ := hsb
    have hl := head_len xs
    have Hl := Lib.hid hl
    have hB := Below.refl w.heap.size w
    clear hl hby
    go_enter Tryd.func41, Tryd.ntmps41
    go_wp2_with (first | (go_at_call 35; with_reducible refine (sput_any (.slice none 0 0) [] 4 _ _ (rd_nil _) (by simp) (by omega)).mono ?_; rintro e w1 ⟨v1, rfl, hown, hb1⟩; rw [put4_len] at hown; replace hB := hB.trans (hb1.mono hB.size); replace hr := hr.keep hb1; clear hb1) | (at_builtin; refine wpList_app _ rfl _ _ 30 rfl w.heap.size 5 (.int .u8 0) 1 1 Tryd.underlying30 Tryd.info5 rfl (by decide) v1 _ _ xs.length _ _ rfl rfl hown hr (by8_one _) (by omega) (by unfold maxLen; omega) hB.size ?_; intro v2 w2 ho hgr; replace hB := hB.grown hgr hB.size (fun k hk => (hown.lt k hk).1); clear hgr hown hr; have H2 : Rd w2 1 v2 (head xs).length (by8 (head xs)) := (by { have h := Rd.of_own ho; rw [Hl.out]; unfold head; rw [by8_append]; exact h }); clear ho) | (go_at_call 39; with_reducible refine (ssum_any v2 (head xs) _ H2 Hh.out (by rw [Hl.out]; omega)).mono ?_; rintro e w3 ⟨rfl, rfl⟩) | (go_at_call 35; with_reducible refine (sput_any v2 (head xs) 4 _ _ H2 (by rw [Hl.out]; omega) hs0).mono ?_; rintro e w4 ⟨v4, rfl, hown, hb1⟩))
    go_ret
    refine ⟨_, rfl, ?_, hB.trans (hb1.mono hB.size)⟩
    rw [Hs.out]
    exact own_base hown hB.size
end Go.Proofs.YtjinjlfocjohhaaDoor
