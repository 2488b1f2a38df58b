/-
  Contracts of seal.Open and of its reference.
-/
import Derived.Test.YtjinjlfocjohhaaDoorSeals
namespace Go.Proofs.YtjinjlfocjohhaaDoor
open Go.RowKit
set_option linter.unusedSimpArgs false
set_option linter.unusedVariables false

/-- the count that bytes begin with. -/
def cnt (xs : List Int) : Nat := (num (xs.take 4)).toNat
/-- content, how many bytes it was sealed in, and the error. -/
def openI (xs : List Int) : List Int × Nat × Nat :=
  if xs.length < 4 then ([], 0, 8) else if 1048576 < cnt xs then ([], 0, 5) else if xs.length < cnt xs + 8 then ([], 0, 8)
  else if num ((xs.drop (4 + cnt xs)).take 4) = sumI (xs.take (4 + cnt xs)) then ((xs.drop 4).take (cnt xs), cnt xs + 8, 0) else ([], 0, 7)
/-- what Open hands back. -/
def Opened (w : World) (xs : List Int) (r : List Int × Nat × Nat) (e : Ending) (w' : World) : Prop :=
  ∃ c, e = .returned (.tuple #[c, .int .i64 (r.2.1 : Int), .int .i64 (r.2.2 : Int)]) ∧ w'.ownsRow w.heap.size 5 1 c r.1.length (by8 r.1) ∧ Below w.heap.size w w'
theorem cnt_int {xs : List Int} (h : Byt xs) (hl : 4 ≤ xs.length) : num (xs.take 4) = (cnt xs : Int) ∧ cnt xs < 4294967296 := by
  have := num_bd 4 (xs.take 4) (by simp; omega) (byt_take h 4)
  have e : (256 : Int) ^ 4 = 4294967296 := by decide
  rw [e] at this
  unfold cnt
  omega
theorem get4 {xs : List Int} (hl : 4 ≤ xs.length) : get xs 4 = num (xs.take 4) ∧ gets xs 4 = true := by
  have h : decide ((4 : Int) ≤ (xs.length : Int)) = true := decide_eq_true (by omega)
  constructor
  · unfold get; rw [h]; rfl
  · unfold gets; rw [h]; rfl
theorem get4_few {xs : List Int} (hl : xs.length < 4) : get xs 4 = 0 ∧ gets xs 4 = false := by
  have h : decide ((4 : Int) ≤ (xs.length : Int)) = false := decide_eq_false (by omega)
  constructor
  · unfold get; rw [h]; rfl
  · unfold gets; rw [h]; rfl
theorem open_few {xs : List Int} (h : xs.length < 4) : openI xs = ([], 0, 8) := by simp [openI, h]
theorem open_big {xs : List Int} (h : ¬ xs.length < 4) (h2 : 1048576 < cnt xs) : openI xs = ([], 0, 5) := by simp [openI, h, h2]
theorem open_short {xs : List Int} (h : ¬ xs.length < 4) (h2 : ¬ 1048576 < cnt xs) (h3 : xs.length < cnt xs + 8) : openI xs = ([], 0, 8) := by simp [openI, h, h2, h3]
theorem open_bad {xs : List Int} (h : ¬ xs.length < 4) (h2 : ¬ 1048576 < cnt xs) (h3 : ¬ xs.length < cnt xs + 8) (h4 : ¬ num ((xs.drop (4 + cnt xs)).take 4) = sumI (xs.take (4 + cnt xs))) : openI xs = ([], 0, 7) := by simp [openI, h, h2, h3, h4]
theorem open_ok {xs : List Int} (h : ¬ xs.length < 4) (h2 : ¬ 1048576 < cnt xs) (h3 : ¬ xs.length < cnt xs + 8) (h4 : num ((xs.drop (4 + cnt xs)).take 4) = sumI (xs.take (4 + cnt xs))) : openI xs = ((xs.drop 4).take (cnt xs), cnt xs + 8, 0) := by simp [openI, h, h2, h3, h4]
theorem opened_err {w w' : World} {xs : List Int} {n : Nat} (h : openI xs = ([], 0, n)) (hb : Below w.heap.size w w') : Opened w xs (openI xs) (.returned (.tuple #[.slice none 0 0, .int .i64 0, .int .i64 (n : Int)])) w' := by
  rw [h]
  exact ⟨_, rfl, World.ownsRow_nil _ _ _ _, hb⟩

theorem tup3 (c : Value) {a : Int} {b : Nat} (h : a = (b : Int)) : Ending.returned (.tuple #[c, .int .i64 a, .int .i64 0]) = .returned (.tuple #[c, .int .i64 (b : Int), .int .i64 ((0 : Nat) : Int)]) := by rw [h]; rfl
theorem rd_some {w : World} {a : Option Addr} {n cap : Nat} {cs : List Value} (h : Rd w 1 (.slice a n cap) n cs) (h0 : 0 < n) : ∃ b off, a = some ⟨b, off, none⟩ := by
  obtain ⟨hl, a', cap', e, hc1, hc2, _, hp⟩ := h
  obtain ⟨rfl, rfl⟩ : a = a' ∧ cap = cap' := by simpa using e
  obtain ⟨b, off, e, _⟩ := hp (by omega)
  exact ⟨b, off, e⟩

set_option maxHeartbeats 800000 in
theorem popen_few (v : Value) (xs : List Int) (w : World) (hw : Wid w) (hr : Rd w 1 v xs.length (by8 xs)) (hby : Byt xs) (hx : xs.length ≤ 140737488351232) (h1 : xs.length < 4) :
    Calls Tryd.prog 42 #[v] w (Opened w xs (openI xs)) := by
  obtain ⟨a, cap, rfl⟩ := rd_slice hr
  have Hy := Lib.hid hby
  have hB := Below.refl w.heap.size w
  obtain ⟨g1, g2⟩ := get4_few h1
  have Ho := Lib.hid (open_few h1)
  clear hby
  go_enter Tryd.func42, Tryd.ntmps42
  go_wp2_with (first | (go_at_call 32; with_reducible refine (get_any _ xs _ _ hw hr hx Hy.out).mono ?_; rintro e w1 ⟨rfl, hb1⟩; replace hw := hw.below hb1; replace hB := hB.trans (hb1.mono hB.size); replace hr := hr.keep hb1; clear hb1))
  go_ret3
  exact opened_err Ho.out hB

set_option maxHeartbeats 800000 in
theorem popen_big (v : Value) (xs : List Int) (w : World) (hw : Wid w) (hr : Rd w 1 v xs.length (by8 xs)) (hby : Byt xs) (hx : xs.length ≤ 140737488351232) (h1 : ¬ xs.length < 4) (h2 : 1048576 < cnt xs) :
    Calls Tryd.prog 42 #[v] w (Opened w xs (openI xs)) := by
  obtain ⟨a, cap, rfl⟩ := rd_slice hr
  have Hy := Lib.hid hby
  have hB := Below.refl w.heap.size w
  have Ho := Lib.hid (open_big h1 h2)
  have h4 : 4 ≤ xs.length := by omega
  obtain ⟨g1, g2⟩ := get4 h4
  obtain ⟨c1, c2⟩ := cnt_int hby h4
  rw [c1] at g1
  have C1 := Lib.hid c1
  clear c1 hby
  go_enter Tryd.func42, Tryd.ntmps42
  go_wp2_with (first | (go_at_call 32; with_reducible refine (get_any _ xs _ _ hw hr hx Hy.out).mono ?_; rintro e w1 ⟨rfl, hb1⟩; replace hw := hw.below hb1; replace hB := hB.trans (hb1.mono hB.size); replace hr := hr.keep hb1; clear hb1))
  go_ret3
  exact opened_err Ho.out hB

set_option maxHeartbeats 800000 in
theorem popen_short (v : Value) (xs : List Int) (w : World) (hw : Wid w) (hr : Rd w 1 v xs.length (by8 xs)) (hby : Byt xs) (hx : xs.length ≤ 140737488351232) (h1 : ¬ xs.length < 4) (h2 : ¬ 1048576 < cnt xs) (h3 : xs.length < cnt xs + 8) :
    Calls Tryd.prog 42 #[v] w (Opened w xs (openI xs)) := by
  obtain ⟨a, cap, rfl⟩ := rd_slice hr
  have Hy := Lib.hid hby
  have hB := Below.refl w.heap.size w
  have Ho := Lib.hid (open_short h1 h2 h3)
  have h4 : 4 ≤ xs.length := by omega
  obtain ⟨g1, g2⟩ := get4 h4
  obtain ⟨c1, c2⟩ := cnt_int hby h4
  rw [c1] at g1
  have C1 := Lib.hid c1
  clear c1 hby
  go_enter Tryd.func42, Tryd.ntmps42
  go_wp2_with (first | (go_at_call 32; with_reducible refine (get_any _ xs _ _ hw hr hx Hy.out).mono ?_; rintro e w1 ⟨rfl, hb1⟩; replace hw := hw.below hb1; replace hB := hB.trans (hb1.mono hB.size); replace hr := hr.keep hb1; clear hb1))
  go_ret3
  exact opened_err Ho.out hB

set_option maxHeartbeats 800000 in
theorem popen_bad (v : Value) (xs : List Int) (w : World) (hw : Wid w) (hr : Rd w 1 v xs.length (by8 xs)) (hby : Byt xs) (hx : xs.length ≤ 140737488351232) (h1 : ¬ xs.length < 4) (h2 : ¬ 1048576 < cnt xs) (h3 : ¬ xs.length < cnt xs + 8) (h5 : ¬ num ((xs.drop (4 + cnt xs)).take 4) = sumI (xs.take (4 + cnt xs))) :
    Calls Tryd.prog 42 #[v] w (Opened w xs (openI xs)) := by
  obtain ⟨a, cap, rfl⟩ := rd_slice hr
  have Hy := Lib.hid hby
  have hB := Below.refl w.heap.size w
  have Ho := Lib.hid (open_bad h1 h2 h3 h5)
  have hl : 0 < xs.length := by omega
  obtain ⟨b, off, rfl⟩ := rd_some hr hl
  obtain ⟨hcap, hcm⟩ := rd_lit hr
  have ht := hr.piece 0 (4 + cnt xs) cap (by8 (xs.take (4 + cnt xs))) (by omega) hcm (by omega) (by simp [by8, List.map_take])
  have hd := hr.piece (4 + cnt xs) (xs.length - (4 + cnt xs)) (cap - (4 + cnt xs)) (by8 (xs.drop (4 + cnt xs))) (by omega) (by omega) (by omega) (by simp [by8, List.map_drop]; rw [List.take_of_length_le (by simp)])
  have hc := hr.piece 4 (cnt xs) (cap - 4) (by8 ((xs.drop 4).take (cnt xs))) (by omega) (by omega) (by omega) (by simp [by8, List.map_drop, List.map_take])
  simp only [Nat.zero_mul, Nat.mul_one, Nat.add_zero] at ht hd hc
  have hz : (4 : Int) + (cnt xs : Int) = ((4 + cnt xs : Nat) : Int) := by omega
  have Lt := Lib.hid (show (xs.take (4 + cnt xs)).length = 4 + cnt xs by simp; omega)
  have Ld := Lib.hid (show (xs.drop (4 + cnt xs)).length = xs.length - (4 + cnt xs) by simp)
  have Lc := Lib.hid (show ((xs.drop 4).take (cnt xs)).length = cnt xs by simp; omega)
  have Yt := Lib.hid (byt_take hby (4 + cnt xs))
  have Yd := Lib.hid (byt_drop hby (4 + cnt xs))
  obtain ⟨g3, g4⟩ := get4 (xs := xs.drop (4 + cnt xs)) (by simp; omega)
  obtain ⟨s0, s1⟩ := sumI_bd _ (byt_take hby (4 + cnt xs))
  have hn2 := num_bd 4 ((xs.drop (4 + cnt xs)).take 4) (by simp; omega) (byt_take (byt_drop hby _) 4)
  have e256 : (256 : Int) ^ 4 = 4294967296 := by decide
  rw [e256] at hn2
  obtain ⟨n0, n1⟩ := hn2
  clear e256
  have h4 : 4 ≤ xs.length := by omega
  obtain ⟨g1, g2⟩ := get4 h4
  obtain ⟨c1, c2⟩ := cnt_int hby h4
  rw [c1] at g1
  have C1 := Lib.hid c1
  clear c1 hby
  have h6 : (num ((xs.drop (4 + cnt xs)).take 4) == sumI (xs.take (4 + cnt xs))) = false := beq_eq_false_iff_ne.2 h5
  clear h5 hz
  go_enter Tryd.func42, Tryd.ntmps42
  go_wp2_with (first | (go_at_call 32; with_reducible refine (get_any _ xs _ _ hw hr hx Hy.out).mono ?_; rintro e w1 ⟨rfl, hb1⟩; replace hw := hw.below hb1; replace hB := hB.trans (hb1.mono hB.size); replace hr := hr.keep hb1; replace ht := ht.keep hb1; replace hd := hd.keep hb1; replace hc := hc.keep hb1; clear hb1) | (go_at_call 32; with_reducible refine (get_any _ (xs.drop (4 + cnt xs)) _ _ hw (by rw [Ld.out]; exact hd) (by rw [Ld.out]; omega) Yd.out).mono ?_; rintro e w2 ⟨rfl, hb1⟩; replace hw := hw.below hb1; replace hB := hB.trans (hb1.mono hB.size); replace hr := hr.keep hb1; replace ht := ht.keep hb1; replace hd := hd.keep hb1; replace hc := hc.keep hb1; clear hb1) | (go_at_call 38; with_reducible refine (sum_any _ (xs.take (4 + cnt xs)) _ (by rw [Lt.out]; exact ht) Yt.out (by rw [Lt.out]; omega)).mono ?_; rintro e w3 ⟨rfl, rfl⟩))
  go_ret3
  exact opened_err Ho.out hB

set_option maxHeartbeats 800000 in
theorem popen_ok (v : Value) (xs : List Int) (w : World) (hw : Wid w) (hr : Rd w 1 v xs.length (by8 xs)) (hby : Byt xs) (hx : xs.length ≤ 140737488351232) (h1 : ¬ xs.length < 4) (h2 : ¬ 1048576 < cnt xs) (h3 : ¬ xs.length < cnt xs + 8) (h5 : num ((xs.drop (4 + cnt xs)).take 4) = sumI (xs.take (4 + cnt xs))) :
    Calls Tryd.prog 42 #[v] w (Opened w xs (openI xs)) := by
  obtain ⟨a, cap, rfl⟩ := rd_slice hr
  have Hy := Lib.hid hby
  have hB := Below.refl w.heap.size w
  have Ho := Lib.hid (open_ok h1 h2 h3 h5)
  have hl : 0 < xs.length := by omega
  obtain ⟨b, off, rfl⟩ := rd_some hr hl
  obtain ⟨hcap, hcm⟩ := rd_lit hr
  have ht := hr.piece 0 (4 + cnt xs) cap (by8 (xs.take (4 + cnt xs))) (by omega) hcm (by omega) (by simp [by8, List.map_take])
  have hd := hr.piece (4 + cnt xs) (xs.length - (4 + cnt xs)) (cap - (4 + cnt xs)) (by8 (xs.drop (4 + cnt xs))) (by omega) (by omega) (by omega) (by simp [by8, List.map_drop]; rw [List.take_of_length_le (by simp)])
  have hc := hr.piece 4 (cnt xs) (cap - 4) (by8 ((xs.drop 4).take (cnt xs))) (by omega) (by omega) (by omega) (by simp [by8, List.map_drop, List.map_take])
  simp only [Nat.zero_mul, Nat.mul_one, Nat.add_zero] at ht hd hc
  have hz : (4 : Int) + (cnt xs : Int) = ((4 + cnt xs : Nat) : Int) := by omega
  have Lt := Lib.hid (show (xs.take (4 + cnt xs)).length = 4 + cnt xs by simp; omega)
  have Ld := Lib.hid (show (xs.drop (4 + cnt xs)).length = xs.length - (4 + cnt xs) by simp)
  have Lc := Lib.hid (show ((xs.drop 4).take (cnt xs)).length = cnt xs by simp; omega)
  have Yt := Lib.hid (byt_take hby (4 + cnt xs))
  have Yd := Lib.hid (byt_drop hby (4 + cnt xs))
  obtain ⟨g3, g4⟩ := get4 (xs := xs.drop (4 + cnt xs)) (by simp; omega)
  obtain ⟨s0, s1⟩ := sumI_bd _ (byt_take hby (4 + cnt xs))
  have hn2 := num_bd 4 ((xs.drop (4 + cnt xs)).take 4) (by simp; omega) (byt_take (byt_drop hby _) 4)
  have e256 : (256 : Int) ^ 4 = 4294967296 := by decide
  rw [e256] at hn2
  obtain ⟨n0, n1⟩ := hn2
  clear e256
  have h4 : 4 ≤ xs.length := by omega
  obtain ⟨g1, g2⟩ := get4 h4
  obtain ⟨c1, c2⟩ := cnt_int hby h4
  rw [c1] at g1
  have C1 := Lib.hid c1
  clear c1 hby
  have h6 : (num ((xs.drop (4 + cnt xs)).take 4) == sumI (xs.take (4 + cnt xs))) = true := beq_iff_eq.2 h5
  clear h5 hz
  go_enter Tryd.func42, Tryd.ntmps42
  go_wp2_with (first | (go_at_call 32; with_reducible refine (get_any _ xs _ _ hw hr hx Hy.out).mono ?_; rintro e w1 ⟨rfl, hb1⟩; replace hw := hw.below hb1; replace hB := hB.trans (hb1.mono hB.size); replace hr := hr.keep hb1; replace ht := ht.keep hb1; replace hd := hd.keep hb1; replace hc := hc.keep hb1; clear hb1) | (go_at_call 32; with_reducible refine (get_any _ (xs.drop (4 + cnt xs)) _ _ hw (by rw [Ld.out]; exact hd) (by rw [Ld.out]; omega) Yd.out).mono ?_; rintro e w2 ⟨rfl, hb1⟩; replace hw := hw.below hb1; replace hB := hB.trans (hb1.mono hB.size); replace hr := hr.keep hb1; replace ht := ht.keep hb1; replace hd := hd.keep hb1; replace hc := hc.keep hb1; clear hb1) | (go_at_call 38; with_reducible refine (sum_any _ (xs.take (4 + cnt xs)) _ (by rw [Lt.out]; exact ht) Yt.out (by rw [Lt.out]; omega)).mono ?_; rintro e w3 ⟨rfl, rfl⟩) | (at_builtin; refine wpList_app _ rfl _ _ 30 rfl w.heap.size 5 (.int .u8 0) 1 1 Tryd.underlying30 Tryd.info5 rfl (by decide) (.slice none 0 0) _ _ (cnt xs) _ _ rfl rfl (World.ownsRow_nil _ _ _ _) (by show Rd _ 1 (.slice (some ⟨b, off + 4, none⟩) (4 + cnt xs - 4) (cap - 4)) (cnt xs) _; rw [Nat.add_sub_cancel_left]; exact hc) (by8_one _) (by omega) (by unfold maxLen; omega) hB.size ?_; intro v2 w4 ho hgr; replace hB := hB.grown hgr hB.size (fun k hk => by simp [Value.ownBlock] at hk)))
  go_ret3
  refine ⟨v2, ?_, ?_, hB⟩
  · rw [Ho.out]
    exact tup3 (b := cnt xs + 8) _ (by omega)
  · rw [Ho.out, Lc.out]
    simpa using ho

theorem popen_any (v : Value) (xs : List Int) (w : World) (hw : Wid w) (hr : Rd w 1 v xs.length (by8 xs)) (hby : Byt xs) (hx : xs.length ≤ 140737488351232) :
    Calls Tryd.prog 42 #[v] w (Opened w xs (openI xs)) := by
  by_cases h1 : xs.length < 4
  · exact popen_few v xs w hw hr hby hx h1
  · by_cases h2 : 1048576 < cnt xs
    · exact popen_big v xs w hw hr hby hx h1 h2
    · by_cases h3 : xs.length < cnt xs + 8
      · exact popen_short v xs w hw hr hby hx h1 h2 h3
      · by_cases h4 : num ((xs.drop (4 + cnt xs)).take 4) = sumI (xs.take (4 + cnt xs))
        · exact popen_ok v xs w hw hr hby hx h1 h2 h3 h4
        · exact popen_bad v xs w hw hr hby hx h1 h2 h3 h4

set_option maxHeartbeats 800000 in
theorem sopen_few (v : Value) (xs : List Int) (w : World) (hr : Rd w 1 v xs.length (by8 xs)) (hby : Byt xs) (hx : xs.length ≤ 140737488351232) (h1 : xs.length < 4) :
    Calls Tryd.prog 43 #[v] w (Opened w xs (openI xs)) := by
  obtain ⟨a, cap, rfl⟩ := rd_slice hr
  have Hy := Lib.hid hby
  have hB := Below.refl w.heap.size w
  obtain ⟨g1, g2⟩ := get4_few h1
  have Ho := Lib.hid (open_few h1)
  clear hby
  go_enter Tryd.func43, Tryd.ntmps43
  go_wp2_with (first | (go_at_call 33; with_reducible refine (sget_any _ xs _ _ hr hx Hy.out).mono ?_; rintro e w1 ⟨rfl, hb1⟩; replace hB := hB.trans (hb1.mono hB.size); replace hr := hr.keep hb1; clear hb1))
  go_ret3
  exact opened_err Ho.out hB

set_option maxHeartbeats 800000 in
theorem sopen_big (v : Value) (xs : List Int) (w : World) (hr : Rd w 1 v xs.length (by8 xs)) (hby : Byt xs) (hx : xs.length ≤ 140737488351232) (h1 : ¬ xs.length < 4) (h2 : 1048576 < cnt xs) :
    Calls Tryd.prog 43 #[v] w (Opened w xs (openI xs)) := by
  obtain ⟨a, cap, rfl⟩ := rd_slice hr
  have Hy := Lib.hid hby
  have hB := Below.refl w.heap.size w
  have Ho := Lib.hid (open_big h1 h2)
  have h4 : 4 ≤ xs.length := by omega
  obtain ⟨g1, g2⟩ := get4 h4
  obtain ⟨c1, c2⟩ := cnt_int hby h4
  rw [c1] at g1
  have C1 := Lib.hid c1
  clear c1 hby
  go_enter Tryd.func43, Tryd.ntmps43
  go_wp2_with (first | (go_at_call 33; with_reducible refine (sget_any _ xs _ _ hr hx Hy.out).mono ?_; rintro e w1 ⟨rfl, hb1⟩; replace hB := hB.trans (hb1.mono hB.size); replace hr := hr.keep hb1; clear hb1))
  go_ret3
  exact opened_err Ho.out hB

set_option maxHeartbeats 800000 in
theorem sopen_short (v : Value) (xs : List Int) (w : World) (hr : Rd w 1 v xs.length (by8 xs)) (hby : Byt xs) (hx : xs.length ≤ 140737488351232) (h1 : ¬ xs.length < 4) (h2 : ¬ 1048576 < cnt xs) (h3 : xs.length < cnt xs + 8) :
    Calls Tryd.prog 43 #[v] w (Opened w xs (openI xs)) := by
  obtain ⟨a, cap, rfl⟩ := rd_slice hr
  have Hy := Lib.hid hby
  have hB := Below.refl w.heap.size w
  have Ho := Lib.hid (open_short h1 h2 h3)
  have h4 : 4 ≤ xs.length := by omega
  obtain ⟨g1, g2⟩ := get4 h4
  obtain ⟨c1, c2⟩ := cnt_int hby h4
  rw [c1] at g1
  have C1 := Lib.hid c1
  clear c1 hby
  go_enter Tryd.func43, Tryd.ntmps43
  go_wp2_with (first | (go_at_call 33; with_reducible refine (sget_any _ xs _ _ hr hx Hy.out).mono ?_; rintro e w1 ⟨rfl, hb1⟩; replace hB := hB.trans (hb1.mono hB.size); replace hr := hr.keep hb1; clear hb1))
  go_ret3
  exact opened_err Ho.out hB

set_option maxHeartbeats 800000 in
theorem sopen_bad (v : Value) (xs : List Int) (w : World) (hr : Rd w 1 v xs.length (by8 xs)) (hby : Byt xs) (hx : xs.length ≤ 140737488351232) (h1 : ¬ xs.length < 4) (h2 : ¬ 1048576 < cnt xs) (h3 : ¬ xs.length < cnt xs + 8) (h5 : ¬ num ((xs.drop (4 + cnt xs)).take 4) = sumI (xs.take (4 + cnt xs))) :
    Calls Tryd.prog 43 #[v] w (Opened w xs (openI xs)) := by
  obtain ⟨a, cap, rfl⟩ := rd_slice hr
  have Hy := Lib.hid hby
  have hB := Below.refl w.heap.size w
  have Ho := Lib.hid (open_bad h1 h2 h3 h5)
  have hl : 0 < xs.length := by omega
  obtain ⟨b, off, rfl⟩ := rd_some hr hl
  obtain ⟨hcap, hcm⟩ := rd_lit hr
  have ht := hr.piece 0 (4 + cnt xs) cap (by8 (xs.take (4 + cnt xs))) (by omega) hcm (by omega) (by simp [by8, List.map_take])
  have hd := hr.piece (4 + cnt xs) (xs.length - (4 + cnt xs)) (cap - (4 + cnt xs)) (by8 (xs.drop (4 + cnt xs))) (by omega) (by omega) (by omega) (by simp [by8, List.map_drop]; rw [List.take_of_length_le (by simp)])
  have hc := hr.piece 4 (cnt xs) (cap - 4) (by8 ((xs.drop 4).take (cnt xs))) (by omega) (by omega) (by omega) (by simp [by8, List.map_drop, List.map_take])
  simp only [Nat.zero_mul, Nat.mul_one, Nat.add_zero] at ht hd hc
  have hz : (4 : Int) + (cnt xs : Int) = ((4 + cnt xs : Nat) : Int) := by omega
  have Lt := Lib.hid (show (xs.take (4 + cnt xs)).length = 4 + cnt xs by simp; omega)
  have Ld := Lib.hid (show (xs.drop (4 + cnt xs)).length = xs.length - (4 + cnt xs) by simp)
  have Lc := Lib.hid (show ((xs.drop 4).take (cnt xs)).length = cnt xs by simp; omega)
  have Yt := Lib.hid (byt_take hby (4 + cnt xs))
  have Yd := Lib.hid (byt_drop hby (4 + cnt xs))
  obtain ⟨g3, g4⟩ := get4 (xs := xs.drop (4 + cnt xs)) (by simp; omega)
  obtain ⟨s0, s1⟩ := sumI_bd _ (byt_take hby (4 + cnt xs))
  have hn2 := num_bd 4 ((xs.drop (4 + cnt xs)).take 4) (by simp; omega) (byt_take (byt_drop hby _) 4)
  have e256 : (256 : Int) ^ 4 = 4294967296 := by decide
  rw [e256] at hn2
  obtain ⟨n0, n1⟩ := hn2
  clear e256
  have h4 : 4 ≤ xs.length := by omega
  obtain ⟨g1, g2⟩ := get4 h4
  obtain ⟨c1, c2⟩ := cnt_int hby h4
  rw [c1] at g1
  have C1 := Lib.hid c1
  clear c1 hby
  have h6 : (num ((xs.drop (4 + cnt xs)).take 4) == sumI (xs.take (4 + cnt xs))) = false := beq_eq_false_iff_ne.2 h5
  clear h5 hz
  go_enter Tryd.func43, Tryd.ntmps43
  go_wp2_with (first | (go_at_call 33; with_reducible refine (sget_any _ xs _ _ hr hx Hy.out).mono ?_; rintro e w1 ⟨rfl, hb1⟩; replace hB := hB.trans (hb1.mono hB.size); replace hr := hr.keep hb1; replace ht := ht.keep hb1; replace hd := hd.keep hb1; replace hc := hc.keep hb1; clear hb1) | (go_at_call 33; with_reducible refine (sget_any _ (xs.drop (4 + cnt xs)) _ _ (by rw [Ld.out]; exact hd) (by rw [Ld.out]; omega) Yd.out).mono ?_; rintro e w2 ⟨rfl, hb1⟩; replace hB := hB.trans (hb1.mono hB.size); replace hr := hr.keep hb1; replace ht := ht.keep hb1; replace hd := hd.keep hb1; replace hc := hc.keep hb1; clear hb1) | (go_at_call 39; with_reducible refine (ssum_any _ (xs.take (4 + cnt xs)) _ (by rw [Lt.out]; exact ht) Yt.out (by rw [Lt.out]; omega)).mono ?_; rintro e w3 ⟨rfl, rfl⟩))
  go_ret3
  exact opened_err Ho.out hB

set_option maxHeartbeats 800000 in
theorem sopen_ok (v : Value) (xs : List Int) (w : World) (hr : Rd w 1 v xs.length (by8 xs)) (hby : Byt xs) (hx : xs.length ≤ 140737488351232) (h1 : ¬ xs.length < 4) (h2 : ¬ 1048576 < cnt xs) (h3 : ¬ xs.length < cnt xs + 8) (h5 : num ((xs.drop (4 + cnt xs)).take 4) = sumI (xs.take (4 + cnt xs))) :
    Calls Tryd.prog 43 #[v] w (Opened w xs (openI xs)) := by
  obtain ⟨a, cap, rfl⟩ := rd_slice hr
  have Hy := Lib.hid hby
  have hB := Below.refl w.heap.size w
  have Ho := Lib.hid (open_ok h1 h2 h3 h5)
  have hl : 0 < xs.length := by omega
  obtain ⟨b, off, rfl⟩ := rd_some hr hl
  obtain ⟨hcap, hcm⟩ := rd_lit hr
  have ht := hr.piece 0 (4 + cnt xs) cap (by8 (xs.take (4 + cnt xs))) (by omega) hcm (by omega) (by simp [by8, List.map_take])
  have hd := hr.piece (4 + cnt xs) (xs.length - (4 + cnt xs)) (cap - (4 + cnt xs)) (by8 (xs.drop (4 + cnt xs))) (by omega) (by omega) (by omega) (by simp [by8, List.map_drop]; rw [List.take_of_length_le (by simp)])
  have hc := hr.piece 4 (cnt xs) (cap - 4) (by8 ((xs.drop 4).take (cnt xs))) (by omega) (by omega) (by omega) (by simp [by8, List.map_drop, List.map_take])
  simp only [Nat.zero_mul, Nat.mul_one, Nat.add_zero] at ht hd hc
  have hz : (4 : Int) + (cnt xs : Int) = ((4 + cnt xs : Nat) : Int) := by omega
  have Lt := Lib.hid (show (xs.take (4 + cnt xs)).length = 4 + cnt xs by simp; omega)
  have Ld := Lib.hid (show (xs.drop (4 + cnt xs)).length = xs.length - (4 + cnt xs) by simp)
  have Lc := Lib.hid (show ((xs.drop 4).take (cnt xs)).length = cnt xs by simp; omega)
  have Yt := Lib.hid (byt_take hby (4 + cnt xs))
  have Yd := Lib.hid (byt_drop hby (4 + cnt xs))
  obtain ⟨g3, g4⟩ := get4 (xs := xs.drop (4 + cnt xs)) (by simp; omega)
  obtain ⟨s0, s1⟩ := sumI_bd _ (byt_take hby (4 + cnt xs))
  have hn2 := num_bd 4 ((xs.drop (4 + cnt xs)).take 4) (by simp; omega) (byt_take (byt_drop hby _) 4)
  have e256 : (256 : Int) ^ 4 = 4294967296 := by decide
  rw [e256] at hn2
  obtain ⟨n0, n1⟩ := hn2
  clear e256
  have h4 : 4 ≤ xs.length := by omega
  obtain ⟨g1, g2⟩ := get4 h4
  obtain ⟨c1, c2⟩ := cnt_int hby h4
  rw [c1] at g1
  have C1 := Lib.hid c1
  clear c1 hby
  have h6 : (num ((xs.drop (4 + cnt xs)).take 4) == sumI (xs.take (4 + cnt xs))) = true := beq_iff_eq.2 h5
  clear h5 hz
  go_enter Tryd.func43, Tryd.ntmps43
  go_wp2_with (first | (go_at_call 33; with_reducible refine (sget_any _ xs _ _ hr hx Hy.out).mono ?_; rintro e w1 ⟨rfl, hb1⟩; replace hB := hB.trans (hb1.mono hB.size); replace hr := hr.keep hb1; replace ht := ht.keep hb1; replace hd := hd.keep hb1; replace hc := hc.keep hb1; clear hb1) | (go_at_call 33; with_reducible refine (sget_any _ (xs.drop (4 + cnt xs)) _ _ (by rw [Ld.out]; exact hd) (by rw [Ld.out]; omega) Yd.out).mono ?_; rintro e w2 ⟨rfl, hb1⟩; replace hB := hB.trans (hb1.mono hB.size); replace hr := hr.keep hb1; replace ht := ht.keep hb1; replace hd := hd.keep hb1; replace hc := hc.keep hb1; clear hb1) | (go_at_call 39; with_reducible refine (ssum_any _ (xs.take (4 + cnt xs)) _ (by rw [Lt.out]; exact ht) Yt.out (by rw [Lt.out]; omega)).mono ?_; rintro e w3 ⟨rfl, rfl⟩) | (at_builtin; refine wpList_app _ rfl _ _ 30 rfl w3.heap.size 5 (.int .u8 0) 1 1 Tryd.underlying30 Tryd.info5 rfl (by decide) (.slice (some ⟨w3.heap.size, 0, none⟩) 0 0) _ _ (cnt xs) _ _ rfl rfl (World.ownsRow_made (e := 5) (size := 1) w3 #[] 0 (Nat.le_refl _) (Nat.zero_le _) rfl) (by show Rd _ 1 (.slice (some ⟨b, off + 4, none⟩) (4 + cnt xs - 4) (cap - 4)) (cnt xs) _; rw [Nat.add_sub_cancel_left]; exact (hc.keep ((Below.refl _ _).alloc (Nat.le_refl _) _))) (by8_one _) (by omega) (by unfold maxLen; omega) (by simp) ?_; intro v2 w4 ho hgr; replace ho := own_base ho hB.size; have hz3 := hB.size; replace hB := (hB.alloc hB.size (.cells #[] 5)).grown hgr (by simp; omega) (fun k hk => by simp [Value.ownBlock] at hk; omega)))
  go_ret3
  refine ⟨v2, ?_, ?_, hB⟩
  · rw [Ho.out]
    exact tup3 (b := cnt xs + 8) _ (by omega)
  · rw [Ho.out, Lc.out]
    simpa using ho

theorem sopen_any (v : Value) (xs : List Int) (w : World) (hr : Rd w 1 v xs.length (by8 xs)) (hby : Byt xs) (hx : xs.length ≤ 140737488351232) :
    Calls Tryd.prog 43 #[v] w (Opened w xs (openI xs)) := by
  by_cases h1 : xs.length < 4
  · exact sopen_few v xs w hr hby hx h1
  · by_cases h2 : 1048576 < cnt xs
    · exact sopen_big v xs w hr hby hx h1 h2
    · by_cases h3 : xs.length < cnt xs + 8
      · exact sopen_short v xs w hr hby hx h1 h2 h3
      · by_cases h4 : num ((xs.drop (4 + cnt xs)).take 4) = sumI (xs.take (4 + cnt xs))
        · exact sopen_ok v xs w hr hby hx h1 h2 h3 h4
        · exact sopen_bad v xs w hr hby hx h1 h2 h3 h4
end Go.Proofs.YtjinjlfocjohhaaDoor
