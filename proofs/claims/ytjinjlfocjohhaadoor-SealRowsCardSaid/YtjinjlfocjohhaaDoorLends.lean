/-
  Contracts of the reference's Same, Lend, Kept, Cut.
-/
import Derived.Test.YtjinjlfocjohhaaDoorPuts
import Derived.Laws.BytesArg
namespace Go.Proofs.YtjinjlfocjohhaaDoor
open Go.RowKit
set_option linter.unusedSimpArgs false
set_option linter.unusedVariables false

theorem conv_rd {w : World} {v : Value} {xs : List Int} (hr : Rd w 1 v xs.length (by8 xs)) : (convert 30 9 v).run Tryd.prog w = .ok (.string (strOfNums xs)) w := by
  obtain ⟨hl, a, cap, rfl, hc1, hc2, hnone, hpos⟩ := hr
  cases a with
  | none =>
    have := run_convert_bytes_nil (P := Tryd.prog) w 30 5 Tryd.underlying30 Tryd.underlying5 xs.length cap 9 Tryd.underlying9
    rw [this]
    have : xs = [] := List.eq_nil_of_length_eq_zero (hnone rfl).1
    subst this
    rfl
  | some ad =>
    by_cases h0 : xs = []
    · subst h0
      have := run_bytesToString (P := Tryd.prog) w ad 0 cap [] (by simpa using run_loadCells_list (P := Tryd.prog) w ad [] (by simp))
      rw [run_convert_bytes_string w 30 9 5 (some ad) _ cap Tryd.underlying30 Tryd.underlying5 Tryd.underlying9]
      exact this
    · have h1 : 0 < xs.length := List.length_pos_iff.2 h0
      obtain ⟨b, off, e, hb, hc⟩ := hpos (by omega)
      obtain rfl := Option.some.inj e
      exact run_convert_bytes_arg w 30 5 Tryd.underlying30 Tryd.underlying5 b off xs.length cap xs rfl (fun i hi => hc i _ (by simp [by8, List.getD, List.getElem?_eq_getElem hi])) 9 Tryd.underlying9

theorem byt_inj : ∀ {xs ys : List Int}, Byt xs → Byt ys → xs.map (fun n => UInt8.ofNat n.toNat) = ys.map (fun n => UInt8.ofNat n.toNat) → xs = ys
  | [], [], _, _, _ => rfl
  | [], y :: ys, _, _, h => by simp at h
  | x :: xs, [], _, _, h => by simp at h
  | x :: xs, y :: ys, hx, hy, h => by
    simp only [List.map_cons, List.cons.injEq] at h
    have h1 := hx x (by simp)
    have h2 := hy y (by simp)
    have h3 : x = y := by
      have := congrArg UInt8.toNat h.1
      simp at this
      omega
    subst h3
    rw [byt_inj (fun z hz => hx z (by simp [hz])) (fun z hz => hy z (by simp [hz])) h.2]

theorem same_str {xs ys : List Int} (hx : Byt xs) (hy : Byt ys) : ((strOfNums xs).toList == (strOfNums ys).toList) = (xs == ys) := by
  rw [ByteArray.toList_eq, ByteArray.toList_eq, strOfNums_data, strOfNums_data, Bool.eq_iff_iff]
  simp only [beq_iff_eq]
  exact ⟨fun h => byt_inj hx hy h, fun h => by rw [h]⟩

theorem same_any (u v : Value) (xs ys : List Int) (w : World) (hu : Rd w 1 u xs.length (by8 xs)) (hv : Rd w 1 v ys.length (by8 ys)) (hx : Byt xs) (hy : Byt ys) :
    Calls Tryd.prog 34 #[u, v] w fun e w' => e = .returned (.bool (xs == ys)) ∧ w' = w := by
  have h1 := conv_rd hu
  have h2 := conv_rd hv
  have hs := Lib.hid (same_str hx hy)
  clear hx hy
  go_enter Tryd.func34, Tryd.ntmps34
  go_wp2
  go_ret
  exact ⟨ret_bool hs.out, rfl⟩

def lend (xs : List Int) : List Int := [167, 59] ++ xs ++ [94, 193]
theorem lend_length (xs : List Int) : (lend xs).length = 2 + xs.length + 2 := by simp [lend]; omega
set_option maxHeartbeats 800000 in
theorem lend_any (v : Value) (xs : List Int) (w : World) (hr : Rd w 1 v xs.length (by8 xs)) (hx : xs.length ≤ 140737488351232) :
    Calls Tryd.prog 31 #[v] w fun e w' => ∃ g cap, e = .returned (.tuple #[.slice (some ⟨g, 0, none⟩) (2 + xs.length + 2) cap, .slice (some ⟨g, 2, none⟩) xs.length (cap - 2)]) ∧
      w'.ownsRow w.heap.size 5 1 (.slice (some ⟨g, 0, none⟩) (2 + xs.length + 2) cap) (2 + xs.length + 2) (by8 (lend xs)) ∧ Below w.heap.size w w' := by
  obtain ⟨a, cap, rfl⟩ := rd_slice hr
  have hr1 := Lib.hid (hr.keep ((Below.refl _ w).alloc (Nat.le_refl _) (.cells #[.int .u8 167, .int .u8 59] 5)))
  have ho1 := Lib.hid (World.ownsRow_lit (base := w.heap.size) (e := 5) (size := 1) w #[.int .u8 167, .int .u8 59] 2 (Nat.le_refl _) (by decide) rfl)
  clear hr
  go_enter Tryd.func31, Tryd.ntmps31
  go_wp2_with (first | (at_builtin; refine wpList_app _ rfl _ _ 30 rfl w.heap.size 5 (.int .u8 0) 1 1 Tryd.underlying30 Tryd.info5 rfl (by decide) (.slice (some ⟨w.heap.size, 0, none⟩) 2 2) _ _ xs.length _ _ rfl rfl ho1.out hr1.out (by8_one xs) (by omega) (by unfold maxLen; omega) (by simp) ?_; intro v1 w2 ho hgr; have Hg := Lib.hid hgr; have Ho := Lib.hid ho; have Hz := hgr.size; clear ho hgr) | (at_builtin; refine wpList_app _ rfl _ _ 30 rfl w.heap.size 5 (.int .u8 0) 1 1 Tryd.underlying30 Tryd.info5 rfl (by decide) v1 _ _ 2 _ _ rfl rfl (Ho.out.alloc _) (rd_new _ _ _ _ rfl (by decide)) (by intro u hu; simp at hu; rcases hu with rfl | rfl <;> rfl) (by omega) (by unfold maxLen; omega) (by simp at Hz ⊢; omega) ?_; intro v2 w3 ho2 hgr2; have Hg2 := Lib.hid hgr2; have Ho2 := Lib.hid ho2; have Hz2 := hgr2.size; clear ho2 hgr2; obtain ⟨g, cap2, rfl, hg1, hg2, hg3, hg4⟩ := own_succ Ho2.out (by omega)))
  have hs1 : IntKind.i64.wrap (2 + (xs.length : Int)) = 2 + (xs.length : Int) := IntWalk.i64_in _ (by omega)
  have hs2 : (2 + (xs.length : Int)).toNat = 2 + xs.length := by omega
  go_quiet (fail)
  go_wp2
  go_ret2
  refine ⟨g, cap2, rfl, ?_, ?_⟩
  · have : by8 (lend xs) = [.int .u8 167, .int .u8 59] ++ by8 xs ++ [.int .u8 94, .int .u8 193] := by simp [by8, lend]
    rw [this]
    exact Ho2.out
  · refine below_drewN ?_ _
    refine Below.grown (((((Below.refl _ _).alloc (Nat.le_refl _) _).grown Hg.out (by simp) (fun k hk => by simp [Value.ownBlock] at hk; omega))).alloc (by simp at Hz; omega) _) Hg2.out (by simp at Hz ⊢; omega) (fun k hk => (Ho.out.lt k hk).1)

theorem lend_byt {xs : List Int} (h : Byt xs) : Byt (lend xs) := by
  intro x hx
  simp [lend] at hx
  rcases hx with rfl | rfl | hx | rfl | rfl
  · decide
  · decide
  · exact h x hx
  · decide
  · decide
theorem lend_rd {w : World} {g cap : Nat} {xs : List Int} (h : Rd w 1 (.slice (some ⟨g, 0, none⟩) (2 + xs.length + 2) cap) (2 + xs.length + 2) (by8 (lend xs))) :
    Rd w 1 (.slice (some ⟨g, 2, none⟩) xs.length (cap - 2)) xs.length (by8 xs) := by
  have h2 := rd_lit h
  have := h.piece 2 xs.length (cap - 2) (by8 xs) (by omega) (by omega) (by omega) (by simp [by8, lend])
  simpa using this

set_option maxHeartbeats 800000 in
theorem kept_any (u v : Value) (xs ys : List Int) (w : World) (hu : Rd w 1 u ys.length (by8 ys)) (hv : Rd w 1 v xs.length (by8 xs)) (hx : xs.length ≤ 140737488351232) (hb : Byt xs) (hy : Byt ys) :
    Calls Tryd.prog 36 #[u, v] w fun e w' => e = .returned (.bool (ys == lend xs)) ∧ Below w.heap.size w w' := by
  have Hs := Lib.hid (same_str hy (lend_byt hb))
  clear hb hy
  go_enter Tryd.func36, Tryd.ntmps36
  go_wp2_with (go_at_call 31; refine (lend_any v xs _ hv hx).mono ?_; rintro e w1 ⟨g, cap, rfl, hown, hbl⟩; have hc1 := conv_rd (hu.keep hbl); have hr2 := Rd.of_own hown; rw [← lend_length] at hr2; have hc2 := conv_rd hr2; rw [lend_length] at hc2; clear hr2)
  go_ret
  exact ⟨ret_bool Hs.out, hbl⟩

set_option maxHeartbeats 800000 in
theorem scut_any (u n : Int) (w : World) (h0 : 0 ≤ u) :
    Calls Tryd.prog 26 #[.int .u64 u, .int .i64 n] w fun e w' => e = .returned (.int .u64 (get (put [] n u) n)) ∧ Below w.heap.size w w' := by
  have hr0 : Rd w 1 (.slice none 0 0) ([] : List Int).length (by8 []) := Rd.of_own (World.ownsRow_nil w 0 5 1)
  have hb : Byt (put [] n u) := by
    intro x hx
    unfold put at hx
    split at hx
    · simp [be] at hx
      obtain ⟨j, _, rfl⟩ := hx
      omega
    · simp at hx
  have hl : (put [] n u).length ≤ 140737488351232 := by
    unfold put
    split
    · rename_i h
      rcases good_cases h with rfl | rfl | rfl | rfl <;> simp [be]
    · simp
  have Hb := Lib.hid hb
  clear hb
  go_enter Tryd.func26, Tryd.ntmps26
  go_wp2_with (first | (go_at_call 35; refine (sput_any (.slice none 0 0) [] n u _ hr0 (by simp) h0).mono ?_; rintro e w1 ⟨v1, rfl, hown, hbl⟩; have Hr := Lib.hid (Rd.of_own hown); clear hown) | (go_at_call 33; refine (sget_any v1 (put [] n u) n _ Hr.out hl Hb.out).mono ?_; rintro e w2 ⟨rfl, hbl2⟩))
  go_ret
  exact ⟨rfl, hbl.trans (hbl2.mono hbl.size)⟩
end Go.Proofs.YtjinjlfocjohhaaDoor
