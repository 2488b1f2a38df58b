/-
  Contract of the law SealOpens.
-/
import Derived.Test.YtjinjlfocjohhaaDoorSLaw1
namespace Go.Proofs.YtjinjlfocjohhaaDoor
open Go.RowKit
set_option linter.unusedSimpArgs false
set_option linter.unusedVariables false

theorem rows_at {w : World} {base : Nat} {cells : List Value} {l : List (List Int)} (h : Rows w base cells l) {k : Nat} (hk : k < l.length) :
    ∃ c x, cells[k]? = some c ∧ l[k]? = some x ∧ w.ownsRow base 5 1 c x.length (by8 x) := by
  have hc : k < cells.length := by rw [h.1]; exact hk
  exact ⟨cells[k], l[k], List.getElem?_eq_getElem hc, List.getElem?_eq_getElem hk, h.2 k _ _ (List.getElem?_eq_getElem hc) (List.getElem?_eq_getElem hk)⟩
theorem open_byt {xs : List Int} (h : Byt xs) : Byt (openI xs).1 := by
  unfold openI
  split
  · exact byt_nil
  · split
    · exact byt_nil
    · split
      · exact byt_nil
      · split
        · exact byt_take (byt_drop h _) _
        · exact byt_nil
theorem parse_byt {xs : List Int} (h : Byt xs) {p : Nat} {l : List (List Int)} (hp : Parse xs p l) : ∀ x ∈ l, Byt x := by
  induction hp with
  | nil => intro x hx; simp at hx
  | @snoc p n l c h1 h2 ih =>
    intro x hx
    rcases List.mem_append.1 hx with hx | hx
    · exact ih x hx
    · have := open_byt (byt_drop h p)
      rw [h2] at this
      obtain rfl := List.mem_singleton.1 hx
      exact this

set_option maxHeartbeats 3200000 in
theorem sealOpens_any (v : Value) (xs : List Int) (w : World) (hw : Wid w) (hr : Rd w 1 v xs.length (by8 xs)) (hx : xs.length ≤ 140737488351232) (hy : Byt xs) (hpl : Plain v) :
    Calls Tryd.prog 11 #[v] w fun e w' => e = .returned (.bool true) ∧ Below w.heap.size w w' := by
  have hB := Below.refl w.heap.size w
  by_cases h5 : 20000 < xs.length
  · obtain ⟨a, cap, rfl⟩ := rd_slice hr
    go_enter Tryd.func11, Tryd.ntmps11
    go_wp2_with (go_at_call 37; with_reducible refine (slives_any _ hw).mono ?_; rintro e w7 ⟨rfl, hb7⟩)
    go_ret
    exact ⟨rfl, hb7⟩
  · obtain ⟨l, p, hW⟩ := whole_ex xs
    obtain ⟨oc, on, oe, ho⟩ : ∃ oc on oe, openI xs = (oc, on, oe) := ⟨_, _, _, rfl⟩
    have Hoc := Lib.hid (show Byt oc by have := open_byt hy; rw [ho] at this; exact this)
    have Hl := Lib.hid (parse_byt hy hW.1)
    have Hy := Lib.hid hy
    have hll : l.length ≤ 20000 := by have := hW.1.le; omega
    have Hpl := Lib.hid hpl
    obtain ⟨a, cap, rfl⟩ := rd_slice hr
    clear hy hpl
    go_enter Tryd.func11, Tryd.ntmps11
    go_wp2_with (first | (go_at_call 42; with_reducible refine (popen_at _ xs _ hw hr Hy.out hx ho).mono ?_; rintro e w1 ⟨c1, rfl, hown, hb1⟩; replace hw := hw.below hb1; replace hB := hB.trans (hb1.mono hB.size); replace hr := hr.keep hb1; have H1 := Rd.of_own hown; clear hown hb1) | (go_at_call 43; with_reducible refine (sopen_at _ xs _ hr Hy.out hx ho).mono ?_; rintro e w2 ⟨c2, rfl, hown, hb1⟩; replace hw := hw.below hb1; replace hB := hB.trans (hb1.mono hB.size); replace hr := hr.keep hb1; replace H1 := H1.keep hb1; have H2 := Rd.of_own hown; clear hown hb1) | (go_at_call 44; with_reducible refine (whole_v _ xs _ hw hr Hy.out (by omega) Hpl.out hW).mono ?_; rintro e w3 ⟨r1, cells1, rfl, ho1, hr1, hb1⟩; replace hw := hw.below hb1; replace hB := hB.trans (hb1.mono hB.size); replace hr := hr.keep hb1; replace H1 := H1.keep hb1; replace H2 := H2.keep hb1; replace ho1 := Rd.of_own ho1; clear hb1) | (go_at_call 45; with_reducible refine (swhole_v _ xs _ hr Hy.out (by omega) Hpl.out hW).mono ?_; rintro e w4 ⟨r2, cells2, rfl, ho2, hr2, hb1⟩; replace hw := hw.below hb1; replace hB := hB.trans (hb1.mono hB.size); replace H1 := H1.keep hb1; replace H2 := H2.keep hb1; replace ho1 := ho1.keep hb1; replace hr1 := hr1.below hb1; replace ho2 := Rd.of_own ho2; clear hb1 hr; obtain ⟨a1, k1, rfl⟩ := rd_slice ho1; obtain ⟨a2, k2, rfl⟩ := rd_slice ho2) | (go_at_call 34; with_reducible refine (same_any c1 c2 oc oc _ H1 H2 Hoc.out Hoc.out).mono ?_; rintro e w6 ⟨rfl, rfl⟩))
    go_loopw [13, 68] (fun _ c wr => ∃ k : Nat, k ≤ l.length ∧ c = .int .i64 (k : Int) ∧ Below w6.heap.size w6 wr) (fun _ c _ => l.length - (intOf c).toNat)
    case atStart => exact ⟨0, Nat.zero_le _, rfl, Below.refl _ _⟩
    case round =>
      obtain ⟨k, hk, rfl, hBr⟩ := hrel
      have hwr := hw.below hBr
      by_cases hlt : k < l.length
      · obtain ⟨x1, y1, e1, e2, e3⟩ := rows_at hr1 hlt
        obtain ⟨x2, y2, e4, e5, e6⟩ := rows_at hr2 hlt
        obtain rfl : y1 = y2 := by rw [e2] at e5; exact Option.some.inj e5
        have Yb := Lib.hid (Hl.out y1 (List.mem_of_getElem? e2))
        obtain ⟨hl1, a1', k1', ee1, _, _, _, hp1⟩ := ho1
        obtain ⟨hl2, a2', k2', ee2, _, _, _, hp2⟩ := ho2
        obtain ⟨b1, o1, rfl, hb1, hc1⟩ := hp1 (by omega)
        obtain ⟨b2, o2, rfl, hb2, hc2⟩ := hp2 (by omega)
        obtain ⟨rfl, rfl⟩ : a1 = some ⟨b1, o1, none⟩ ∧ k1 = k1' := by simpa using ee1
        obtain ⟨rfl, rfl⟩ : a2 = some ⟨b2, o2, none⟩ ∧ k2 = k2' := by simpa using ee2
        have d1 := (hBr.cell (p := ⟨b1, o1 + k, none⟩) hb1).trans (hc1 k _ e1)
        have d2 := (hBr.cell (p := ⟨b2, o2 + k, none⟩) hb2).trans (hc2 k _ e4)
        have R1 := (Rd.of_own e3).keep hBr
        have R2 := (Rd.of_own e6).keep hBr
        clear hc1 hc2 hp1 hp2 ee1 ee2 e1 e2 e4 e5 e3 e6
        obtain ⟨q1, q2, rfl⟩ := rd_slice R1
        obtain ⟨q3, q4, rfl⟩ := rd_slice R2
        go_wp2_with fail
        go_quiet ((go_at_call 34; exact Calls.quiet_of_same (same_any _ _ y1 y1 _ (R1.keep (below_drewN (Below.refl _ _) _)) (R2.keep (below_drewN (Below.refl _ _) _)) Yb.out Yb.out)))
        go_wp2
        go_roundw
        case rel => exact ⟨k + 1, by omega, by go_num, below_drewN hBr _⟩
        case measure => simp [intOf]; omega
      · go_wp2_with (go_at_call 37; with_reducible refine (slives_any _ hwr).mono ?_; rintro e w7 ⟨rfl, hb7⟩)
        go_ret
        exact ⟨rfl, (hB.trans (hBr.mono hB.size)).trans (hb7.mono (Nat.le_trans hB.size hBr.size))⟩
end Go.Proofs.YtjinjlfocjohhaaDoor
