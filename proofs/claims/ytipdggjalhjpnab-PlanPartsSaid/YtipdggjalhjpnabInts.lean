/-
  Rows of numbers compared (the reference's Ints).
-/
import Derived.Test.YtipdggjalhjpnabNext
import Derived.BigQuiet
import Derived.Deep.QuietTactic
namespace Go.Proofs.Ytipdggjalhjpnab
open Go.RowKit
set_option linter.unusedSimpArgs false
set_option linter.unusedVariables false

theorem take_eq_succ {xs ys : List Int} {i : Nat} {x y : Int} (h : xs.take i = ys.take i) (hx : xs[i]? = some x) (hy : ys[i]? = some y) (he : x = y) : xs.take (i + 1) = ys.take (i + 1) := by
  rw [List.take_add_one, List.take_add_one, hx, hy, h, he]

set_option maxHeartbeats 800000 in
theorem ints_any (u v : Value) (xs ys : List Int) (w : World) (hu : Rd w 1 u xs.length (ints xs)) (hv : Rd w 1 v ys.length (ints ys)) :
    Calls Try.prog 16 #[u, v] w fun e w' => e = .returned (.bool (xs == ys)) ∧ ∃ m, w' = w.drewN m := by
  obtain ⟨a1, c1, rfl⟩ := rd_slice hu
  obtain ⟨a2, c2, rfl⟩ := rd_slice hv
  have hmx : xs.length ≤ 9223372036854775807 := by obtain ⟨_, a', c', e', k1, k2, _⟩ := hu; unfold maxLen at k2; omega
  by_cases hl : xs.length = ys.length
  · go_enter Try.func16, Try.ntmps16
    go_wp2
    go_loopw [5, 13] (fun _ ix wr => ∃ i m : Nat, i ≤ xs.length ∧ ix = .int .i64 (i : Int) ∧ xs.take i = ys.take i ∧ wr = w.drewN m) (fun _ ix _ => xs.length - (intOf ix).toNat)
    case atStart => exact ⟨0, 0, by omega, rfl, by simp, rfl⟩
    case round =>
      obtain ⟨i, m, hi, rfl, htk, rfl⟩ := hrel
      by_cases hlt : i < xs.length
      · obtain ⟨x, hx⟩ : ∃ x, xs[i]? = some x := ⟨_, List.getElem?_eq_getElem hlt⟩
        obtain ⟨y, hy⟩ : ∃ y, ys[i]? = some y := ⟨_, List.getElem?_eq_getElem (by omega)⟩
        obtain ⟨_, a', k', ee, _, _, _, h4⟩ := hu
        obtain ⟨rfl, rfl⟩ : a1 = a' ∧ c1 = k' := by simpa using ee
        obtain ⟨b1, o1, rfl, hb1, hc1⟩ := h4 (by omega)
        obtain ⟨_, a', k', ee2, _, _, _, h5⟩ := hv
        obtain ⟨rfl, rfl⟩ : a2 = a' ∧ c2 = k' := by simpa using ee2
        obtain ⟨b2, o2, rfl, hb2, hc2⟩ := h5 (by omega)
        have d1 := hc1 i (.int .i64 x) (by simp [ints, hx])
        have d2 := hc2 i (.int .i64 y) (by simp [ints, hy])
        have hlt2 : i < ys.length := by omega
        have Hx := Lib.hid hx
        have Hy := Lib.hid hy
        have Ht := Lib.hid htk
        clear hx hy htk hc1 hc2 h4 h5 ee ee2
        by_cases hxy : x = y
        · have hne : (x != y) = false := by simp [hxy]
          go_wp2
          go_quiet (fail)
          go_wp2
          exact ⟨⟨i + 1, m + nq, by omega, by go_num, take_eq_succ Ht.out Hx.out Hy.out hxy, rfl⟩, by simp [intOf]; omega⟩
        · have hne : (x != y) = true := by simp [hxy]
          go_wp2
          go_quiet (fail)
          go_wp2
          go_ret
          have hne2 : (xs == ys) = false := by
            cases h : xs == ys with
            | false => rfl
            | true =>
              have h1 := beq_iff_eq.1 h
              have h2 := Hx.out
              rw [h1, Hy.out] at h2
              exact absurd (Option.some.inj h2).symm hxy
          exact ⟨congrArg (fun z => Ending.returned (.bool z)) hne2.symm, m + nq, by simp⟩
      · obtain rfl : i = xs.length := by omega
        have heq : (xs == ys) = true := by
          rw [beq_iff_eq]
          have h1 : ys.take xs.length = ys := by rw [hl]; exact List.take_length
          rw [List.take_length, h1] at htk
          exact htk
        have He := Lib.hid heq
        clear heq htk
        go_wp2
        go_ret
        exact ⟨congrArg (fun z => Ending.returned (.bool z)) He.out.symm, m, rfl⟩
  · have hne : (xs == ys) = false := by
      cases h : xs == ys with
      | false => rfl
      | true => exact absurd (congrArg List.length (beq_iff_eq.1 h)) hl
    have Hn := Lib.hid hne
    clear hne
    go_enter Try.func16, Try.ntmps16
    go_wp2
    go_ret
    exact ⟨congrArg (fun z => Ending.returned (.bool z)) Hn.out.symm, 0, rfl⟩
end Go.Proofs.Ytipdggjalhjpnab
