/-
  Topologies: slices.IndexFunc and slices.DeleteFunc at Onward's own function.
-/
import Derived.Test.YtipdggjalhjpnabFar
namespace Go.Proofs.Ytipdggjalhjpnab
open Go.RowKit
set_option linter.unusedSimpArgs false
set_option linter.unusedVariables false

theorem same_site (n o : Int) (c : Nat) (w : World) (hc : w.cell? ⟨c, 0, none⟩ = some (.int .i64 o)) :
    Calls Try.prog 45 #[.int .i64 n, .pointer (some ⟨c, 0, none⟩)] w fun e w' => e = .returned (.bool (n == o)) ∧ w' = w := by
  go_enter Try.func45, Try.ntmps45
  go_wp2
  go_ret
  exact ⟨by simp <;> rfl, rfl⟩

def fnV (c : Nat) : Value := .func (.func 45) #[] #[.pointer (some ⟨c, 0, none⟩)]
set_option maxHeartbeats 800000 in
theorem index_any (v : Value) (l : List Int) (o : Int) (c : Nat) (w : World) (hr : Rd w 1 v l.length (ints l)) (hc : w.cell? ⟨c, 0, none⟩ = some (.int .i64 o)) :
    Calls Try.prog 49 #[v, fnV c] w fun e w' => ∃ i, e = .returned (.int .i64 i) ∧ w' = w ∧ (i = -1 ∧ o ∉ l ∨ ∃ k : Nat, i = (k : Int) ∧ l[k]? = some o ∧ o ∉ l.take k) := by
  obtain ⟨a, cap, rfl⟩ := rd_slice hr
  have hmx : l.length ≤ 9223372036854775807 := by obtain ⟨_, a', c', e', k1, k2, _⟩ := hr; unfold maxLen at k2; omega
  unfold fnV
  go_enter Try.func49, Try.ntmps49
  go_wp2
  go_loopw [5, 8] (fun _ ix wr => ∃ i : Nat, i ≤ l.length ∧ ix = .int .i64 (i : Int) ∧ o ∉ l.take i ∧ wr = w) (fun _ ix _ => l.length - (intOf ix).toNat)
  case atStart => exact ⟨0, by omega, rfl, by simp, rfl⟩
  case round =>
    obtain ⟨i, hi, rfl, hni, rfl⟩ := hrel
    by_cases hlt : i < l.length
    · obtain ⟨x, hx⟩ : ∃ x, l[i]? = some x := ⟨_, List.getElem?_eq_getElem hlt⟩
      obtain ⟨_, a', cap', ee, _, _, _, h4⟩ := hr
      obtain ⟨rfl, rfl⟩ : a = a' ∧ cap = cap' := by simpa using ee
      obtain ⟨b, off, rfl, hb, hcell⟩ := h4 (by omega)
      have hd := hcell i (.int .i64 x) (by simp [ints, hx])
      have Hx := Lib.hid hx
      have Hn := Lib.hid hni
      clear hx hni hcell h4 ee
      by_cases hxo : x = o
      · go_wp2_with (first | (go_at_call 45; with_reducible refine (same_site _ o c _ hc).mono ?_; rintro e w2 ⟨rfl, rfl⟩))
        go_ret
        exact ⟨_, rfl, rfl, .inr ⟨i, rfl, by rw [Hx.out, hxo], Hn.out⟩⟩
      · go_wp2_with (first | (go_at_call 45; with_reducible refine (same_site _ o c _ hc).mono ?_; rintro e w2 ⟨rfl, rfl⟩))
        exact ⟨⟨i + 1, by omega, by go_num, take_not Hx.out Hn.out hxo, trivial⟩, by simp [intOf]; omega⟩
    · obtain rfl : i = l.length := by omega
      rw [List.take_length] at hni
      have Hn := Lib.hid hni
      clear hni
      go_wp2
      go_ret
      exact ⟨_, rfl, rfl, .inl ⟨rfl, Hn.out⟩⟩
end Go.Proofs.Ytipdggjalhjpnab
