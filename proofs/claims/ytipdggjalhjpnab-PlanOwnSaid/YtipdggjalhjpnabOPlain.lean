/-
  Plans: what comes to its origin alone (plain).
-/
import Derived.Test.YtipdggjalhjpnabPlan8
namespace Go.Proofs.Ytipdggjalhjpnab
set_option linter.unusedSimpArgs false
set_option linter.unusedVariables false

theorem fst_ge (es : List (Int × Int)) (a m b : Nat) : -1 ≤ fst es a m b := by
  unfold fst
  split <;> omega
theorem levF_ge (S : Int) (es : List (Int × Int)) (H a : Int) (b : Nat) : -1 ≤ levF S es H a b := by
  unfold levF
  split
  · exact fst_ge _ _ _ _
  · omega
theorem farI_ge (S : Int) (es : List (Int × Int)) (H a b : Int) : -1 ≤ farI S es H a b := by
  unfold farI
  split
  · exact levF_ge _ _ _ _ _
  · omega
theorem onward_none (S : Int) (es : List (Int × Int)) (o s : Int) : onward S es 0 o s = [] := by
  unfold onward
  rw [if_pos]
  have := farI_ge S es 0 o s
  omega
theorem sum_zero : ∀ l : List Nat, (∀ x ∈ l, x = 0) → l.sum = 0
  | [], _ => rfl
  | x :: l, h => by rw [List.sum_cons, h x (by simp), sum_zero l (fun y hy => h y (by simp [hy]))]
theorem most_none (S : Int) (es : List (Int × Int)) (p : Pub) : mostN S es 0 [p] = 0 := by
  unfold mostN mostP mostK
  simp only [List.map_cons, List.map_nil, List.sum_cons, List.sum_nil, Nat.add_zero]
  split
  · refine sum_zero _ fun x hx => ?_
    obtain ⟨n, _, rfl⟩ := List.mem_map.1 hx
    rw [onward_none]; rfl
  · rfl
theorem most_own (S : Int) (es : List (Int × Int)) (H o s : Int) : mostN S es H [⟨o, s, false⟩] = 0 := by
  simp [mostN, mostP, mostK]
theorem sites_own (S : Int) (es : List (Int × Int)) (H o s : Int) : sitesL S es H ⟨o, s, false⟩ = if okT S es H ∧ btw o S = true then [o] else [] := by simp [sitesL]
theorem within_self (S : Int) (es : List (Int × Int)) (H o : Int) : (within S es H o 9).any (fun n => n == o) = decide (okT S es H ∧ btw o S = true) := by
  by_cases h : okT S es H ∧ btw o S = true
  · rw [decide_eq_true h]
    have hf := far_self_or S es H o
    rw [if_pos h] at hf
    obtain ⟨h1, h2⟩ : 1 ≤ o ∧ o ≤ S := by simpa [btw] using h.2
    have h8 : S ≤ 8 := h.1.2.1
    have hH : 0 ≤ H := h.1.2.2.1
    unfold farI at hf
    rw [if_pos h.2] at hf
    rw [List.any_eq_true]
    refine ⟨o, ?_, by simp⟩
    unfold within
    refine List.mem_map.2 ⟨o.toNat, List.mem_filter.2 ⟨List.mem_range.2 (by omega), ?_⟩, by omega⟩
    unfold okW
    rw [hf]
    simp [hH]
  · rw [decide_eq_false h, List.any_eq_false]
    intro x hx
    unfold within at hx
    obtain ⟨b, hb, _⟩ := List.mem_map.1 hx
    have hk := (List.mem_filter.1 hb).2
    unfold okW levF at hk
    rw [if_neg h] at hk
    simp at hk
end Go.Proofs.Ytipdggjalhjpnab
