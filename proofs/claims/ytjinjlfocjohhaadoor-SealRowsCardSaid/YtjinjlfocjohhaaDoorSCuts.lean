/-
  Plain law of things sealed one behind the other and cut anywhere.
-/
import Derived.Test.YtjinjlfocjohhaaDoorSLaw3
namespace Go.Proofs.YtjinjlfocjohhaaDoor
open Go.RowKit
set_option linter.unusedSimpArgs false
set_option linter.unusedVariables false

theorem seals_append (l m : List (List Int)) : seals (l ++ m) = seals l ++ seals m := by simp [seals]
theorem seals_byt {l : List (List Int)} (h : ∀ b ∈ l, Byt b) : Byt (seals l) := by
  intro x hx
  obtain ⟨b, hb, hx⟩ := List.mem_flatMap.1 hx
  exact seal_byt (h b hb) x hx
def slen (l : List (List Int)) (j : Nat) : Nat := (seals (l.take j)).length
theorem slen_succ {l : List (List Int)} {j : Nat} {x : List Int} (h : l[j]? = some x) (hx : x.length ≤ 1048576) : slen l (j + 1) = slen l j + (x.length + 8) := by
  unfold slen
  rw [List.take_add_one, h]
  show (seals (l.take j ++ [x])).length = _
  rw [seals_snoc, List.length_append, seal_len hx]
theorem seals_cons (b : List Int) (l : List (List Int)) : seals (b :: l) = sealI b ++ seals l := by simp [seals]
theorem cut_at : ∀ (l : List (List Int)) (k : Nat), k ≤ (seals l).length → ∃ j, j ≤ l.length ∧ slen l j ≤ k ∧ (j < l.length → k < slen l (j + 1))
  | [], k, h => ⟨0, Nat.zero_le _, by simp [slen, seals], fun h => by simp at h⟩
  | b :: l, k, h => by
    by_cases hb : k < (sealI b).length
    · exact ⟨0, Nat.zero_le _, by simp [slen, seals], fun _ => by simpa [slen, seals] using hb⟩
    · rw [seals_cons, List.length_append] at h
      obtain ⟨j, h1, h2, h3⟩ := cut_at l (k - (sealI b).length) (by omega)
      have e : ∀ j, slen (b :: l) (j + 1) = (sealI b).length + slen l j := fun j => by
        unfold slen
        rw [List.take_succ_cons, seals_cons, List.length_append]
      exact ⟨j + 1, by simpa using h1, by rw [e]; omega, fun h => by rw [e]; have := h3 (by simpa using h); omega⟩
theorem whole_cut {l : List (List Int)} (hl : ∀ b ∈ l, b.length ≤ 1048576 ∧ Byt b) {k j : Nat} (hj : j ≤ l.length) (h1 : slen l j ≤ k) (h2 : j < l.length → k < slen l (j + 1)) (hk : k ≤ (seals l).length) :
    WholeIs ((seals l).take k) (l.take j) (slen l j) := by
  have e : seals l = seals (l.take j) ++ seals (l.drop j) := by rw [← seals_append, List.take_append_drop]
  have e2 : (seals l).take k = seals (l.take j) ++ (seals (l.drop j)).take (k - slen l j) := by
    rw [e, List.take_append, List.take_of_length_le (by exact h1)]
    rfl
  rw [e2]
  refine whole_seals (l.take j) _ (fun b hb => hl b (List.mem_of_mem_take hb)) ?_
  rcases Nat.lt_or_ge j l.length with hlt | hge
  · have hd : l.drop j = l[j] :: l.drop (j + 1) := List.drop_eq_getElem_cons hlt
    have hb := hl l[j] (List.getElem_mem hlt)
    have hs := slen_succ (List.getElem?_eq_getElem hlt) hb.1
    have hq := h2 hlt
    have hsl := seal_len hb.1
    rw [hd, seals_cons, List.take_append_of_le_length (by omega), open_cut hb.1 hb.2 (by omega)]
    decide
  · rw [List.drop_eq_nil_of_le hge]
    simp [seals, openI]
theorem whole_all {l : List (List Int)} (hl : ∀ b ∈ l, b.length ≤ 1048576 ∧ Byt b) : WholeIs (seals l) l (seals l).length := by
  have := whole_seals l [] hl (by simp [openI])
  rwa [List.append_nil] at this
def endsV (l : List (List Int)) (i : Nat) : List Value := (List.range (i + 1)).map fun j => .int .i64 ((slen l j : Nat) : Int)
theorem endsV_succ (l : List (List Int)) (i : Nat) : endsV l (i + 1) = endsV l i ++ [.int .i64 ((slen l (i + 1) : Nat) : Int)] := by
  unfold endsV
  rw [List.range_succ, List.map_append]
  rfl
theorem endsV_get (l : List (List Int)) {i j : Nat} (h : j ≤ i) : (endsV l i)[j]? = some (.int .i64 ((slen l j : Nat) : Int)) := by
  simp [endsV, show j < i + 1 by omega]
end Go.Proofs.YtjinjlfocjohhaaDoor
