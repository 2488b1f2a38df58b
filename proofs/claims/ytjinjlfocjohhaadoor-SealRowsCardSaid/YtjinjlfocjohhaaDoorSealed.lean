/-
  Plain laws of seals: what was sealed is opened; things sealed one behind the other.
-/
import Derived.Test.YtjinjlfocjohhaaDoorWholes2
import Derived.Test.YtjinjlfocjohhaaDoorNums2
namespace Go.Proofs.YtjinjlfocjohhaaDoor
open Go.RowKit
set_option linter.unusedSimpArgs false
set_option linter.unusedVariables false

theorem put_split (xs : List Int) (u : Int) : put xs 4 u = xs ++ put [] 4 u := by simp [put, good]
theorem num4 (u : Int) (h0 : 0 ≤ u) (h1 : u ≤ 4294967295) : num (put [] 4 u) = u := by
  rw [(put_nil_num 4 u (by decide) h0 (by omega)).1, cut_4]
  omega
theorem seal_split {b : List Int} (h : b.length ≤ 1048576) : sealI b = put [] 4 b.length ++ b ++ put [] 4 (sumI (head b)) := by
  have : ¬ 1048576 < b.length := by omega
  unfold sealI
  rw [if_neg this, put_split]
  rfl
theorem seal_len {b : List Int} (h : b.length ≤ 1048576) : (sealI b).length = b.length + 8 := by
  rw [seal_split h, List.length_append, List.length_append, put4_len, put4_len]
  omega
theorem seal_byt {b : List Int} (h : Byt b) : Byt (sealI b) := by
  unfold sealI
  split
  · exact byt_nil
  · exact put_byt (head_byt h) _ _
theorem seal_parts {b t : List Int} (h : b.length ≤ 1048576) (hb : Byt b) :
    cnt (sealI b ++ t) = b.length ∧ (sealI b ++ t).take (4 + b.length) = head b ∧ ((sealI b ++ t).drop (4 + b.length)).take 4 = put [] 4 (sumI (head b)) ∧ ((sealI b ++ t).drop 4).take b.length = b ∧
      (sealI b ++ t).drop (b.length + 8) = t := by
  have e : sealI b ++ t = put [] 4 b.length ++ (b ++ (put [] 4 (sumI (head b)) ++ t)) := by rw [seal_split h]; simp
  have e2 : sealI b ++ t = head b ++ (put [] 4 (sumI (head b)) ++ t) := by rw [e]; unfold head; simp
  have e3 : sealI b ++ t = (head b ++ put [] 4 (sumI (head b))) ++ t := by rw [e2]; simp
  refine ⟨?_, ?_, ?_, ?_, ?_⟩
  · unfold cnt
    rw [e, List.take_left' (put4_len _), num4 _ (by omega) (by omega)]
    omega
  · rw [e2, List.take_left' (head_len b)]
  · rw [e2, List.drop_left' (head_len b), List.take_left' (put4_len _)]
  · rw [e, List.drop_left' (put4_len _), List.take_left' rfl]
  · rw [e3, List.drop_left' (by rw [List.length_append, head_len, put4_len]; omega)]
/-- What was sealed is opened, whatever stands behind it. -/
theorem open_seal {b : List Int} (t : List Int) (h : b.length ≤ 1048576) (hb : Byt b) : openI (sealI b ++ t) = (b, b.length + 8, 0) := by
  obtain ⟨p1, p2, p3, p4, p5⟩ := seal_parts (t := t) h hb
  have hl : (sealI b ++ t).length = b.length + 8 + t.length := by rw [List.length_append, seal_len h]
  have hs := sumI_bd (head b) (head_byt hb)
  rw [open_ok (by omega) (by omega) (by omega) (by rw [p1, p2, p3, num4 _ hs.1 hs.2]), p1, p4]
def seals (l : List (List Int)) : List Int := l.flatMap sealI
theorem seals_snoc (l : List (List Int)) (b : List Int) : seals (l ++ [b]) = seals l ++ sealI b := by simp [seals]
theorem drop_seals (l : List (List Int)) (t : List Int) : (seals l ++ t).drop (seals l).length = t := List.drop_left' rfl
theorem parse_seals : ∀ (l m : List (List Int)) (t : List Int), (∀ b ∈ l, b.length ≤ 1048576 ∧ Byt b) → ∀ xs p, Parse xs p m → xs.drop p = seals l ++ t → Parse xs (p + (seals l).length) (m ++ l)
  | [], m, t, _, xs, p, h, _ => by simpa [seals] using h
  | b :: l, m, t, hl, xs, p, h, hd => by
    have hb := hl b (by simp)
    have e : xs.drop p = sealI b ++ (seals l ++ t) := by rw [hd]; simp [seals]
    have ho := open_seal (seals l ++ t) hb.1 hb.2
    rw [← e] at ho
    have h2 := Parse.snoc h ho
    have hd2 : xs.drop (p + (b.length + 8)) = seals l ++ t := by
      rw [← List.drop_drop, e, List.drop_left' (seal_len hb.1)]
    have := parse_seals l (m ++ [b]) t (fun c hc => hl c (by simp [hc])) xs _ h2 hd2
    have e2 : p + (seals (b :: l)).length = p + (b.length + 8) + (seals l).length := by simp [seals, seal_len hb.1]; omega
    rw [e2]
    simpa using this
theorem whole_seals (l : List (List Int)) (t : List Int) (hl : ∀ b ∈ l, b.length ≤ 1048576 ∧ Byt b) (ht : (openI t).2.2 ≠ 0) : WholeIs (seals l ++ t) l (seals l).length := by
  have := parse_seals l [] t hl (seals l ++ t) 0 Parse.nil rfl
  rw [Nat.zero_add] at this
  exact ⟨this, by rw [drop_seals]; exact ht⟩
end Go.Proofs.YtjinjlfocjohhaaDoor
