/-
  Plans: what lacks and how many wait, told by lists alone (the law of fills).
-/
import Derived.Test.YtipdggjalhjpnabPlan8
namespace Go.Proofs.Ytipdggjalhjpnab
set_option linter.unusedSimpArgs false
set_option linter.unusedVariables false

/-- How many sites these have. -/
def siteN (S : Int) (es : List (Int × Int)) (H : Int) (l : List Pub) : Nat := (l.map fun p => (sitesL S es H p).length).sum
theorem siteN_snoc (S : Int) (es : List (Int × Int)) (H : Int) (l : List Pub) (p : Pub) : siteN S es H (l ++ [p]) = siteN S es H l + (sitesL S es H p).length := by simp [siteN]
theorem siteN_le (S : Int) (es : List (Int × Int)) (H : Int) (l : List Pub) : siteN S es H l ≤ l.length * 9 := sum_le _ _ (fun p => sites_len _ _ _ _) l
theorem lacks_full (S : Int) (es : List (Int × Int)) (H : Int) (seen : List Sn) (xs : List Pub) : lacksL S es H (seen ++ lacksL S es H seen xs) xs = [] := by
  show (xs.flatMap fun p => lackOf (seen ++ lacksL S es H seen xs) p (sitesL S es H p)) = []
  rw [List.flatMap_eq_nil_iff]
  intro p hp
  unfold lackOf
  rw [List.filter_eq_nil_iff]
  intro x hx hn
  have hno : x ∉ seen ++ lacksL S es H seen xs := fun h => by rw [isIn_iff.2 h] at hn; cases hn
  refine hno (List.mem_append_right _ ?_)
  unfold lacksL
  refine List.mem_flatMap.2 ⟨p, hp, List.mem_filter.2 ⟨hx, ?_⟩⟩
  have : isIn seen x = false := by
    cases h : isIn seen x with
    | false => rfl
    | true => exact absurd (List.mem_append_left _ (isIn_iff.1 h)) hno
  rw [this]; rfl
theorem lacks_none (S : Int) (es : List (Int × Int)) (H : Int) : ∀ xs : List Pub, (lacksL S es H [] xs).length = siteN S es H xs
  | [] => rfl
  | p :: l => by
    have ih := lacks_none S es H l
    unfold lacksL siteN at ih ⊢
    rw [List.flatMap_cons, List.length_append, ih, List.map_cons, List.sum_cons]
    congr 1
    have : ∀ l : List Sn, (l.filter fun _ => true).length = l.length := fun l => by rw [List.filter_eq_self.2 (fun _ _ => rfl)]
    simp only [lackOf, isIn, List.any_nil, Bool.not_false]
    rw [this, List.length_map]
theorem lacks_le (S : Int) (es : List (Int × Int)) (H : Int) (seen : List Sn) : ∀ xs : List Pub, (lacksL S es H seen xs).length ≤ siteN S es H xs
  | [] => by simp [lacksL]
  | p :: l => by
    have ih := lacks_le S es H seen l
    have h1 := lackOf_len seen p (sitesL S es H p)
    unfold lacksL siteN at ih ⊢
    rw [List.flatMap_cons, List.length_append, List.map_cons, List.sum_cons]
    omega

theorem countP_or_le {α : Type} (p q : α → Bool) : ∀ l : List α, l.countP (fun x => p x || q x) ≤ l.countP p + l.countP q
  | [] => by simp
  | x :: l => by
    have ih := countP_or_le p q l
    rw [List.countP_cons, List.countP_cons, List.countP_cons]
    cases p x <;> cases q x <;> simp <;> omega
theorem count_range (x : Int) (n : Nat) : (List.range n).countP (fun k : Nat => decide (((k : Nat) : Int) = x)) ≤ 1 := by
  induction n with
  | zero => simp
  | succ n ih =>
    rw [List.range_succ, List.countP_append]
    by_cases h : ((n : Nat) : Int) = x
    · have h0 : (List.range n).countP (fun k : Nat => decide (((k : Nat) : Int) = x)) = 0 := by
        rw [List.countP_eq_zero]
        intro k hk
        have := List.mem_range.1 hk
        simp; omega
      rw [h0]; simp [h]
    · simp [h]; exact ih
theorem outs_le (a : Int) (n : Nat) : ∀ es : List (Int × Int), (outs es a n).length ≤ (es.filter fun e => decide (e.1 = a)).length
  | [] => by simp [outs]
  | e :: es => by
    have ih := outs_le a n es
    unfold outs at ih ⊢
    rw [List.length_map, ← List.countP_eq_length_filter] at ih ⊢
    by_cases he : e.1 = a
    · have h1 : (List.range n).countP (fun k : Nat => decide ((a, (k : Int)) ∈ e :: es)) ≤ (List.range n).countP (fun k : Nat => decide (((k : Nat) : Int) = e.2) || decide ((a, (k : Int)) ∈ es)) := by
        refine List.countP_mono_left fun k _ hk => ?_
        have hk := of_decide_eq_true hk
        rcases List.mem_cons.1 hk with h | h
        · rw [← h]; simp
        · simp [h]
      have h2 := countP_or_le (fun k : Nat => decide (((k : Nat) : Int) = e.2)) (fun k : Nat => decide ((a, (k : Int)) ∈ es)) (List.range n)
      have h3 := count_range e.2 n
      rw [List.filter_cons, if_pos (by simp [he]), List.length_cons]
      omega
    · have h1 : (List.range n).countP (fun k : Nat => decide ((a, (k : Int)) ∈ e :: es)) ≤ (List.range n).countP (fun k : Nat => decide ((a, (k : Int)) ∈ es)) := by
        refine List.countP_mono_left fun k _ hk => ?_
        have hk := of_decide_eq_true hk
        rcases List.mem_cons.1 hk with h | h
        · exact absurd (by rw [← h]) he
        · simp [h]
      rw [List.filter_cons, if_neg (by simp [he])]
      omega
theorem parts_le : ∀ (l : List Int), l.Nodup → ∀ es : List (Int × Int), (l.map fun n => (es.filter fun e => decide (e.1 = n)).length).sum ≤ es.length
  | [], _, es => by simp
  | n :: l, hn, es => by
    obtain ⟨h1, h2⟩ := List.nodup_cons.1 hn
    have ih := parts_le l h2 (es.filter fun e => !decide (e.1 = n))
    have he : (l.map fun m => ((es.filter fun e => !decide (e.1 = n)).filter fun e => decide (e.1 = m)).length) = l.map fun m => (es.filter fun e => decide (e.1 = m)).length := by
      refine List.map_congr_left fun m hm => ?_
      rw [List.filter_filter]
      congr 1
      refine List.filter_congr fun e _ => ?_
      by_cases hem : e.1 = m
      · have : ¬ e.1 = n := fun h => h1 (by rw [← h, hem]; exact hm)
        simp [hem, this]
        intro h; exact this (by rw [hem, h])
      · simp [hem]
    rw [he] at ih
    have hs : (es.filter fun e => decide (e.1 = n)).length + (es.filter fun e => !decide (e.1 = n)).length = es.length := by
      have := List.length_eq_countP_add_countP (fun e : Int × Int => decide (e.1 = n)) (l := es)
      rw [List.countP_eq_length_filter, List.countP_eq_length_filter] at this
      simp at this ⊢
      omega
    rw [List.map_cons, List.sum_cons]
    omega
theorem within_nodup (S : Int) (es : List (Int × Int)) (H a : Int) (n : Nat) : (within S es H a n).Nodup := by
  unfold within
  refine List.Pairwise.map _ (R := fun a b => a ≠ b) (fun x y h e => h (by omega)) ?_
  exact List.Pairwise.filter _ List.nodup_range
theorem onward_outs (S : Int) (es : List (Int × Int)) (H o n : Int) : (onward S es H o n).length ≤ (outs es n 9).length := by
  unfold onward
  split
  · simp
  · refine Nat.le_trans (List.length_filter_le _ _) ?_
    unfold nextL
    split
    · exact Nat.le_refl _
    · simp
theorem sum_map_le {α : Type} (f g : α → Nat) (h : ∀ x, f x ≤ g x) : ∀ l : List α, (l.map f).sum ≤ (l.map g).sum
  | [] => by simp
  | x :: l => by
    have := sum_map_le f g h l
    have := h x
    rw [List.map_cons, List.sum_cons, List.map_cons, List.sum_cons]
    omega
theorem mostP_edges (S : Int) (es : List (Int × Int)) (H : Int) (p : Pub) : mostP S es H p ≤ es.length := by
  unfold mostP mostK
  split
  · rename_i hf
    rw [List.take_length]
    have h0 : sitesL S es H p = within S es H p.origin 9 := by unfold sitesL; rw [if_pos hf]
    rw [h0]
    refine Nat.le_trans (sum_map_le _ _ (fun n => Nat.le_trans (onward_outs S es H p.origin n) (outs_le n 9 es)) _) ?_
    exact parts_le _ (within_nodup _ _ _ _ _) es
  · omega
theorem most_edges (S : Int) (es : List (Int × Int)) (H : Int) (l : List Pub) : mostN S es H l ≤ l.length * es.length := sum_le _ _ (fun p => mostP_edges _ _ _ _) l
end Go.Proofs.Ytipdggjalhjpnab
