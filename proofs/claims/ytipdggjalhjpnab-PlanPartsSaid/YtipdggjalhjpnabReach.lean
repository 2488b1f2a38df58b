/-
  How far it is between sites: plain words for the program's levels and the reference's sets.
-/
import Derived.Test.YtipdggjalhjpnabNext
namespace Go.Proofs.Ytipdggjalhjpnab
open Go.RowKit
set_option linter.unusedSimpArgs false
set_option linter.unusedVariables false

def hasE (es : List (Int × Int)) (j b : Nat) : Bool := decide (((j : Int), (b : Int)) ∈ es)
/-- What is reached from a by at most n edges. -/
def rch (es : List (Int × Int)) (a : Nat) : Nat → Nat → Bool
  | 0, b => b == a
  | n + 1, b => rch es a n b || (List.range 9).any fun j => rch es a n j && hasE es j b
theorem rch_mono {es : List (Int × Int)} {a n b : Nat} (h : rch es a n b = true) : ∀ d, rch es a (n + d) b = true
  | 0 => h
  | d + 1 => by rw [← Nat.add_assoc, rch, rch_mono h d]; rfl
theorem rch_le {es : List (Int × Int)} {a n m b : Nat} (h : rch es a n b = true) (hm : n ≤ m) : rch es a m b = true := by
  have := rch_mono h (m - n)
  rwa [show n + (m - n) = m by omega] at this
theorem rch_closed {es : List (Int × Int)} {a n : Nat} (h : ∀ b, rch es a (n + 1) b = rch es a n b) : ∀ d b, rch es a (n + d) b = rch es a n b
  | 0, _ => rfl
  | d + 1, b => by
    have ih := rch_closed h d
    rw [← Nat.add_assoc, rch]
    rw [← h b, rch]
    simp only [ih]
/-- The first of fewer than m numbers of edges by which b is reached. -/
def fst (es : List (Int × Int)) (a m b : Nat) : Int := match (List.range m).find? fun n => rch es a n b with
  | some n => (n : Int)
  | none => -1
theorem fst_succ (es : List (Int × Int)) (a m b : Nat) : fst es a (m + 1) b = if fst es a m b = -1 then (if rch es a m b then (m : Int) else -1) else fst es a m b := by
  unfold fst
  rw [List.range_succ, List.find?_append]
  cases h : (List.range m).find? fun n => rch es a n b with
  | some n => simp <;> omega
  | none =>
    simp only [Option.none_or, if_true]
    by_cases hr : rch es a m b = true
    · simp [hr]
    · simp [hr]
theorem fst_none {es : List (Int × Int)} {a m b : Nat} : fst es a (m + 1) b = -1 ↔ rch es a m b = false := by
  constructor
  · intro h
    cases hr : rch es a m b with
    | false => rfl
    | true =>
      rw [fst_succ] at h
      split at h
      · first | omega | (simp [hr] at h; omega) | (simp at h; omega)
      · rename_i h2; exact absurd h h2
  · intro h
    unfold fst
    have : (List.range (m + 1)).find? (fun n => rch es a n b) = none := by
      rw [List.find?_eq_none]
      intro x hx hr
      have := rch_le hr (show x ≤ m by have := List.mem_range.1 hx; omega)
      rw [h] at this
      cases this
    rw [this]
theorem fst_closed {es : List (Int × Int)} {a n : Nat} (h : ∀ b, rch es a (n + 1) b = rch es a n b) (b : Nat) : ∀ d, fst es a (n + 1 + d) b = fst es a (n + 1) b
  | 0 => rfl
  | d + 1 => by
    rw [← Nat.add_assoc, fst_succ, fst_closed h b d]
    split
    · rename_i h1
      have h2 := fst_none.1 h1
      have h3 := rch_closed h (1 + d) b
      rw [← Nat.add_assoc] at h3
      rw [h3, h2, if_neg (by decide), h1]
    · rfl
theorem fst_bd (es : List (Int × Int)) (a m b : Nat) : fst es a m b = -1 ∨ 0 ≤ fst es a m b ∧ fst es a m b < m := by
  unfold fst
  cases h : (List.range m).find? fun n => rch es a n b with
  | none => exact .inl rfl
  | some n =>
    right
    have := List.mem_range.1 (List.mem_of_find?_eq_some h)
    simp; omega
/-- How many are reached. -/
def cnt (es : List (Int × Int)) (a n : Nat) : Nat := (List.range 9).countP fun b => rch es a n b
theorem cnt_zero (es : List (Int × Int)) {a : Nat} (h : a < 9) : 1 ≤ cnt es a 0 := by
  unfold cnt
  rw [Nat.one_le_iff_ne_zero, ← Nat.pos_iff_ne_zero, List.countP_pos_iff]
  exact ⟨a, List.mem_range.2 h, by simp [rch]⟩
theorem countP_lt {α : Type} {p q : α → Bool} : ∀ {l : List α}, (∀ x ∈ l, p x = true → q x = true) → (∃ x ∈ l, q x = true ∧ p x = false) → l.countP p + 1 ≤ l.countP q
  | [], _, h => by obtain ⟨x, hx, _⟩ := h; simp at hx
  | y :: l, h1, h2 => by
    rw [List.countP_cons, List.countP_cons]
    have hm := List.countP_mono_left (l := l) (p := p) (q := q) (fun x hx => h1 x (by simp [hx]))
    obtain ⟨x, hx, hq, hp⟩ := h2
    rcases List.mem_cons.1 hx with rfl | hx
    · simp [hq, hp]; omega
    · have ih := countP_lt (fun x hx => h1 x (by simp [hx])) ⟨x, hx, hq, hp⟩
      have : (if p y = true then 1 else 0) ≤ (if q y = true then 1 else 0) := by
        by_cases hy : p y = true
        · simp [hy, h1 y (by simp) hy]
        · simp [hy]
      omega
theorem cnt_grows {es : List (Int × Int)} {a n b : Nat} (hb : b < 9) (h1 : rch es a (n + 1) b = true) (h2 : rch es a n b = false) : cnt es a n + 1 ≤ cnt es a (n + 1) :=
  countP_lt (fun x _ hx => rch_le hx (by omega)) ⟨b, List.mem_range.2 hb, h1, h2⟩
theorem rch_in {S : Int} {es : List (Int × Int)} (h : okE S es) {a : Nat} (ha : 1 ≤ a) (ha2 : (a : Int) ≤ S) : ∀ {n b : Nat}, rch es a n b = true → 1 ≤ b ∧ (b : Int) ≤ S
  | 0, b, hr => by simp [rch] at hr; subst hr; exact ⟨ha, ha2⟩
  | n + 1, b, hr => by
    rw [rch, Bool.or_eq_true] at hr
    rcases hr with hr | hr
    · exact rch_in h ha ha2 hr
    · rw [List.any_eq_true] at hr
      obtain ⟨j, _, hj⟩ := hr
      rw [Bool.and_eq_true] at hj
      have := h.1 _ (of_decide_eq_true hj.2)
      simp only at this
      omega
theorem cnt_le {S : Int} {es : List (Int × Int)} (h : okE S es) {a : Nat} (ha : 1 ≤ a) (ha2 : (a : Int) ≤ S) (hS : S ≤ 8) (n : Nat) : (cnt es a n : Int) ≤ S := by
  have h1 : cnt es a n ≤ (List.range 9).countP fun b : Nat => decide (1 ≤ b ∧ (b : Int) ≤ S) :=
    List.countP_mono_left (fun x _ hx => decide_eq_true (rch_in h ha ha2 hx))
  have h2 : ∀ s : Nat, s ≤ 8 → (List.range 9).countP (fun b : Nat => decide (1 ≤ b ∧ (b : Int) ≤ (s : Int))) = s := by decide
  have h3 := h2 S.toNat (by omega)
  rw [show ((S.toNat : Nat) : Int) = S by omega] at h3
  omega
/-- The sites whose first way is one of d edges less one. -/
def Lset (es : List (Int × Int)) (a d : Nat) (L : List Nat) : Prop := ∀ j, j ∈ L ↔ rch es a d j = true ∧ fst es a d j = -1
def hitF (F : Nat → Int) (d : Int) (h : Nat → Bool) (b : Nat) : Int := if F b = -1 ∧ h b = true then d else F b
theorem Lset.nil (es : List (Int × Int)) (a : Nat) : Lset es a 0 [a] := fun j => by simp [rch, fst]
theorem hits {S : Int} {es : List (Int × Int)} (h : okE S es) (hS : S ≤ 8) {a : Nat} (ha : 1 ≤ a) (ha2 : (a : Int) ≤ S) {d : Nat} {L : List Nat} (hL : Lset es a d L) {b : Nat} (hb : fst es a (d + 1) b = -1) :
    (L.any fun j => hasE es j b) = rch es a (d + 1) b := by
  have hr := fst_none.1 hb
  rw [rch, hr, Bool.false_or, Bool.eq_iff_iff, List.any_eq_true, List.any_eq_true]
  constructor
  · rintro ⟨j, hj, he⟩
    have h1 := (hL j).1 hj
    have h2 := rch_in h ha ha2 h1.1
    exact ⟨j, List.mem_range.2 (by omega), by rw [h1.1, he]; rfl⟩
  · rintro ⟨j, _, hj⟩
    rw [Bool.and_eq_true] at hj
    refine ⟨j, (hL j).2 ⟨hj.1, ?_⟩, hj.2⟩
    cases d with
    | zero => rfl
    | succ d =>
      refine fst_none.2 ?_
      cases hq : rch es a d j with
      | false => rfl
      | true =>
        exfalso
        have h2 := rch_in h ha ha2 hj.1
        have : rch es a (d + 1) b = true := by
          rw [rch, Bool.or_eq_true]
          right
          exact List.any_eq_true.2 ⟨j, List.mem_range.2 (by omega), by rw [hq, hj.2]; rfl⟩
        rw [hr] at this
        cases this
theorem hit_next {S : Int} {es : List (Int × Int)} (h : okE S es) (hS : S ≤ 8) {a : Nat} (ha : 1 ≤ a) (ha2 : (a : Int) ≤ S) {d : Nat} {L : List Nat} (hL : Lset es a d L) (b : Nat) :
    hitF (fst es a (d + 1)) ((d + 1 : Nat) : Int) (fun b => L.any fun j => hasE es j b) b = fst es a (d + 2) b := by
  rw [fst_succ es a (d + 1) b]
  unfold hitF
  by_cases hb : fst es a (d + 1) b = -1
  · have hh := hits h hS ha ha2 hL hb
    simp only [hh]
    rw [if_pos hb]
    by_cases hr : rch es a (d + 1) b = true
    · rw [if_pos ⟨hb, hr⟩, if_pos hr]
    · rw [if_neg (fun h => hr h.2), if_neg hr, hb]
  · rw [if_neg (fun h => hb h.1), if_neg hb]
def Nset (F : Nat → Int) (h : Nat → Bool) (N : List Nat) : Prop := N.Nodup ∧ ∀ b, b ∈ N ↔ b < 9 ∧ F b = -1 ∧ h b = true
theorem Nset.len {F : Nat → Int} {h : Nat → Bool} {N : List Nat} (hN : Nset F h N) : N.length ≤ 9 := nodup_lt 9 N hN.1 (fun x hx => ((hN.2 x).1 hx).1)
theorem next_Lset {S : Int} {es : List (Int × Int)} (h : okE S es) (hS : S ≤ 8) {a : Nat} (ha : 1 ≤ a) (ha2 : (a : Int) ≤ S) {d : Nat} {L N : List Nat} (hL : Lset es a d L)
    (hN : Nset (fst es a (d + 1)) (fun b => L.any fun j => hasE es j b) N) : Lset es a (d + 1) N := by
  intro j
  rw [hN.2 j]
  constructor
  · rintro ⟨_, h1, h2⟩
    exact ⟨by rw [← hits h hS ha ha2 hL h1]; exact h2, h1⟩
  · rintro ⟨h1, h2⟩
    have := rch_in h ha ha2 h1
    exact ⟨by omega, h2, by show (L.any fun q => hasE es q j) = true; rw [hits h hS ha ha2 hL h2]; exact h1⟩
theorem none_closed {S : Int} {es : List (Int × Int)} (h : okE S es) (hS : S ≤ 8) {a : Nat} (ha : 1 ≤ a) (ha2 : (a : Int) ≤ S) {d : Nat} (hN : Lset es a (d + 1) []) (b : Nat) : rch es a (d + 1) b = rch es a d b := by
  rw [Bool.eq_iff_iff]
  refine ⟨fun h1 => ?_, fun h1 => rch_le h1 (by omega)⟩
  cases hq : rch es a d b with
  | true => rfl
  | false => have := (hN b).2 ⟨h1, fst_none.2 hq⟩; simp at this
theorem some_grows {S : Int} {es : List (Int × Int)} (h : okE S es) (hS : S ≤ 8) {a : Nat} (ha : 1 ≤ a) (ha2 : (a : Int) ≤ S) {d b : Nat} {N : List Nat} (hN : Lset es a (d + 1) N) (hb : b ∈ N) : cnt es a d + 1 ≤ cnt es a (d + 1) := by
  have h1 := (hN b).1 hb
  have h2 := rch_in h ha ha2 h1.1
  exact cnt_grows (by omega) h1.1 (fst_none.1 h1.2)
/-- How far it is. -/
def levI (S : Int) (es : List (Int × Int)) (a b : Nat) : Int := fst es a S.toNat b
theorem lev_done {S : Int} {es : List (Int × Int)} (h : okE S es) (hS : S ≤ 8) {a : Nat} (ha : 1 ≤ a) (ha2 : (a : Int) ≤ S) {d : Nat} (hc : d + 1 ≤ cnt es a d) (hN : Lset es a (d + 1) []) (b : Nat) : fst es a (d + 2) b = levI S es a b := by
  have h1 := fst_closed (none_closed h hS ha ha2 hN) b
  have h2 := cnt_le h ha ha2 hS d
  have h3 := h1 1
  have h4 := h1 (S.toNat - (d + 1))
  unfold levI
  rw [show d + 1 + (S.toNat - (d + 1)) = S.toNat by omega] at h4
  rw [show d + 2 = d + 1 + 1 by omega, h3, h4]
def farA (F : Nat → Int) : Array Value := ((List.range 9).map fun b => Value.int .i64 (F b)).toArray
theorem farA_set (F F' : Nat → Int) {k : Nat} (hk : k < 9) (d : Int) (h1 : F' k = d) (h2 : ∀ b, b ≠ k → F' b = F b) : (farA F).setIfInBounds k (.int .i64 d) = farA F' := by
  apply Array.ext_getElem?
  intro j
  rw [Array.getElem?_setIfInBounds]
  by_cases hj : k = j
  · subst hj
    simp [farA, hk, h1]
  · rw [if_neg hj]
    by_cases h9 : j < 9
    · simp [farA, h9, h2 j (Ne.symm hj)]
    · simp [farA, h9]
theorem farA_get (F : Nat → Int) {k : Nat} (hk : k < 9) : (farA F)[k]? = some (.int .i64 (F k)) := by simp [farA, hk]
theorem farA_congr {F F' : Nat → Int} (h : ∀ b, b < 9 → F b = F' b) : farA F = farA F' := by
  unfold farA
  congr 1
  exact List.map_congr_left fun b hb => by rw [h b (List.mem_range.1 hb)]
end Go.Proofs.Ytipdggjalhjpnab
