/-
  Plans: the first wrong event, told by lists alone.
-/
import Derived.Test.YtipdggjalhjpnabPlan8
namespace Go.Proofs.Ytipdggjalhjpnab
set_option linter.unusedSimpArgs false
set_option linter.unusedVariables false

def sameId (o s : Int) (p : Pub) : Bool := p.origin == o && p.seq == s
/-- The first that was published under an id. -/
def firstP (l : List Pub) (o s : Int) : Option Pub := l.find? (sameId o s)
theorem firstP_snoc (l : List Pub) (p : Pub) (o s : Int) : firstP (l ++ [p]) o s = if (firstP l o s).isSome = true then firstP l o s else if sameId o s p = true then some p else none := by
  unfold firstP
  rw [List.find?_append]
  cases h : l.find? (sameId o s) with
  | some q => simp
  | none => cases h2 : sameId o s p <;> simp [h2]
def eqEv (x y : Ev) : Bool := x.site == y.site && (x.queue.toList == y.queue.toList && (x.origin == y.origin && x.seq == y.seq))
theorem bytes_ext {a b : ByteArray} (h : a.toList = b.toList) : a = b := by
  rw [ByteArray.toList_eq, ByteArray.toList_eq] at h
  cases a; cases b
  congr
  exact Array.ext' (by simpa using h)
theorem eqEv_iff {x y : Ev} : eqEv x y = true ↔ x = y := by
  cases x; cases y
  simp only [eqEv, Bool.and_eq_true, beq_iff_eq, Ev.mk.injEq]
  constructor
  · rintro ⟨h1, h2, h3, h4⟩; exact ⟨h1, bytes_ext h2, h3, h4⟩
  · rintro ⟨h1, h2, h3, h4⟩; exact ⟨h1, by rw [h2], h3, h4⟩
def isEv (l : List Ev) (x : Ev) : Bool := l.any fun y => eqEv y x
theorem isEv_iff {l : List Ev} {x : Ev} : isEv l x = true ↔ x ∈ l := by
  unfold isEv
  rw [List.any_eq_true]
  constructor
  · rintro ⟨y, hy, h⟩; rw [← eqEv_iff.1 h]; exact hy
  · intro h; exact ⟨x, h, eqEv_iff.2 rfl⟩
theorem isEv_snoc (l : List Ev) (x y : Ev) : isEv (l ++ [y]) x = (isEv l x || eqEv y x) := by simp [isEv]
def isAt (l : List Int) (n : Int) : Bool := l.any fun m => m == n
theorem isAt_snoc (l : List Int) (n m : Int) : isAt (l ++ [m]) n = (isAt l n || m == n) := by simp [isAt]
theorem isAt_iff {l : List Int} {n : Int} : isAt l n = true ↔ n ∈ l := by simp [isAt]
/-- An event's error, with those ahead of it. -/
def wrongL (S : Int) (es : List (Int × Int)) (H : Int) (l : List Pub) (ahead : List Ev) (x : Ev) : Int := match firstP l x.origin x.seq with
  | none => 3
  | some p => if isAt (sitesL S es H p) x.site = true then if isEv ahead x = true then 4 else 0 else 2
theorem wrongL_nn (S : Int) (es : List (Int × Int)) (H : Int) (l : List Pub) (ahead : List Ev) (x : Ev) : 0 ≤ wrongL S es H l ahead x ∧ wrongL S es H l ahead x ≤ 4 := by
  unfold wrongL
  split
  · omega
  · split
    · split <;> omega
    · omega
/-- The error at number k of these events. -/
def wrAt (S : Int) (es : List (Int × Int)) (H : Int) (l : List Pub) (evs : List Ev) (k : Nat) : Int := match evs[k]? with
  | some x => wrongL S es H l (evs.take k) x
  | none => 0
/-- The first event that is wrong, and how. -/
def checkL (S : Int) (es : List (Int × Int)) (H : Int) (l : List Pub) (evs : List Ev) : Int × Int := match (List.range evs.length).find? fun k => !(wrAt S es H l evs k == 0) with
  | some k => ((k : Int), wrAt S es H l evs k)
  | none => (0, 0)
def rightTo (S : Int) (es : List (Int × Int)) (H : Int) (l : List Pub) (evs : List Ev) (k : Nat) : Prop := ∀ j, j < k → wrAt S es H l evs j = 0
section
variable {S : Int} {es : List (Int × Int)} {H : Int} {l : List Pub} {evs : List Ev} {k : Nat}
theorem wrAt_of {x : Ev} (h : evs[k]? = some x) : wrAt S es H l evs k = wrongL S es H l (evs.take k) x := by unfold wrAt; rw [h]
theorem rightTo_zero : rightTo S es H l evs 0 := fun j h => absurd h (by omega)
theorem rightTo_succ (h : rightTo S es H l evs k) (h0 : wrAt S es H l evs k = 0) : rightTo S es H l evs (k + 1) := fun j hj => by
  by_cases e : j = k
  · rw [e]; exact h0
  · exact h j (by omega)
theorem range_find {p : Nat → Bool} {n k : Nat} (hk : k < n) (hp : p k = true) (hno : ∀ j, j < k → p j = false) : (List.range n).find? p = some k := by
  rw [List.find?_range_eq_some]
  exact ⟨hp, List.mem_range.2 hk, fun j hj => by simp [hno j hj]⟩
theorem checkL_at (hr : rightTo S es H l evs k) (hk : k < evs.length) (hw : wrAt S es H l evs k ≠ 0) : checkL S es H l evs = ((k : Int), wrAt S es H l evs k) := by
  unfold checkL
  rw [range_find hk (by simpa using hw) (fun j hj => by simp [hr j hj])]
theorem checkL_all (hr : rightTo S es H l evs evs.length) : checkL S es H l evs = (0, 0) := by
  unfold checkL
  have : (List.range evs.length).find? (fun k => !(wrAt S es H l evs k == 0)) = none := by
    rw [List.find?_eq_none]
    intro k hk
    simp [hr k (List.mem_range.1 hk)]
  rw [this]
/-- One or the other. -/
theorem checkL_or (S : Int) (es : List (Int × Int)) (H : Int) (l : List Pub) (evs : List Ev) : (rightTo S es H l evs evs.length ∧ checkL S es H l evs = (0, 0)) ∨ ∃ k, k < evs.length ∧ rightTo S es H l evs k ∧ wrAt S es H l evs k ≠ 0 ∧ checkL S es H l evs = ((k : Int), wrAt S es H l evs k) := by
  cases h : (List.range evs.length).find? fun k => !(wrAt S es H l evs k == 0) with
  | none =>
    left
    have hr : rightTo S es H l evs evs.length := fun j hj => by
      have := List.find?_eq_none.1 h j (List.mem_range.2 hj)
      simpa using this
    exact ⟨hr, checkL_all hr⟩
  | some k =>
    right
    rw [List.find?_range_eq_some] at h
    obtain ⟨h1, h2, h3⟩ := h
    have h2 := List.mem_range.1 h2
    have hr : rightTo S es H l evs k := fun j hj => by have := h3 j hj; simpa using this
    have hw : wrAt S es H l evs k ≠ 0 := by simpa using h1
    exact ⟨k, h2, hr, hw, checkL_at hr h2 hw⟩
end

/-! ### What the program's two sets hold -/
/-- Those that are the first of their ids. -/
def firstsL (l : List Pub) : List Pub := l.foldl (fun acc p => if acc.any (sameId p.origin p.seq) then acc else acc ++ [p]) []
theorem firstsL_snoc (l : List Pub) (p : Pub) : firstsL (l ++ [p]) = if (firstsL l).any (sameId p.origin p.seq) = true then firstsL l else firstsL l ++ [p] := by
  unfold firstsL
  rw [List.foldl_append]; rfl
theorem sameId_trans {o s : Int} {p : Pub} (h : sameId o s p = true) : p.origin = o ∧ p.seq = s := by simpa [sameId] using h
theorem any_find {l : List Pub} {f : Pub → Bool} : l.any f = (l.find? f).isSome := by
  rw [Bool.eq_iff_iff, List.any_eq_true, List.find?_isSome]
theorem list_snoc {α : Type} {P : List α → Prop} (h0 : P []) (h1 : ∀ l x, P l → P (l ++ [x])) (l : List α) : P l := by
  have : ∀ n (l : List α), l.length = n → P l := by
    intro n
    induction n with
    | zero => intro l hl; rw [List.eq_nil_of_length_eq_zero hl]; exact h0
    | succ n ih =>
      intro l hl
      have hne : l ≠ [] := fun h => by rw [h] at hl; cases hl
      rw [← List.dropLast_concat_getLast hne]
      exact h1 _ _ (ih _ (by rw [List.length_dropLast, hl]; rfl))
  exact this _ l rfl
theorem firstP_firsts (l : List Pub) (o s : Int) : firstP (firstsL l) o s = firstP l o s := by
  refine list_snoc (P := fun l => firstP (firstsL l) o s = firstP l o s) rfl (fun l p ih => ?_) l
  rw [firstsL_snoc, firstP_snoc]
  split
  · rename_i h
    rw [ih]
    split
    · rfl
    · rename_i h2
      split
      · rename_i h3
        obtain ⟨rfl, rfl⟩ := sameId_trans h3
        rw [any_find] at h
        have : (firstP (firstsL l) p.origin p.seq).isSome = true := h
        rw [ih] at this
        exact absurd this h2
      · have := h2
        cases hx : firstP l o s with
        | none => rfl
        | some q => rw [hx] at h2; exact absurd rfl h2
  · rw [firstP_snoc, ih]
theorem firsts_own (l : List Pub) : ∀ p ∈ firstsL l, firstP (firstsL l) p.origin p.seq = some p := by
  refine list_snoc (P := fun l => ∀ p ∈ firstsL l, firstP (firstsL l) p.origin p.seq = some p) (fun p h => by simp [firstsL] at h) (fun l x ih => ?_) l
  rw [firstsL_snoc]
  split
  · exact ih
  · rename_i h
    intro p hp
    rw [firstP_snoc]
    rcases List.mem_append.1 hp with hp | hp
    · rw [ih p hp]; rfl
    · obtain rfl := List.mem_singleton.1 hp
      rw [any_find] at h
      have : ¬ (firstP (firstsL l) p.origin p.seq).isSome = true := h
      rw [if_neg this, if_pos (by simp [sameId])]
theorem firsts_len (l : List Pub) : (firstsL l).length ≤ l.length := by
  refine list_snoc (P := fun l => (firstsL l).length ≤ l.length) (by simp [firstsL]) (fun l x ih => ?_) l
  rw [firstsL_snoc, List.length_append]
  split
  · omega
  · rw [List.length_append]; simp only [List.length_cons, List.length_nil]; omega
def mayL (S : Int) (es : List (Int × Int)) (H : Int) (l : List Pub) : List Sn := (firstsL l).flatMap fun p => (sitesL S es H p).map fun n => ⟨n, p.origin, p.seq⟩
theorem mayL_snoc (S : Int) (es : List (Int × Int)) (H : Int) (l : List Pub) (p : Pub) : mayL S es H (l ++ [p]) = if (firstsL l).any (sameId p.origin p.seq) = true then mayL S es H l else mayL S es H l ++ (sitesL S es H p).map fun n => ⟨n, p.origin, p.seq⟩ := by
  unfold mayL
  rw [firstsL_snoc]
  split
  · rfl
  · simp
theorem may_len (S : Int) (es : List (Int × Int)) (H : Int) (l : List Pub) : (mayL S es H l).length ≤ l.length * 9 := by
  have h1 := firsts_len l
  have h2 : ∀ m : List Pub, (m.flatMap fun p => (sitesL S es H p).map fun n => (⟨n, p.origin, p.seq⟩ : Sn)).length ≤ m.length * 9 := by
    intro m
    induction m with
    | nil => simp
    | cons p m ih =>
      have := sites_len S es H p
      rw [List.flatMap_cons, List.length_append, List.length_cons, List.length_map, Nat.add_mul]
      omega
  have := h2 (firstsL l)
  unfold mayL
  omega
theorem known_iff (l : List Pub) (o s : Int) : ((firstsL l).any (sameId o s)) = (firstP l o s).isSome := by
  rw [any_find, ← firstP_firsts]; rfl
theorem may_iff {S : Int} {es : List (Int × Int)} {H : Int} {l : List Pub} {o s : Int} {p : Pub} (h : firstP l o s = some p) (n : Int) : (⟨n, o, s⟩ : Sn) ∈ mayL S es H l ↔ isAt (sitesL S es H p) n = true := by
  have hid : p.origin = o ∧ p.seq = s := sameId_trans (List.find?_some h)
  rw [isAt_iff]
  unfold mayL
  rw [List.mem_flatMap]
  constructor
  · rintro ⟨q, hq, hm⟩
    obtain ⟨m, hm2, he⟩ := List.mem_map.1 hm
    obtain ⟨rfl, rfl, rfl⟩ : m = n ∧ q.origin = o ∧ q.seq = s := by simpa using he
    have := firsts_own l q hq
    rw [firstP_firsts, h] at this
    cases this
    exact hm2
  · intro hn
    rw [← firstP_firsts] at h
    exact ⟨p, List.mem_of_find?_eq_some h, List.mem_map.2 ⟨n, hn, by rw [hid.1, hid.2]⟩⟩

/-! ### Parts of what is right -/
section
variable {S : Int} {es : List (Int × Int)} {H : Int} {l : List Pub} {evs : List Ev}
theorem wrAt_take {k m : Nat} (h : k < m) : wrAt S es H l (evs.take m) k = wrAt S es H l evs k := by
  unfold wrAt
  rw [List.getElem?_take, if_pos h]
  split
  · rw [List.take_take, Nat.min_eq_left (by omega)]
  · rfl
theorem rightTo_take {k m : Nat} (h : k ≤ m) (hr : rightTo S es H l evs k) : rightTo S es H l (evs.take m) k := fun j hj => by rw [wrAt_take (by omega)]; exact hr j hj
theorem check_part {k : Nat} (hk : k ≤ evs.length) (hr : rightTo S es H l evs k) : checkL S es H l (evs.take k) = (0, 0) := by
  refine checkL_all ?_
  rw [List.length_take, Nat.min_eq_left hk]
  exact rightTo_take (Nat.le_refl _) hr
theorem check_next {k : Nat} (hk : k < evs.length) (hr : rightTo S es H l evs k) (hw : wrAt S es H l evs k ≠ 0) : checkL S es H l (evs.take (k + 1)) = ((k : Int), wrAt S es H l evs k) := by
  have h1 : wrAt S es H l (evs.take (k + 1)) k = wrAt S es H l evs k := wrAt_take (by omega)
  rw [checkL_at (rightTo_take (by omega) hr) (by rw [List.length_take]; omega) (by rw [h1]; exact hw), h1]
theorem wrAt_app {k : Nat} (h : k < evs.length) (m : List Ev) : wrAt S es H l (evs ++ m) k = wrAt S es H l evs k := by
  unfold wrAt
  rw [List.getElem?_append_left h, List.take_append_of_le_length (by omega)]
theorem check_again {x : Ev} (h0 : evs[0]? = some x) (hr : rightTo S es H l evs evs.length) : checkL S es H l (evs ++ [x]) = ((evs.length : Int), 4) := by
  have hlen : 0 < evs.length := (List.getElem?_eq_some_iff.1 h0).1
  have hr2 : rightTo S es H l (evs ++ [x]) evs.length := fun j hj => by rw [wrAt_app hj]; exact hr j hj
  have hx : x ∈ evs := List.mem_of_getElem? h0
  have hw : wrAt S es H l (evs ++ [x]) evs.length = 4 := by
    have h1 := hr 0 hlen
    rw [wrAt_of h0] at h1
    rw [wrAt_of (x := x) (by rw [List.getElem?_append_right (Nat.le_refl _)]; simp)]
    rw [List.take_append_of_le_length (Nat.le_refl _), List.take_length]
    unfold wrongL at h1 ⊢
    split at h1
    · omega
    · rename_i p hp
      split at h1
      · rename_i hs
        rw [if_pos hs, if_pos (isEv_iff.2 hx)]
      · omega
  rw [checkL_at hr2 (by simp) (by rw [hw]; omega), hw]
end
end Go.Proofs.Ytipdggjalhjpnab
