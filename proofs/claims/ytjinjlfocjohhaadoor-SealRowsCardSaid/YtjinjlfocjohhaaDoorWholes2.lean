/-
  Contract of the reference's Whole; what is told is told once.
-/
import Derived.Test.YtjinjlfocjohhaaDoorWholes
namespace Go.Proofs.YtjinjlfocjohhaaDoor
open Go.RowKit
set_option linter.unusedSimpArgs false
set_option linter.unusedVariables false

theorem one_cell {w : World} {base : Nat} {e : TypeId} {c : Value} {n : Nat} {xs : List Value} (h : w.ownsRow base e 1 c n xs) : ∀ u ∈ [c], u.oneCell' = true := by
  intro u hu
  obtain rfl : u = c := by simpa using hu
  obtain ⟨a, cap, rfl⟩ := rd_slice (Rd.of_own h)
  rfl
set_option maxHeartbeats 1600000 in
theorem swhole_any (a : Option Addr) (cap : Nat) (xs : List Int) (w : World) (hr : Rd w 1 (.slice a xs.length cap) xs.length (by8 xs)) (hby : Byt xs) (hx : xs.length ≤ 1000000000000) (had : 0 < cap → ∃ b off, a = some ⟨b, off, none⟩) :
    Calls Tryd.prog 45 #[.slice a xs.length cap] w (Wholed w xs) := by
  have Hy := Lib.hid hby
  go_enter Tryd.func45, Tryd.ntmps45
  go_wp2
  go_loopw [4, 5, 6, 7, 8, 9] (fun v at_ _ _ _ _ wr => ∃ (p : Nat) (l : List (List Int)) (cells : List Value), Parse xs p l ∧ at_ = .int .i64 (p : Int) ∧ wr.ownsRow w.heap.size 30 1 v l.length cells ∧ Rows wr w.heap.size cells l ∧ Below w.heap.size w wr)
    (fun _ at_ _ _ _ _ _ => xs.length - (intOf at_).toNat)
  case atStart => exact ⟨0, [], [], Parse.nil, rfl, World.ownsRow_nil _ _ _ _, Rows.nil _ _, Below.refl _ _⟩
  case round =>
    obtain ⟨p, l, cells, hp, rfl, hown, hrows, hB⟩ := hrel
    obtain ⟨hp1, hp2⟩ := hp.le
    have hrw := hr.keep hB
    obtain ⟨oc, on, oe, ho⟩ : ∃ oc on oe, openI (xs.drop p) = (oc, on, oe) := ⟨_, _, _, rfl⟩
    have hlc := rd_lit hr
    obtain ⟨hlc1, hlc2⟩ := hlc
    have hsz := hB.size
    by_cases he : oe = 0
    · subst he
      have hP := Lib.hid (Parse.snoc hp ho)
      have hpl := (Parse.snoc hp ho).le
      obtain ⟨hpl1, hpl2⟩ := hpl
      by_cases hcp : cap = p
      · exfalso
        have := open_zero ho
        rw [List.length_drop] at this
        omega
      · obtain ⟨b, off, rfl⟩ := had (by omega)
        have hd := hrw.piece p (xs.length - p) (cap - p) (by8 (xs.drop p)) (by omega) (by omega) (by omega) (by simp [by8, List.map_drop]; rw [List.take_of_length_le (by simp)])
        rw [Nat.mul_one] at hd
        go_wp2_with (first | (go_at_call 43; with_reducible refine (sopen_at (.slice (some ⟨b, off + p, none⟩) (xs.length - p) (cap - p)) (xs.drop p) _ (by rw [List.length_drop]; exact hd) (byt_drop Hy.out p) (by rw [List.length_drop]; omega) ho).mono ?_; rintro e w1 ⟨c, rfl, hco, hb1⟩; obtain ⟨ca, cc, rfl⟩ := rd_slice (Rd.of_own hco); have hown1 := below_own hown hb1 (Nat.le_refl _); have hrows1 := (hrows.below hb1).snoc (own_base hco hsz); have hB1 := hB.trans (hb1.mono hsz); have hsz1 := hB1.size) | (at_builtin; refine wpList_app _ rfl _ _ 55 rfl w.heap.size 30 (.slice none 0 0) 1 24 Tryd.underlying55 Tryd.info30 rfl (by decide) _ _ _ 1 _ [_] rfl rfl (hown1.alloc _) (rd_one _ _ _) (one_cell hco) (by omega) (by unfold maxLen; omega) (by simp; omega) ?_; intro v2 w2 hown2 hgr))
        go_roundw
        case rel =>
          have hin : ∀ (d : Value) (y : List Int), w1.ownsRow w.heap.size 5 1 d y.length (by8 y) → w2.ownsRow w.heap.size 5 1 d y.length (by8 y) := fun d y hd => (hd.alloc _).kept hgr (by
            cases hv : d.ownBlock with
            | none => exact .inl rfl
            | some g =>
              right
              intro e
              rcases hd.2 with ⟨rfl, _⟩ | ⟨g', cap', cur, rfl, _, hg, _⟩
              · cases hv
              · obtain rfl : g' = g := by simpa [Value.ownBlock] using hv
                exact own_ne hown1 hg (by decide) e.symm)
          have hB2 := (hB1.alloc hsz1 _).grown hgr (by simp; omega) (fun j hj => (hown1.lt j hj).1)
          exact ⟨p + on, l ++ [oc], cells ++ [.slice ca oc.length cc], hP.out, by go_num, by rw [List.length_append]; exact hown2, hrows1.map hin, hB2⟩
        case measure =>
          have := (open_zero ho).2.2.2.2.2
          simp [intOf]
          omega
    · have he1 : ((oe : Int) == 0) = false := by simp; omega
      have he2 : ((oe : Int) != 0) = true := by simp; omega
      have hW := Lib.hid (show WholeIs xs l p from ⟨hp, by rw [ho]; exact he⟩)
      clear he
      by_cases hcp : cap = p
      · subst hcp
        have hd : Rd wr 1 (.slice a 0 0) (xs.drop cap).length (by8 (xs.drop cap)) := by
          have e2 : xs.drop cap = [] := List.drop_eq_nil_of_le (by omega)
          rw [e2]
          exact ⟨rfl, a, 0, rfl, Nat.le_refl _, Nat.zero_le _, fun _ => ⟨rfl, rfl⟩, fun h => by simp at h⟩
        go_wp2_with (first | (go_at_call 43; with_reducible refine (sopen_at (.slice a 0 0) (xs.drop cap) _ hd (byt_drop Hy.out cap) (by rw [List.length_drop]; omega) ho).mono ?_; rintro e w1 ⟨c, rfl, hco, hb1⟩; have hown1 := below_own hown hb1 (Nat.le_refl _); have hrows1 := hrows.below hb1; have hB1 := hB.trans (hb1.mono hsz)))
        go_ret2
        exact ⟨_, cap, l, cells, rfl, hW.out, hown1, hrows1, hB1⟩
      · obtain ⟨b, off, rfl⟩ := had (by omega)
        have hd := hrw.piece p (xs.length - p) (cap - p) (by8 (xs.drop p)) (by omega) (by omega) (by omega) (by simp [by8, List.map_drop]; rw [List.take_of_length_le (by simp)])
        rw [Nat.mul_one] at hd
        go_wp2_with (first | (go_at_call 43; with_reducible refine (sopen_at (.slice (some ⟨b, off + p, none⟩) (xs.length - p) (cap - p)) (xs.drop p) _ (by rw [List.length_drop]; exact hd) (byt_drop Hy.out p) (by rw [List.length_drop]; omega) ho).mono ?_; rintro e w1 ⟨c, rfl, hco, hb1⟩; have hown1 := below_own hown hb1 (Nat.le_refl _); have hrows1 := hrows.below hb1; have hB1 := hB.trans (hb1.mono hsz)))
        go_ret2
        exact ⟨_, p, l, cells, rfl, hW.out, hown1, hrows1, hB1⟩

/-- What is told is told once. -/
def prs (xs : List Int) : Nat → Option (Nat × List (List Int))
  | 0 => some (0, [])
  | k + 1 => match prs xs k with
    | some (p, l) => if (openI (xs.drop p)).2.2 = 0 then some (p + (openI (xs.drop p)).2.1, l ++ [(openI (xs.drop p)).1]) else none
    | none => none
theorem prs_of {xs : List Int} {p : Nat} {l : List (List Int)} (h : Parse xs p l) : prs xs l.length = some (p, l) := by
  induction h with
  | nil => rfl
  | snoc h1 h2 ih =>
    rw [List.length_append]
    show prs xs (_ + 1) = _
    rw [prs, ih]
    simp only [h2, if_true]
theorem prs_none {xs : List Int} {k : Nat} (h : prs xs k = none) : ∀ d, prs xs (k + d) = none
  | 0 => h
  | d + 1 => by rw [← Nat.add_assoc, prs, prs_none h d]
theorem whole_le {xs : List Int} {l m : List (List Int)} {p q : Nat} (h : WholeIs xs l p) (h2 : Parse xs q m) : m.length ≤ l.length := by
  have a := prs_of h.1
  have b := prs_of h2
  rcases Nat.lt_or_ge l.length m.length with hlt | hge
  · have hn : prs xs (l.length + 1) = none := by rw [prs, a]; simp only []; rw [if_neg h.2]
    have := prs_none hn (m.length - (l.length + 1))
    rw [show l.length + 1 + (m.length - (l.length + 1)) = m.length by omega, b] at this
    cases this
  · exact hge
theorem parse_same {xs : List Int} {l m : List (List Int)} {p q : Nat} (h : Parse xs p l) (h2 : Parse xs q m) (hl : l.length = m.length) : l = m ∧ p = q := by
  have a := prs_of h
  have b := prs_of h2
  rw [hl, b] at a
  simp at a
  exact ⟨a.2.symm, a.1.symm⟩
theorem whole_same {xs : List Int} {l m : List (List Int)} {p q : Nat} (h : WholeIs xs l p) (h2 : WholeIs xs m q) : l = m ∧ p = q :=
  parse_same h.1 h2.1 (Nat.le_antisymm (whole_le h2 h.1) (whole_le h h2.1))
end Go.Proofs.YtjinjlfocjohhaaDoor
