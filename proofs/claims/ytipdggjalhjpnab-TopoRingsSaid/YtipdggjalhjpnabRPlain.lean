/-
  Topologies: plain laws for TopoRings (how far it is in a ring).
-/
import Derived.Test.YtipdggjalhjpnabTri
namespace Go.Proofs.Ytipdggjalhjpnab
open Go.RowKit
set_option linter.unusedSimpArgs false
set_option linter.unusedVariables false

/-- The first i edges of a ring of k sites. -/
def ringE (k i : Nat) : List (Int × Int) := (List.range i).map fun j => (((j + 1 : Nat) : Int), (((j + 1) % k + 1 : Nat) : Int))
theorem ringE_succ (k i : Nat) : ringE k (i + 1) = ringE k i ++ [(((i + 1 : Nat) : Int), (((i + 1) % k + 1 : Nat) : Int))] := by
  unfold ringE
  rw [List.range_succ, List.map_append]
  rfl
theorem ringE_len (k i : Nat) : (ringE k i).length = i := by simp [ringE]
def RF (k a b : Nat) : Nat := (b + k - a) % k
theorem rf_step : ∀ k, k < 9 → ∀ a, a < k → ∀ b, b < k → RF k a b < k ∧ (a = b → RF k a b = 0) ∧ (a ≠ b → RF k a b = RF k a ((b + k - 1) % k) + 1) := by decide
theorem ring_ok : ∀ k : Nat, k < 9 → 2 ≤ k → okE (k : Int) (ringE k k) := by unfold okE ringE; decide
theorem ring_has {k : Nat} (hk : k < 9) {j b : Nat} (hb : b < k) : hasE (ringE k k) j (b + 1) = true ↔ j = (b + k - 1) % k + 1 := by
  have key : ∀ k, k < 9 → ∀ i, i < k → ∀ b, b < k → ((i + 1) % k = b ↔ i = (b + k - 1) % k) := by decide
  unfold hasE ringE
  rw [decide_eq_true_eq, List.mem_map]
  constructor
  · rintro ⟨i, hi, he⟩
    have hi := List.mem_range.1 hi
    have h1 : i + 1 = j := by have := congrArg Prod.fst he; simp only at this; omega
    have h2 : (i + 1) % k = b := by have := congrArg Prod.snd he; simp only at this; omega
    have := (key k hk i hi b hb).1 h2
    omega
  · intro hj
    have hlt : (b + k - 1) % k < k := Nat.mod_lt _ (by omega)
    refine ⟨(b + k - 1) % k, List.mem_range.2 hlt, ?_⟩
    have := (key k hk _ hlt b hb).2 rfl
    rw [this, hj]
theorem ring_rch {k : Nat} (hk : k < 9) {a : Nat} (ha : a < k) : ∀ (n : Nat) {b : Nat}, b < k → (rch (ringE k k) (a + 1) n (b + 1) = true ↔ RF k a b ≤ n)
  | 0, b, hb => by
    obtain ⟨h1, h2, h3⟩ := rf_step k hk a ha b hb
    simp only [rch, beq_iff_eq]
    constructor
    · intro h; have := h2 (by omega); omega
    · intro h
      by_cases hab : a = b
      · omega
      · have := h3 hab; omega
  | n + 1, b, hb => by
    obtain ⟨h1, h2, h3⟩ := rf_step k hk a ha b hb
    have hlt : (b + k - 1) % k < k := Nat.mod_lt _ (by omega)
    have ih1 := ring_rch hk ha n hb
    have ih2 := ring_rch hk ha n hlt
    rw [rch, Bool.or_eq_true, List.any_eq_true, ih1]
    constructor
    · rintro (h | ⟨j, hj, h⟩)
      · omega
      · rw [Bool.and_eq_true] at h
        have hj2 := (ring_has hk hb).1 h.2
        subst hj2
        have := ih2.1 h.1
        by_cases hab : a = b
        · have := h2 hab; omega
        · have := h3 hab; omega
    · intro h
      by_cases hab : a = b
      · left; have := h2 hab; omega
      · right
        have := h3 hab
        refine ⟨(b + k - 1) % k + 1, List.mem_range.2 (by omega), ?_⟩
        rw [ih2.2 (by omega), (ring_has hk hb).2 rfl]
        rfl
theorem ring_lev {k : Nat} (hk : k < 9) {a b : Nat} (ha : a < k) (hb : b < k) : levI (k : Int) (ringE k k) (a + 1) (b + 1) = RF k a b := by
  refine lev_found (n := RF k a b) (by have := (rf_step k hk a ha b hb).1; omega) ((ring_rch hk ha _ hb).2 (Nat.le_refl _)) (fun m hm => ?_)
  cases h : rch (ringE k k) (a + 1) m (b + 1) with
  | false => rfl
  | true => have := (ring_rch hk ha m hb).1 h; omega
theorem ring_okT {k h : Nat} (hk : k < 9) (hk2 : 2 ≤ k) (hh : h < 9) : okT (k : Int) (ringE k k) (h : Int) := ⟨by omega, by omega, by omega, by omega, ring_ok k hk hk2⟩
/-- How far it is, told for all. -/
def rf (k a : Nat) (b : Int) : Int := if 1 ≤ b ∧ b ≤ k then (RF k a (b.toNat - 1) : Int) else -1
theorem ring_far {k h : Nat} (hk : k < 9) (hk2 : 2 ≤ k) (hh : h < 9) {a : Nat} (ha : a < k) (b : Int) : farI (k : Int) (ringE k k) (h : Int) ((a : Int) + 1) b = rf k a b := by
  unfold rf
  by_cases hb : 1 ≤ b ∧ b ≤ k
  · rw [if_pos hb, far_in (ring_okT hk hk2 hh) (by simp [btw]; omega) (by simp [btw]; omega)]
    rw [show ((a : Int) + 1).toNat = a + 1 by omega]
    have := ring_lev hk ha (b := b.toNat - 1) (by omega)
    rw [show b.toNat - 1 + 1 = b.toNat by omega] at this
    exact this
  · rw [if_neg hb]
    unfold farI
    rw [if_neg (by simp [btw]; omega)]
def rw' (k h a : Nat) : List Int := ((List.range 9).filter fun b : Nat => decide (1 ≤ b) && decide (b ≤ k) && decide (RF k a (b - 1) ≤ h)).map fun b => ((b : Nat) : Int)
theorem ring_within {k h : Nat} (hk : k < 9) (hk2 : 2 ≤ k) (hh : h < 9) {a : Nat} (ha : a < k) : within (k : Int) (ringE k k) (h : Int) ((a : Int) + 1) 9 = rw' k h a := by
  unfold within rw'
  congr 1
  apply List.filter_congr
  intro b hb
  rw [okW_far, ring_far hk hk2 hh ha]
  unfold rf
  rw [Bool.eq_iff_iff]
  by_cases h1 : 1 ≤ b ∧ b ≤ k
  · rw [if_pos (by omega)]
    simp [h1.1, h1.2]
  · rw [if_neg (by omega)]
    simp
    try omega
theorem rw_len : ∀ k, k < 9 → 2 ≤ k → ∀ h, h < 9 → ∀ a, a < k → (rw' k h a).length = min (h + 1) k := by decide +kernel
theorem ring_outs : ∀ k, k < 9 → 2 ≤ k → ∀ b, b < k → outs (ringE k k) (((b : Nat) : Int) + 1) 9 = [(((b + 1) % k + 1 : Nat) : Int)] := by decide +kernel
theorem ring_onward {k h : Nat} (hk : k < 9) (hk2 : 2 ≤ k) (hh : h < 9) {a b : Nat} (ha : a < k) (hb : b < k) :
    (onward (k : Int) (ringE k k) (h : Int) ((a : Int) + 1) ((b : Int) + 1)).length = if RF k a b < h ∧ RF k a b ≠ k - 1 then 1 else 0 := by
  have key : ∀ k, k < 9 → 2 ≤ k → ∀ a, a < k → ∀ b, b < k → ((b + 1) % k = a ↔ RF k a b = k - 1) := by decide
  have hf : farI (k : Int) (ringE k k) (h : Int) ((a : Int) + 1) ((b : Int) + 1) = RF k a b := by
    rw [ring_far hk hk2 hh ha]
    unfold rf
    rw [if_pos (by omega), show ((b : Int) + 1).toNat - 1 = b by omega]
  unfold onward
  rw [hf]
  by_cases h1 : RF k a b < h
  · rw [if_neg (by omega)]
    unfold nextL
    rw [if_pos (ring_okT hk hk2 hh), ring_outs k hk hk2 b hb]
    have := key k hk hk2 a ha b hb
    obtain ⟨c, hc⟩ : ∃ c, (b + 1) % k = c := ⟨_, rfl⟩
    rw [hc] at this ⊢
    unfold flt
    by_cases h2 : c = a
    · rw [if_neg (fun h => h.2 (this.1 h2))]
      rw [List.filter_cons_of_neg (by simp; omega)]
      rfl
    · rw [if_pos ⟨h1, fun h => h2 (this.2 h)⟩]
      rw [List.filter_cons_of_pos (by simp; omega)]
      rfl
  · rw [if_pos (.inr (by omega)), if_neg (fun h => h1 h.1)]
    rfl
def rrnd (k h : Nat) : Nat → Int
  | 0 => 0
  | n + 1 => (rw' k h n).foldl (fun m b => max m (rf k n b)) (rrnd k h n)
theorem ring_rnd {k h : Nat} (hk : k < 9) (hk2 : 2 ≤ k) (hh : h < 9) : ∀ n, n ≤ k → rnd (k : Int) (ringE k k) (h : Int) n = rrnd k h n
  | 0, _ => rfl
  | n + 1, hn => by
    rw [rnd, rrnd, ring_rnd hk hk2 hh n (by omega), ring_within hk hk2 hh (by omega)]
    unfold most
    have : (fun (m b : Int) => max m (farI (k : Int) (ringE k k) (h : Int) ((n : Int) + 1) b)) = fun m b => max m (rf k n b) := by
      funext m b
      rw [ring_far hk hk2 hh (by omega)]
    rw [this]
theorem rrnd_val : ∀ k, k < 9 → 2 ≤ k → ∀ h, h < 9 → rrnd k h k = ((min (h + 1) k : Nat) : Int) - 1 := by decide +kernel
theorem ring_rounds {k h : Nat} (hk : k < 9) (hk2 : 2 ≤ k) (hh : h < 9) : roundsI (k : Int) (ringE k k) (h : Int) = ((min (h + 1) k : Nat) : Int) - 1 := by
  unfold roundsI
  rw [show (min (k : Int) 8).toNat = k by omega, ring_rnd hk hk2 hh k (Nat.le_refl _)]
  exact rrnd_val k hk hk2 h hh
end Go.Proofs.Ytipdggjalhjpnab
