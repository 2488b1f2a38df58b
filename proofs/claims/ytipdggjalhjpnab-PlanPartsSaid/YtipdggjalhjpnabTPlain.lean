/-
  Topologies: plain laws on how far it is (ways put together, an edge more, rings).
-/
import Derived.Test.YtipdggjalhjpnabRWithin
import Derived.Test.YtipdggjalhjpnabRounds
namespace Go.Proofs.Ytipdggjalhjpnab
open Go.RowKit
set_option linter.unusedSimpArgs false
set_option linter.unusedVariables false

theorem fst_some {es : List (Int × Int)} {a k m b : Nat} (h : rch es a k b = true) (hk : k < m) : 0 ≤ fst es a m b ∧ fst es a m b ≤ k := by
  unfold fst
  cases hf : (List.range m).find? fun n => rch es a n b with
  | none => exact absurd h (by have := List.find?_eq_none.1 hf k (List.mem_range.2 hk); simpa using this)
  | some n =>
    obtain ⟨h1, h2, h3⟩ := List.find?_range_eq_some.1 hf
    simp only
    refine ⟨by omega, ?_⟩
    by_cases hn : n ≤ k
    · omega
    · have := h3 k (by omega); rw [h] at this; cases this
theorem fst_rch {es : List (Int × Int)} {a m b : Nat} (h : 0 ≤ fst es a m b) : rch es a (fst es a m b).toNat b = true ∧ ∀ j : Nat, (j : Int) < fst es a m b → rch es a j b = false := by
  unfold fst at h ⊢
  cases hf : (List.range m).find? fun n => rch es a n b with
  | none => rw [hf] at h; simp at h
  | some n =>
    obtain ⟨h1, h2, h3⟩ := List.find?_range_eq_some.1 hf
    refine ⟨by simpa using h1, fun j hj => ?_⟩
    have := h3 j (by simpa using hj)
    simpa using this
theorem closed_at {S : Int} {es : List (Int × Int)} (h : okE S es) (hS : S ≤ 8) {a : Nat} (ha : 1 ≤ a) (ha2 : (a : Int) ≤ S) : ∃ n, n < S.toNat ∧ ∀ b, rch es a (n + 1) b = rch es a n b := by
  apply Classical.byContradiction
  intro hno
  have hg : ∀ n, n ≤ S.toNat → n + 1 ≤ cnt es a n := by
    intro n
    induction n with
    | zero => intro _; exact cnt_zero es (by omega)
    | succ n ih =>
      intro hn
      have h1 := ih (by omega)
      have : ∃ b, rch es a (n + 1) b = true ∧ rch es a n b = false := by
        apply Classical.byContradiction
        intro hb
        apply hno
        refine ⟨n, by omega, fun b => ?_⟩
        cases hq : rch es a n b with
        | true => exact rch_le hq (by omega)
        | false =>
          cases hq2 : rch es a (n + 1) b with
          | false => rfl
          | true => exact absurd ⟨b, hq2, hq⟩ hb
      obtain ⟨b, h2, h3⟩ := this
      have h4 := rch_in h ha ha2 h2
      have := cnt_grows (by omega) h2 h3
      omega
  have h1 := hg S.toNat (Nat.le_refl _)
  have h2 := cnt_le h ha ha2 hS S.toNat
  omega
theorem fst_big {S : Int} {es : List (Int × Int)} (h : okE S es) (hS : S ≤ 8) {a : Nat} (ha : 1 ≤ a) (ha2 : (a : Int) ≤ S) (b m : Nat) (hm : S.toNat ≤ m) : fst es a m b = levI S es a b := by
  obtain ⟨n, hn, hc⟩ := closed_at h hS ha ha2
  have h1 := fst_closed hc b (m - (n + 1))
  have h2 := fst_closed hc b (S.toNat - (n + 1))
  rw [show n + 1 + (m - (n + 1)) = m by omega] at h1
  rw [show n + 1 + (S.toNat - (n + 1)) = S.toNat by omega] at h2
  unfold levI
  rw [h1, h2]
theorem lev_le {S : Int} {es : List (Int × Int)} (h : okE S es) (hS : S ≤ 8) {a : Nat} (ha : 1 ≤ a) (ha2 : (a : Int) ≤ S) {b k : Nat} (hr : rch es a k b = true) : 0 ≤ levI S es a b ∧ levI S es a b ≤ k := by
  rw [← fst_big h hS ha ha2 b (max S.toNat (k + 1)) (by omega)]
  exact fst_some hr (by omega)
theorem rch_add {es : List (Int × Int)} {a n b c : Nat} : ∀ {m : Nat}, rch es a n b = true → rch es b m c = true → rch es a (n + m) c = true
  | 0, h1, h2 => by simp [rch] at h2; subst h2; exact h1
  | m + 1, h1, h2 => by
    rw [rch, Bool.or_eq_true] at h2
    rcases h2 with h2 | h2
    · exact rch_le (rch_add h1 h2) (by omega)
    · obtain ⟨j, hj, h3⟩ := List.any_eq_true.1 h2
      rw [Bool.and_eq_true] at h3
      rw [← Nat.add_assoc, rch, Bool.or_eq_true]
      exact .inr (List.any_eq_true.2 ⟨j, hj, by rw [rch_add h1 h3.1, h3.2]; rfl⟩)
theorem rch_more {es : List (Int × Int)} (e : Int × Int) {a c : Nat} : ∀ {n : Nat}, rch es a n c = true → rch (es ++ [e]) a n c = true
  | 0, h => h
  | n + 1, h => by
    rw [rch, Bool.or_eq_true] at h ⊢
    rcases h with h | h
    · exact .inl (rch_more e h)
    · obtain ⟨j, hj, h3⟩ := List.any_eq_true.1 h
      rw [Bool.and_eq_true] at h3
      refine .inr (List.any_eq_true.2 ⟨j, hj, ?_⟩)
      have : hasE (es ++ [e]) j c = true := by
        have := of_decide_eq_true h3.2
        exact decide_eq_true (by simp [this])
      rw [rch_more e h3.1, this]; rfl
theorem far_in {S : Int} {es : List (Int × Int)} {H a b : Int} (h : okT S es H) (ha : btw a S = true) (hb : btw b S = true) : farI S es H a b = levI S es a.toNat b.toNat := by
  unfold farI levF
  rw [if_pos hb, if_pos ⟨h, ha⟩]
theorem far_pos {S : Int} {es : List (Int × Int)} {H a b : Int} (h : 0 ≤ farI S es H a b) : okT S es H ∧ btw a S = true ∧ btw b S = true := by
  unfold farI levF at h
  split at h
  · rename_i hb
    split at h
    · rename_i h2; exact ⟨h2.1, h2.2, hb⟩
    · omega
  · omega
theorem btw_nat {a S : Int} (h : btw a S = true) : ∃ n : Nat, a = n ∧ 1 ≤ n ∧ (n : Int) ≤ S := by
  have h2 : 1 ≤ a ∧ a ≤ S := by simpa [btw] using h
  exact ⟨a.toNat, by omega, by omega, by omega⟩
/-- No way is longer than one by a third site. -/
theorem far_tri {S : Int} {es : List (Int × Int)} {H a b c : Int} (h1 : 0 ≤ farI S es H a b) (h2 : 0 ≤ farI S es H b c) : 0 ≤ farI S es H a c ∧ farI S es H a c ≤ farI S es H a b + farI S es H b c := by
  obtain ⟨hT, ha, hb⟩ := far_pos h1
  obtain ⟨_, _, hc⟩ := far_pos h2
  rw [far_in hT ha hb] at h1 ⊢
  rw [far_in hT hb hc] at h2 ⊢
  rw [far_in hT ha hc]
  obtain ⟨x, rfl, hx1, hx2⟩ := btw_nat ha
  obtain ⟨y, rfl, hy1, hy2⟩ := btw_nat hb
  obtain ⟨z, rfl, hz1, hz2⟩ := btw_nat hc
  simp only [Int.toNat_natCast] at h1 h2 ⊢
  have r1 := (fst_rch h1).1
  have r2 := (fst_rch h2).1
  have r3 := lev_le hT.2.2.2.2 hT.2.1 hx1 hx2 (rch_add r1 r2)
  have e1 : levI S es x y = fst es x S.toNat y := rfl
  have e2 : levI S es y z = fst es y S.toNat z := rfl
  unfold levI at h1 h2
  omega
theorem far_edge {S : Int} {es : List (Int × Int)} {H x y : Int} (h : okT S es H) (hm : (x, y) ∈ es) : farI S es H x y = 1 := by
  have hv := h.2.2.2.2.1 _ hm
  simp only at hv
  have hx : btw x S = true := by simp [btw, hv.1, hv.2.1]
  have hy : btw y S = true := by simp [btw, hv.2.2.1, hv.2.2.2.1]
  rw [far_in h hx hy]
  obtain ⟨p, rfl, hp1, hp2⟩ := btw_nat hx
  obtain ⟨q, rfl, hq1, hq2⟩ := btw_nat hy
  simp only [Int.toNat_natCast]
  have r1 : rch es p 1 q = true := by
    rw [rch, Bool.or_eq_true]
    refine .inr (List.any_eq_true.2 ⟨p, List.mem_range.2 (by have := h.2.1; omega), ?_⟩)
    simp [rch, hasE, hm]
  have h1 := lev_le h.2.2.2.2 h.2.1 hp1 hp2 r1
  have h0 : levI S es p q ≠ 0 := by
    intro h0
    have h2 : 0 ≤ fst es p S.toNat q := h1.1
    have h3 := (fst_rch h2).1
    have h4 : fst es p S.toNat q = 0 := h0
    rw [h4] at h3
    simp [rch] at h3
    exact hv.2.2.2.2 (by omega)
  omega
theorem far_more {S : Int} {es : List (Int × Int)} {H a c : Int} (e : Int × Int) (h' : okT S (es ++ [e]) H) (h1 : 0 ≤ farI S es H a c) : 0 ≤ farI S (es ++ [e]) H a c ∧ farI S (es ++ [e]) H a c ≤ farI S es H a c := by
  obtain ⟨hT, ha, hc⟩ := far_pos h1
  rw [far_in hT ha hc] at h1 ⊢
  rw [far_in h' ha hc]
  obtain ⟨x, rfl, hx1, hx2⟩ := btw_nat ha
  obtain ⟨z, rfl, hz1, hz2⟩ := btw_nat hc
  simp only [Int.toNat_natCast] at h1 ⊢
  have r3 := lev_le h'.2.2.2.2 h'.2.1 hx1 hx2 (rch_more e (fst_rch h1).1)
  have e1 : levI S es x z = fst es x S.toNat z := rfl
  unfold levI at h1
  omega
end Go.Proofs.Ytipdggjalhjpnab
