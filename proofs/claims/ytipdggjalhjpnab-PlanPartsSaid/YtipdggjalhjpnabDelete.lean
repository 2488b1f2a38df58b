/-
  Topologies: slices.DeleteFunc at Onward's own function, over a row of the call's own.
-/
import Derived.Test.YtipdggjalhjpnabIndex
import Derived.Lib.SliceRun
namespace Go.Proofs.Ytipdggjalhjpnab
open Go.RowKit
set_option linter.unusedSimpArgs false
set_option linter.unusedVariables false

def setFrom : List Value → Nat → List Value → List Value
  | xs, _, [] => xs
  | xs, o, v :: r => setFrom (xs.set o v) (o + 1) r
theorem setFrom_take : ∀ (vs xs : List Value) (o k : Nat), k ≤ o → (setFrom xs o vs).take k = xs.take k
  | [], _, _, _, _ => rfl
  | v :: r, xs, o, k, h => by
    rw [setFrom, setFrom_take r _ _ _ (by omega), List.take_set, List.set_eq_of_length_le (by rw [List.length_take]; omega)]
theorem own_setCells {base : Nat} {e : TypeId} {g n cap : Nat} : ∀ (vs xs : List Value) (o : Nat) (w : World), w.ownsRow base e 1 (.slice (some ⟨g, 0, none⟩) n cap) n xs →
    (w.setCells g o vs).ownsRow base e 1 (.slice (some ⟨g, 0, none⟩) n cap) n (setFrom xs o vs) ∧ w.grownBy (w.setCells g o vs) (some g)
  | [], xs, o, w, h => ⟨h, World.grownBy.refl _ _⟩
  | v :: r, xs, o, w, h => by
    obtain ⟨h1, h2⟩ := h.stored o v
    obtain ⟨h3, h4⟩ := own_setCells r _ (o + 1) _ h1
    exact ⟨h3, ⟨h4.os.trans h2.os, h4.tape.trans h2.tape, h4.output.trans h2.output, Nat.le_trans h2.size h4.size, fun k hk hne => (h4.block k (Nat.lt_of_lt_of_le hk h2.size) hne).trans (h2.block k hk hne)⟩⟩
theorem own_front {w : World} {base : Nat} {e : TypeId} {g n cap : Nat} {xs : List Value} (h : w.ownsRow base e 1 (.slice (some ⟨g, 0, none⟩) n cap) n xs) {k : Nat} (hk : k ≤ n) :
    w.ownsRow base e 1 (.slice (some ⟨g, 0, none⟩) k cap) k (xs.take k) := by
  refine ⟨by have := h.1; rw [List.length_take]; omega, ?_⟩
  rcases h.2 with ⟨h', _⟩ | ⟨g', cap', cur, h', hb, hg, hn, hc, hs, ht⟩
  · simp at h'
  · obtain ⟨rfl, rfl⟩ : g = g' ∧ cap = cap' := by simpa using h'
    refine .inr ⟨g, cap, cur, rfl, hb, hg, by omega, hc, hs, ?_⟩
    rw [← ht, List.take_take]
    congr 1
    omega
def flt (o : Int) (l : List Int) : List Int := l.filter fun x => !(x == o)
theorem flt_none {o : Int} {l : List Int} (h : o ∉ l) : flt o l = l := by
  unfold flt
  rw [List.filter_eq_self]
  intro x hx
  have : x ≠ o := fun e => h (e ▸ hx)
  simp [this]
theorem flt_snoc (o : Int) (l : List Int) (x : Int) : flt o (l ++ [x]) = if x = o then flt o l else flt o l ++ [x] := by
  unfold flt
  rw [List.filter_append]
  by_cases h : x = o
  · simp [h]
  · simp [h]

set_option maxRecDepth 4000 in
set_option maxHeartbeats 1600000 in
theorem delete_any (g cap : Nat) (l : List Int) (o : Int) (c base : Nat) (w : World) (hown : w.ownsRow base 3 1 (.slice (some ⟨g, 0, none⟩) l.length cap) l.length (ints l)) (hc : w.cell? ⟨c, 0, none⟩ = some (.int .i64 o)) (hcg : c ≠ g) :
    Calls Try.prog 44 #[.slice (some ⟨g, 0, none⟩) l.length cap, fnV c] w fun e w' => ∃ r, e = .returned r ∧ w'.ownsRow base 3 1 r (flt o l).length (ints (flt o l)) ∧ w.grownBy w' (some g) := by
  have hR := Rd.of_own hown
  have hmx : l.length ≤ 9223372036854775807 := by obtain ⟨_, a', c', e', k1, k2, _⟩ := hR; unfold maxLen at k2; omega
  have hcap : l.length ≤ cap := by obtain ⟨_, a', c', e', k1, k2, _⟩ := hR; have := (Value.slice.injEq _ _ _ _ _ _).mp e'; omega
  have Own := Lib.hid hown
  clear hown
  unfold fnV
  go_enter Try.func44, Try.ntmps44
  go_wp2_with (first | (go_at_call 49; refine (index_any _ l o c _ hR hc).mono ?_; rintro e w2 ⟨i0, rfl, rfl, hi0⟩; rcases hi0 with ⟨rfl, hno⟩ | ⟨i0, rfl, hi1, hi2⟩; all_goals (try (have hil := (List.getElem?_eq_some_iff.1 hi1).1))))
  · go_ret
    exact ⟨_, rfl, by rw [flt_none hno]; exact Own.out, World.grownBy.refl _ _⟩
  · have hcb := World.block_lt_of_cell? w2 _ hc
    clear hR
    have hn1 : ((i0 : Int) == -1) = false := by simp <;> omega
    rw [hn1]
    clear hn1
    go_loopw [5, 6, 7] (fun iv jv _ wr => ∃ (i j : Nat) (cur : List Int), iv = .int .i64 (i : Int) ∧ jv = .int .i64 (j : Int) ∧ j ≤ l.length ∧ i < j ∧ cur.length = l.length ∧ cur.take i = flt o (l.take j) ∧ cur.drop j = l.drop j ∧ wr.ownsRow base 3 1 (.slice (some ⟨g, 0, none⟩) l.length cap) l.length (ints cur) ∧ w2.grownBy wr (some g)) (fun _ jv _ _ => l.length - (intOf jv).toNat)
    case atStart =>
      refine ⟨i0, i0 + 1, l, rfl, by go_num, by omega, by omega, rfl, ?_, rfl, Own.out, World.grownBy.refl _ _⟩
      rw [List.take_add_one, hi1]
      show l.take i0 = flt o (l.take i0 ++ [o])
      rw [flt_snoc, if_pos rfl, flt_none hi2]
    case round =>
      rename World => wq
      obtain ⟨i, j, cur, rfl, rfl, hj, hij, hcl, htk, hdr, hown, hgr⟩ := hrel
      have hc2 := (hgr.block c hcb (fun e => hcg (by simpa using e)))
      have hc3 : wq.cell? ⟨c, 0, none⟩ = some (.int .i64 o) := (World.cell?_of_block (a := ⟨c, 0, none⟩) hc2).trans hc
      by_cases hlt : j < l.length
      · obtain ⟨x, hx⟩ : ∃ x, l[j]? = some x := ⟨_, List.getElem?_eq_getElem hlt⟩
        have hcx : cur[j]? = some x := by
          have h1 : (cur.drop j)[0]? = (l.drop j)[0]? := by rw [hdr]
          rw [List.getElem?_drop, List.getElem?_drop] at h1
          simpa [hx] using h1
        have hd1 := (Rd.of_own hown).cellAt (j := j) (u := .int .i64 x) (by simp [ints, hcx])
        have htn : flt o (l.take (j + 1)) = if x = o then flt o (l.take j) else flt o (l.take j) ++ [x] := by rw [List.take_add_one, hx]; exact flt_snoc _ _ _
        have hdn : cur.drop (j + 1) = l.drop (j + 1) := by rw [← List.drop_drop, ← List.drop_drop, hdr]
        by_cases hxo : x = o
        · have A1 := Lib.hid hown
          have A2 := Lib.hid hgr
          have A3 := Lib.hid (show cur.take i = flt o (l.take (j + 1)) by rw [htn, if_pos hxo]; exact htk)
          have A4 := Lib.hid hdn
          have A5 := Lib.hid hcl
          clear hown hgr htk hdr htn hdn hcx hx hc2 hcl
          go_wp2_with (first | (go_at_call 45; with_reducible refine (same_site _ o c _ hc3).mono ?_; rintro e w3 ⟨rfl, rfl⟩))
          go_roundw
          case rel => exact ⟨i, j + 1, cur, rfl, by go_num, by omega, by omega, A5.out, A3.out, A4.out, A1.out, A2.out⟩
          case measure => simp [intOf]; omega
        · have hci : ∃ y, cur[i]? = some y := ⟨_, List.getElem?_eq_getElem (by omega)⟩
          obtain ⟨y, hy⟩ := hci
          have hd2 := (Rd.of_own hown).cellAt (j := i) (u := .int .i64 y) (by simp [ints, hy])
          have hff := hown.frozenAt i
          obtain ⟨A1, A2⟩ := hown.stored i (.int .i64 x)
          rw [show (ints cur).set i (.int .i64 x) = ints (cur.set i x) by simp [ints, List.map_set]] at A1
          have A1 := Lib.hid A1
          have A2 := Lib.hid (show w2.grownBy (wq.setCell ⟨g, i, none⟩ (.int .i64 x)) (some g) from ⟨A2.os.trans hgr.os, A2.tape.trans hgr.tape, A2.output.trans hgr.output, Nat.le_trans hgr.size A2.size, fun k hk hne => (A2.block k (Nat.lt_of_lt_of_le hk hgr.size) hne).trans (hgr.block k hk hne)⟩)
          have A3 := Lib.hid (show (cur.set i x).take (i + 1) = flt o (l.take (j + 1)) by
            rw [htn, if_neg hxo, ← htk, List.take_add_one, List.getElem?_set_self (by omega), List.take_set, List.set_eq_of_length_le (by rw [List.length_take]; omega)]
            rfl)
          have A4 := Lib.hid (show (cur.set i x).drop (j + 1) = l.drop (j + 1) by rw [List.drop_set, if_pos (by omega)]; exact hdn)
          have A5 := Lib.hid (show (cur.set i x).length = l.length by rw [List.length_set]; exact hcl)
          have hil2 : i < l.length := by omega
          have hne : (x == o) = false := by simp [hxo]
          clear hxo
          clear hown hgr htk hdr htn hdn hcx hx hc2 hy hcl
          go_wp2_with (first | (go_at_call 45; with_reducible refine (same_site _ o c _ hc3).mono ?_; rintro e w3 ⟨rfl, rfl⟩))
          go_roundw
          case rel => exact ⟨i + 1, j + 1, cur.set i x, by go_num, by go_num, by omega, by omega, A5.out, A3.out, A4.out, A1.out, A2.out⟩
          case measure => simp [intOf]; omega
      · obtain rfl : j = l.length := by omega
        rw [List.take_length] at htk
        obtain ⟨K1, K2⟩ := own_setCells (List.replicate (l.length - i) (.int .i64 0)) (ints cur) i wq hown
        have hcl2 := fun ty => Lib.run_clear_slice (P := Try.prog) wq 28 3 ty (.int .i64 0) Try.underlying28 Try.zeroValue3 rfl rfl g i (l.length - i) (cap - i) (by omega)
          (fun k hk => by rw [(Rd.of_own hown).cellAt (j := i + k) (u := .int .i64 (cur.getD (i + k) 0)) (by simp [ints, show i + k < cur.length by omega])]; rfl)
          (fun k hk => hown.frozenAt (i + k))
        have L1 := own_front K1 (k := i) (by omega)
        rw [setFrom_take _ _ _ _ (Nat.le_refl _), show (ints cur).take i = ints (flt o l) by rw [← htk]; simp [ints, List.map_take]] at L1
        have hfl : (flt o l).length = i := by rw [← htk, List.length_take]; omega
        have A1 := Lib.hid L1
        have A2 := Lib.hid (show w2.grownBy (wq.setCells g i (List.replicate (l.length - i) (.int .i64 0))) (some g) from ⟨K2.os.trans hgr.os, K2.tape.trans hgr.tape, K2.output.trans hgr.output, Nat.le_trans hgr.size K2.size, fun k hk hne => (K2.block k (Nat.lt_of_lt_of_le hk hgr.size) hne).trans (hgr.block k hk hne)⟩)
        have A3 := Lib.hid hfl
        clear K1 K2 L1 hfl hown hgr htk hdr hcl hc2
        go_wp2
        go_ret
        exact ⟨_, rfl, by rw [A3.out]; exact A1.out, A2.out⟩
end Go.Proofs.Ytipdggjalhjpnab
