/-
  Topologies: Good, and the reference's site, edge and Good.
-/
import Derived.Test.YtipdggjalhjpnabDraw
namespace Go.Proofs.Ytipdggjalhjpnab
open Go.RowKit
set_option linter.unusedSimpArgs false
set_option linter.unusedVariables false

theorem nodup_lt : ∀ (n : Nat) (l : List Nat), l.Nodup → (∀ x ∈ l, x < n) → l.length ≤ n
  | 0, [], _, _ => Nat.le_refl _
  | 0, x :: l, _, h => by have := h x (by simp); omega
  | n + 1, l, hn, h => by
    have h2 := nodup_lt n (l.erase n) (hn.erase n) (fun x hx => by
      have h3 := h x (List.mem_of_mem_erase hx)
      have : x ≠ n := fun e => by
        subst e
        exact (List.Nodup.not_mem_erase hn) hx
      omega)
    have h4 : l.length ≤ (l.erase n).length + 1 := by
      rw [List.length_erase]; split <;> omega
    omega
theorem okE_len {S : Int} {es : List (Int × Int)} (h : okE S es) (hS : S ≤ 8) : es.length ≤ 64 := by
  have := nodup_lt 64 (es.map fun e => (e.1.toNat - 1) * 8 + (e.2.toNat - 1)) (by
    rw [List.Nodup, List.pairwise_map]
    refine h.2.imp_of_mem ?_
    intro a b ha hb hne he
    apply hne
    have h1 := h.1 a ha
    have h2 := h.1 b hb
    have e1 : a.1 = b.1 := by omega
    have e2 : a.2 = b.2 := by omega
    exact Prod.ext e1 e2) (fun x hx => by
      obtain ⟨e, he, rfl⟩ := List.mem_map.1 hx
      have := h.1 e he
      omega)
  simpa using this

set_option maxRecDepth 4000 in
theorem good_any (S H : Int) (ev : Value) (es : List (Int × Int)) (w : World) (hr : Rd w 2 ev es.length (edgeCells es)) :
    Calls Try.prog 14 #[topV S ev H] w fun e w' => e = .returned (.bool (decide (okT S es H))) ∧ Below w.heap.size w w' := by
  have hB := Below.refl w.heap.size w
  have hz := Lib.hid zero79
  obtain ⟨g0, hg0⟩ : ∃ g0, gridA [] = g0 := ⟨_, rfl⟩
  have hz2 := hz.out
  rw [hg0] at hz2
  obtain ⟨G, hG⟩ : ∃ G, gridA (drawn S es H) = G := ⟨_, rfl⟩
  have Hg := Lib.hid hG
  have Hs := Lib.hid (show g0.size = G.size by rw [← hg0, ← hG, gridA_size, gridA_size])
  have Hn := Lib.hid (show (Try.prog.info? 79).map (·.size) = some G.size by rw [← hG]; exact size79 _)
  have Hm := Lib.hid (show G.all (·.oneCell') = true by rw [← hG]; exact gridA_one _)
  clear hg0 hG
  obtain ⟨ok, hok⟩ : ∃ ok, decide (okT S es H) = ok := ⟨_, rfl⟩
  have Hok := Lib.hid hok
  clear hok
  unfold topV
  go_enter Try.func14, Try.ntmps14
  go_wp2_with (first | (go_at_call 39; refine (draw_any S H ev es _ (hr.keep (hB.alloc (Nat.le_refl _) _))).mono ?_; rintro e w1 ⟨rfl, hb1⟩; rw [Hg.out, Hok.out]; replace hB := (hB.alloc (Nat.le_refl _) _).trans (hb1.mono (by simp)); clear hb1) | (with_reducible refine wpList_store_new (t := 79) g0 G ?_ ?_ Hn.out Hs.out Hm.out ?_; (simp [Act.eval, Act.put]); (simp [Act.eval, Act.put])))
  go_ret
  exact ⟨congrArg (fun z => Ending.returned (.bool z)) Hok.out.symm, hB.alloc hB.size _⟩

theorem site_any (S H n : Int) (ev : Value) (w : World) :
    Calls Try.prog 40 #[topV S ev H, .int .i64 n] w fun e w' => e = .returned (.bool (btw n S)) ∧ Below w.heap.size w w' := by
  have hB := Below.refl w.heap.size w
  unfold topV
  by_cases h1 : 1 ≤ n
  · by_cases h2 : n ≤ S
    · go_enter Try.func40, Try.ntmps40
      go_wp2
      go_ret
      exact ⟨by simp [btw, h1, h2], hB.alloc (Nat.le_refl _) _⟩
    · go_enter Try.func40, Try.ntmps40
      go_wp2
      go_ret
      exact ⟨by simp [btw, h1, h2], hB.alloc (Nat.le_refl _) _⟩
  · go_enter Try.func40, Try.ntmps40
    go_wp2
    go_ret
    exact ⟨by simp [btw, h1] <;> omega, hB.alloc (Nat.le_refl _) _⟩

theorem take_not {α : Type} {l : List α} {i : Nat} {x y : α} (h : l[i]? = some x) (hn : y ∉ l.take i) (hne : x ≠ y) : y ∉ l.take (i + 1) := by
  rw [List.take_add_one, h]
  intro hm
  rcases List.mem_append.1 hm with hm | hm
  · exact hn hm
  · have h2 : y = x := by simpa using hm
    exact hne h2.symm

set_option maxHeartbeats 800000 in
theorem edge_any (S H f t : Int) (ev : Value) (es : List (Int × Int)) (w : World) (hr : Rd w 2 ev es.length (edgeCells es)) :
    Calls Try.prog 42 #[topV S ev H, .int .i64 f, .int .i64 t] w fun e w' => e = .returned (.bool (decide ((f, t) ∈ es))) ∧ Below w.heap.size w w' := by
  have hB := Below.refl w.heap.size w
  obtain ⟨a, cap, rfl⟩ := rd_slice hr
  have hmx : es.length ≤ 9223372036854775807 := by obtain ⟨_, a', c', e', k1, k2, _⟩ := hr; unfold maxLen at k2; omega
  unfold topV
  go_enter Try.func42, Try.ntmps42
  go_wp2
  go_loopw [8, 12] (fun _ ix wr => ∃ i : Nat, i ≤ es.length ∧ ix = .int .i64 (i : Int) ∧ (f, t) ∉ es.take i ∧ Below w.heap.size w wr) (fun _ ix _ => es.length - (intOf ix).toNat)
  case atStart => exact ⟨0, by omega, rfl, by simp, hB.alloc (Nat.le_refl _) _⟩
  case round =>
    obtain ⟨i, hi, rfl, hni, hB⟩ := hrel
    have hwz := hB.size
    by_cases hlt : i < es.length
    · obtain ⟨⟨x, y⟩, he⟩ : ∃ e, es[i]? = some e := ⟨_, List.getElem?_eq_getElem hlt⟩
      obtain ⟨b, off, rfl, hbb, hx, hy⟩ := edge_at hr he
      replace hx := (hB.cell (p := ⟨b, off + i * 2, none⟩) hbb).trans hx
      replace hy := (hB.cell (p := ⟨b, off + i * 2 + 1, none⟩) hbb).trans hy
      have He := Lib.hid he
      have Hn := Lib.hid hni
      clear he hni
      by_cases h1 : x = f
      · by_cases h2 : y = t
        · have hmem : decide ((f, t) ∈ es) = true := decide_eq_true (by rw [← h1, ← h2]; exact List.mem_of_getElem? He.out)
          have Hm := Lib.hid hmem
          clear hmem
          go_wp2
          go_ret
          exact ⟨congrArg (fun z => Ending.returned (.bool z)) Hm.out.symm, hB.alloc hwz _⟩
        · go_wp2
          go_roundw
          case rel => exact ⟨i + 1, by omega, by go_num, take_not He.out Hn.out (fun e => h2 (congrArg Prod.snd e)), hB.alloc hwz _⟩
          case measure => simp [intOf]; omega
      · go_wp2
        go_roundw
        case rel => exact ⟨i + 1, by omega, by go_num, take_not He.out Hn.out (fun e => h1 (congrArg Prod.fst e)), hB.alloc hwz _⟩
        case measure => simp [intOf]; omega
    · obtain rfl : i = es.length := by omega
      rw [List.take_length] at hni
      have Hn := Lib.hid (decide_eq_false hni)
      clear hni
      go_wp2
      go_ret
      exact ⟨congrArg (fun z => Ending.returned (.bool z)) Hn.out.symm, hB⟩
end Go.Proofs.Ytipdggjalhjpnab
