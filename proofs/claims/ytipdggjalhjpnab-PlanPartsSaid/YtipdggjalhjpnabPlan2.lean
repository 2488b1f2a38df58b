/-
  Plans: lists in the document's form (pubs, events).
-/
import Derived.Test.YtipdggjalhjpnabPlan1
namespace Go.Proofs.Ytipdggjalhjpnab
open Go.RowKit
set_option linter.unusedSimpArgs false
set_option linter.unusedVariables false

theorem rd_blk {W : World} {k n size : Nat} {cs : Array Value} {t : TypeId} (h : W.heap[k]? = some (.cells cs t (0, 0))) (hn : cs.size = n * size) (hm : n ≤ maxLen) : Rd W size (.slice (some ⟨k, 0, none⟩) n n) n cs.toList := by
  refine ⟨by simpa using hn, _, _, rfl, Nat.le_refl _, hm, (fun h => by cases h), fun _ => ⟨k, 0, rfl, lt_of_block h, fun j u hj => ?_⟩⟩
  rw [Nat.zero_add, cell_of_row _ _ j _ _ _ h]
  simpa using hj
theorem info65 : (Try.prog.info? 65).map (fun i => (i.zero, i.size, i.bytes)) = some (some (.agg #[.int .i64 0, .int .u64 0, .bool false]), 3, 24) := by kernel_rfl
theorem info93 : (Try.prog.info? 93).map (fun i => (i.zero, i.size, i.bytes)) = some (some (.agg #[.int .i64 0, .string ⟨#[]⟩, .int .i64 0, .int .u64 0]), 4, 40) := by kernel_rfl
/-- The cells of element i. -/
theorem flat_at {α : Type} {f : α → List Value} {size : Nat} (hf : ∀ x, (f x).length = size) : ∀ (xs : List α) {i j : Nat} {x : α} {u : Value}, xs[i]? = some x → j < size → (f x)[j]? = some u → (xs.flatMap f)[i * size + j]? = some u
  | [], i, j, x, u, h, _, _ => by simp at h
  | y :: xs, 0, j, x, u, h, hj, hu => by
    obtain rfl : y = x := by simpa using h
    rw [List.flatMap_cons, List.getElem?_append_left (by rw [hf]; omega), Nat.zero_mul, Nat.zero_add]
    exact hu
  | y :: xs, i + 1, j, x, u, h, hj, hu => by
    rw [List.flatMap_cons, List.getElem?_append_right (by rw [hf, Nat.add_mul]; omega), hf, show (i + 1) * size + j - size = i * size + j by rw [Nat.add_mul]; omega]
    exact flat_at hf xs (by simpa using h) hj hu
theorem Rd.flat {w : World} {α : Type} {f : α → List Value} {size : Nat} (hf : ∀ x, (f x).length = size) {a : Option Addr} {cap : Nat} {xs : List α} (h : Rd w size (.slice a xs.length cap) xs.length (xs.flatMap f)) {i : Nat} {x : α} (hx : xs[i]? = some x) (hs : 0 < size) :
    ∃ b off, a = some ⟨b, off, none⟩ ∧ b < w.heap.size ∧ ∀ j u, j < size → (f x)[j]? = some u → w.cell? ⟨b, off + i * size + j, none⟩ = some u := by
  obtain ⟨hl, a', cap', e, h1, h2, h3, h4⟩ := h
  obtain ⟨rfl, rfl⟩ : a = a' ∧ cap = cap' := by simpa using e
  have hi := (List.getElem?_eq_some_iff.1 hx).1
  obtain ⟨b, off, rfl, hb, hc⟩ := h4 (Nat.mul_pos (by omega) hs)
  exact ⟨b, off, rfl, hb, fun j u hj hu => by rw [Nat.add_assoc]; exact hc _ _ (flat_at hf xs hx hj hu)⟩
theorem pub_at {w : World} {a : Option Addr} {cap : Nat} {xs : List Pub} (h : Rd w 3 (.slice a xs.length cap) xs.length (xs.flatMap Pub.cs)) {i : Nat} {x : Pub} (hx : xs[i]? = some x) :
    ∃ b off, a = some ⟨b, off, none⟩ ∧ b < w.heap.size ∧ w.cell? ⟨b, off + i * 3, none⟩ = some (.int .i64 x.origin) ∧ w.cell? ⟨b, off + i * 3 + 1, none⟩ = some (.int .u64 x.seq) ∧ w.cell? ⟨b, off + i * 3 + 2, none⟩ = some (.bool x.fed) := by
  obtain ⟨b, off, rfl, hb, hc⟩ := h.flat (f := Pub.cs) (size := 3) (fun _ => rfl) hx (by decide)
  exact ⟨b, off, rfl, hb, hc 0 _ (by decide) rfl, hc 1 _ (by decide) rfl, hc 2 _ (by decide) rfl⟩
theorem sn_at {w : World} {a : Option Addr} {cap : Nat} {xs : List Sn} (h : Rd w 3 (.slice a xs.length cap) xs.length (xs.flatMap Sn.cs)) {i : Nat} {x : Sn} (hx : xs[i]? = some x) :
    ∃ b off, a = some ⟨b, off, none⟩ ∧ b < w.heap.size ∧ w.cell? ⟨b, off + i * 3, none⟩ = some (.int .i64 x.site) ∧ w.cell? ⟨b, off + i * 3 + 1, none⟩ = some (.int .i64 x.origin) ∧ w.cell? ⟨b, off + i * 3 + 2, none⟩ = some (.int .u64 x.seq) := by
  obtain ⟨b, off, rfl, hb, hc⟩ := h.flat (f := Sn.cs) (size := 3) (fun _ => rfl) hx (by decide)
  exact ⟨b, off, rfl, hb, hc 0 _ (by decide) rfl, hc 1 _ (by decide) rfl, hc 2 _ (by decide) rfl⟩
theorem ev_at {w : World} {a : Option Addr} {cap : Nat} {xs : List Ev} (h : Rd w 4 (.slice a xs.length cap) xs.length (xs.flatMap Ev.cs)) {i : Nat} {x : Ev} (hx : xs[i]? = some x) :
    ∃ b off, a = some ⟨b, off, none⟩ ∧ b < w.heap.size ∧ w.cell? ⟨b, off + i * 4, none⟩ = some (.int .i64 x.site) ∧ w.cell? ⟨b, off + i * 4 + 1, none⟩ = some (.string x.queue) ∧ w.cell? ⟨b, off + i * 4 + 2, none⟩ = some (.int .i64 x.origin) ∧ w.cell? ⟨b, off + i * 4 + 3, none⟩ = some (.int .u64 x.seq) := by
  obtain ⟨b, off, rfl, hb, hc⟩ := h.flat (f := Ev.cs) (size := 4) (fun _ => rfl) hx (by decide)
  exact ⟨b, off, rfl, hb, hc 0 _ (by decide) rfl, hc 1 _ (by decide) rfl, hc 2 _ (by decide) rfl, hc 3 _ (by decide) rfl⟩

set_option maxHeartbeats 800000 in
set_option maxRecDepth 8000 in
theorem pubs_any (v : Value) (xs : List Pub) (w : World) (hx : xs.length ≤ 1000) (hr : Rd w 3 v xs.length (xs.flatMap Pub.cs)) :
    Calls Try.prog 31 #[v] w fun e w' => ∃ u, e = .returned u ∧ w'.ownsRow w.heap.size 65 3 u xs.length (xs.flatMap Pub.cs) ∧ Below w.heap.size w w' := by
  obtain ⟨va, vc, rfl⟩ := rd_slice hr
  go_enter Try.func31, Try.ntmps31
  go_wp2
  go_loopw [3, 5, 8] (fun u _ ix wr => ∃ i : Nat, i ≤ xs.length ∧ ix = .int .i64 (i : Int) ∧ wr.ownsRow w.heap.size 65 3 u i ((xs.take i).flatMap Pub.cs) ∧ Below w.heap.size w wr) (fun _ _ ix _ => xs.length - (intOf ix).toNat)
  case atStart => exact ⟨0, by omega, rfl, World.ownsRow_nil _ _ _ _, Below.refl _ _⟩
  case round =>
    rename World => wq
    obtain ⟨i, hi, rfl, hown, hB⟩ := hrel
    have hsz := hB.size
    by_cases hil : i < xs.length
    · obtain ⟨⟨o, s, f⟩, hxi⟩ : ∃ x, xs[i]? = some x := ⟨_, List.getElem?_eq_getElem hil⟩
      obtain ⟨b, off, rfl, hbb, d0, d1, d2⟩ := pub_at (hr.keep hB) hxi
      have hX := Lib.hid (show (xs.take (i + 1)).flatMap Pub.cs = (xs.take i).flatMap Pub.cs ++ [.int .i64 o, .int .u64 s, .bool f] by rw [List.take_add_one, hxi, List.flatMap_append]; simp [Pub.cs])
      have hlen : xs.length ≤ 9223372036854775807 := by omega
      simp only at d0 d1 d2
      have Own := Lib.hid hown
      have Rk := Lib.hid (rd_blk (W := (wq.alloc (.cells #[.int .i64 o, .int .u64 s, .bool f] 62)).alloc (.cells #[.int .i64 o, .int .u64 s, .bool f] 65)) (k := wq.heap.size + 1) (n := 1) (size := 3) (cs := #[.int .i64 o, .int .u64 s, .bool f]) (t := 65) (by rw [heap_alloc_at]; simp) rfl (by unfold maxLen; omega))
      clear hxi hown
      go_wp2_with (first | (at_builtin; refine wpList_app _ rfl _ _ 57 rfl w.heap.size 65 (.agg #[.int .i64 0, .int .u64 0, .bool false]) 3 24 Try.underlying57 info65 rfl (by decide) _ _ i 1 _ [.int .i64 o, .int .u64 s, .bool f] rfl rfl ((Own.out.alloc _).alloc _) Rk.out (by simp [Value.oneCell']) (by omega) (by unfold maxLen; omega) (by simp; omega) ?_; intro v5 w5 ho5 hgr5))
      go_roundw
      case rel => exact ⟨i + 1, by omega, by go_num, by rw [hX.out]; exact ho5, ((hB.alloc hsz _).alloc (by simp; omega) _).grown hgr5 (by simp; omega) (fun k hk => (Own.out.lt k hk).1)⟩
      case measure => simp [intOf]; omega
    · obtain rfl : i = xs.length := by omega
      rw [List.take_length] at hown
      have Own := Lib.hid hown
      clear hown
      go_wp2
      go_ret
      exact ⟨_, rfl, Own.out, hB⟩

set_option maxHeartbeats 800000 in
set_option maxRecDepth 8000 in
theorem events_any (v : Value) (xs : List Ev) (w : World) (hx : xs.length ≤ 1000) (hr : Rd w 4 v xs.length (xs.flatMap Ev.cs)) :
    Calls Try.prog 38 #[v] w fun e w' => ∃ u, e = .returned u ∧ w'.ownsRow w.heap.size 93 4 u xs.length (xs.flatMap Ev.cs) ∧ Below w.heap.size w w' := by
  obtain ⟨va, vc, rfl⟩ := rd_slice hr
  go_enter Try.func38, Try.ntmps38
  go_wp2
  go_loopw [3, 5, 8] (fun u _ ix wr => ∃ i : Nat, i ≤ xs.length ∧ ix = .int .i64 (i : Int) ∧ wr.ownsRow w.heap.size 93 4 u i ((xs.take i).flatMap Ev.cs) ∧ Below w.heap.size w wr) (fun _ _ ix _ => xs.length - (intOf ix).toNat)
  case atStart => exact ⟨0, by omega, rfl, World.ownsRow_nil _ _ _ _, Below.refl _ _⟩
  case round =>
    rename World => wq
    obtain ⟨i, hi, rfl, hown, hB⟩ := hrel
    have hsz := hB.size
    by_cases hil : i < xs.length
    · obtain ⟨⟨n, q, o, s⟩, hxi⟩ : ∃ x, xs[i]? = some x := ⟨_, List.getElem?_eq_getElem hil⟩
      obtain ⟨b, off, rfl, hbb, d0, d1, d2, d3⟩ := ev_at (hr.keep hB) hxi
      have hX := Lib.hid (show (xs.take (i + 1)).flatMap Ev.cs = (xs.take i).flatMap Ev.cs ++ [.int .i64 n, .string q, .int .i64 o, .int .u64 s] by rw [List.take_add_one, hxi, List.flatMap_append]; simp [Ev.cs])
      have hlen : xs.length ≤ 9223372036854775807 := by omega
      simp only at d0 d1 d2 d3
      have Own := Lib.hid hown
      have Rk := Lib.hid (rd_blk (W := (wq.alloc (.cells #[.int .i64 n, .string q, .int .i64 o, .int .u64 s] 70)).alloc (.cells #[.int .i64 n, .string q, .int .i64 o, .int .u64 s] 93)) (k := wq.heap.size + 1) (n := 1) (size := 4) (cs := #[.int .i64 n, .string q, .int .i64 o, .int .u64 s]) (t := 93) (by rw [heap_alloc_at]; simp) rfl (by unfold maxLen; omega))
      clear hxi hown
      go_wp2_with (first | (at_builtin; refine wpList_app _ rfl _ _ 76 rfl w.heap.size 93 (.agg #[.int .i64 0, .string ⟨#[]⟩, .int .i64 0, .int .u64 0]) 4 40 Try.underlying76 info93 rfl (by decide) _ _ i 1 _ [.int .i64 n, .string q, .int .i64 o, .int .u64 s] rfl rfl ((Own.out.alloc _).alloc _) Rk.out (by simp [Value.oneCell']) (by omega) (by unfold maxLen; omega) (by simp; omega) ?_; intro v5 w5 ho5 hgr5))
      go_roundw
      case rel => exact ⟨i + 1, by omega, by go_num, by rw [hX.out]; exact ho5, ((hB.alloc hsz _).alloc (by simp; omega) _).grown hgr5 (by simp; omega) (fun k hk => (Own.out.lt k hk).1)⟩
      case measure => simp [intOf]; omega
    · obtain rfl : i = xs.length := by omega
      rw [List.take_length] at hown
      have Own := Lib.hid hown
      clear hown
      go_wp2
      go_ret
      exact ⟨_, rfl, Own.out, hB⟩
end Go.Proofs.Ytipdggjalhjpnab
