/-
  Rows of bytes that came in.
-/
import Derived.Test.YtjinjlfocjohhaaDoorShare2
import Derived.Deep.Matrix
namespace Go.Proofs.YtjinjlfocjohhaaDoor
open Go.ChangeShapes Go.WideShapes Go.ChangeAt Go.RowKit
set_option linter.unusedSimpArgs false
set_option linter.unusedVariables false

theorem weights_all {H : Type} {P : Program} {e : TypeId} : ∀ {ds : List (DataW H)} {d : DataW H}, d ∈ ds → ∀ n ∈ d.weights P e, n ∈ DataW.weightsAll P e ds
  | d0 :: ds, d, hd, n, hn => by
    simp only [DataW.weightsAll, List.mem_append]
    rcases List.mem_cons.1 hd with rfl | h
    · exact .inl hn
    · exact .inr (weights_all h n hn)
theorem sized_rows {H : Type} {P : Program} {ts : List TypeId} {ds : List (DataW H)} (h : (DataW.weightsEach P ts ds).all (· ≤ reachBytes) = true) {j : Nat} {t e q : TypeId} {elems spare : List (DataW H)} (ht : ts[j]? = some t) (hd : ds[j]? = some (.slice elems spare))
    (hu : P.underlying t = some (.slice e)) (hq : P.underlying e = some (.slice q)) :
    (elems.length + spare.length) * P.bytesOf e ≤ reachBytes ∧ ∀ es sp, .slice es sp ∈ elems → (es.length + sp.length) * P.bytesOf q ≤ reachBytes := by
  refine ⟨sized_slice h ht hd hu, fun es sp hm => ?_⟩
  have h2 : (es.length + sp.length) * P.bytesOf q ∈ DataW.weights P t (.slice elems spare) := by
    simp only [DataW.weights, hu, List.mem_cons, List.mem_append]
    right; left
    refine weights_all hm _ ?_
    simp [DataW.weights, hq]
  have := List.all_eq_true.1 h _ (DataW.weights_mem_each ht hd _ h2)
  simpa using this

theorem no_spot {w : World} {a : Addr} {v : Value} (hc0 : w.cell? (a.add 0) = some v) : a.spot = none := by
  cases hsp : a.spot with
  | none => rfl
  | some s =>
    exfalso
    unfold World.cell? Addr.add at hc0
    split at hc0 <;> simp_all

/-- Rows of bytes in memory. -/
def RdRows (w : World) (v : Value) (l : List (List Int)) : Prop :=
  ∃ cells : List Value, Rd w 1 v l.length cells ∧ cells.length = l.length ∧ ∀ (i : Nat) (c : Value) (x : List Int), cells[i]? = some c → l[i]? = some x → Rd w 1 c x.length (by8 x)
theorem RdRows.keep {w w' : World} {v : Value} {l : List (List Int)} (h : RdRows w v l) (hb : Below w.heap.size w w') : RdRows w' v l := by
  obtain ⟨cells, h1, h2, h3⟩ := h
  exact ⟨cells, h1.keep hb, h2, fun i c x hc hx => (h3 i c x hc hx).keep hb⟩

theorem open_rows {H : Type} {enc : TypeId × Value → H} {W : World} {base : Nat} {v : Value} {d : DataW H} {p : List MemPlace}
    (hval : Value.okWide Tryd.prog W .any base 55 v) (h : DataW.Trod enc Tryd.prog W 0 (fun _ => true) true 55 v d p)
    (hsz : ∀ elems spare, d = .slice elems spare → (elems.length + spare.length) * Tryd.prog.bytesOf 30 ≤ reachBytes ∧ ∀ es sp, .slice es sp ∈ elems → (es.length + sp.length) * Tryd.prog.bytesOf 5 ≤ reachBytes) :
    ∃ l : List (List Int), RdRows W v l ∧ (∀ x ∈ l, Byt x ∧ x.length ≤ 140737488351232) ∧ l.length ≤ 140737488351232 := by
  obtain ⟨a0, len, cap, rfl⟩ := okWide_slice Tryd.underlying55 hval
  obtain ⟨fuel, hf⟩ := h
  rcases Deep.open_int_rows Tryd.underlying55 Tryd.underlying30 Tryd.underlying5 (by kernel_rfl) cells5 hf with ⟨hcs, hx⟩ | ⟨a, len', cap', A, L, C, Z, hcs, _, hl, hm, hx, hr⟩
  · have e : (Value.slice a0 len cap) = .slice none 0 0 := by simpa [Value.cells] using hcs
    rw [e]
    exact ⟨[], ⟨[], Rd.of_own (World.ownsRow_nil W 0 30 1), rfl, fun i c x hc => by simp at hc⟩, (by simp), by simp⟩
  · have e : (Value.slice a0 len cap) = .slice (some a) len' cap' := by simpa [Value.cells] using hcs
    rw [e]
    have hd := (Prod.mk.injEq _ _ _ _).mp hx
    obtain ⟨hs, hsr⟩ := hsz _ _ hd.1
    have hb30 : Tryd.prog.bytesOf 30 = 24 := by kernel_rfl
    have hb5 : Tryd.prog.bytesOf 5 = 1 := by kernel_rfl
    rw [hb30] at hs
    have hs2 : len' ≤ reachBytes := by simp at hs; omega
    have hrow : ∀ r, r < len' → Rd W 1 (.slice (A r) (L r) (C r)) ((Z r).take (L r)).length (by8 ((Z r).take (L r))) ∧ Byt ((Z r).take (L r)) ∧ ((Z r).take (L r)).length ≤ 140737488351232 := by
      intro r hrl
      obtain ⟨hc, h1, h2, h3, h4, h5, h6⟩ := hr r (by omega)
      have hlen : ((Z r).take (L r)).length = L r := by simp; omega
      refine ⟨?_, fun x hx => bd_u8 (h4 x (List.mem_of_mem_take hx)), ?_⟩
      · rw [hlen]
        cases hA : A r with
        | none =>
          have h0 := h5 hA
          have hL : L r = 0 := by omega
          rw [h0, hL]
          exact Rd.of_own (World.ownsRow_nil W 0 5 1)
        | some a' =>
          refine ⟨by simp [by8]; omega, some a', C r, rfl, h1, h2, (fun h => by cases h), fun hp => ?_⟩
          have hcell := (h6 a' hA).2
          have hc0 := hcell 0 (by omega)
          have hsp := no_spot hc0
          obtain ⟨b, off, sp⟩ := a'
          obtain rfl : sp = none := hsp
          refine ⟨b, off, rfl, ?_, fun j u hj => ?_⟩
          · rw [Addr.add_lit] at hc0
            exact World.block_lt_of_cell? W _ hc0
          · have hjl : j < L r := by
              have := (List.getElem?_eq_some_iff.1 hj).1
              simp [by8] at this
              omega
            have := hcell j (by omega)
            rw [Addr.add_lit] at this
            rw [this]
            have hj2 : (by8 ((Z r).take (L r)))[j]? = some (.int .u8 ((Z r).getD j 0)) := by
              simp [by8, List.getElem?_take, hjl, List.getD, List.getElem?_eq_getElem (show j < (Z r).length by omega)]
            rw [hj2] at hj
            exact hj
      · cases hA : A r with
        | none =>
          have h0 := h5 hA
          rw [hlen]; omega
        | some a' =>
          have hmem : DataW.slice (lits .u8 ((Z r).take (L r))) (lits .u8 ((Z r).drop (L r))) ∈ (List.range len').map fun r => Deep.intRow (H := H) .u8 (A r) (L r) (Z r) := by
            refine List.mem_map.2 ⟨r, List.mem_range.2 hrl, ?_⟩
            simp only [Deep.intRow, hA]
          have := hsr _ _ hmem
          rw [hb5] at this
          unfold reachBytes at this
          simp [lits] at this
          rw [hlen]
          omega
    refine ⟨(List.range len').map fun r => (Z r).take (L r), ⟨(List.range len').map fun r => .slice (A r) (L r) (C r), ?_, by simp, fun i c x hc hx => ?_⟩, fun x hx => ?_, by simp; unfold reachBytes at hs2; omega⟩
    · rw [show ((List.range len').map fun r => (Z r).take (L r)).length = len' by simp]
      refine ⟨by simp, some a, cap', rfl, hl, hm, (fun h => by cases h), fun hp => ?_⟩
      have hc0 := (hr 0 (by omega)).1
      have hsp := no_spot hc0
      obtain ⟨b, off, sp⟩ := a
      obtain rfl : sp = none := hsp
      refine ⟨b, off, rfl, ?_, fun j u hj => ?_⟩
      · rw [Addr.add_lit] at hc0
        exact World.block_lt_of_cell? W _ hc0
      · have hjl : j < len' := by
          have := (List.getElem?_eq_some_iff.1 hj).1
          simpa using this
        have := (hr j (by omega)).1
        rw [Addr.add_lit] at this
        rw [this]
        simp [hjl] at hj
        simpa using hj
    · have hil : i < len' := by
        have := (List.getElem?_eq_some_iff.1 hc).1
        simpa using this
      simp [hil] at hc hx
      subst hc; subst hx
      exact (hrow i hil).1
    · obtain ⟨r, hr1, rfl⟩ := List.mem_map.1 hx
      exact (hrow r (List.mem_range.1 hr1)).2
end Go.Proofs.YtjinjlfocjohhaaDoor
