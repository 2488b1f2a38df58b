/-
  What the rows of this seat share: the table of widths, bytes that came in, results of one bool.
-/
import Derived.Test.YtjinjlfocjohhaaDoorRows
import Derived.Test.YtjinjlfocjohhaaDoorCards
import Derived.Test.YtjinjlfocjohhaaDoorTie
import Derived.Test.YtjinjlfocjohhaaDoorPuts
import Derived.ProofKit
import Derived.OpenShut
import Derived.SizedLaws
import Derived.Deep.DeepHandedRow
import Derived.Lib.LaidTab
import Derived.SevenTiedAt
namespace Go.Proofs.YtjinjlfocjohhaaDoor
open Go.ChangeShapes Go.WideShapes Go.ChangeAt Go.RowKit
set_option linter.unusedSimpArgs false
set_option linter.unusedVariables false

theorem own : ownKnob Tryd.prog.godebug = none := by kernel_rfl
theorem gTab : Tryd.prog.globalNamed "staith/word.widths" = some 0 := by kernel_rfl
theorem gTabType : (Tryd.prog.globals[0]?).map (·.type) = some 64 := by kernel_rfl
theorem cells64 : Tryd.prog.cellsOf 64 = 4 := by kernel_rfl
theorem cells3 : Tryd.prog.cellsOf 3 = 1 := by kernel_rfl
theorem cells5 : Tryd.prog.cellsOf 5 = 1 := by kernel_rfl
theorem laidOut : laidOutB Tryd.prog = true := by kernel_rfl

theorem wid_of_laid {W : World} (h : laidMetH Tryd.prog [("staith/word.widths", Rows.laid_staith_word_widths)] W) : Wid W := by
  have t : Lib.TabIs Tryd.prog W "staith/word.widths" .i64 [1, 2, 4, 8] := Lib.tabIs_of_head (rest := []) gTab gTabType Tryd.underlying64 Tryd.underlying3 cells3 cells64 h
  exact ⟨t.cell gTab 0 (by decide), t.cell gTab 1 (by decide), t.cell gTab 2 (by decide), t.cell gTab 3 (by decide)⟩

/-- A world for the witnesses: the settled one, the table holding what its initialiser lays. -/
noncomputable def laidWorld (os : Os) : World :=
  { World.holding Tryd.prog os ⟨#[], #[], []⟩ with heap := (World.holding Tryd.prog os ⟨#[], #[], []⟩).heap.modify 0 fun
      | .cells _ t frozen => .cells #[.int .i64 1, .int .i64 2, .int .i64 4, .int .i64 8] t frozen
      | o => o }

theorem bd_u16 {x : Int} (h : (Lit.int .u16 x).wf = true) : 0 ≤ x ∧ x ≤ 65535 := by simpa [Lit.wf, IntKind.min, IntKind.max, IntKind.signed, IntKind.bits] using h
theorem bd_u64 {x : Int} (h : (Lit.int .u64 x).wf = true) : 0 ≤ x ∧ x ≤ 18446744073709551615 := by simpa [Lit.wf, IntKind.min, IntKind.max, IntKind.signed, IntKind.bits] using h
theorem bd_i64 {x : Int} (h : (Lit.int .i64 x).wf = true) : -9223372036854775808 ≤ x ∧ x ≤ 9223372036854775807 := by simpa [Lit.wf, IntKind.min, IntKind.max, IntKind.signed, IntKind.bits] using h
theorem bd_u8 {x : Int} (h : (Lit.int .u8 x).wf = true) : 0 ≤ x ∧ x ≤ 255 := by simpa [Lit.wf, IntKind.min, IntKind.max, IntKind.signed, IntKind.bits] using h

/-- Bytes that came in. -/
theorem open_bytes {H : Type} {enc : TypeId × Value → H} {W : World} {base : Nat} {v : Value} {d : DataW H} {p : List MemPlace}
    (hval : Value.okWide Tryd.prog W .any base 30 v) (h : DataW.Trod enc Tryd.prog W 0 (fun _ => true) true 30 v d p)
    (hsz : ∀ elems spare, d = .slice elems spare → (elems.length + spare.length) * Tryd.prog.bytesOf 5 ≤ reachBytes) :
    ∃ xs : List Int, Rd W 1 v xs.length (by8 xs) ∧ Byt xs ∧ xs.length ≤ 140737488351232 := by
  obtain ⟨a0, len, cap, rfl⟩ := okWide_slice Tryd.underlying30 hval
  obtain ⟨fuel, hf⟩ := h
  rcases open_ints Tryd.underlying30 Tryd.underlying5 cells5 hf with ⟨hcs, hx⟩ | ⟨a, len', cap', zs, hcs, _, hl, hm, hz, hx, hcell, hwz⟩
  · have e : (Value.slice a0 len cap) = .slice none 0 0 := by simpa [Value.cells] using hcs
    rw [e]
    exact ⟨[], Rd.of_own (World.ownsRow_nil W 0 5 1), (by intro x hx; simp at hx), by simp⟩
  · have e : (Value.slice a0 len cap) = .slice (some a) len' cap' := by simpa [Value.cells] using hcs
    rw [e]
    have hz' : zs.length = cap' := by simpa using hz
    have hd := (Prod.mk.injEq _ _ _ _).mp hx
    have hs := hsz _ _ hd.1
    have hb5 : Tryd.prog.bytesOf 5 = 1 := by kernel_rfl
    rw [hb5] at hs
    have hs2 : zs.length ≤ reachBytes := by simp [lits] at hs; omega
    have hlen : (zs.take len').length = len' := by simp; omega
    refine ⟨zs.take len', ?_, fun x hx => bd_u8 (hwz x (List.mem_of_mem_take hx)), by rw [hlen]; unfold reachBytes at hs2; omega⟩
    rw [hlen]
    refine ⟨by simp [by8]; omega, some a, cap', rfl, hl, hm, (fun h => by cases h), fun hp => ?_⟩
    have hc0 := hcell 0 (by omega)
    have hsp : a.spot = none := by
      cases hsp : a.spot with
      | none => rfl
      | some s =>
        exfalso
        unfold World.cell? Addr.add at hc0
        split at hc0 <;> simp_all
    obtain ⟨b, off, sp⟩ := a
    obtain rfl : sp = none := hsp
    refine ⟨b, off, rfl, ?_, fun j u hj => ?_⟩
    · rw [Addr.add_lit] at hc0
      exact World.block_lt_of_cell? W _ hc0
    · have hjl : j < len' := by
        have := (List.getElem?_eq_some_iff.1 hj).1
        simp [by8] at this
        omega
      have := hcell j (by omega)
      rw [Addr.add_lit] at this
      rw [this]
      have hj2 : (by8 (zs.take len'))[j]? = some (.int .u8 (zs.getD j 0)) := by
        simp [by8, List.getElem?_take, hjl, List.getD, List.getElem?_eq_getElem (show j < zs.length by omega)]
      rw [hj2] at hj
      exact hj
end Go.Proofs.YtjinjlfocjohhaaDoor
