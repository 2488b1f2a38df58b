/-
  What the rows of the seal laws share besides.
-/
import Derived.Test.YtjinjlfocjohhaaDoorShare
import Derived.Test.YtjinjlfocjohhaaDoorSLaw1
namespace Go.Proofs.YtjinjlfocjohhaaDoor
open Go.ChangeShapes Go.WideShapes Go.ChangeAt Go.RowKit
set_option linter.unusedSimpArgs false
set_option linter.unusedVariables false

theorem bd_u32 {x : Int} (h : (Lit.int .u32 x).wf = true) : 0 ≤ x ∧ x ≤ 4294967295 := by simpa [Lit.wf, IntKind.min, IntKind.max, IntKind.signed, IntKind.bits] using h

theorem plain_bytes {H : Type} {enc : TypeId × Value → H} {W : World} {base : Nat} {v : Value} {d : DataW H} {p : List MemPlace}
    (hval : Value.okWide Tryd.prog W .any base 30 v) (h : DataW.Trod enc Tryd.prog W 0 (fun _ => true) true 30 v d p) : Plain v := by
  obtain ⟨a0, len, cap, rfl⟩ := okWide_slice Tryd.underlying30 hval
  obtain ⟨fuel, hf⟩ := h
  rcases open_ints Tryd.underlying30 Tryd.underlying5 cells5 hf with ⟨hcs, hx⟩ | ⟨a, len', cap', zs, hcs, _, hl, hm, hz, hx, hcell, hwz⟩
  · have e : (Value.slice a0 len cap) = .slice none 0 0 := by simpa [Value.cells] using hcs
    rw [e]
    intro a n c e2 hc
    simp at e2; omega
  · have e : (Value.slice a0 len cap) = .slice (some a) len' cap' := by simpa [Value.cells] using hcs
    rw [e]
    intro a2 n c e2 hc
    obtain ⟨rfl, rfl, rfl⟩ : some a = a2 ∧ len' = n ∧ cap' = c := by simpa using e2
    have hz' : zs.length = cap' := by simpa using hz
    have hc0 := hcell 0 (by omega)
    obtain ⟨b, off, sp⟩ := a
    cases sp with
    | none => exact ⟨b, off, rfl⟩
    | some s =>
      exfalso
      unfold World.cell? Addr.add at hc0
      split at hc0 <;> simp_all
end Go.Proofs.YtjinjlfocjohhaaDoor
