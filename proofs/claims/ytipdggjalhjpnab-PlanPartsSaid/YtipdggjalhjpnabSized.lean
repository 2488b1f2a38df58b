/-
  How long a list may be that came in: the form's own reach.
-/
import Derived.Test.YtipdggjalhjpnabShare
import Derived.SizedLaws
namespace Go.Proofs.Ytipdggjalhjpnab
open Go.ChangeShapes Go.WideShapes Go.ChangeAt Go.RowKit
set_option linter.unusedVariables false

theorem len_le {H : Type} {enc : TypeId × Value → H} {W : World} {ts : List TypeId} {ds : List (DataW H)} (hsz : (DataW.weightsEach Try.prog ts ds).all (· ≤ reachBytes) = true) {j : Nat} {t e : TypeId} {v : Value} {d : DataW H} {p : List MemPlace}
    (hj : ts[j]? = some t) (hd : ds[j]? = some d) (ht : Try.prog.underlying t = some (.slice e)) (hb : 1 ≤ Try.prog.bytesOf e) (h : DataW.Trod enc Try.prog W 0 (fun _ => true) true t v d p) {size n : Nat} {cs : List Value} (hr : Rd W size v n cs) : n ≤ 140737488355328 := by
  obtain ⟨_, a0, c0, rfl, _⟩ := hr
  obtain ⟨fuel, h⟩ := h
  rcases Deep.open_slice ht h with ⟨hcs, _⟩ | ⟨a, len, cap, m, n', D, Pl, hcs, hb', hl, hm, hmm, hx, _⟩
  · have : n = 0 := by
      have := hcs
      simp [Value.cells] at this
      omega
    omega
  · have e1 : n = len := by
      have := hcs
      simp [Value.cells] at this
      omega
    simp only [Prod.mk.injEq] at hx
    have := sized_slice hsz hj (by rw [hd, hx.1]) ht
    have h47 : reachBytes ≤ 140737488355328 := Nat.le_of_lt reachBytes_lt
    simp only [List.length_map, List.length_range] at this
    have h3 : n * 1 ≤ (len + (m - len)) * Try.prog.bytesOf e := Nat.mul_le_mul (by omega) hb
    omega
end Go.Proofs.Ytipdggjalhjpnab
