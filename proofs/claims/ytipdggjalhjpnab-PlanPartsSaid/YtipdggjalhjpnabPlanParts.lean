/-
  PlanParts: of any topology, any list of ids published and any list of events: the law answers true, and its arguments read as they did. No condition.
-/
import Derived.Test.YtipdggjalhjpnabShare
import Derived.Test.YtipdggjalhjpnabSized
import Derived.Test.YtipdggjalhjpnabPlanP
namespace Go.Proofs.Ytipdggjalhjpnab.planParts
open Go.ChangeShapes Go.WideShapes Go.ChangeAt Go.RowKit
set_option linter.unusedVariables false

set_option maxRecDepth 100000 in
theorem lifted (os : Os) (started : os.Started) (H : Type) (enc : TypeId × Value → H) :
    ReturnsInHanded {} Try.checked os 12 .any (Rows.planPartsSpec.pre6 enc Try.prog Try.f12 Rows.planPartsRow.domain false) (Rows.planPartsSpec.post enc Try.prog Try.f12 false true false false) := by
  refine returnsInHanded_of_change_sized (C := Try.checked) own started (by kernel_rfl) Try.func12
    (ChangeSpec.witness6 (enc := enc) (C := Try.checked) false ⟨#[], #[.agg #[.int .i64 0, .slice none 0 0, .int .i64 0], .slice none 0 0, .slice none 0 0], []⟩ 8 (by kernel_rfl) (by kernel_rfl) (by kernel_rfl) (by kernel_rfl)) ?_
  intro W base args ds gs before hval0 hW hcnd hsz _
  have hval : ∀ (j : Nat) t v, Try.f12.params[j]? = some t → args[j]? = some v → Value.okWide Try.prog W .any base t v := hval0
  have hW' := hW
  obtain ⟨p, q, hA0, hV, hbef, hfz, hnd⟩ := hW
  have hA : DataW.TrodAll enc Try.prog W 0 (fun _ => true) true Try.f12.params.toList args.toList ds p := hA0
  rw [Try.params12] at hA hval
  obtain ⟨v0, vs0, d0, ds0, p0, q0, hargs, rfl, hp, h0, r0⟩ := trodAll_cons hA
  obtain ⟨v1, vs1, d1, ds1, p1, q1, rfl, rfl, hp1, h1, r1⟩ := trodAll_cons r0
  obtain ⟨v2, vs2, d2, ds2, p2, q2, rfl, rfl, hp2, h2, r2⟩ := trodAll_cons r1
  obtain ⟨rfl, rfl, hpe⟩ := trodAll_nil r2
  obtain rfl : args = #[v0, v1, v2] := by cases args; simp_all
  obtain ⟨rfl, rfl⟩ := trodVars_none hV
  have hlt : ∀ x ∈ before, x.block < W.heap.size := hW'.lt
  have hlt0 : ∀ x ∈ p0, x.block < W.heap.size := fun x hx => hlt x (by rw [hbef, hp]; simp [hx])
  have hlt1 : ∀ x ∈ p1, x.block < W.heap.size := fun x hx => hlt x (by rw [hbef, hp, hp1]; simp [hx])
  have hlt2 : ∀ x ∈ p2, x.block < W.heap.size := fun x hx => hlt x (by rw [hbef, hp, hp1, hp2]; simp [hx])
  have k0 := h0
  obtain ⟨S0, H0, ev0, es0, rfl, hr0⟩ := open_top (hval 0 24 v0 rfl rfl) h0
  have k1 := h1
  obtain ⟨xs1, hr1, ok1⟩ := open_slice_of Pub.cs (fun _ => True) 3 (by omega) (fun _ => rfl) Try.underlying46 cells62' el_pub (hval 1 46 v1 rfl rfl) h1
  have L1 := len_le hsz (j := 1) (t := 46) (e := 62) rfl rfl Try.underlying46 (of_decide_eq_true (by kernel_rfl)) h1 hr1
  have k2 := h2
  obtain ⟨xs2, hr2, ok2⟩ := open_slice_of Ev.cs Ev.ok 4 (by omega) (fun _ => rfl) Try.underlying68 cells70' el_ev (hval 2 68 v2 rfl rfl) h2
  have L2 := len_le hsz (j := 2) (t := 68) (e := 70) rfl rfl Try.underlying68 (of_decide_eq_true (by kernel_rfl)) h2 hr2
  refine (planParts_any S0 H0 ev0 _ _ es0 xs1 xs2 W L1 L2 hr0 hr1 hr2).mono fun e W' ⟨he, hb⟩ => ?_
  subst he
  exact ⟨_, rfl, _, _, _, [], _, [], hW', trodAll_mk1 (shut_bool Try.underlying4 _), trodAll_cons_mk (Below.trod laidOut (by kernel_rfl) (of_decide_eq_true (by kernel_rfl)) k0 hb hlt0) (trodAll_cons_mk (Below.trod laidOut (by kernel_rfl) (of_decide_eq_true (by kernel_rfl)) k1 hb hlt1) (trodAll_cons_mk (Below.trod laidOut (by kernel_rfl) (of_decide_eq_true (by kernel_rfl)) k2 hb hlt2) (trodAll_mk0))), rfl, hb.frame _, fun h => by cases h⟩

theorem row_holds : Rows.PlanPartsSaid :=
  OpenClaim.holds_of_wide 12 Try.f12 rfl rfl rfl rfl rfl rfl rfl ⟨rfl, rfl, rfl, rfl, rfl⟩ rfl rfl rfl rfl rfl (by kernel_rfl) Try.func12 (by kernel_rfl)
    (of_decide_eq_true (by kernel_rfl)) (by unfold Func.isWrapper; first | (rw [if_pos (by decide +kernel)]; kernel_rfl) | (rw [if_neg (by decide +kernel)]; exact ⟨rfl, rfl⟩))
    (fun os started H enc _ => lifted os started H enc)
#print axioms row_holds
end Go.Proofs.Ytipdggjalhjpnab.planParts
