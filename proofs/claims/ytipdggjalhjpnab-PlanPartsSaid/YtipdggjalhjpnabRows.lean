/-
  No cell of these rows narrows 'for every input' (looked for: loops, veiled, ifaces, maps, wideKeys, modest, calm, conditions, laid).
  DERIVED. THE GIVEN ROWS OF THIS SEAT. 10 by the template 'for every input the law returns true; each argument reads behind the call as it read before'; 0 by the template 'total and deterministic' (their statements: YtipdggjalhjpnabTotals.lean).
  GIVEN WITH THE SEED: the statements are not yours to turn. If you find one false, say at which input.
  Laid BY PROGRAM, IN A SANDBOX (cutbox-rows.mjs): the forced cells as the released guide's own fill.sh prints them over the translation ad80adec27182a0b… (all of the seat's roots in one cut). By AI agents, Wed Nov 11 2026. No macro, syntax, notation, axiom, sorry.
-/
import Derived.Test.YtipdggjalhjpnabChecked
import GoSem.Claim
import GoSem.ClaimJoined
import GoSem.ClaimMapViews
import Derived.JoinedTies
import Derived.KernelRfl
namespace Go.Proofs.Ytipdggjalhjpnab
/- THE CELL 'sum', in the pinned program and in every row, IS THE sha256 OF THE DUMP (.gsa) THAT YtipdggjalhjpnabProg.lean LOADS. Nothing in Lean hashes anything: it is a label: what it is worth is what the hold of that sum in a sandbox is worth. -/
noncomputable def Try.pinned : Pinned := { name := "ytipdggjalhjpnab", sum := "ad80adec27182a0bacda7738bb17b1b4113d2503b11b9849b5e16551b926511d", checked := Try.checked }
namespace Rows
def none {H : Type} : Left H := { results := [], args := [] }

/-- 'staithlaw10.TopoTells': WHATEVER THE INPUT: true; the input reads as it did. -/
def topoTellsSpec : ChangeSpec := { name := "topoTells", fn := fun _ => fun
  | [d1, d2, d3] => { results := [.lit (.bool true)], args := [d1, d2, d3] }
  | _ => none }
def topoTellsRow : OpenClaim := { program := "ytipdggjalhjpnab", sum := "ad80adec27182a0bacda7738bb17b1b4113d2503b11b9849b5e16551b926511d", func := "staith/staithlaw10.TopoTells", spec := "topoTells", unfollowed := true, recurses := true, plainKeys := false, apart := false }
def TopoTellsSaid : Prop := topoTellsRow.holds Try.pinned (OpenSpec.ofChange topoTellsSpec)

/-- ITS FALSE NEIGHBOUR: 'it returns false'. Refute it at one input. -/
def topoTellsWrong : ChangeSpec := { name := "topoTells", fn := fun _ => fun
  | [d1, d2, d3] => { results := [.lit (.bool false)], args := [d1, d2, d3] }
  | _ => none }
def TopoTellsWrongFalsely : Prop := topoTellsRow.holds Try.pinned (OpenSpec.ofChange topoTellsWrong)

/-- 'staithlaw10.TopoWays': WHATEVER THE INPUT: true; the input reads as it did. -/
def topoWaysSpec : ChangeSpec := { name := "topoWays", fn := fun _ => fun
  | [d1, d2, d3] => { results := [.lit (.bool true)], args := [d1, d2, d3] }
  | _ => none }
def topoWaysRow : OpenClaim := { program := "ytipdggjalhjpnab", sum := "ad80adec27182a0bacda7738bb17b1b4113d2503b11b9849b5e16551b926511d", func := "staith/staithlaw10.TopoWays", spec := "topoWays", unfollowed := true, recurses := true, plainKeys := false, apart := false }
def TopoWaysSaid : Prop := topoWaysRow.holds Try.pinned (OpenSpec.ofChange topoWaysSpec)

/-- ITS FALSE NEIGHBOUR: 'it returns false'. Refute it at one input. -/
def topoWaysWrong : ChangeSpec := { name := "topoWays", fn := fun _ => fun
  | [d1, d2, d3] => { results := [.lit (.bool false)], args := [d1, d2, d3] }
  | _ => none }
def TopoWaysWrongFalsely : Prop := topoWaysRow.holds Try.pinned (OpenSpec.ofChange topoWaysWrong)

/-- 'staithlaw10.TopoFlows': WHATEVER THE INPUT: true; the input reads as it did. -/
def topoFlowsSpec : ChangeSpec := { name := "topoFlows", fn := fun _ => fun
  | [d1, d2] => { results := [.lit (.bool true)], args := [d1, d2] }
  | _ => none }
def topoFlowsRow : OpenClaim := { program := "ytipdggjalhjpnab", sum := "ad80adec27182a0bacda7738bb17b1b4113d2503b11b9849b5e16551b926511d", func := "staith/staithlaw10.TopoFlows", spec := "topoFlows", unfollowed := true, recurses := true, plainKeys := false, apart := false }
def TopoFlowsSaid : Prop := topoFlowsRow.holds Try.pinned (OpenSpec.ofChange topoFlowsSpec)

/-- ITS FALSE NEIGHBOUR: 'it returns false'. Refute it at one input. -/
def topoFlowsWrong : ChangeSpec := { name := "topoFlows", fn := fun _ => fun
  | [d1, d2] => { results := [.lit (.bool false)], args := [d1, d2] }
  | _ => none }
def TopoFlowsWrongFalsely : Prop := topoFlowsRow.holds Try.pinned (OpenSpec.ofChange topoFlowsWrong)

/-- 'staithlaw10.TopoTriangles': WHATEVER THE INPUT: true; the input reads as it did. -/
def topoTrianglesSpec : ChangeSpec := { name := "topoTriangles", fn := fun _ => fun
  | [d1, d2, d3] => { results := [.lit (.bool true)], args := [d1, d2, d3] }
  | _ => none }
def topoTrianglesRow : OpenClaim := { program := "ytipdggjalhjpnab", sum := "ad80adec27182a0bacda7738bb17b1b4113d2503b11b9849b5e16551b926511d", func := "staith/staithlaw10.TopoTriangles", spec := "topoTriangles", unfollowed := true, recurses := true, plainKeys := false, apart := false }
def TopoTrianglesSaid : Prop := topoTrianglesRow.holds Try.pinned (OpenSpec.ofChange topoTrianglesSpec)

/-- ITS FALSE NEIGHBOUR: 'it returns false'. Refute it at one input. -/
def topoTrianglesWrong : ChangeSpec := { name := "topoTriangles", fn := fun _ => fun
  | [d1, d2, d3] => { results := [.lit (.bool false)], args := [d1, d2, d3] }
  | _ => none }
def TopoTrianglesWrongFalsely : Prop := topoTrianglesRow.holds Try.pinned (OpenSpec.ofChange topoTrianglesWrong)

/-- 'staithlaw10.TopoRings': WHATEVER THE INPUT: true; the input reads as it did. -/
def topoRingsSpec : ChangeSpec := { name := "topoRings", fn := fun _ => fun
  | [d1, d2] => { results := [.lit (.bool true)], args := [d1, d2] }
  | _ => none }
def topoRingsRow : OpenClaim := { program := "ytipdggjalhjpnab", sum := "ad80adec27182a0bacda7738bb17b1b4113d2503b11b9849b5e16551b926511d", func := "staith/staithlaw10.TopoRings", spec := "topoRings", unfollowed := true, recurses := true, plainKeys := false, apart := false }
def TopoRingsSaid : Prop := topoRingsRow.holds Try.pinned (OpenSpec.ofChange topoRingsSpec)

/-- ITS FALSE NEIGHBOUR: 'it returns false'. Refute it at one input. -/
def topoRingsWrong : ChangeSpec := { name := "topoRings", fn := fun _ => fun
  | [d1, d2] => { results := [.lit (.bool false)], args := [d1, d2] }
  | _ => none }
def TopoRingsWrongFalsely : Prop := topoRingsRow.holds Try.pinned (OpenSpec.ofChange topoRingsWrong)

/-- 'staithlaw26.PlanLacks': WHATEVER THE INPUT: true; the input reads as it did. -/
def planLacksSpec : ChangeSpec := { name := "planLacks", fn := fun _ => fun
  | [d1, d2, d3] => { results := [.lit (.bool true)], args := [d1, d2, d3] }
  | _ => none }
def planLacksRow : OpenClaim := { program := "ytipdggjalhjpnab", sum := "ad80adec27182a0bacda7738bb17b1b4113d2503b11b9849b5e16551b926511d", func := "staith/staithlaw26.PlanLacks", spec := "planLacks", unfollowed := true, recurses := true, plainKeys := false, apart := false }
def PlanLacksSaid : Prop := planLacksRow.holds Try.pinned (OpenSpec.ofChange planLacksSpec)

/-- ITS FALSE NEIGHBOUR: 'it returns false'. Refute it at one input. -/
def planLacksWrong : ChangeSpec := { name := "planLacks", fn := fun _ => fun
  | [d1, d2, d3] => { results := [.lit (.bool false)], args := [d1, d2, d3] }
  | _ => none }
def PlanLacksWrongFalsely : Prop := planLacksRow.holds Try.pinned (OpenSpec.ofChange planLacksWrong)

/-- 'staithlaw26.PlanFills': WHATEVER THE INPUT: true; the input reads as it did. -/
def planFillsSpec : ChangeSpec := { name := "planFills", fn := fun _ => fun
  | [d1, d2, d3] => { results := [.lit (.bool true)], args := [d1, d2, d3] }
  | _ => none }
def planFillsRow : OpenClaim := { program := "ytipdggjalhjpnab", sum := "ad80adec27182a0bacda7738bb17b1b4113d2503b11b9849b5e16551b926511d", func := "staith/staithlaw26.PlanFills", spec := "planFills", unfollowed := true, recurses := true, plainKeys := false, apart := false }
def PlanFillsSaid : Prop := planFillsRow.holds Try.pinned (OpenSpec.ofChange planFillsSpec)

/-- ITS FALSE NEIGHBOUR: 'it returns false'. Refute it at one input. -/
def planFillsWrong : ChangeSpec := { name := "planFills", fn := fun _ => fun
  | [d1, d2, d3] => { results := [.lit (.bool false)], args := [d1, d2, d3] }
  | _ => none }
def PlanFillsWrongFalsely : Prop := planFillsRow.holds Try.pinned (OpenSpec.ofChange planFillsWrong)

/-- 'staithlaw26.PlanOwn': WHATEVER THE INPUT: true; the input reads as it did. -/
def planOwnSpec : ChangeSpec := { name := "planOwn", fn := fun _ => fun
  | [d1, d2] => { results := [.lit (.bool true)], args := [d1, d2] }
  | _ => none }
def planOwnRow : OpenClaim := { program := "ytipdggjalhjpnab", sum := "ad80adec27182a0bacda7738bb17b1b4113d2503b11b9849b5e16551b926511d", func := "staith/staithlaw26.PlanOwn", spec := "planOwn", unfollowed := true, recurses := true, plainKeys := false, apart := false }
def PlanOwnSaid : Prop := planOwnRow.holds Try.pinned (OpenSpec.ofChange planOwnSpec)

/-- ITS FALSE NEIGHBOUR: 'it returns false'. Refute it at one input. -/
def planOwnWrong : ChangeSpec := { name := "planOwn", fn := fun _ => fun
  | [d1, d2] => { results := [.lit (.bool false)], args := [d1, d2] }
  | _ => none }
def PlanOwnWrongFalsely : Prop := planOwnRow.holds Try.pinned (OpenSpec.ofChange planOwnWrong)

/-- 'staithlaw26.PlanChecks': WHATEVER THE INPUT: true; the input reads as it did. -/
def planChecksSpec : ChangeSpec := { name := "planChecks", fn := fun _ => fun
  | [d1, d2, d3] => { results := [.lit (.bool true)], args := [d1, d2, d3] }
  | _ => none }
def planChecksRow : OpenClaim := { program := "ytipdggjalhjpnab", sum := "ad80adec27182a0bacda7738bb17b1b4113d2503b11b9849b5e16551b926511d", func := "staith/staithlaw26.PlanChecks", spec := "planChecks", unfollowed := true, recurses := true, plainKeys := false, apart := false }
def PlanChecksSaid : Prop := planChecksRow.holds Try.pinned (OpenSpec.ofChange planChecksSpec)

/-- ITS FALSE NEIGHBOUR: 'it returns false'. Refute it at one input. -/
def planChecksWrong : ChangeSpec := { name := "planChecks", fn := fun _ => fun
  | [d1, d2, d3] => { results := [.lit (.bool false)], args := [d1, d2, d3] }
  | _ => none }
def PlanChecksWrongFalsely : Prop := planChecksRow.holds Try.pinned (OpenSpec.ofChange planChecksWrong)

/-- 'staithlaw26.PlanParts': WHATEVER THE INPUT: true; the input reads as it did. -/
def planPartsSpec : ChangeSpec := { name := "planParts", fn := fun _ => fun
  | [d1, d2, d3] => { results := [.lit (.bool true)], args := [d1, d2, d3] }
  | _ => none }
def planPartsRow : OpenClaim := { program := "ytipdggjalhjpnab", sum := "ad80adec27182a0bacda7738bb17b1b4113d2503b11b9849b5e16551b926511d", func := "staith/staithlaw26.PlanParts", spec := "planParts", unfollowed := true, recurses := true, plainKeys := false, apart := false }
def PlanPartsSaid : Prop := planPartsRow.holds Try.pinned (OpenSpec.ofChange planPartsSpec)

/-- ITS FALSE NEIGHBOUR: 'it returns false'. Refute it at one input. -/
def planPartsWrong : ChangeSpec := { name := "planParts", fn := fun _ => fun
  | [d1, d2, d3] => { results := [.lit (.bool false)], args := [d1, d2, d3] }
  | _ => none }
def PlanPartsWrongFalsely : Prop := planPartsRow.holds Try.pinned (OpenSpec.ofChange planPartsWrong)

/- THE SECOND FORM. 'bulk': how many values and letters a reading holds, each counted each time it is reached (what is shared counts as often as it is met; a slice's spare places count too). A statement '..UptoSaid' is the law's where the arguments, and the package variables that the reading takes, are together of bulk at most 1048576: NARROWER than '..Said'. Prove '..Said' where nothing that the law and all that it calls make is longer than what came in: it says more and counts as full. Else prove '..UptoSaid'. A law counts once. -/
mutual
def uptoBulk {H : Type} : DataW H → Nat
  | .lit (.string bytes) => bytes.length + 1
  | .lit _ => 1
  | .nil => 1
  | .ptr d => uptoBulk d + 1
  | .slice elems spare => uptoBulkAll elems + uptoBulkAll spare + 1
  | .agg parts => uptoBulkAll parts + 1
  | .iface _ d => uptoBulk d + 1
  | .map entries => uptoBulkEntries entries + 1
  | .held _ => 1
def uptoBulkAll {H : Type} : List (DataW H) → Nat
  | [] => 0
  | d :: r => uptoBulk d + uptoBulkAll r
def uptoBulkEntries {H : Type} : List (Lit × DataW H) → Nat
  | [] => 0
  | x :: r => uptoBulkEntry x + uptoBulkEntries r
def uptoBulkEntry {H : Type} : Lit × DataW H → Nat
  | (.string bytes, d) => bytes.length + uptoBulk d + 1
  | (_, d) => uptoBulk d + 1
 end
def uptoSmall : (H : Type) → List (DataW H) → Bool := fun _ ds => decide (uptoBulkAll ds ≤ 1048576)
def OpenSpec.upto (s : _root_.Go.ChangeSpec) : _root_.Go.OpenSpec := { _root_.Go.OpenSpec.ofChange s with cond := some uptoSmall }

/-- 'staithlaw10.TopoTells', WHERE WHAT IT READS IS OF BULK AT MOST 1048576: true; the input reads as it did. -/
def topoTellsUptoRow : OpenClaim := { program := "ytipdggjalhjpnab", sum := "ad80adec27182a0bacda7738bb17b1b4113d2503b11b9849b5e16551b926511d", func := "staith/staithlaw10.TopoTells", spec := "topoTells", unfollowed := true, recurses := true, plainKeys := false, apart := false, narrowed := true }
def TopoTellsUptoSaid : Prop := topoTellsUptoRow.holds Try.pinned (OpenSpec.upto topoTellsSpec)

/-- 'staithlaw10.TopoWays', WHERE WHAT IT READS IS OF BULK AT MOST 1048576: true; the input reads as it did. -/
def topoWaysUptoRow : OpenClaim := { program := "ytipdggjalhjpnab", sum := "ad80adec27182a0bacda7738bb17b1b4113d2503b11b9849b5e16551b926511d", func := "staith/staithlaw10.TopoWays", spec := "topoWays", unfollowed := true, recurses := true, plainKeys := false, apart := false, narrowed := true }
def TopoWaysUptoSaid : Prop := topoWaysUptoRow.holds Try.pinned (OpenSpec.upto topoWaysSpec)

/-- 'staithlaw10.TopoFlows', WHERE WHAT IT READS IS OF BULK AT MOST 1048576: true; the input reads as it did. -/
def topoFlowsUptoRow : OpenClaim := { program := "ytipdggjalhjpnab", sum := "ad80adec27182a0bacda7738bb17b1b4113d2503b11b9849b5e16551b926511d", func := "staith/staithlaw10.TopoFlows", spec := "topoFlows", unfollowed := true, recurses := true, plainKeys := false, apart := false, narrowed := true }
def TopoFlowsUptoSaid : Prop := topoFlowsUptoRow.holds Try.pinned (OpenSpec.upto topoFlowsSpec)

/-- 'staithlaw10.TopoTriangles', WHERE WHAT IT READS IS OF BULK AT MOST 1048576: true; the input reads as it did. -/
def topoTrianglesUptoRow : OpenClaim := { program := "ytipdggjalhjpnab", sum := "ad80adec27182a0bacda7738bb17b1b4113d2503b11b9849b5e16551b926511d", func := "staith/staithlaw10.TopoTriangles", spec := "topoTriangles", unfollowed := true, recurses := true, plainKeys := false, apart := false, narrowed := true }
def TopoTrianglesUptoSaid : Prop := topoTrianglesUptoRow.holds Try.pinned (OpenSpec.upto topoTrianglesSpec)

/-- 'staithlaw10.TopoRings', WHERE WHAT IT READS IS OF BULK AT MOST 1048576: true; the input reads as it did. -/
def topoRingsUptoRow : OpenClaim := { program := "ytipdggjalhjpnab", sum := "ad80adec27182a0bacda7738bb17b1b4113d2503b11b9849b5e16551b926511d", func := "staith/staithlaw10.TopoRings", spec := "topoRings", unfollowed := true, recurses := true, plainKeys := false, apart := false, narrowed := true }
def TopoRingsUptoSaid : Prop := topoRingsUptoRow.holds Try.pinned (OpenSpec.upto topoRingsSpec)

/-- 'staithlaw26.PlanLacks', WHERE WHAT IT READS IS OF BULK AT MOST 1048576: true; the input reads as it did. -/
def planLacksUptoRow : OpenClaim := { program := "ytipdggjalhjpnab", sum := "ad80adec27182a0bacda7738bb17b1b4113d2503b11b9849b5e16551b926511d", func := "staith/staithlaw26.PlanLacks", spec := "planLacks", unfollowed := true, recurses := true, plainKeys := false, apart := false, narrowed := true }
def PlanLacksUptoSaid : Prop := planLacksUptoRow.holds Try.pinned (OpenSpec.upto planLacksSpec)

/-- 'staithlaw26.PlanFills', WHERE WHAT IT READS IS OF BULK AT MOST 1048576: true; the input reads as it did. -/
def planFillsUptoRow : OpenClaim := { program := "ytipdggjalhjpnab", sum := "ad80adec27182a0bacda7738bb17b1b4113d2503b11b9849b5e16551b926511d", func := "staith/staithlaw26.PlanFills", spec := "planFills", unfollowed := true, recurses := true, plainKeys := false, apart := false, narrowed := true }
def PlanFillsUptoSaid : Prop := planFillsUptoRow.holds Try.pinned (OpenSpec.upto planFillsSpec)

/-- 'staithlaw26.PlanOwn', WHERE WHAT IT READS IS OF BULK AT MOST 1048576: true; the input reads as it did. -/
def planOwnUptoRow : OpenClaim := { program := "ytipdggjalhjpnab", sum := "ad80adec27182a0bacda7738bb17b1b4113d2503b11b9849b5e16551b926511d", func := "staith/staithlaw26.PlanOwn", spec := "planOwn", unfollowed := true, recurses := true, plainKeys := false, apart := false, narrowed := true }
def PlanOwnUptoSaid : Prop := planOwnUptoRow.holds Try.pinned (OpenSpec.upto planOwnSpec)

/-- 'staithlaw26.PlanChecks', WHERE WHAT IT READS IS OF BULK AT MOST 1048576: true; the input reads as it did. -/
def planChecksUptoRow : OpenClaim := { program := "ytipdggjalhjpnab", sum := "ad80adec27182a0bacda7738bb17b1b4113d2503b11b9849b5e16551b926511d", func := "staith/staithlaw26.PlanChecks", spec := "planChecks", unfollowed := true, recurses := true, plainKeys := false, apart := false, narrowed := true }
def PlanChecksUptoSaid : Prop := planChecksUptoRow.holds Try.pinned (OpenSpec.upto planChecksSpec)

/-- 'staithlaw26.PlanParts', WHERE WHAT IT READS IS OF BULK AT MOST 1048576: true; the input reads as it did. -/
def planPartsUptoRow : OpenClaim := { program := "ytipdggjalhjpnab", sum := "ad80adec27182a0bacda7738bb17b1b4113d2503b11b9849b5e16551b926511d", func := "staith/staithlaw26.PlanParts", spec := "planParts", unfollowed := true, recurses := true, plainKeys := false, apart := false, narrowed := true }
def PlanPartsUptoSaid : Prop := planPartsUptoRow.holds Try.pinned (OpenSpec.upto planPartsSpec)

end Rows
end Go.Proofs.Ytipdggjalhjpnab
