/-
  NARROWER THAN 'FOR EVERY INPUT', by the rows' own cells (each row's printed sentence says how): WordRounds: laid · WordSteps: laid · WordHalves: laid · WordCuts: laid · WordSigns: laid · WordBytes: laid · WordBack: laid · SealBytes: laid · SealOpens: laid · SealBack: laid · SealBursts: laid · SealRows: laid · SealApart: laid.
  DERIVED. THE GIVEN ROWS OF THIS SEAT. 13 by the template 'for every input the law returns true; each argument reads behind the call as it read before'; 0 by the template 'total and deterministic' (their statements: YtjinjlfocjohhaaDoorTotals.lean).
  GIVEN WITH THE SEED: the statements are not yours to turn. If you find one false, say at which input.
  Laid BY PROGRAM, IN A SANDBOX (cutbox-rows.mjs): the forced cells as the released guide's own fill.sh prints them over the translation 822006ce6b616103… (all of the seat's roots in one cut). By AI agents, Wed Nov 11 2026. No macro, syntax, notation, axiom, sorry.
-/
import Derived.Test.YtjinjlfocjohhaaDoorChecked
import GoSem.Claim
import GoSem.ClaimJoined
import GoSem.ClaimMapViews
import Derived.JoinedTies
import Derived.KernelRfl
namespace Go.Proofs.YtjinjlfocjohhaaDoor
/- THE CELL 'sum', in the pinned program and in every row, IS THE sha256 OF THE DUMP (.gsa) THAT YtjinjlfocjohhaaDoorProg.lean LOADS. Nothing in Lean hashes anything: it is a label: what it is worth is what the hold of that sum in a sandbox is worth. -/
noncomputable def Tryd.pinned : Pinned := { name := "ytjinjlfocjohhaadoor", sum := "822006ce6b616103d2eb1f2ccd956adb317c47bdc66f5a3a18ce554311522f39", checked := Tryd.checked }
namespace Rows
def none {H : Type} : Left H := { results := [], args := [] }

/- WHAT THE LISTED PACKAGE-LEVEL VARIABLES READ AS WHEN THE CALL BEGINS. Each datum BY PROGRAM (the guide's laid-datum.mjs) off the statement by which the dump's own 'gosem.cut.vars' lays the variable. In a bare row this is a premise. The card (YtjinjlfocjohhaaDoorCards.lean) ties it to the program's text. -/
def laid_staith_word_widths {H : Type} : DataW H := .agg [.lit (.int .i64 1), .lit (.int .i64 2), .lit (.int .i64 4), .lit (.int .i64 8)]

/-- 'staithlaw01.WordRounds': WHATEVER THE INPUT: true; the input reads as it did. -/
def wordRoundsSpec : ChangeSpec := { name := "wordRounds", fn := fun _ => fun
  | [d1, d2, d3] => { results := [.lit (.bool true)], args := [d1, d2, d3] }
  | _ => none }
def wordRoundsRow : OpenClaim := { program := "ytjinjlfocjohhaadoor", sum := "822006ce6b616103d2eb1f2ccd956adb317c47bdc66f5a3a18ce554311522f39", func := "staith/staithlaw01.WordRounds", spec := "wordRounds", named := ["staith/word.widths"], apart := false, laid := [("staith/word.widths", laid_staith_word_widths)] }
def WordRoundsSaid : Prop := wordRoundsRow.holds Tryd.pinned (OpenSpec.ofChange wordRoundsSpec)

/-- ITS FALSE NEIGHBOUR: 'it returns false'. Refute it at one input. -/
def wordRoundsWrong : ChangeSpec := { name := "wordRounds", fn := fun _ => fun
  | [d1, d2, d3] => { results := [.lit (.bool false)], args := [d1, d2, d3] }
  | _ => none }
def WordRoundsWrongFalsely : Prop := wordRoundsRow.holds Tryd.pinned (OpenSpec.ofChange wordRoundsWrong)

/-- 'staithlaw01.WordSteps': WHATEVER THE INPUT: true; the input reads as it did. -/
def wordStepsSpec : ChangeSpec := { name := "wordSteps", fn := fun _ => fun
  | [d1, d2, d3] => { results := [.lit (.bool true)], args := [d1, d2, d3] }
  | _ => none }
def wordStepsRow : OpenClaim := { program := "ytjinjlfocjohhaadoor", sum := "822006ce6b616103d2eb1f2ccd956adb317c47bdc66f5a3a18ce554311522f39", func := "staith/staithlaw01.WordSteps", spec := "wordSteps", named := ["staith/word.widths"], apart := false, laid := [("staith/word.widths", laid_staith_word_widths)] }
def WordStepsSaid : Prop := wordStepsRow.holds Tryd.pinned (OpenSpec.ofChange wordStepsSpec)

/-- ITS FALSE NEIGHBOUR: 'it returns false'. Refute it at one input. -/
def wordStepsWrong : ChangeSpec := { name := "wordSteps", fn := fun _ => fun
  | [d1, d2, d3] => { results := [.lit (.bool false)], args := [d1, d2, d3] }
  | _ => none }
def WordStepsWrongFalsely : Prop := wordStepsRow.holds Tryd.pinned (OpenSpec.ofChange wordStepsWrong)

/-- 'staithlaw01.WordHalves': WHATEVER THE INPUT: true; the input reads as it did. -/
def wordHalvesSpec : ChangeSpec := { name := "wordHalves", fn := fun _ => fun
  | [d1, d2, d3] => { results := [.lit (.bool true)], args := [d1, d2, d3] }
  | _ => none }
def wordHalvesRow : OpenClaim := { program := "ytjinjlfocjohhaadoor", sum := "822006ce6b616103d2eb1f2ccd956adb317c47bdc66f5a3a18ce554311522f39", func := "staith/staithlaw01.WordHalves", spec := "wordHalves", named := ["staith/word.widths"], apart := false, laid := [("staith/word.widths", laid_staith_word_widths)] }
def WordHalvesSaid : Prop := wordHalvesRow.holds Tryd.pinned (OpenSpec.ofChange wordHalvesSpec)

/-- ITS FALSE NEIGHBOUR: 'it returns false'. Refute it at one input. -/
def wordHalvesWrong : ChangeSpec := { name := "wordHalves", fn := fun _ => fun
  | [d1, d2, d3] => { results := [.lit (.bool false)], args := [d1, d2, d3] }
  | _ => none }
def WordHalvesWrongFalsely : Prop := wordHalvesRow.holds Tryd.pinned (OpenSpec.ofChange wordHalvesWrong)

/-- 'staithlaw01.WordCuts': WHATEVER THE INPUT: true; the input reads as it did. -/
def wordCutsSpec : ChangeSpec := { name := "wordCuts", fn := fun _ => fun
  | [d1, d2, d3] => { results := [.lit (.bool true)], args := [d1, d2, d3] }
  | _ => none }
def wordCutsRow : OpenClaim := { program := "ytjinjlfocjohhaadoor", sum := "822006ce6b616103d2eb1f2ccd956adb317c47bdc66f5a3a18ce554311522f39", func := "staith/staithlaw01.WordCuts", spec := "wordCuts", named := ["staith/word.widths"], apart := false, laid := [("staith/word.widths", laid_staith_word_widths)] }
def WordCutsSaid : Prop := wordCutsRow.holds Tryd.pinned (OpenSpec.ofChange wordCutsSpec)

/-- ITS FALSE NEIGHBOUR: 'it returns false'. Refute it at one input. -/
def wordCutsWrong : ChangeSpec := { name := "wordCuts", fn := fun _ => fun
  | [d1, d2, d3] => { results := [.lit (.bool false)], args := [d1, d2, d3] }
  | _ => none }
def WordCutsWrongFalsely : Prop := wordCutsRow.holds Tryd.pinned (OpenSpec.ofChange wordCutsWrong)

/-- 'staithlaw01.WordSigns': WHATEVER THE INPUT: true; the input reads as it did. -/
def wordSignsSpec : ChangeSpec := { name := "wordSigns", fn := fun _ => fun
  | [d1, d2] => { results := [.lit (.bool true)], args := [d1, d2] }
  | _ => none }
def wordSignsRow : OpenClaim := { program := "ytjinjlfocjohhaadoor", sum := "822006ce6b616103d2eb1f2ccd956adb317c47bdc66f5a3a18ce554311522f39", func := "staith/staithlaw01.WordSigns", spec := "wordSigns", named := ["staith/word.widths"], apart := false, laid := [("staith/word.widths", laid_staith_word_widths)] }
def WordSignsSaid : Prop := wordSignsRow.holds Tryd.pinned (OpenSpec.ofChange wordSignsSpec)

/-- ITS FALSE NEIGHBOUR: 'it returns false'. Refute it at one input. -/
def wordSignsWrong : ChangeSpec := { name := "wordSigns", fn := fun _ => fun
  | [d1, d2] => { results := [.lit (.bool false)], args := [d1, d2] }
  | _ => none }
def WordSignsWrongFalsely : Prop := wordSignsRow.holds Tryd.pinned (OpenSpec.ofChange wordSignsWrong)

/-- 'staithlaw01.WordBytes': WHATEVER THE INPUT: true; the input reads as it did. -/
def wordBytesSpec : ChangeSpec := { name := "wordBytes", fn := fun _ => fun
  | [d1, d2, d3] => { results := [.lit (.bool true)], args := [d1, d2, d3] }
  | _ => none }
def wordBytesRow : OpenClaim := { program := "ytjinjlfocjohhaadoor", sum := "822006ce6b616103d2eb1f2ccd956adb317c47bdc66f5a3a18ce554311522f39", func := "staith/staithlaw01.WordBytes", spec := "wordBytes", named := ["staith/word.widths"], apart := false, laid := [("staith/word.widths", laid_staith_word_widths)] }
def WordBytesSaid : Prop := wordBytesRow.holds Tryd.pinned (OpenSpec.ofChange wordBytesSpec)

/-- ITS FALSE NEIGHBOUR: 'it returns false'. Refute it at one input. -/
def wordBytesWrong : ChangeSpec := { name := "wordBytes", fn := fun _ => fun
  | [d1, d2, d3] => { results := [.lit (.bool false)], args := [d1, d2, d3] }
  | _ => none }
def WordBytesWrongFalsely : Prop := wordBytesRow.holds Tryd.pinned (OpenSpec.ofChange wordBytesWrong)

/-- 'staithlaw01.WordBack': WHATEVER THE INPUT: true; the input reads as it did. -/
def wordBackSpec : ChangeSpec := { name := "wordBack", fn := fun _ => fun
  | [d1, d2, d3] => { results := [.lit (.bool true)], args := [d1, d2, d3] }
  | _ => none }
def wordBackRow : OpenClaim := { program := "ytjinjlfocjohhaadoor", sum := "822006ce6b616103d2eb1f2ccd956adb317c47bdc66f5a3a18ce554311522f39", func := "staith/staithlaw01.WordBack", spec := "wordBack", named := ["staith/word.widths"], apart := false, laid := [("staith/word.widths", laid_staith_word_widths)] }
def WordBackSaid : Prop := wordBackRow.holds Tryd.pinned (OpenSpec.ofChange wordBackSpec)

/-- ITS FALSE NEIGHBOUR: 'it returns false'. Refute it at one input. -/
def wordBackWrong : ChangeSpec := { name := "wordBack", fn := fun _ => fun
  | [d1, d2, d3] => { results := [.lit (.bool false)], args := [d1, d2, d3] }
  | _ => none }
def WordBackWrongFalsely : Prop := wordBackRow.holds Tryd.pinned (OpenSpec.ofChange wordBackWrong)

/-- 'staithlaw03.SealBytes': WHATEVER THE INPUT: true; the input reads as it did. -/
def sealBytesSpec : ChangeSpec := { name := "sealBytes", fn := fun _ => fun
  | [d] => { results := [.lit (.bool true)], args := [d] }
  | _ => none }
def sealBytesRow : OpenClaim := { program := "ytjinjlfocjohhaadoor", sum := "822006ce6b616103d2eb1f2ccd956adb317c47bdc66f5a3a18ce554311522f39", func := "staith/staithlaw03.SealBytes", spec := "sealBytes", unfollowed := true, recurses := true, named := ["staith/word.widths"], apart := false, laid := [("staith/word.widths", laid_staith_word_widths)] }
def SealBytesSaid : Prop := sealBytesRow.holds Tryd.pinned (OpenSpec.ofChange sealBytesSpec)

/-- ITS FALSE NEIGHBOUR: 'it returns false'. Refute it at one input. -/
def sealBytesWrong : ChangeSpec := { name := "sealBytes", fn := fun _ => fun
  | [d] => { results := [.lit (.bool false)], args := [d] }
  | _ => none }
def SealBytesWrongFalsely : Prop := sealBytesRow.holds Tryd.pinned (OpenSpec.ofChange sealBytesWrong)

/-- 'staithlaw03.SealOpens': WHATEVER THE INPUT: true; the input reads as it did. -/
def sealOpensSpec : ChangeSpec := { name := "sealOpens", fn := fun _ => fun
  | [d] => { results := [.lit (.bool true)], args := [d] }
  | _ => none }
def sealOpensRow : OpenClaim := { program := "ytjinjlfocjohhaadoor", sum := "822006ce6b616103d2eb1f2ccd956adb317c47bdc66f5a3a18ce554311522f39", func := "staith/staithlaw03.SealOpens", spec := "sealOpens", unfollowed := true, recurses := true, named := ["staith/word.widths"], apart := false, laid := [("staith/word.widths", laid_staith_word_widths)] }
def SealOpensSaid : Prop := sealOpensRow.holds Tryd.pinned (OpenSpec.ofChange sealOpensSpec)

/-- ITS FALSE NEIGHBOUR: 'it returns false'. Refute it at one input. -/
def sealOpensWrong : ChangeSpec := { name := "sealOpens", fn := fun _ => fun
  | [d] => { results := [.lit (.bool false)], args := [d] }
  | _ => none }
def SealOpensWrongFalsely : Prop := sealOpensRow.holds Tryd.pinned (OpenSpec.ofChange sealOpensWrong)

/-- 'staithlaw03.SealBack': WHATEVER THE INPUT: true; the input reads as it did. -/
def sealBackSpec : ChangeSpec := { name := "sealBack", fn := fun _ => fun
  | [d1, d2, d3] => { results := [.lit (.bool true)], args := [d1, d2, d3] }
  | _ => none }
def sealBackRow : OpenClaim := { program := "ytjinjlfocjohhaadoor", sum := "822006ce6b616103d2eb1f2ccd956adb317c47bdc66f5a3a18ce554311522f39", func := "staith/staithlaw03.SealBack", spec := "sealBack", unfollowed := true, recurses := true, named := ["staith/word.widths"], apart := false, laid := [("staith/word.widths", laid_staith_word_widths)] }
def SealBackSaid : Prop := sealBackRow.holds Tryd.pinned (OpenSpec.ofChange sealBackSpec)

/-- ITS FALSE NEIGHBOUR: 'it returns false'. Refute it at one input. -/
def sealBackWrong : ChangeSpec := { name := "sealBack", fn := fun _ => fun
  | [d1, d2, d3] => { results := [.lit (.bool false)], args := [d1, d2, d3] }
  | _ => none }
def SealBackWrongFalsely : Prop := sealBackRow.holds Tryd.pinned (OpenSpec.ofChange sealBackWrong)

/-- 'staithlaw03.SealBursts': WHATEVER THE INPUT: true; the input reads as it did. -/
def sealBurstsSpec : ChangeSpec := { name := "sealBursts", fn := fun _ => fun
  | [d1, d2, d3] => { results := [.lit (.bool true)], args := [d1, d2, d3] }
  | _ => none }
def sealBurstsRow : OpenClaim := { program := "ytjinjlfocjohhaadoor", sum := "822006ce6b616103d2eb1f2ccd956adb317c47bdc66f5a3a18ce554311522f39", func := "staith/staithlaw03.SealBursts", spec := "sealBursts", unfollowed := true, recurses := true, named := ["staith/word.widths"], apart := false, laid := [("staith/word.widths", laid_staith_word_widths)] }
def SealBurstsSaid : Prop := sealBurstsRow.holds Tryd.pinned (OpenSpec.ofChange sealBurstsSpec)

/-- ITS FALSE NEIGHBOUR: 'it returns false'. Refute it at one input. -/
def sealBurstsWrong : ChangeSpec := { name := "sealBursts", fn := fun _ => fun
  | [d1, d2, d3] => { results := [.lit (.bool false)], args := [d1, d2, d3] }
  | _ => none }
def SealBurstsWrongFalsely : Prop := sealBurstsRow.holds Tryd.pinned (OpenSpec.ofChange sealBurstsWrong)

/-- 'staithlaw03.SealRows': WHATEVER THE INPUT: true; the input reads as it did. -/
def sealRowsSpec : ChangeSpec := { name := "sealRows", fn := fun _ => fun
  | [d1, d2] => { results := [.lit (.bool true)], args := [d1, d2] }
  | _ => none }
def sealRowsRow : OpenClaim := { program := "ytjinjlfocjohhaadoor", sum := "822006ce6b616103d2eb1f2ccd956adb317c47bdc66f5a3a18ce554311522f39", func := "staith/staithlaw03.SealRows", spec := "sealRows", unfollowed := true, recurses := true, named := ["staith/word.widths"], apart := false, laid := [("staith/word.widths", laid_staith_word_widths)] }
def SealRowsSaid : Prop := sealRowsRow.holds Tryd.pinned (OpenSpec.ofChange sealRowsSpec)

/-- ITS FALSE NEIGHBOUR: 'it returns false'. Refute it at one input. -/
def sealRowsWrong : ChangeSpec := { name := "sealRows", fn := fun _ => fun
  | [d1, d2] => { results := [.lit (.bool false)], args := [d1, d2] }
  | _ => none }
def SealRowsWrongFalsely : Prop := sealRowsRow.holds Tryd.pinned (OpenSpec.ofChange sealRowsWrong)

/-- 'staithlaw03.SealApart': WHATEVER THE INPUT: true; the input reads as it did. -/
def sealApartSpec : ChangeSpec := { name := "sealApart", fn := fun _ => fun
  | [d1, d2] => { results := [.lit (.bool true)], args := [d1, d2] }
  | _ => none }
def sealApartRow : OpenClaim := { program := "ytjinjlfocjohhaadoor", sum := "822006ce6b616103d2eb1f2ccd956adb317c47bdc66f5a3a18ce554311522f39", func := "staith/staithlaw03.SealApart", spec := "sealApart", unfollowed := true, recurses := true, named := ["staith/word.widths"], apart := false, laid := [("staith/word.widths", laid_staith_word_widths)] }
def SealApartSaid : Prop := sealApartRow.holds Tryd.pinned (OpenSpec.ofChange sealApartSpec)

/-- ITS FALSE NEIGHBOUR: 'it returns false'. Refute it at one input. -/
def sealApartWrong : ChangeSpec := { name := "sealApart", fn := fun _ => fun
  | [d1, d2] => { results := [.lit (.bool false)], args := [d1, d2] }
  | _ => none }
def SealApartWrongFalsely : Prop := sealApartRow.holds Tryd.pinned (OpenSpec.ofChange sealApartWrong)

/- THE SECOND FORM. 'bulk': how many values and letters a reading holds, each counted each time it is reached (what is shared counts as often as it is met; a slice's spare places count too). A statement '..UptoSaid' is the law's where the arguments, and the package variables that the reading takes, are together of bulk at most 1048576: NARROWER than '..Said'. Prove '..Said' where nothing that the law and all that it calls make is longer than what came in: it says more and counts as full. Else prove '..UptoSaid'. A law counts once. -/
mutual
def uptoBulk {H : Type} : DataW H → Nat
  | .lit (.string bytes) => bytes.length + 1
  | .lit _ => 1
  | .nil => 1
  | .ptr d => uptoBulk d + 1
  | .slice elems spare => uptoBulkAll elems + uptoBulkAll spare + 1
  | .agg parts => uptoBulkAll parts + 1
  | .iface _ d => uptoBulk d + 1
  | .map entries => uptoBulkEntries entries + 1
  | .held _ => 1
def uptoBulkAll {H : Type} : List (DataW H) → Nat
  | [] => 0
  | d :: r => uptoBulk d + uptoBulkAll r
def uptoBulkEntries {H : Type} : List (Lit × DataW H) → Nat
  | [] => 0
  | x :: r => uptoBulkEntry x + uptoBulkEntries r
def uptoBulkEntry {H : Type} : Lit × DataW H → Nat
  | (.string bytes, d) => bytes.length + uptoBulk d + 1
  | (_, d) => uptoBulk d + 1
 end
def uptoSmall : (H : Type) → List (DataW H) → Bool := fun _ ds => decide (uptoBulkAll ds ≤ 1048576)
def OpenSpec.upto (s : _root_.Go.ChangeSpec) : _root_.Go.OpenSpec := { _root_.Go.OpenSpec.ofChange s with cond := some uptoSmall }

/-- 'staithlaw01.WordRounds', WHERE WHAT IT READS IS OF BULK AT MOST 1048576: true; the input reads as it did. -/
def wordRoundsUptoRow : OpenClaim := { program := "ytjinjlfocjohhaadoor", sum := "822006ce6b616103d2eb1f2ccd956adb317c47bdc66f5a3a18ce554311522f39", func := "staith/staithlaw01.WordRounds", spec := "wordRounds", named := ["staith/word.widths"], apart := false, laid := [("staith/word.widths", laid_staith_word_widths)], narrowed := true }
def WordRoundsUptoSaid : Prop := wordRoundsUptoRow.holds Tryd.pinned (OpenSpec.upto wordRoundsSpec)

/-- 'staithlaw01.WordSteps', WHERE WHAT IT READS IS OF BULK AT MOST 1048576: true; the input reads as it did. -/
def wordStepsUptoRow : OpenClaim := { program := "ytjinjlfocjohhaadoor", sum := "822006ce6b616103d2eb1f2ccd956adb317c47bdc66f5a3a18ce554311522f39", func := "staith/staithlaw01.WordSteps", spec := "wordSteps", named := ["staith/word.widths"], apart := false, laid := [("staith/word.widths", laid_staith_word_widths)], narrowed := true }
def WordStepsUptoSaid : Prop := wordStepsUptoRow.holds Tryd.pinned (OpenSpec.upto wordStepsSpec)

/-- 'staithlaw01.WordHalves', WHERE WHAT IT READS IS OF BULK AT MOST 1048576: true; the input reads as it did. -/
def wordHalvesUptoRow : OpenClaim := { program := "ytjinjlfocjohhaadoor", sum := "822006ce6b616103d2eb1f2ccd956adb317c47bdc66f5a3a18ce554311522f39", func := "staith/staithlaw01.WordHalves", spec := "wordHalves", named := ["staith/word.widths"], apart := false, laid := [("staith/word.widths", laid_staith_word_widths)], narrowed := true }
def WordHalvesUptoSaid : Prop := wordHalvesUptoRow.holds Tryd.pinned (OpenSpec.upto wordHalvesSpec)

/-- 'staithlaw01.WordCuts', WHERE WHAT IT READS IS OF BULK AT MOST 1048576: true; the input reads as it did. -/
def wordCutsUptoRow : OpenClaim := { program := "ytjinjlfocjohhaadoor", sum := "822006ce6b616103d2eb1f2ccd956adb317c47bdc66f5a3a18ce554311522f39", func := "staith/staithlaw01.WordCuts", spec := "wordCuts", named := ["staith/word.widths"], apart := false, laid := [("staith/word.widths", laid_staith_word_widths)], narrowed := true }
def WordCutsUptoSaid : Prop := wordCutsUptoRow.holds Tryd.pinned (OpenSpec.upto wordCutsSpec)

/-- 'staithlaw01.WordSigns', WHERE WHAT IT READS IS OF BULK AT MOST 1048576: true; the input reads as it did. -/
def wordSignsUptoRow : OpenClaim := { program := "ytjinjlfocjohhaadoor", sum := "822006ce6b616103d2eb1f2ccd956adb317c47bdc66f5a3a18ce554311522f39", func := "staith/staithlaw01.WordSigns", spec := "wordSigns", named := ["staith/word.widths"], apart := false, laid := [("staith/word.widths", laid_staith_word_widths)], narrowed := true }
def WordSignsUptoSaid : Prop := wordSignsUptoRow.holds Tryd.pinned (OpenSpec.upto wordSignsSpec)

/-- 'staithlaw01.WordBytes', WHERE WHAT IT READS IS OF BULK AT MOST 1048576: true; the input reads as it did. -/
def wordBytesUptoRow : OpenClaim := { program := "ytjinjlfocjohhaadoor", sum := "822006ce6b616103d2eb1f2ccd956adb317c47bdc66f5a3a18ce554311522f39", func := "staith/staithlaw01.WordBytes", spec := "wordBytes", named := ["staith/word.widths"], apart := false, laid := [("staith/word.widths", laid_staith_word_widths)], narrowed := true }
def WordBytesUptoSaid : Prop := wordBytesUptoRow.holds Tryd.pinned (OpenSpec.upto wordBytesSpec)

/-- 'staithlaw01.WordBack', WHERE WHAT IT READS IS OF BULK AT MOST 1048576: true; the input reads as it did. -/
def wordBackUptoRow : OpenClaim := { program := "ytjinjlfocjohhaadoor", sum := "822006ce6b616103d2eb1f2ccd956adb317c47bdc66f5a3a18ce554311522f39", func := "staith/staithlaw01.WordBack", spec := "wordBack", named := ["staith/word.widths"], apart := false, laid := [("staith/word.widths", laid_staith_word_widths)], narrowed := true }
def WordBackUptoSaid : Prop := wordBackUptoRow.holds Tryd.pinned (OpenSpec.upto wordBackSpec)

/-- 'staithlaw03.SealBytes', WHERE WHAT IT READS IS OF BULK AT MOST 1048576: true; the input reads as it did. -/
def sealBytesUptoRow : OpenClaim := { program := "ytjinjlfocjohhaadoor", sum := "822006ce6b616103d2eb1f2ccd956adb317c47bdc66f5a3a18ce554311522f39", func := "staith/staithlaw03.SealBytes", spec := "sealBytes", unfollowed := true, recurses := true, named := ["staith/word.widths"], apart := false, laid := [("staith/word.widths", laid_staith_word_widths)], narrowed := true }
def SealBytesUptoSaid : Prop := sealBytesUptoRow.holds Tryd.pinned (OpenSpec.upto sealBytesSpec)

/-- 'staithlaw03.SealOpens', WHERE WHAT IT READS IS OF BULK AT MOST 1048576: true; the input reads as it did. -/
def sealOpensUptoRow : OpenClaim := { program := "ytjinjlfocjohhaadoor", sum := "822006ce6b616103d2eb1f2ccd956adb317c47bdc66f5a3a18ce554311522f39", func := "staith/staithlaw03.SealOpens", spec := "sealOpens", unfollowed := true, recurses := true, named := ["staith/word.widths"], apart := false, laid := [("staith/word.widths", laid_staith_word_widths)], narrowed := true }
def SealOpensUptoSaid : Prop := sealOpensUptoRow.holds Tryd.pinned (OpenSpec.upto sealOpensSpec)

/-- 'staithlaw03.SealBack', WHERE WHAT IT READS IS OF BULK AT MOST 1048576: true; the input reads as it did. -/
def sealBackUptoRow : OpenClaim := { program := "ytjinjlfocjohhaadoor", sum := "822006ce6b616103d2eb1f2ccd956adb317c47bdc66f5a3a18ce554311522f39", func := "staith/staithlaw03.SealBack", spec := "sealBack", unfollowed := true, recurses := true, named := ["staith/word.widths"], apart := false, laid := [("staith/word.widths", laid_staith_word_widths)], narrowed := true }
def SealBackUptoSaid : Prop := sealBackUptoRow.holds Tryd.pinned (OpenSpec.upto sealBackSpec)

/-- 'staithlaw03.SealBursts', WHERE WHAT IT READS IS OF BULK AT MOST 1048576: true; the input reads as it did. -/
def sealBurstsUptoRow : OpenClaim := { program := "ytjinjlfocjohhaadoor", sum := "822006ce6b616103d2eb1f2ccd956adb317c47bdc66f5a3a18ce554311522f39", func := "staith/staithlaw03.SealBursts", spec := "sealBursts", unfollowed := true, recurses := true, named := ["staith/word.widths"], apart := false, laid := [("staith/word.widths", laid_staith_word_widths)], narrowed := true }
def SealBurstsUptoSaid : Prop := sealBurstsUptoRow.holds Tryd.pinned (OpenSpec.upto sealBurstsSpec)

/-- 'staithlaw03.SealRows', WHERE WHAT IT READS IS OF BULK AT MOST 1048576: true; the input reads as it did. -/
def sealRowsUptoRow : OpenClaim := { program := "ytjinjlfocjohhaadoor", sum := "822006ce6b616103d2eb1f2ccd956adb317c47bdc66f5a3a18ce554311522f39", func := "staith/staithlaw03.SealRows", spec := "sealRows", unfollowed := true, recurses := true, named := ["staith/word.widths"], apart := false, laid := [("staith/word.widths", laid_staith_word_widths)], narrowed := true }
def SealRowsUptoSaid : Prop := sealRowsUptoRow.holds Tryd.pinned (OpenSpec.upto sealRowsSpec)

/-- 'staithlaw03.SealApart', WHERE WHAT IT READS IS OF BULK AT MOST 1048576: true; the input reads as it did. -/
def sealApartUptoRow : OpenClaim := { program := "ytjinjlfocjohhaadoor", sum := "822006ce6b616103d2eb1f2ccd956adb317c47bdc66f5a3a18ce554311522f39", func := "staith/staithlaw03.SealApart", spec := "sealApart", unfollowed := true, recurses := true, named := ["staith/word.widths"], apart := false, laid := [("staith/word.widths", laid_staith_word_widths)], narrowed := true }
def SealApartUptoSaid : Prop := sealApartUptoRow.holds Tryd.pinned (OpenSpec.upto sealApartSpec)

end Rows
end Go.Proofs.YtjinjlfocjohhaaDoor
