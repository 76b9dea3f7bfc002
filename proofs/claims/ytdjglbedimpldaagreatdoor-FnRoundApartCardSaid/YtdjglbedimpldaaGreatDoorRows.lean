/-
  NARROWER THAN 'FOR EVERY INPUT', by the rows' own cells (each row's printed sentence says how): FnStepPlan: laid · FnExactSessionRun: laid · FnRoundOrder: laid · FnRound: laid · FnRoundBegin: laid · FnRoundRefused: laid · FnRoundSync: laid · FnExactSessionNew: laid · FnRoundApart: laid · FnExactSessionStep: laid.
  DERIVED. THE GIVEN ROWS OF THIS SEAT. 10 by the template 'for every input the law returns true; each argument reads behind the call as it read before'; 0 by the template 'total and deterministic' (their statements: YtdjglbedimpldaaGreatDoorTotals.lean).
  GIVEN WITH THE SEED: the statements are not yours to turn. If you find one false, say at which input.
  Laid BY PROGRAM, IN A SANDBOX (cutbox-rows.mjs): the forced cells as the released guide's own fill.sh prints them over the translation 3b6697a60f9ec994… (all of the seat's roots in one cut). By AI agents, Wed Nov 11 2026. No macro, syntax, notation, axiom, sorry.
-/
import Derived.Test.YtdjglbedimpldaaGreatDoorChecked
import GoSem.PinnedTables
import GoSem.Claim
import GoSem.ClaimJoined
import GoSem.ClaimMapViews
import Derived.JoinedTies
import Derived.KernelRfl
namespace Go.Proofs.YtdjglbedimpldaaGreatDoor
/- THE CELL 'sum', in the pinned program and in every row, IS THE sha256 OF THE DUMP (.gsa) THAT YtdjglbedimpldaaGreatDoorProg.lean LOADS. Nothing in Lean hashes anything: it is a label: what it is worth is what the hold of that sum in a sandbox is worth. -/
noncomputable def Tryz.pinned : Pinned := { name := "ytdjglbedimpldaagreatdoor", sum := "3b6697a60f9ec9943f513563ca6c91ff1a7bf1d8da384b9907963bbdb74807ba", checked := Tryz.checked }
namespace Rows
def none {H : Type} : Left H := { results := [], args := [] }

/- WHAT THE LISTED PACKAGE-LEVEL VARIABLES READ AS WHEN THE CALL BEGINS. Each datum BY PROGRAM (the guide's laid-datum.mjs) off the statement by which the dump's own 'gosem.cut.vars' lays the variable. In a bare row this is a premise. The card (YtdjglbedimpldaaGreatDoorCards.lean) ties it to the program's text. -/
def laid_unicode_utf8_acceptRanges {H : Type} : DataW H := .agg [.agg [.lit (.int .u8 128), .lit (.int .u8 191)], .agg [.lit (.int .u8 160), .lit (.int .u8 191)], .agg [.lit (.int .u8 128), .lit (.int .u8 159)], .agg [.lit (.int .u8 144), .lit (.int .u8 191)], .agg [.lit (.int .u8 128), .lit (.int .u8 143)], .agg [.lit (.int .u8 0), .lit (.int .u8 0)], .agg [.lit (.int .u8 0), .lit (.int .u8 0)], .agg [.lit (.int .u8 0), .lit (.int .u8 0)], .agg [.lit (.int .u8 0), .lit (.int .u8 0)], .agg [.lit (.int .u8 0), .lit (.int .u8 0)], .agg [.lit (.int .u8 0), .lit (.int .u8 0)], .agg [.lit (.int .u8 0), .lit (.int .u8 0)], .agg [.lit (.int .u8 0), .lit (.int .u8 0)], .agg [.lit (.int .u8 0), .lit (.int .u8 0)], .agg [.lit (.int .u8 0), .lit (.int .u8 0)], .agg [.lit (.int .u8 0), .lit (.int .u8 0)]]
/-- One of Go's own tables, pinned by name: the form's constant. -/
def laid_unicode_utf8_first : DataW Unit := Go.Pinned.utf8First

/-- 'laws.FnStepPlan': WHATEVER THE INPUT: true; the input reads as it did. -/
def fnStepPlanSpec : ChangeSpec := { name := "fnStepPlan", fn := fun _ => fun
  | [d] => { results := [.lit (.bool true)], args := [d] }
  | _ => none }
def fnStepPlanRow : OpenClaim := { program := "ytdjglbedimpldaagreatdoor", sum := "3b6697a60f9ec9943f513563ca6c91ff1a7bf1d8da384b9907963bbdb74807ba", func := "loop.example/filereconciler/laws.FnStepPlan", spec := "fnStepPlan", inPlace := ["internal/bytealg.CountString", "internal/bytealg.IndexByteString", "internal/bytealg.IndexString", "slices.overlaps[loop.example/filereconciler/impl.Node]"], unfollowed := true, recurses := true, named := ["unicode/utf8.first", "unicode/utf8.acceptRanges", "internal/bytealg.MaxLen"], apart := false, laid := [("unicode/utf8.acceptRanges", laid_unicode_utf8_acceptRanges), ("unicode/utf8.first", laid_unicode_utf8_first)] }
def FnStepPlanSaid : Prop := fnStepPlanRow.holds Tryz.pinned (OpenSpec.ofChange fnStepPlanSpec)

/-- ITS FALSE NEIGHBOUR: 'it returns false'. Refute it at one input. -/
def fnStepPlanWrong : ChangeSpec := { name := "fnStepPlan", fn := fun _ => fun
  | [d] => { results := [.lit (.bool false)], args := [d] }
  | _ => none }
def FnStepPlanWrongFalsely : Prop := fnStepPlanRow.holds Tryz.pinned (OpenSpec.ofChange fnStepPlanWrong)

/-- 'laws.FnExactSessionRun': WHATEVER THE INPUT: true; the input reads as it did. -/
def fnExactSessionRunSpec : ChangeSpec := { name := "fnExactSessionRun", fn := fun _ => fun
  | [d1, d2] => { results := [.lit (.bool true)], args := [d1, d2] }
  | _ => none }
def fnExactSessionRunRow : OpenClaim := { program := "ytdjglbedimpldaagreatdoor", sum := "3b6697a60f9ec9943f513563ca6c91ff1a7bf1d8da384b9907963bbdb74807ba", func := "loop.example/filereconciler/laws.FnExactSessionRun", spec := "fnExactSessionRun", inPlace := ["internal/bytealg.CountString", "internal/bytealg.IndexByteString", "internal/bytealg.IndexString", "slices.overlaps[loop.example/filereconciler/impl.Node]"], unfollowed := true, recurses := true, named := ["unicode/utf8.first", "unicode/utf8.acceptRanges", "internal/bytealg.MaxLen"], apart := false, laid := [("unicode/utf8.acceptRanges", laid_unicode_utf8_acceptRanges), ("unicode/utf8.first", laid_unicode_utf8_first)] }
def FnExactSessionRunSaid : Prop := fnExactSessionRunRow.holds Tryz.pinned (OpenSpec.ofChange fnExactSessionRunSpec)

/-- ITS FALSE NEIGHBOUR: 'it returns false'. Refute it at one input. -/
def fnExactSessionRunWrong : ChangeSpec := { name := "fnExactSessionRun", fn := fun _ => fun
  | [d1, d2] => { results := [.lit (.bool false)], args := [d1, d2] }
  | _ => none }
def FnExactSessionRunWrongFalsely : Prop := fnExactSessionRunRow.holds Tryz.pinned (OpenSpec.ofChange fnExactSessionRunWrong)

/-- 'laws.FnRoundOrder': WHATEVER THE INPUT: true; the input reads as it did. -/
def fnRoundOrderSpec : ChangeSpec := { name := "fnRoundOrder", fn := fun _ => fun
  | [d1, d2] => { results := [.lit (.bool true)], args := [d1, d2] }
  | _ => none }
def fnRoundOrderRow : OpenClaim := { program := "ytdjglbedimpldaagreatdoor", sum := "3b6697a60f9ec9943f513563ca6c91ff1a7bf1d8da384b9907963bbdb74807ba", func := "loop.example/filereconciler/laws.FnRoundOrder", spec := "fnRoundOrder", inPlace := ["internal/bytealg.CountString", "internal/bytealg.IndexByteString", "internal/bytealg.IndexString", "slices.overlaps[loop.example/filereconciler/impl.Node]"], unfollowed := true, recurses := true, named := ["unicode/utf8.first", "unicode/utf8.acceptRanges", "internal/bytealg.MaxLen"], apart := false, laid := [("unicode/utf8.acceptRanges", laid_unicode_utf8_acceptRanges), ("unicode/utf8.first", laid_unicode_utf8_first)] }
def FnRoundOrderSaid : Prop := fnRoundOrderRow.holds Tryz.pinned (OpenSpec.ofChange fnRoundOrderSpec)

/-- ITS FALSE NEIGHBOUR: 'it returns false'. Refute it at one input. -/
def fnRoundOrderWrong : ChangeSpec := { name := "fnRoundOrder", fn := fun _ => fun
  | [d1, d2] => { results := [.lit (.bool false)], args := [d1, d2] }
  | _ => none }
def FnRoundOrderWrongFalsely : Prop := fnRoundOrderRow.holds Tryz.pinned (OpenSpec.ofChange fnRoundOrderWrong)

/-- 'laws.FnRound': WHATEVER THE INPUT: true; the input reads as it did. -/
def fnRoundSpec : ChangeSpec := { name := "fnRound", fn := fun _ => fun
  | [d] => { results := [.lit (.bool true)], args := [d] }
  | _ => none }
def fnRoundRow : OpenClaim := { program := "ytdjglbedimpldaagreatdoor", sum := "3b6697a60f9ec9943f513563ca6c91ff1a7bf1d8da384b9907963bbdb74807ba", func := "loop.example/filereconciler/laws.FnRound", spec := "fnRound", inPlace := ["internal/bytealg.CountString", "internal/bytealg.IndexByteString", "internal/bytealg.IndexString", "slices.overlaps[loop.example/filereconciler/impl.Node]"], unfollowed := true, recurses := true, named := ["unicode/utf8.first", "unicode/utf8.acceptRanges", "internal/bytealg.MaxLen"], apart := false, laid := [("unicode/utf8.acceptRanges", laid_unicode_utf8_acceptRanges), ("unicode/utf8.first", laid_unicode_utf8_first)] }
def FnRoundSaid : Prop := fnRoundRow.holds Tryz.pinned (OpenSpec.ofChange fnRoundSpec)

/-- ITS FALSE NEIGHBOUR: 'it returns false'. Refute it at one input. -/
def fnRoundWrong : ChangeSpec := { name := "fnRound", fn := fun _ => fun
  | [d] => { results := [.lit (.bool false)], args := [d] }
  | _ => none }
def FnRoundWrongFalsely : Prop := fnRoundRow.holds Tryz.pinned (OpenSpec.ofChange fnRoundWrong)

/-- 'laws.FnRoundBegin': WHATEVER THE INPUT: true; the input reads as it did. -/
def fnRoundBeginSpec : ChangeSpec := { name := "fnRoundBegin", fn := fun _ => fun
  | [d1, d2] => { results := [.lit (.bool true)], args := [d1, d2] }
  | _ => none }
def fnRoundBeginRow : OpenClaim := { program := "ytdjglbedimpldaagreatdoor", sum := "3b6697a60f9ec9943f513563ca6c91ff1a7bf1d8da384b9907963bbdb74807ba", func := "loop.example/filereconciler/laws.FnRoundBegin", spec := "fnRoundBegin", inPlace := ["internal/bytealg.CountString", "internal/bytealg.IndexByteString", "internal/bytealg.IndexString", "slices.overlaps[loop.example/filereconciler/impl.Node]"], unfollowed := true, recurses := true, named := ["unicode/utf8.first", "unicode/utf8.acceptRanges", "internal/bytealg.MaxLen"], apart := false, laid := [("unicode/utf8.acceptRanges", laid_unicode_utf8_acceptRanges), ("unicode/utf8.first", laid_unicode_utf8_first)] }
def FnRoundBeginSaid : Prop := fnRoundBeginRow.holds Tryz.pinned (OpenSpec.ofChange fnRoundBeginSpec)

/-- ITS FALSE NEIGHBOUR: 'it returns false'. Refute it at one input. -/
def fnRoundBeginWrong : ChangeSpec := { name := "fnRoundBegin", fn := fun _ => fun
  | [d1, d2] => { results := [.lit (.bool false)], args := [d1, d2] }
  | _ => none }
def FnRoundBeginWrongFalsely : Prop := fnRoundBeginRow.holds Tryz.pinned (OpenSpec.ofChange fnRoundBeginWrong)

/-- 'laws.FnRoundRefused': WHATEVER THE INPUT: true; the input reads as it did. -/
def fnRoundRefusedSpec : ChangeSpec := { name := "fnRoundRefused", fn := fun _ => fun
  | [d] => { results := [.lit (.bool true)], args := [d] }
  | _ => none }
def fnRoundRefusedRow : OpenClaim := { program := "ytdjglbedimpldaagreatdoor", sum := "3b6697a60f9ec9943f513563ca6c91ff1a7bf1d8da384b9907963bbdb74807ba", func := "loop.example/filereconciler/laws.FnRoundRefused", spec := "fnRoundRefused", inPlace := ["internal/bytealg.CountString", "internal/bytealg.IndexByteString", "internal/bytealg.IndexString", "slices.overlaps[loop.example/filereconciler/impl.Node]"], unfollowed := true, recurses := true, named := ["unicode/utf8.first", "unicode/utf8.acceptRanges", "internal/bytealg.MaxLen"], apart := false, laid := [("unicode/utf8.acceptRanges", laid_unicode_utf8_acceptRanges), ("unicode/utf8.first", laid_unicode_utf8_first)] }
def FnRoundRefusedSaid : Prop := fnRoundRefusedRow.holds Tryz.pinned (OpenSpec.ofChange fnRoundRefusedSpec)

/-- ITS FALSE NEIGHBOUR: 'it returns false'. Refute it at one input. -/
def fnRoundRefusedWrong : ChangeSpec := { name := "fnRoundRefused", fn := fun _ => fun
  | [d] => { results := [.lit (.bool false)], args := [d] }
  | _ => none }
def FnRoundRefusedWrongFalsely : Prop := fnRoundRefusedRow.holds Tryz.pinned (OpenSpec.ofChange fnRoundRefusedWrong)

/-- 'laws.FnRoundSync': WHATEVER THE INPUT: true; the input reads as it did. -/
def fnRoundSyncSpec : ChangeSpec := { name := "fnRoundSync", fn := fun _ => fun
  | [d] => { results := [.lit (.bool true)], args := [d] }
  | _ => none }
def fnRoundSyncRow : OpenClaim := { program := "ytdjglbedimpldaagreatdoor", sum := "3b6697a60f9ec9943f513563ca6c91ff1a7bf1d8da384b9907963bbdb74807ba", func := "loop.example/filereconciler/laws.FnRoundSync", spec := "fnRoundSync", inPlace := ["internal/bytealg.CountString", "internal/bytealg.IndexByteString", "internal/bytealg.IndexString", "slices.overlaps[loop.example/filereconciler/impl.Node]"], unfollowed := true, recurses := true, named := ["unicode/utf8.first", "unicode/utf8.acceptRanges", "internal/bytealg.MaxLen"], apart := false, laid := [("unicode/utf8.acceptRanges", laid_unicode_utf8_acceptRanges), ("unicode/utf8.first", laid_unicode_utf8_first)] }
def FnRoundSyncSaid : Prop := fnRoundSyncRow.holds Tryz.pinned (OpenSpec.ofChange fnRoundSyncSpec)

/-- ITS FALSE NEIGHBOUR: 'it returns false'. Refute it at one input. -/
def fnRoundSyncWrong : ChangeSpec := { name := "fnRoundSync", fn := fun _ => fun
  | [d] => { results := [.lit (.bool false)], args := [d] }
  | _ => none }
def FnRoundSyncWrongFalsely : Prop := fnRoundSyncRow.holds Tryz.pinned (OpenSpec.ofChange fnRoundSyncWrong)

/-- 'laws.FnExactSessionNew': WHATEVER THE INPUT: true; the input reads as it did. -/
def fnExactSessionNewSpec : ChangeSpec := { name := "fnExactSessionNew", fn := fun _ => fun
  | [d1, d2] => { results := [.lit (.bool true)], args := [d1, d2] }
  | _ => none }
def fnExactSessionNewRow : OpenClaim := { program := "ytdjglbedimpldaagreatdoor", sum := "3b6697a60f9ec9943f513563ca6c91ff1a7bf1d8da384b9907963bbdb74807ba", func := "loop.example/filereconciler/laws.FnExactSessionNew", spec := "fnExactSessionNew", inPlace := ["internal/bytealg.CountString", "internal/bytealg.IndexByteString", "internal/bytealg.IndexString", "slices.overlaps[loop.example/filereconciler/impl.Node]"], unfollowed := true, recurses := true, named := ["unicode/utf8.first", "unicode/utf8.acceptRanges", "internal/bytealg.MaxLen"], apart := false, laid := [("unicode/utf8.acceptRanges", laid_unicode_utf8_acceptRanges), ("unicode/utf8.first", laid_unicode_utf8_first)] }
def FnExactSessionNewSaid : Prop := fnExactSessionNewRow.holds Tryz.pinned (OpenSpec.ofChange fnExactSessionNewSpec)

/-- ITS FALSE NEIGHBOUR: 'it returns false'. Refute it at one input. -/
def fnExactSessionNewWrong : ChangeSpec := { name := "fnExactSessionNew", fn := fun _ => fun
  | [d1, d2] => { results := [.lit (.bool false)], args := [d1, d2] }
  | _ => none }
def FnExactSessionNewWrongFalsely : Prop := fnExactSessionNewRow.holds Tryz.pinned (OpenSpec.ofChange fnExactSessionNewWrong)

/-- 'laws.FnRoundApart': WHATEVER THE INPUT: true; the input reads as it did. -/
def fnRoundApartSpec : ChangeSpec := { name := "fnRoundApart", fn := fun _ => fun
  | [d] => { results := [.lit (.bool true)], args := [d] }
  | _ => none }
def fnRoundApartRow : OpenClaim := { program := "ytdjglbedimpldaagreatdoor", sum := "3b6697a60f9ec9943f513563ca6c91ff1a7bf1d8da384b9907963bbdb74807ba", func := "loop.example/filereconciler/laws.FnRoundApart", spec := "fnRoundApart", inPlace := ["internal/bytealg.CountString", "internal/bytealg.IndexByteString", "internal/bytealg.IndexString", "slices.overlaps[loop.example/filereconciler/impl.Node]"], unfollowed := true, recurses := true, named := ["unicode/utf8.first", "unicode/utf8.acceptRanges", "internal/bytealg.MaxLen"], apart := false, laid := [("unicode/utf8.acceptRanges", laid_unicode_utf8_acceptRanges), ("unicode/utf8.first", laid_unicode_utf8_first)] }
def FnRoundApartSaid : Prop := fnRoundApartRow.holds Tryz.pinned (OpenSpec.ofChange fnRoundApartSpec)

/-- ITS FALSE NEIGHBOUR: 'it returns false'. Refute it at one input. -/
def fnRoundApartWrong : ChangeSpec := { name := "fnRoundApart", fn := fun _ => fun
  | [d] => { results := [.lit (.bool false)], args := [d] }
  | _ => none }
def FnRoundApartWrongFalsely : Prop := fnRoundApartRow.holds Tryz.pinned (OpenSpec.ofChange fnRoundApartWrong)

/-- 'laws.FnExactSessionStep': WHATEVER THE INPUT: true; the input reads as it did. -/
def fnExactSessionStepSpec : ChangeSpec := { name := "fnExactSessionStep", fn := fun _ => fun
  | [d] => { results := [.lit (.bool true)], args := [d] }
  | _ => none }
def fnExactSessionStepRow : OpenClaim := { program := "ytdjglbedimpldaagreatdoor", sum := "3b6697a60f9ec9943f513563ca6c91ff1a7bf1d8da384b9907963bbdb74807ba", func := "loop.example/filereconciler/laws.FnExactSessionStep", spec := "fnExactSessionStep", inPlace := ["internal/bytealg.CountString", "internal/bytealg.IndexByteString", "internal/bytealg.IndexString", "slices.overlaps[loop.example/filereconciler/impl.Node]"], unfollowed := true, recurses := true, named := ["unicode/utf8.first", "unicode/utf8.acceptRanges", "internal/bytealg.MaxLen"], apart := false, laid := [("unicode/utf8.acceptRanges", laid_unicode_utf8_acceptRanges), ("unicode/utf8.first", laid_unicode_utf8_first)] }
def FnExactSessionStepSaid : Prop := fnExactSessionStepRow.holds Tryz.pinned (OpenSpec.ofChange fnExactSessionStepSpec)

/-- ITS FALSE NEIGHBOUR: 'it returns false'. Refute it at one input. -/
def fnExactSessionStepWrong : ChangeSpec := { name := "fnExactSessionStep", fn := fun _ => fun
  | [d] => { results := [.lit (.bool false)], args := [d] }
  | _ => none }
def FnExactSessionStepWrongFalsely : Prop := fnExactSessionStepRow.holds Tryz.pinned (OpenSpec.ofChange fnExactSessionStepWrong)

/- THE SECOND FORM. 'bulk': how many values and letters a reading holds, each counted each time it is reached (what is shared counts as often as it is met; a slice's spare places count too). A statement '..UptoSaid' is the law's where the arguments, and the package variables that the reading takes, are together of bulk at most 1048576: NARROWER than '..Said'. Prove '..Said' where nothing that the law and all that it calls make is longer than what came in: it says more and counts as full. Else prove '..UptoSaid'. A law counts once. -/
mutual
def uptoBulk {H : Type} : DataW H → Nat
  | .lit (.string bytes) => bytes.length + 1
  | .lit _ => 1
  | .nil => 1
  | .ptr d => uptoBulk d + 1
  | .slice elems spare => uptoBulkAll elems + uptoBulkAll spare + 1
  | .agg parts => uptoBulkAll parts + 1
  | .iface _ d => uptoBulk d + 1
  | .map entries => uptoBulkEntries entries + 1
  | .held _ => 1
def uptoBulkAll {H : Type} : List (DataW H) → Nat
  | [] => 0
  | d :: r => uptoBulk d + uptoBulkAll r
def uptoBulkEntries {H : Type} : List (Lit × DataW H) → Nat
  | [] => 0
  | x :: r => uptoBulkEntry x + uptoBulkEntries r
def uptoBulkEntry {H : Type} : Lit × DataW H → Nat
  | (.string bytes, d) => bytes.length + uptoBulk d + 1
  | (_, d) => uptoBulk d + 1
 end
def uptoSmall : (H : Type) → List (DataW H) → Bool := fun _ ds => decide (uptoBulkAll ds ≤ 1048576)
def OpenSpec.upto (s : _root_.Go.ChangeSpec) : _root_.Go.OpenSpec := { _root_.Go.OpenSpec.ofChange s with cond := some uptoSmall }

/-- 'laws.FnStepPlan', WHERE WHAT IT READS IS OF BULK AT MOST 1048576: true; the input reads as it did. -/
def fnStepPlanUptoRow : OpenClaim := { program := "ytdjglbedimpldaagreatdoor", sum := "3b6697a60f9ec9943f513563ca6c91ff1a7bf1d8da384b9907963bbdb74807ba", func := "loop.example/filereconciler/laws.FnStepPlan", spec := "fnStepPlan", inPlace := ["internal/bytealg.CountString", "internal/bytealg.IndexByteString", "internal/bytealg.IndexString", "slices.overlaps[loop.example/filereconciler/impl.Node]"], unfollowed := true, recurses := true, named := ["unicode/utf8.first", "unicode/utf8.acceptRanges", "internal/bytealg.MaxLen"], apart := false, laid := [("unicode/utf8.acceptRanges", laid_unicode_utf8_acceptRanges), ("unicode/utf8.first", laid_unicode_utf8_first)], narrowed := true }
def FnStepPlanUptoSaid : Prop := fnStepPlanUptoRow.holds Tryz.pinned (OpenSpec.upto fnStepPlanSpec)

/-- 'laws.FnExactSessionRun', WHERE WHAT IT READS IS OF BULK AT MOST 1048576: true; the input reads as it did. -/
def fnExactSessionRunUptoRow : OpenClaim := { program := "ytdjglbedimpldaagreatdoor", sum := "3b6697a60f9ec9943f513563ca6c91ff1a7bf1d8da384b9907963bbdb74807ba", func := "loop.example/filereconciler/laws.FnExactSessionRun", spec := "fnExactSessionRun", inPlace := ["internal/bytealg.CountString", "internal/bytealg.IndexByteString", "internal/bytealg.IndexString", "slices.overlaps[loop.example/filereconciler/impl.Node]"], unfollowed := true, recurses := true, named := ["unicode/utf8.first", "unicode/utf8.acceptRanges", "internal/bytealg.MaxLen"], apart := false, laid := [("unicode/utf8.acceptRanges", laid_unicode_utf8_acceptRanges), ("unicode/utf8.first", laid_unicode_utf8_first)], narrowed := true }
def FnExactSessionRunUptoSaid : Prop := fnExactSessionRunUptoRow.holds Tryz.pinned (OpenSpec.upto fnExactSessionRunSpec)

/-- 'laws.FnRoundOrder', WHERE WHAT IT READS IS OF BULK AT MOST 1048576: true; the input reads as it did. -/
def fnRoundOrderUptoRow : OpenClaim := { program := "ytdjglbedimpldaagreatdoor", sum := "3b6697a60f9ec9943f513563ca6c91ff1a7bf1d8da384b9907963bbdb74807ba", func := "loop.example/filereconciler/laws.FnRoundOrder", spec := "fnRoundOrder", inPlace := ["internal/bytealg.CountString", "internal/bytealg.IndexByteString", "internal/bytealg.IndexString", "slices.overlaps[loop.example/filereconciler/impl.Node]"], unfollowed := true, recurses := true, named := ["unicode/utf8.first", "unicode/utf8.acceptRanges", "internal/bytealg.MaxLen"], apart := false, laid := [("unicode/utf8.acceptRanges", laid_unicode_utf8_acceptRanges), ("unicode/utf8.first", laid_unicode_utf8_first)], narrowed := true }
def FnRoundOrderUptoSaid : Prop := fnRoundOrderUptoRow.holds Tryz.pinned (OpenSpec.upto fnRoundOrderSpec)

/-- 'laws.FnRound', WHERE WHAT IT READS IS OF BULK AT MOST 1048576: true; the input reads as it did. -/
def fnRoundUptoRow : OpenClaim := { program := "ytdjglbedimpldaagreatdoor", sum := "3b6697a60f9ec9943f513563ca6c91ff1a7bf1d8da384b9907963bbdb74807ba", func := "loop.example/filereconciler/laws.FnRound", spec := "fnRound", inPlace := ["internal/bytealg.CountString", "internal/bytealg.IndexByteString", "internal/bytealg.IndexString", "slices.overlaps[loop.example/filereconciler/impl.Node]"], unfollowed := true, recurses := true, named := ["unicode/utf8.first", "unicode/utf8.acceptRanges", "internal/bytealg.MaxLen"], apart := false, laid := [("unicode/utf8.acceptRanges", laid_unicode_utf8_acceptRanges), ("unicode/utf8.first", laid_unicode_utf8_first)], narrowed := true }
def FnRoundUptoSaid : Prop := fnRoundUptoRow.holds Tryz.pinned (OpenSpec.upto fnRoundSpec)

/-- 'laws.FnRoundBegin', WHERE WHAT IT READS IS OF BULK AT MOST 1048576: true; the input reads as it did. -/
def fnRoundBeginUptoRow : OpenClaim := { program := "ytdjglbedimpldaagreatdoor", sum := "3b6697a60f9ec9943f513563ca6c91ff1a7bf1d8da384b9907963bbdb74807ba", func := "loop.example/filereconciler/laws.FnRoundBegin", spec := "fnRoundBegin", inPlace := ["internal/bytealg.CountString", "internal/bytealg.IndexByteString", "internal/bytealg.IndexString", "slices.overlaps[loop.example/filereconciler/impl.Node]"], unfollowed := true, recurses := true, named := ["unicode/utf8.first", "unicode/utf8.acceptRanges", "internal/bytealg.MaxLen"], apart := false, laid := [("unicode/utf8.acceptRanges", laid_unicode_utf8_acceptRanges), ("unicode/utf8.first", laid_unicode_utf8_first)], narrowed := true }
def FnRoundBeginUptoSaid : Prop := fnRoundBeginUptoRow.holds Tryz.pinned (OpenSpec.upto fnRoundBeginSpec)

/-- 'laws.FnRoundRefused', WHERE WHAT IT READS IS OF BULK AT MOST 1048576: true; the input reads as it did. -/
def fnRoundRefusedUptoRow : OpenClaim := { program := "ytdjglbedimpldaagreatdoor", sum := "3b6697a60f9ec9943f513563ca6c91ff1a7bf1d8da384b9907963bbdb74807ba", func := "loop.example/filereconciler/laws.FnRoundRefused", spec := "fnRoundRefused", inPlace := ["internal/bytealg.CountString", "internal/bytealg.IndexByteString", "internal/bytealg.IndexString", "slices.overlaps[loop.example/filereconciler/impl.Node]"], unfollowed := true, recurses := true, named := ["unicode/utf8.first", "unicode/utf8.acceptRanges", "internal/bytealg.MaxLen"], apart := false, laid := [("unicode/utf8.acceptRanges", laid_unicode_utf8_acceptRanges), ("unicode/utf8.first", laid_unicode_utf8_first)], narrowed := true }
def FnRoundRefusedUptoSaid : Prop := fnRoundRefusedUptoRow.holds Tryz.pinned (OpenSpec.upto fnRoundRefusedSpec)

/-- 'laws.FnRoundSync', WHERE WHAT IT READS IS OF BULK AT MOST 1048576: true; the input reads as it did. -/
def fnRoundSyncUptoRow : OpenClaim := { program := "ytdjglbedimpldaagreatdoor", sum := "3b6697a60f9ec9943f513563ca6c91ff1a7bf1d8da384b9907963bbdb74807ba", func := "loop.example/filereconciler/laws.FnRoundSync", spec := "fnRoundSync", inPlace := ["internal/bytealg.CountString", "internal/bytealg.IndexByteString", "internal/bytealg.IndexString", "slices.overlaps[loop.example/filereconciler/impl.Node]"], unfollowed := true, recurses := true, named := ["unicode/utf8.first", "unicode/utf8.acceptRanges", "internal/bytealg.MaxLen"], apart := false, laid := [("unicode/utf8.acceptRanges", laid_unicode_utf8_acceptRanges), ("unicode/utf8.first", laid_unicode_utf8_first)], narrowed := true }
def FnRoundSyncUptoSaid : Prop := fnRoundSyncUptoRow.holds Tryz.pinned (OpenSpec.upto fnRoundSyncSpec)

/-- 'laws.FnExactSessionNew', WHERE WHAT IT READS IS OF BULK AT MOST 1048576: true; the input reads as it did. -/
def fnExactSessionNewUptoRow : OpenClaim := { program := "ytdjglbedimpldaagreatdoor", sum := "3b6697a60f9ec9943f513563ca6c91ff1a7bf1d8da384b9907963bbdb74807ba", func := "loop.example/filereconciler/laws.FnExactSessionNew", spec := "fnExactSessionNew", inPlace := ["internal/bytealg.CountString", "internal/bytealg.IndexByteString", "internal/bytealg.IndexString", "slices.overlaps[loop.example/filereconciler/impl.Node]"], unfollowed := true, recurses := true, named := ["unicode/utf8.first", "unicode/utf8.acceptRanges", "internal/bytealg.MaxLen"], apart := false, laid := [("unicode/utf8.acceptRanges", laid_unicode_utf8_acceptRanges), ("unicode/utf8.first", laid_unicode_utf8_first)], narrowed := true }
def FnExactSessionNewUptoSaid : Prop := fnExactSessionNewUptoRow.holds Tryz.pinned (OpenSpec.upto fnExactSessionNewSpec)

/-- 'laws.FnRoundApart', WHERE WHAT IT READS IS OF BULK AT MOST 1048576: true; the input reads as it did. -/
def fnRoundApartUptoRow : OpenClaim := { program := "ytdjglbedimpldaagreatdoor", sum := "3b6697a60f9ec9943f513563ca6c91ff1a7bf1d8da384b9907963bbdb74807ba", func := "loop.example/filereconciler/laws.FnRoundApart", spec := "fnRoundApart", inPlace := ["internal/bytealg.CountString", "internal/bytealg.IndexByteString", "internal/bytealg.IndexString", "slices.overlaps[loop.example/filereconciler/impl.Node]"], unfollowed := true, recurses := true, named := ["unicode/utf8.first", "unicode/utf8.acceptRanges", "internal/bytealg.MaxLen"], apart := false, laid := [("unicode/utf8.acceptRanges", laid_unicode_utf8_acceptRanges), ("unicode/utf8.first", laid_unicode_utf8_first)], narrowed := true }
def FnRoundApartUptoSaid : Prop := fnRoundApartUptoRow.holds Tryz.pinned (OpenSpec.upto fnRoundApartSpec)

/-- 'laws.FnExactSessionStep', WHERE WHAT IT READS IS OF BULK AT MOST 1048576: true; the input reads as it did. -/
def fnExactSessionStepUptoRow : OpenClaim := { program := "ytdjglbedimpldaagreatdoor", sum := "3b6697a60f9ec9943f513563ca6c91ff1a7bf1d8da384b9907963bbdb74807ba", func := "loop.example/filereconciler/laws.FnExactSessionStep", spec := "fnExactSessionStep", inPlace := ["internal/bytealg.CountString", "internal/bytealg.IndexByteString", "internal/bytealg.IndexString", "slices.overlaps[loop.example/filereconciler/impl.Node]"], unfollowed := true, recurses := true, named := ["unicode/utf8.first", "unicode/utf8.acceptRanges", "internal/bytealg.MaxLen"], apart := false, laid := [("unicode/utf8.acceptRanges", laid_unicode_utf8_acceptRanges), ("unicode/utf8.first", laid_unicode_utf8_first)], narrowed := true }
def FnExactSessionStepUptoSaid : Prop := fnExactSessionStepUptoRow.holds Tryz.pinned (OpenSpec.upto fnExactSessionStepSpec)

end Rows
end Go.Proofs.YtdjglbedimpldaaGreatDoor
