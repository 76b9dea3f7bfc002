/-
  NARROWER THAN 'FOR EVERY INPUT', by the rows' own cells (each row's printed sentence says how): FnSessionClashes: laid · FnExactSessionClashes: laid · FnSession: laid · FnSessionBase: laid · FnSessionTurned: laid · FnSessionAgain: laid · FnSessionTree: laid · FnSessionShort: laid · FnSessionKept: laid · FnSessionSame: laid · FnSessionSteps: laid · FnSessionCrash: laid.
  DERIVED. THE GIVEN ROWS OF THIS SEAT. 12 by the template 'for every input the law returns true; each argument reads behind the call as it read before'; 0 by the template 'total and deterministic' (their statements: YtpanjecgbnomhaaGreatDoorTotals.lean).
  GIVEN WITH THE SEED: the statements are not yours to turn. If you find one false, say at which input.
  Laid BY PROGRAM, IN A SANDBOX (cutbox-rows.mjs): the forced cells as the released guide's own fill.sh prints them over the translation a94f34188a7fd464… (all of the seat's roots in one cut). By AI agents, Wed Nov 11 2026. No macro, syntax, notation, axiom, sorry.
-/
import Derived.Test.YtpanjecgbnomhaaGreatDoorChecked
import GoSem.PinnedTables
import GoSem.Claim
import GoSem.ClaimJoined
import GoSem.ClaimMapViews
import Derived.JoinedTies
import Derived.KernelRfl
namespace Go.Proofs.YtpanjecgbnomhaaGreatDoor
/- THE CELL 'sum', in the pinned program and in every row, IS THE sha256 OF THE DUMP (.gsa) THAT YtpanjecgbnomhaaGreatDoorProg.lean LOADS. Nothing in Lean hashes anything: it is a label: what it is worth is what the hold of that sum in a sandbox is worth. -/
noncomputable def Tryz.pinned : Pinned := { name := "ytpanjecgbnomhaagreatdoor", sum := "a94f34188a7fd464e1f040ac9945c3d9bb26a236f0b560c5ac7863764ef90065", checked := Tryz.checked }
namespace Rows
def none {H : Type} : Left H := { results := [], args := [] }

/- WHAT THE LISTED PACKAGE-LEVEL VARIABLES READ AS WHEN THE CALL BEGINS. Each datum BY PROGRAM (the guide's laid-datum.mjs) off the statement by which the dump's own 'gosem.cut.vars' lays the variable. In a bare row this is a premise. The card (YtpanjecgbnomhaaGreatDoorCards.lean) ties it to the program's text. -/
def laid_unicode_utf8_acceptRanges {H : Type} : DataW H := .agg [.agg [.lit (.int .u8 128), .lit (.int .u8 191)], .agg [.lit (.int .u8 160), .lit (.int .u8 191)], .agg [.lit (.int .u8 128), .lit (.int .u8 159)], .agg [.lit (.int .u8 144), .lit (.int .u8 191)], .agg [.lit (.int .u8 128), .lit (.int .u8 143)], .agg [.lit (.int .u8 0), .lit (.int .u8 0)], .agg [.lit (.int .u8 0), .lit (.int .u8 0)], .agg [.lit (.int .u8 0), .lit (.int .u8 0)], .agg [.lit (.int .u8 0), .lit (.int .u8 0)], .agg [.lit (.int .u8 0), .lit (.int .u8 0)], .agg [.lit (.int .u8 0), .lit (.int .u8 0)], .agg [.lit (.int .u8 0), .lit (.int .u8 0)], .agg [.lit (.int .u8 0), .lit (.int .u8 0)], .agg [.lit (.int .u8 0), .lit (.int .u8 0)], .agg [.lit (.int .u8 0), .lit (.int .u8 0)], .agg [.lit (.int .u8 0), .lit (.int .u8 0)]]
/-- One of Go's own tables, pinned by name: the form's constant. -/
def laid_unicode_utf8_first : DataW Unit := Go.Pinned.utf8First

/-- 'laws.FnSessionClashes': WHATEVER THE INPUT: true; the input reads as it did. -/
def fnSessionClashesSpec : ChangeSpec := { name := "fnSessionClashes", fn := fun _ => fun
  | [d] => { results := [.lit (.bool true)], args := [d] }
  | _ => none }
def fnSessionClashesRow : OpenClaim := { program := "ytpanjecgbnomhaagreatdoor", sum := "a94f34188a7fd464e1f040ac9945c3d9bb26a236f0b560c5ac7863764ef90065", func := "loop.example/filereconciler/laws.FnSessionClashes", spec := "fnSessionClashes", inPlace := ["internal/bytealg.CountString", "internal/bytealg.IndexByteString", "internal/bytealg.IndexString", "slices.overlaps[loop.example/filereconciler/impl.Node]"], unfollowed := true, recurses := true, named := ["unicode/utf8.first", "unicode/utf8.acceptRanges", "internal/bytealg.MaxLen"], apart := false, laid := [("unicode/utf8.acceptRanges", laid_unicode_utf8_acceptRanges), ("unicode/utf8.first", laid_unicode_utf8_first)] }
def FnSessionClashesSaid : Prop := fnSessionClashesRow.holds Tryz.pinned (OpenSpec.ofChange fnSessionClashesSpec)

/-- ITS FALSE NEIGHBOUR: 'it returns false'. Refute it at one input. -/
def fnSessionClashesWrong : ChangeSpec := { name := "fnSessionClashes", fn := fun _ => fun
  | [d] => { results := [.lit (.bool false)], args := [d] }
  | _ => none }
def FnSessionClashesWrongFalsely : Prop := fnSessionClashesRow.holds Tryz.pinned (OpenSpec.ofChange fnSessionClashesWrong)

/-- 'laws.FnExactSessionClashes': WHATEVER THE INPUT: true; the input reads as it did. -/
def fnExactSessionClashesSpec : ChangeSpec := { name := "fnExactSessionClashes", fn := fun _ => fun
  | [d1, d2] => { results := [.lit (.bool true)], args := [d1, d2] }
  | _ => none }
def fnExactSessionClashesRow : OpenClaim := { program := "ytpanjecgbnomhaagreatdoor", sum := "a94f34188a7fd464e1f040ac9945c3d9bb26a236f0b560c5ac7863764ef90065", func := "loop.example/filereconciler/laws.FnExactSessionClashes", spec := "fnExactSessionClashes", inPlace := ["internal/bytealg.CountString", "internal/bytealg.IndexByteString", "internal/bytealg.IndexString", "slices.overlaps[loop.example/filereconciler/impl.Node]"], unfollowed := true, recurses := true, named := ["unicode/utf8.first", "unicode/utf8.acceptRanges", "internal/bytealg.MaxLen"], apart := false, laid := [("unicode/utf8.acceptRanges", laid_unicode_utf8_acceptRanges), ("unicode/utf8.first", laid_unicode_utf8_first)] }
def FnExactSessionClashesSaid : Prop := fnExactSessionClashesRow.holds Tryz.pinned (OpenSpec.ofChange fnExactSessionClashesSpec)

/-- ITS FALSE NEIGHBOUR: 'it returns false'. Refute it at one input. -/
def fnExactSessionClashesWrong : ChangeSpec := { name := "fnExactSessionClashes", fn := fun _ => fun
  | [d1, d2] => { results := [.lit (.bool false)], args := [d1, d2] }
  | _ => none }
def FnExactSessionClashesWrongFalsely : Prop := fnExactSessionClashesRow.holds Tryz.pinned (OpenSpec.ofChange fnExactSessionClashesWrong)

/-- 'laws.FnSession': WHATEVER THE INPUT: true; the input reads as it did. -/
def fnSessionSpec : ChangeSpec := { name := "fnSession", fn := fun _ => fun
  | [d] => { results := [.lit (.bool true)], args := [d] }
  | _ => none }
def fnSessionRow : OpenClaim := { program := "ytpanjecgbnomhaagreatdoor", sum := "a94f34188a7fd464e1f040ac9945c3d9bb26a236f0b560c5ac7863764ef90065", func := "loop.example/filereconciler/laws.FnSession", spec := "fnSession", inPlace := ["internal/bytealg.CountString", "internal/bytealg.IndexByteString", "internal/bytealg.IndexString", "slices.overlaps[loop.example/filereconciler/impl.Node]"], unfollowed := true, recurses := true, named := ["unicode/utf8.first", "unicode/utf8.acceptRanges", "internal/bytealg.MaxLen"], apart := false, laid := [("unicode/utf8.acceptRanges", laid_unicode_utf8_acceptRanges), ("unicode/utf8.first", laid_unicode_utf8_first)] }
def FnSessionSaid : Prop := fnSessionRow.holds Tryz.pinned (OpenSpec.ofChange fnSessionSpec)

/-- ITS FALSE NEIGHBOUR: 'it returns false'. Refute it at one input. -/
def fnSessionWrong : ChangeSpec := { name := "fnSession", fn := fun _ => fun
  | [d] => { results := [.lit (.bool false)], args := [d] }
  | _ => none }
def FnSessionWrongFalsely : Prop := fnSessionRow.holds Tryz.pinned (OpenSpec.ofChange fnSessionWrong)

/-- 'laws.FnSessionBase': WHATEVER THE INPUT: true; the input reads as it did. -/
def fnSessionBaseSpec : ChangeSpec := { name := "fnSessionBase", fn := fun _ => fun
  | [d] => { results := [.lit (.bool true)], args := [d] }
  | _ => none }
def fnSessionBaseRow : OpenClaim := { program := "ytpanjecgbnomhaagreatdoor", sum := "a94f34188a7fd464e1f040ac9945c3d9bb26a236f0b560c5ac7863764ef90065", func := "loop.example/filereconciler/laws.FnSessionBase", spec := "fnSessionBase", inPlace := ["internal/bytealg.CountString", "internal/bytealg.IndexByteString", "internal/bytealg.IndexString", "slices.overlaps[loop.example/filereconciler/impl.Node]"], unfollowed := true, recurses := true, named := ["unicode/utf8.first", "unicode/utf8.acceptRanges", "internal/bytealg.MaxLen"], apart := false, laid := [("unicode/utf8.acceptRanges", laid_unicode_utf8_acceptRanges), ("unicode/utf8.first", laid_unicode_utf8_first)] }
def FnSessionBaseSaid : Prop := fnSessionBaseRow.holds Tryz.pinned (OpenSpec.ofChange fnSessionBaseSpec)

/-- ITS FALSE NEIGHBOUR: 'it returns false'. Refute it at one input. -/
def fnSessionBaseWrong : ChangeSpec := { name := "fnSessionBase", fn := fun _ => fun
  | [d] => { results := [.lit (.bool false)], args := [d] }
  | _ => none }
def FnSessionBaseWrongFalsely : Prop := fnSessionBaseRow.holds Tryz.pinned (OpenSpec.ofChange fnSessionBaseWrong)

/-- 'laws.FnSessionTurned': WHATEVER THE INPUT: true; the input reads as it did. -/
def fnSessionTurnedSpec : ChangeSpec := { name := "fnSessionTurned", fn := fun _ => fun
  | [d] => { results := [.lit (.bool true)], args := [d] }
  | _ => none }
def fnSessionTurnedRow : OpenClaim := { program := "ytpanjecgbnomhaagreatdoor", sum := "a94f34188a7fd464e1f040ac9945c3d9bb26a236f0b560c5ac7863764ef90065", func := "loop.example/filereconciler/laws.FnSessionTurned", spec := "fnSessionTurned", inPlace := ["internal/bytealg.CountString", "internal/bytealg.IndexByteString", "internal/bytealg.IndexString", "slices.overlaps[loop.example/filereconciler/impl.Node]"], unfollowed := true, recurses := true, named := ["unicode/utf8.first", "unicode/utf8.acceptRanges", "internal/bytealg.MaxLen"], apart := false, laid := [("unicode/utf8.acceptRanges", laid_unicode_utf8_acceptRanges), ("unicode/utf8.first", laid_unicode_utf8_first)] }
def FnSessionTurnedSaid : Prop := fnSessionTurnedRow.holds Tryz.pinned (OpenSpec.ofChange fnSessionTurnedSpec)

/-- ITS FALSE NEIGHBOUR: 'it returns false'. Refute it at one input. -/
def fnSessionTurnedWrong : ChangeSpec := { name := "fnSessionTurned", fn := fun _ => fun
  | [d] => { results := [.lit (.bool false)], args := [d] }
  | _ => none }
def FnSessionTurnedWrongFalsely : Prop := fnSessionTurnedRow.holds Tryz.pinned (OpenSpec.ofChange fnSessionTurnedWrong)

/-- 'laws.FnSessionAgain': WHATEVER THE INPUT: true; the input reads as it did. -/
def fnSessionAgainSpec : ChangeSpec := { name := "fnSessionAgain", fn := fun _ => fun
  | [d] => { results := [.lit (.bool true)], args := [d] }
  | _ => none }
def fnSessionAgainRow : OpenClaim := { program := "ytpanjecgbnomhaagreatdoor", sum := "a94f34188a7fd464e1f040ac9945c3d9bb26a236f0b560c5ac7863764ef90065", func := "loop.example/filereconciler/laws.FnSessionAgain", spec := "fnSessionAgain", inPlace := ["internal/bytealg.CountString", "internal/bytealg.IndexByteString", "internal/bytealg.IndexString", "slices.overlaps[loop.example/filereconciler/impl.Node]"], unfollowed := true, recurses := true, named := ["unicode/utf8.first", "unicode/utf8.acceptRanges", "internal/bytealg.MaxLen"], apart := false, laid := [("unicode/utf8.acceptRanges", laid_unicode_utf8_acceptRanges), ("unicode/utf8.first", laid_unicode_utf8_first)] }
def FnSessionAgainSaid : Prop := fnSessionAgainRow.holds Tryz.pinned (OpenSpec.ofChange fnSessionAgainSpec)

/-- ITS FALSE NEIGHBOUR: 'it returns false'. Refute it at one input. -/
def fnSessionAgainWrong : ChangeSpec := { name := "fnSessionAgain", fn := fun _ => fun
  | [d] => { results := [.lit (.bool false)], args := [d] }
  | _ => none }
def FnSessionAgainWrongFalsely : Prop := fnSessionAgainRow.holds Tryz.pinned (OpenSpec.ofChange fnSessionAgainWrong)

/-- 'laws.FnSessionTree': WHATEVER THE INPUT: true; the input reads as it did. -/
def fnSessionTreeSpec : ChangeSpec := { name := "fnSessionTree", fn := fun _ => fun
  | [d] => { results := [.lit (.bool true)], args := [d] }
  | _ => none }
def fnSessionTreeRow : OpenClaim := { program := "ytpanjecgbnomhaagreatdoor", sum := "a94f34188a7fd464e1f040ac9945c3d9bb26a236f0b560c5ac7863764ef90065", func := "loop.example/filereconciler/laws.FnSessionTree", spec := "fnSessionTree", inPlace := ["internal/bytealg.CountString", "internal/bytealg.IndexByteString", "internal/bytealg.IndexString", "slices.overlaps[loop.example/filereconciler/impl.Node]"], unfollowed := true, recurses := true, named := ["unicode/utf8.first", "unicode/utf8.acceptRanges", "internal/bytealg.MaxLen"], apart := false, laid := [("unicode/utf8.acceptRanges", laid_unicode_utf8_acceptRanges), ("unicode/utf8.first", laid_unicode_utf8_first)] }
def FnSessionTreeSaid : Prop := fnSessionTreeRow.holds Tryz.pinned (OpenSpec.ofChange fnSessionTreeSpec)

/-- ITS FALSE NEIGHBOUR: 'it returns false'. Refute it at one input. -/
def fnSessionTreeWrong : ChangeSpec := { name := "fnSessionTree", fn := fun _ => fun
  | [d] => { results := [.lit (.bool false)], args := [d] }
  | _ => none }
def FnSessionTreeWrongFalsely : Prop := fnSessionTreeRow.holds Tryz.pinned (OpenSpec.ofChange fnSessionTreeWrong)

/-- 'laws.FnSessionShort': WHATEVER THE INPUT: true; the input reads as it did. -/
def fnSessionShortSpec : ChangeSpec := { name := "fnSessionShort", fn := fun _ => fun
  | [d] => { results := [.lit (.bool true)], args := [d] }
  | _ => none }
def fnSessionShortRow : OpenClaim := { program := "ytpanjecgbnomhaagreatdoor", sum := "a94f34188a7fd464e1f040ac9945c3d9bb26a236f0b560c5ac7863764ef90065", func := "loop.example/filereconciler/laws.FnSessionShort", spec := "fnSessionShort", inPlace := ["internal/bytealg.CountString", "internal/bytealg.IndexByteString", "internal/bytealg.IndexString", "slices.overlaps[loop.example/filereconciler/impl.Node]"], unfollowed := true, recurses := true, named := ["unicode/utf8.first", "unicode/utf8.acceptRanges", "internal/bytealg.MaxLen"], apart := false, laid := [("unicode/utf8.acceptRanges", laid_unicode_utf8_acceptRanges), ("unicode/utf8.first", laid_unicode_utf8_first)] }
def FnSessionShortSaid : Prop := fnSessionShortRow.holds Tryz.pinned (OpenSpec.ofChange fnSessionShortSpec)

/-- ITS FALSE NEIGHBOUR: 'it returns false'. Refute it at one input. -/
def fnSessionShortWrong : ChangeSpec := { name := "fnSessionShort", fn := fun _ => fun
  | [d] => { results := [.lit (.bool false)], args := [d] }
  | _ => none }
def FnSessionShortWrongFalsely : Prop := fnSessionShortRow.holds Tryz.pinned (OpenSpec.ofChange fnSessionShortWrong)

/-- 'laws.FnSessionKept': WHATEVER THE INPUT: true; the input reads as it did. -/
def fnSessionKeptSpec : ChangeSpec := { name := "fnSessionKept", fn := fun _ => fun
  | [d] => { results := [.lit (.bool true)], args := [d] }
  | _ => none }
def fnSessionKeptRow : OpenClaim := { program := "ytpanjecgbnomhaagreatdoor", sum := "a94f34188a7fd464e1f040ac9945c3d9bb26a236f0b560c5ac7863764ef90065", func := "loop.example/filereconciler/laws.FnSessionKept", spec := "fnSessionKept", inPlace := ["internal/bytealg.CountString", "internal/bytealg.IndexByteString", "internal/bytealg.IndexString", "slices.overlaps[loop.example/filereconciler/impl.Node]"], unfollowed := true, recurses := true, named := ["unicode/utf8.first", "unicode/utf8.acceptRanges", "internal/bytealg.MaxLen"], apart := false, laid := [("unicode/utf8.acceptRanges", laid_unicode_utf8_acceptRanges), ("unicode/utf8.first", laid_unicode_utf8_first)] }
def FnSessionKeptSaid : Prop := fnSessionKeptRow.holds Tryz.pinned (OpenSpec.ofChange fnSessionKeptSpec)

/-- ITS FALSE NEIGHBOUR: 'it returns false'. Refute it at one input. -/
def fnSessionKeptWrong : ChangeSpec := { name := "fnSessionKept", fn := fun _ => fun
  | [d] => { results := [.lit (.bool false)], args := [d] }
  | _ => none }
def FnSessionKeptWrongFalsely : Prop := fnSessionKeptRow.holds Tryz.pinned (OpenSpec.ofChange fnSessionKeptWrong)

/-- 'laws.FnSessionSame': WHATEVER THE INPUT: true; the input reads as it did. -/
def fnSessionSameSpec : ChangeSpec := { name := "fnSessionSame", fn := fun _ => fun
  | [d] => { results := [.lit (.bool true)], args := [d] }
  | _ => none }
def fnSessionSameRow : OpenClaim := { program := "ytpanjecgbnomhaagreatdoor", sum := "a94f34188a7fd464e1f040ac9945c3d9bb26a236f0b560c5ac7863764ef90065", func := "loop.example/filereconciler/laws.FnSessionSame", spec := "fnSessionSame", inPlace := ["internal/bytealg.CountString", "internal/bytealg.IndexByteString", "internal/bytealg.IndexString", "slices.overlaps[loop.example/filereconciler/impl.Node]"], unfollowed := true, recurses := true, named := ["unicode/utf8.first", "unicode/utf8.acceptRanges", "internal/bytealg.MaxLen"], apart := false, laid := [("unicode/utf8.acceptRanges", laid_unicode_utf8_acceptRanges), ("unicode/utf8.first", laid_unicode_utf8_first)] }
def FnSessionSameSaid : Prop := fnSessionSameRow.holds Tryz.pinned (OpenSpec.ofChange fnSessionSameSpec)

/-- ITS FALSE NEIGHBOUR: 'it returns false'. Refute it at one input. -/
def fnSessionSameWrong : ChangeSpec := { name := "fnSessionSame", fn := fun _ => fun
  | [d] => { results := [.lit (.bool false)], args := [d] }
  | _ => none }
def FnSessionSameWrongFalsely : Prop := fnSessionSameRow.holds Tryz.pinned (OpenSpec.ofChange fnSessionSameWrong)

/-- 'laws.FnSessionSteps': WHATEVER THE INPUT: true; the input reads as it did. -/
def fnSessionStepsSpec : ChangeSpec := { name := "fnSessionSteps", fn := fun _ => fun
  | [d] => { results := [.lit (.bool true)], args := [d] }
  | _ => none }
def fnSessionStepsRow : OpenClaim := { program := "ytpanjecgbnomhaagreatdoor", sum := "a94f34188a7fd464e1f040ac9945c3d9bb26a236f0b560c5ac7863764ef90065", func := "loop.example/filereconciler/laws.FnSessionSteps", spec := "fnSessionSteps", inPlace := ["internal/bytealg.CountString", "internal/bytealg.IndexByteString", "internal/bytealg.IndexString", "slices.overlaps[loop.example/filereconciler/impl.Node]"], unfollowed := true, recurses := true, named := ["unicode/utf8.first", "unicode/utf8.acceptRanges", "internal/bytealg.MaxLen"], apart := false, laid := [("unicode/utf8.acceptRanges", laid_unicode_utf8_acceptRanges), ("unicode/utf8.first", laid_unicode_utf8_first)] }
def FnSessionStepsSaid : Prop := fnSessionStepsRow.holds Tryz.pinned (OpenSpec.ofChange fnSessionStepsSpec)

/-- ITS FALSE NEIGHBOUR: 'it returns false'. Refute it at one input. -/
def fnSessionStepsWrong : ChangeSpec := { name := "fnSessionSteps", fn := fun _ => fun
  | [d] => { results := [.lit (.bool false)], args := [d] }
  | _ => none }
def FnSessionStepsWrongFalsely : Prop := fnSessionStepsRow.holds Tryz.pinned (OpenSpec.ofChange fnSessionStepsWrong)

/-- 'laws.FnSessionCrash': WHATEVER THE INPUT: true; the input reads as it did. -/
def fnSessionCrashSpec : ChangeSpec := { name := "fnSessionCrash", fn := fun _ => fun
  | [d1, d2] => { results := [.lit (.bool true)], args := [d1, d2] }
  | _ => none }
def fnSessionCrashRow : OpenClaim := { program := "ytpanjecgbnomhaagreatdoor", sum := "a94f34188a7fd464e1f040ac9945c3d9bb26a236f0b560c5ac7863764ef90065", func := "loop.example/filereconciler/laws.FnSessionCrash", spec := "fnSessionCrash", inPlace := ["internal/bytealg.CountString", "internal/bytealg.IndexByteString", "internal/bytealg.IndexString", "slices.overlaps[loop.example/filereconciler/impl.Node]"], unfollowed := true, recurses := true, named := ["unicode/utf8.first", "unicode/utf8.acceptRanges", "internal/bytealg.MaxLen"], apart := false, laid := [("unicode/utf8.acceptRanges", laid_unicode_utf8_acceptRanges), ("unicode/utf8.first", laid_unicode_utf8_first)] }
def FnSessionCrashSaid : Prop := fnSessionCrashRow.holds Tryz.pinned (OpenSpec.ofChange fnSessionCrashSpec)

/-- ITS FALSE NEIGHBOUR: 'it returns false'. Refute it at one input. -/
def fnSessionCrashWrong : ChangeSpec := { name := "fnSessionCrash", fn := fun _ => fun
  | [d1, d2] => { results := [.lit (.bool false)], args := [d1, d2] }
  | _ => none }
def FnSessionCrashWrongFalsely : Prop := fnSessionCrashRow.holds Tryz.pinned (OpenSpec.ofChange fnSessionCrashWrong)

/- THE SECOND FORM. 'bulk': how many values and letters a reading holds, each counted each time it is reached (what is shared counts as often as it is met; a slice's spare places count too). A statement '..UptoSaid' is the law's where the arguments, and the package variables that the reading takes, are together of bulk at most 1048576: NARROWER than '..Said'. Prove '..Said' where nothing that the law and all that it calls make is longer than what came in: it says more and counts as full. Else prove '..UptoSaid'. A law counts once. -/
mutual
def uptoBulk {H : Type} : DataW H → Nat
  | .lit (.string bytes) => bytes.length + 1
  | .lit _ => 1
  | .nil => 1
  | .ptr d => uptoBulk d + 1
  | .slice elems spare => uptoBulkAll elems + uptoBulkAll spare + 1
  | .agg parts => uptoBulkAll parts + 1
  | .iface _ d => uptoBulk d + 1
  | .map entries => uptoBulkEntries entries + 1
  | .held _ => 1
def uptoBulkAll {H : Type} : List (DataW H) → Nat
  | [] => 0
  | d :: r => uptoBulk d + uptoBulkAll r
def uptoBulkEntries {H : Type} : List (Lit × DataW H) → Nat
  | [] => 0
  | x :: r => uptoBulkEntry x + uptoBulkEntries r
def uptoBulkEntry {H : Type} : Lit × DataW H → Nat
  | (.string bytes, d) => bytes.length + uptoBulk d + 1
  | (_, d) => uptoBulk d + 1
 end
def uptoSmall : (H : Type) → List (DataW H) → Bool := fun _ ds => decide (uptoBulkAll ds ≤ 1048576)
def OpenSpec.upto (s : _root_.Go.ChangeSpec) : _root_.Go.OpenSpec := { _root_.Go.OpenSpec.ofChange s with cond := some uptoSmall }

/-- 'laws.FnSessionClashes', WHERE WHAT IT READS IS OF BULK AT MOST 1048576: true; the input reads as it did. -/
def fnSessionClashesUptoRow : OpenClaim := { program := "ytpanjecgbnomhaagreatdoor", sum := "a94f34188a7fd464e1f040ac9945c3d9bb26a236f0b560c5ac7863764ef90065", func := "loop.example/filereconciler/laws.FnSessionClashes", spec := "fnSessionClashes", inPlace := ["internal/bytealg.CountString", "internal/bytealg.IndexByteString", "internal/bytealg.IndexString", "slices.overlaps[loop.example/filereconciler/impl.Node]"], unfollowed := true, recurses := true, named := ["unicode/utf8.first", "unicode/utf8.acceptRanges", "internal/bytealg.MaxLen"], apart := false, laid := [("unicode/utf8.acceptRanges", laid_unicode_utf8_acceptRanges), ("unicode/utf8.first", laid_unicode_utf8_first)], narrowed := true }
def FnSessionClashesUptoSaid : Prop := fnSessionClashesUptoRow.holds Tryz.pinned (OpenSpec.upto fnSessionClashesSpec)

/-- 'laws.FnExactSessionClashes', WHERE WHAT IT READS IS OF BULK AT MOST 1048576: true; the input reads as it did. -/
def fnExactSessionClashesUptoRow : OpenClaim := { program := "ytpanjecgbnomhaagreatdoor", sum := "a94f34188a7fd464e1f040ac9945c3d9bb26a236f0b560c5ac7863764ef90065", func := "loop.example/filereconciler/laws.FnExactSessionClashes", spec := "fnExactSessionClashes", inPlace := ["internal/bytealg.CountString", "internal/bytealg.IndexByteString", "internal/bytealg.IndexString", "slices.overlaps[loop.example/filereconciler/impl.Node]"], unfollowed := true, recurses := true, named := ["unicode/utf8.first", "unicode/utf8.acceptRanges", "internal/bytealg.MaxLen"], apart := false, laid := [("unicode/utf8.acceptRanges", laid_unicode_utf8_acceptRanges), ("unicode/utf8.first", laid_unicode_utf8_first)], narrowed := true }
def FnExactSessionClashesUptoSaid : Prop := fnExactSessionClashesUptoRow.holds Tryz.pinned (OpenSpec.upto fnExactSessionClashesSpec)

/-- 'laws.FnSession', WHERE WHAT IT READS IS OF BULK AT MOST 1048576: true; the input reads as it did. -/
def fnSessionUptoRow : OpenClaim := { program := "ytpanjecgbnomhaagreatdoor", sum := "a94f34188a7fd464e1f040ac9945c3d9bb26a236f0b560c5ac7863764ef90065", func := "loop.example/filereconciler/laws.FnSession", spec := "fnSession", inPlace := ["internal/bytealg.CountString", "internal/bytealg.IndexByteString", "internal/bytealg.IndexString", "slices.overlaps[loop.example/filereconciler/impl.Node]"], unfollowed := true, recurses := true, named := ["unicode/utf8.first", "unicode/utf8.acceptRanges", "internal/bytealg.MaxLen"], apart := false, laid := [("unicode/utf8.acceptRanges", laid_unicode_utf8_acceptRanges), ("unicode/utf8.first", laid_unicode_utf8_first)], narrowed := true }
def FnSessionUptoSaid : Prop := fnSessionUptoRow.holds Tryz.pinned (OpenSpec.upto fnSessionSpec)

/-- 'laws.FnSessionBase', WHERE WHAT IT READS IS OF BULK AT MOST 1048576: true; the input reads as it did. -/
def fnSessionBaseUptoRow : OpenClaim := { program := "ytpanjecgbnomhaagreatdoor", sum := "a94f34188a7fd464e1f040ac9945c3d9bb26a236f0b560c5ac7863764ef90065", func := "loop.example/filereconciler/laws.FnSessionBase", spec := "fnSessionBase", inPlace := ["internal/bytealg.CountString", "internal/bytealg.IndexByteString", "internal/bytealg.IndexString", "slices.overlaps[loop.example/filereconciler/impl.Node]"], unfollowed := true, recurses := true, named := ["unicode/utf8.first", "unicode/utf8.acceptRanges", "internal/bytealg.MaxLen"], apart := false, laid := [("unicode/utf8.acceptRanges", laid_unicode_utf8_acceptRanges), ("unicode/utf8.first", laid_unicode_utf8_first)], narrowed := true }
def FnSessionBaseUptoSaid : Prop := fnSessionBaseUptoRow.holds Tryz.pinned (OpenSpec.upto fnSessionBaseSpec)

/-- 'laws.FnSessionTurned', WHERE WHAT IT READS IS OF BULK AT MOST 1048576: true; the input reads as it did. -/
def fnSessionTurnedUptoRow : OpenClaim := { program := "ytpanjecgbnomhaagreatdoor", sum := "a94f34188a7fd464e1f040ac9945c3d9bb26a236f0b560c5ac7863764ef90065", func := "loop.example/filereconciler/laws.FnSessionTurned", spec := "fnSessionTurned", inPlace := ["internal/bytealg.CountString", "internal/bytealg.IndexByteString", "internal/bytealg.IndexString", "slices.overlaps[loop.example/filereconciler/impl.Node]"], unfollowed := true, recurses := true, named := ["unicode/utf8.first", "unicode/utf8.acceptRanges", "internal/bytealg.MaxLen"], apart := false, laid := [("unicode/utf8.acceptRanges", laid_unicode_utf8_acceptRanges), ("unicode/utf8.first", laid_unicode_utf8_first)], narrowed := true }
def FnSessionTurnedUptoSaid : Prop := fnSessionTurnedUptoRow.holds Tryz.pinned (OpenSpec.upto fnSessionTurnedSpec)

/-- 'laws.FnSessionAgain', WHERE WHAT IT READS IS OF BULK AT MOST 1048576: true; the input reads as it did. -/
def fnSessionAgainUptoRow : OpenClaim := { program := "ytpanjecgbnomhaagreatdoor", sum := "a94f34188a7fd464e1f040ac9945c3d9bb26a236f0b560c5ac7863764ef90065", func := "loop.example/filereconciler/laws.FnSessionAgain", spec := "fnSessionAgain", inPlace := ["internal/bytealg.CountString", "internal/bytealg.IndexByteString", "internal/bytealg.IndexString", "slices.overlaps[loop.example/filereconciler/impl.Node]"], unfollowed := true, recurses := true, named := ["unicode/utf8.first", "unicode/utf8.acceptRanges", "internal/bytealg.MaxLen"], apart := false, laid := [("unicode/utf8.acceptRanges", laid_unicode_utf8_acceptRanges), ("unicode/utf8.first", laid_unicode_utf8_first)], narrowed := true }
def FnSessionAgainUptoSaid : Prop := fnSessionAgainUptoRow.holds Tryz.pinned (OpenSpec.upto fnSessionAgainSpec)

/-- 'laws.FnSessionTree', WHERE WHAT IT READS IS OF BULK AT MOST 1048576: true; the input reads as it did. -/
def fnSessionTreeUptoRow : OpenClaim := { program := "ytpanjecgbnomhaagreatdoor", sum := "a94f34188a7fd464e1f040ac9945c3d9bb26a236f0b560c5ac7863764ef90065", func := "loop.example/filereconciler/laws.FnSessionTree", spec := "fnSessionTree", inPlace := ["internal/bytealg.CountString", "internal/bytealg.IndexByteString", "internal/bytealg.IndexString", "slices.overlaps[loop.example/filereconciler/impl.Node]"], unfollowed := true, recurses := true, named := ["unicode/utf8.first", "unicode/utf8.acceptRanges", "internal/bytealg.MaxLen"], apart := false, laid := [("unicode/utf8.acceptRanges", laid_unicode_utf8_acceptRanges), ("unicode/utf8.first", laid_unicode_utf8_first)], narrowed := true }
def FnSessionTreeUptoSaid : Prop := fnSessionTreeUptoRow.holds Tryz.pinned (OpenSpec.upto fnSessionTreeSpec)

/-- 'laws.FnSessionShort', WHERE WHAT IT READS IS OF BULK AT MOST 1048576: true; the input reads as it did. -/
def fnSessionShortUptoRow : OpenClaim := { program := "ytpanjecgbnomhaagreatdoor", sum := "a94f34188a7fd464e1f040ac9945c3d9bb26a236f0b560c5ac7863764ef90065", func := "loop.example/filereconciler/laws.FnSessionShort", spec := "fnSessionShort", inPlace := ["internal/bytealg.CountString", "internal/bytealg.IndexByteString", "internal/bytealg.IndexString", "slices.overlaps[loop.example/filereconciler/impl.Node]"], unfollowed := true, recurses := true, named := ["unicode/utf8.first", "unicode/utf8.acceptRanges", "internal/bytealg.MaxLen"], apart := false, laid := [("unicode/utf8.acceptRanges", laid_unicode_utf8_acceptRanges), ("unicode/utf8.first", laid_unicode_utf8_first)], narrowed := true }
def FnSessionShortUptoSaid : Prop := fnSessionShortUptoRow.holds Tryz.pinned (OpenSpec.upto fnSessionShortSpec)

/-- 'laws.FnSessionKept', WHERE WHAT IT READS IS OF BULK AT MOST 1048576: true; the input reads as it did. -/
def fnSessionKeptUptoRow : OpenClaim := { program := "ytpanjecgbnomhaagreatdoor", sum := "a94f34188a7fd464e1f040ac9945c3d9bb26a236f0b560c5ac7863764ef90065", func := "loop.example/filereconciler/laws.FnSessionKept", spec := "fnSessionKept", inPlace := ["internal/bytealg.CountString", "internal/bytealg.IndexByteString", "internal/bytealg.IndexString", "slices.overlaps[loop.example/filereconciler/impl.Node]"], unfollowed := true, recurses := true, named := ["unicode/utf8.first", "unicode/utf8.acceptRanges", "internal/bytealg.MaxLen"], apart := false, laid := [("unicode/utf8.acceptRanges", laid_unicode_utf8_acceptRanges), ("unicode/utf8.first", laid_unicode_utf8_first)], narrowed := true }
def FnSessionKeptUptoSaid : Prop := fnSessionKeptUptoRow.holds Tryz.pinned (OpenSpec.upto fnSessionKeptSpec)

/-- 'laws.FnSessionSame', WHERE WHAT IT READS IS OF BULK AT MOST 1048576: true; the input reads as it did. -/
def fnSessionSameUptoRow : OpenClaim := { program := "ytpanjecgbnomhaagreatdoor", sum := "a94f34188a7fd464e1f040ac9945c3d9bb26a236f0b560c5ac7863764ef90065", func := "loop.example/filereconciler/laws.FnSessionSame", spec := "fnSessionSame", inPlace := ["internal/bytealg.CountString", "internal/bytealg.IndexByteString", "internal/bytealg.IndexString", "slices.overlaps[loop.example/filereconciler/impl.Node]"], unfollowed := true, recurses := true, named := ["unicode/utf8.first", "unicode/utf8.acceptRanges", "internal/bytealg.MaxLen"], apart := false, laid := [("unicode/utf8.acceptRanges", laid_unicode_utf8_acceptRanges), ("unicode/utf8.first", laid_unicode_utf8_first)], narrowed := true }
def FnSessionSameUptoSaid : Prop := fnSessionSameUptoRow.holds Tryz.pinned (OpenSpec.upto fnSessionSameSpec)

/-- 'laws.FnSessionSteps', WHERE WHAT IT READS IS OF BULK AT MOST 1048576: true; the input reads as it did. -/
def fnSessionStepsUptoRow : OpenClaim := { program := "ytpanjecgbnomhaagreatdoor", sum := "a94f34188a7fd464e1f040ac9945c3d9bb26a236f0b560c5ac7863764ef90065", func := "loop.example/filereconciler/laws.FnSessionSteps", spec := "fnSessionSteps", inPlace := ["internal/bytealg.CountString", "internal/bytealg.IndexByteString", "internal/bytealg.IndexString", "slices.overlaps[loop.example/filereconciler/impl.Node]"], unfollowed := true, recurses := true, named := ["unicode/utf8.first", "unicode/utf8.acceptRanges", "internal/bytealg.MaxLen"], apart := false, laid := [("unicode/utf8.acceptRanges", laid_unicode_utf8_acceptRanges), ("unicode/utf8.first", laid_unicode_utf8_first)], narrowed := true }
def FnSessionStepsUptoSaid : Prop := fnSessionStepsUptoRow.holds Tryz.pinned (OpenSpec.upto fnSessionStepsSpec)

/-- 'laws.FnSessionCrash', WHERE WHAT IT READS IS OF BULK AT MOST 1048576: true; the input reads as it did. -/
def fnSessionCrashUptoRow : OpenClaim := { program := "ytpanjecgbnomhaagreatdoor", sum := "a94f34188a7fd464e1f040ac9945c3d9bb26a236f0b560c5ac7863764ef90065", func := "loop.example/filereconciler/laws.FnSessionCrash", spec := "fnSessionCrash", inPlace := ["internal/bytealg.CountString", "internal/bytealg.IndexByteString", "internal/bytealg.IndexString", "slices.overlaps[loop.example/filereconciler/impl.Node]"], unfollowed := true, recurses := true, named := ["unicode/utf8.first", "unicode/utf8.acceptRanges", "internal/bytealg.MaxLen"], apart := false, laid := [("unicode/utf8.acceptRanges", laid_unicode_utf8_acceptRanges), ("unicode/utf8.first", laid_unicode_utf8_first)], narrowed := true }
def FnSessionCrashUptoSaid : Prop := fnSessionCrashUptoRow.holds Tryz.pinned (OpenSpec.upto fnSessionCrashSpec)

end Rows
end Go.Proofs.YtpanjecgbnomhaaGreatDoor
