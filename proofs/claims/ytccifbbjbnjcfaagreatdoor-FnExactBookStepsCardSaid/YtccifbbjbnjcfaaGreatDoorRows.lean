/-
  NARROWER THAN 'FOR EVERY INPUT', by the rows' own cells (each row's printed sentence says how): FnExactBookAdd: laid · FnExactBookSteps: laid · FnReplace: laid · FnReplaceCrash: laid · FnAdd: laid.
  DERIVED. THE GIVEN ROWS OF THIS SEAT. 5 by the template 'for every input the law returns true; each argument reads behind the call as it read before'; 0 by the template 'total and deterministic' (their statements: YtccifbbjbnjcfaaGreatDoorTotals.lean).
  GIVEN WITH THE SEED: the statements are not yours to turn. If you find one false, say at which input.
  Laid BY PROGRAM, IN A SANDBOX (cutbox-rows.mjs): the forced cells as the released guide's own fill.sh prints them over the translation ac9a45a929ff64b5… (all of the seat's roots in one cut). By AI agents, Wed Nov 11 2026. No macro, syntax, notation, axiom, sorry.
-/
import Derived.Test.YtccifbbjbnjcfaaGreatDoorChecked
import GoSem.PinnedTables
import GoSem.Claim
import GoSem.ClaimJoined
import GoSem.ClaimMapViews
import Derived.JoinedTies
import Derived.KernelRfl
namespace Go.Proofs.YtccifbbjbnjcfaaGreatDoor
/- THE CELL 'sum', in the pinned program and in every row, IS THE sha256 OF THE DUMP (.gsa) THAT YtccifbbjbnjcfaaGreatDoorProg.lean LOADS. Nothing in Lean hashes anything: it is a label: what it is worth is what the hold of that sum in a sandbox is worth. -/
noncomputable def Tryz.pinned : Pinned := { name := "ytccifbbjbnjcfaagreatdoor", sum := "ac9a45a929ff64b54d4c59bed05bb55aecb1c559fd9e7c29098e9b811799e115", checked := Tryz.checked }
namespace Rows
def none {H : Type} : Left H := { results := [], args := [] }

/- WHAT THE LISTED PACKAGE-LEVEL VARIABLES READ AS WHEN THE CALL BEGINS. Each datum BY PROGRAM (the guide's laid-datum.mjs) off the statement by which the dump's own 'gosem.cut.vars' lays the variable. In a bare row this is a premise. The card (YtccifbbjbnjcfaaGreatDoorCards.lean) ties it to the program's text. -/
def laid_unicode_utf8_acceptRanges {H : Type} : DataW H := .agg [.agg [.lit (.int .u8 128), .lit (.int .u8 191)], .agg [.lit (.int .u8 160), .lit (.int .u8 191)], .agg [.lit (.int .u8 128), .lit (.int .u8 159)], .agg [.lit (.int .u8 144), .lit (.int .u8 191)], .agg [.lit (.int .u8 128), .lit (.int .u8 143)], .agg [.lit (.int .u8 0), .lit (.int .u8 0)], .agg [.lit (.int .u8 0), .lit (.int .u8 0)], .agg [.lit (.int .u8 0), .lit (.int .u8 0)], .agg [.lit (.int .u8 0), .lit (.int .u8 0)], .agg [.lit (.int .u8 0), .lit (.int .u8 0)], .agg [.lit (.int .u8 0), .lit (.int .u8 0)], .agg [.lit (.int .u8 0), .lit (.int .u8 0)], .agg [.lit (.int .u8 0), .lit (.int .u8 0)], .agg [.lit (.int .u8 0), .lit (.int .u8 0)], .agg [.lit (.int .u8 0), .lit (.int .u8 0)], .agg [.lit (.int .u8 0), .lit (.int .u8 0)]]
/-- One of Go's own tables, pinned by name: the form's constant. -/
def laid_unicode_utf8_first : DataW Unit := Go.Pinned.utf8First

/-- 'laws.FnExactBookAdd': WHATEVER THE INPUT: true; the input reads as it did. -/
def fnExactBookAddSpec : ChangeSpec := { name := "fnExactBookAdd", fn := fun _ => fun
  | [d1, d2] => { results := [.lit (.bool true)], args := [d1, d2] }
  | _ => none }
def fnExactBookAddRow : OpenClaim := { program := "ytccifbbjbnjcfaagreatdoor", sum := "ac9a45a929ff64b54d4c59bed05bb55aecb1c559fd9e7c29098e9b811799e115", func := "loop.example/filereconciler/laws.FnExactBookAdd", spec := "fnExactBookAdd", inPlace := ["internal/bytealg.CountString", "internal/bytealg.IndexByteString", "internal/bytealg.IndexString"], unfollowed := true, recurses := true, named := ["unicode/utf8.first", "unicode/utf8.acceptRanges", "internal/bytealg.MaxLen"], apart := false, laid := [("unicode/utf8.acceptRanges", laid_unicode_utf8_acceptRanges), ("unicode/utf8.first", laid_unicode_utf8_first)] }
def FnExactBookAddSaid : Prop := fnExactBookAddRow.holds Tryz.pinned (OpenSpec.ofChange fnExactBookAddSpec)

/-- ITS FALSE NEIGHBOUR: 'it returns false'. Refute it at one input. -/
def fnExactBookAddWrong : ChangeSpec := { name := "fnExactBookAdd", fn := fun _ => fun
  | [d1, d2] => { results := [.lit (.bool false)], args := [d1, d2] }
  | _ => none }
def FnExactBookAddWrongFalsely : Prop := fnExactBookAddRow.holds Tryz.pinned (OpenSpec.ofChange fnExactBookAddWrong)

/-- 'laws.FnExactBookSteps': WHATEVER THE INPUT: true; the input reads as it did. -/
def fnExactBookStepsSpec : ChangeSpec := { name := "fnExactBookSteps", fn := fun _ => fun
  | [d1, d2] => { results := [.lit (.bool true)], args := [d1, d2] }
  | _ => none }
def fnExactBookStepsRow : OpenClaim := { program := "ytccifbbjbnjcfaagreatdoor", sum := "ac9a45a929ff64b54d4c59bed05bb55aecb1c559fd9e7c29098e9b811799e115", func := "loop.example/filereconciler/laws.FnExactBookSteps", spec := "fnExactBookSteps", inPlace := ["internal/bytealg.CountString", "internal/bytealg.IndexByteString", "internal/bytealg.IndexString"], unfollowed := true, recurses := true, named := ["unicode/utf8.first", "unicode/utf8.acceptRanges", "internal/bytealg.MaxLen"], apart := false, laid := [("unicode/utf8.acceptRanges", laid_unicode_utf8_acceptRanges), ("unicode/utf8.first", laid_unicode_utf8_first)] }
def FnExactBookStepsSaid : Prop := fnExactBookStepsRow.holds Tryz.pinned (OpenSpec.ofChange fnExactBookStepsSpec)

/-- ITS FALSE NEIGHBOUR: 'it returns false'. Refute it at one input. -/
def fnExactBookStepsWrong : ChangeSpec := { name := "fnExactBookSteps", fn := fun _ => fun
  | [d1, d2] => { results := [.lit (.bool false)], args := [d1, d2] }
  | _ => none }
def FnExactBookStepsWrongFalsely : Prop := fnExactBookStepsRow.holds Tryz.pinned (OpenSpec.ofChange fnExactBookStepsWrong)

/-- 'laws.FnReplace': WHATEVER THE INPUT: true; the input reads as it did. -/
def fnReplaceSpec : ChangeSpec := { name := "fnReplace", fn := fun _ => fun
  | [d] => { results := [.lit (.bool true)], args := [d] }
  | _ => none }
def fnReplaceRow : OpenClaim := { program := "ytccifbbjbnjcfaagreatdoor", sum := "ac9a45a929ff64b54d4c59bed05bb55aecb1c559fd9e7c29098e9b811799e115", func := "loop.example/filereconciler/laws.FnReplace", spec := "fnReplace", inPlace := ["internal/bytealg.CountString", "internal/bytealg.IndexByteString", "internal/bytealg.IndexString"], unfollowed := true, recurses := true, named := ["unicode/utf8.first", "unicode/utf8.acceptRanges", "internal/bytealg.MaxLen"], apart := false, laid := [("unicode/utf8.acceptRanges", laid_unicode_utf8_acceptRanges), ("unicode/utf8.first", laid_unicode_utf8_first)] }
def FnReplaceSaid : Prop := fnReplaceRow.holds Tryz.pinned (OpenSpec.ofChange fnReplaceSpec)

/-- ITS FALSE NEIGHBOUR: 'it returns false'. Refute it at one input. -/
def fnReplaceWrong : ChangeSpec := { name := "fnReplace", fn := fun _ => fun
  | [d] => { results := [.lit (.bool false)], args := [d] }
  | _ => none }
def FnReplaceWrongFalsely : Prop := fnReplaceRow.holds Tryz.pinned (OpenSpec.ofChange fnReplaceWrong)

/-- 'laws.FnReplaceCrash': WHATEVER THE INPUT: true; the input reads as it did. -/
def fnReplaceCrashSpec : ChangeSpec := { name := "fnReplaceCrash", fn := fun _ => fun
  | [d1, d2] => { results := [.lit (.bool true)], args := [d1, d2] }
  | _ => none }
def fnReplaceCrashRow : OpenClaim := { program := "ytccifbbjbnjcfaagreatdoor", sum := "ac9a45a929ff64b54d4c59bed05bb55aecb1c559fd9e7c29098e9b811799e115", func := "loop.example/filereconciler/laws.FnReplaceCrash", spec := "fnReplaceCrash", inPlace := ["internal/bytealg.CountString", "internal/bytealg.IndexByteString", "internal/bytealg.IndexString"], unfollowed := true, recurses := true, named := ["unicode/utf8.first", "unicode/utf8.acceptRanges", "internal/bytealg.MaxLen"], apart := false, laid := [("unicode/utf8.acceptRanges", laid_unicode_utf8_acceptRanges), ("unicode/utf8.first", laid_unicode_utf8_first)] }
def FnReplaceCrashSaid : Prop := fnReplaceCrashRow.holds Tryz.pinned (OpenSpec.ofChange fnReplaceCrashSpec)

/-- ITS FALSE NEIGHBOUR: 'it returns false'. Refute it at one input. -/
def fnReplaceCrashWrong : ChangeSpec := { name := "fnReplaceCrash", fn := fun _ => fun
  | [d1, d2] => { results := [.lit (.bool false)], args := [d1, d2] }
  | _ => none }
def FnReplaceCrashWrongFalsely : Prop := fnReplaceCrashRow.holds Tryz.pinned (OpenSpec.ofChange fnReplaceCrashWrong)

/-- 'laws.FnAdd': WHATEVER THE INPUT: true; the input reads as it did. -/
def fnAddSpec : ChangeSpec := { name := "fnAdd", fn := fun _ => fun
  | [d] => { results := [.lit (.bool true)], args := [d] }
  | _ => none }
def fnAddRow : OpenClaim := { program := "ytccifbbjbnjcfaagreatdoor", sum := "ac9a45a929ff64b54d4c59bed05bb55aecb1c559fd9e7c29098e9b811799e115", func := "loop.example/filereconciler/laws.FnAdd", spec := "fnAdd", inPlace := ["internal/bytealg.CountString", "internal/bytealg.IndexByteString", "internal/bytealg.IndexString"], unfollowed := true, recurses := true, named := ["unicode/utf8.first", "unicode/utf8.acceptRanges", "internal/bytealg.MaxLen"], apart := false, laid := [("unicode/utf8.acceptRanges", laid_unicode_utf8_acceptRanges), ("unicode/utf8.first", laid_unicode_utf8_first)] }
def FnAddSaid : Prop := fnAddRow.holds Tryz.pinned (OpenSpec.ofChange fnAddSpec)

/-- ITS FALSE NEIGHBOUR: 'it returns false'. Refute it at one input. -/
def fnAddWrong : ChangeSpec := { name := "fnAdd", fn := fun _ => fun
  | [d] => { results := [.lit (.bool false)], args := [d] }
  | _ => none }
def FnAddWrongFalsely : Prop := fnAddRow.holds Tryz.pinned (OpenSpec.ofChange fnAddWrong)

/- THE SECOND FORM. 'bulk': how many values and letters a reading holds, each counted each time it is reached (what is shared counts as often as it is met; a slice's spare places count too). A statement '..UptoSaid' is the law's where the arguments, and the package variables that the reading takes, are together of bulk at most 1048576: NARROWER than '..Said'. Prove '..Said' where nothing that the law and all that it calls make is longer than what came in: it says more and counts as full. Else prove '..UptoSaid'. A law counts once. -/
mutual
def uptoBulk {H : Type} : DataW H → Nat
  | .lit (.string bytes) => bytes.length + 1
  | .lit _ => 1
  | .nil => 1
  | .ptr d => uptoBulk d + 1
  | .slice elems spare => uptoBulkAll elems + uptoBulkAll spare + 1
  | .agg parts => uptoBulkAll parts + 1
  | .iface _ d => uptoBulk d + 1
  | .map entries => uptoBulkEntries entries + 1
  | .held _ => 1
def uptoBulkAll {H : Type} : List (DataW H) → Nat
  | [] => 0
  | d :: r => uptoBulk d + uptoBulkAll r
def uptoBulkEntries {H : Type} : List (Lit × DataW H) → Nat
  | [] => 0
  | x :: r => uptoBulkEntry x + uptoBulkEntries r
def uptoBulkEntry {H : Type} : Lit × DataW H → Nat
  | (.string bytes, d) => bytes.length + uptoBulk d + 1
  | (_, d) => uptoBulk d + 1
 end
def uptoSmall : (H : Type) → List (DataW H) → Bool := fun _ ds => decide (uptoBulkAll ds ≤ 1048576)
def OpenSpec.upto (s : _root_.Go.ChangeSpec) : _root_.Go.OpenSpec := { _root_.Go.OpenSpec.ofChange s with cond := some uptoSmall }

/-- 'laws.FnExactBookAdd', WHERE WHAT IT READS IS OF BULK AT MOST 1048576: true; the input reads as it did. -/
def fnExactBookAddUptoRow : OpenClaim := { program := "ytccifbbjbnjcfaagreatdoor", sum := "ac9a45a929ff64b54d4c59bed05bb55aecb1c559fd9e7c29098e9b811799e115", func := "loop.example/filereconciler/laws.FnExactBookAdd", spec := "fnExactBookAdd", inPlace := ["internal/bytealg.CountString", "internal/bytealg.IndexByteString", "internal/bytealg.IndexString"], unfollowed := true, recurses := true, named := ["unicode/utf8.first", "unicode/utf8.acceptRanges", "internal/bytealg.MaxLen"], apart := false, laid := [("unicode/utf8.acceptRanges", laid_unicode_utf8_acceptRanges), ("unicode/utf8.first", laid_unicode_utf8_first)], narrowed := true }
def FnExactBookAddUptoSaid : Prop := fnExactBookAddUptoRow.holds Tryz.pinned (OpenSpec.upto fnExactBookAddSpec)

/-- 'laws.FnExactBookSteps', WHERE WHAT IT READS IS OF BULK AT MOST 1048576: true; the input reads as it did. -/
def fnExactBookStepsUptoRow : OpenClaim := { program := "ytccifbbjbnjcfaagreatdoor", sum := "ac9a45a929ff64b54d4c59bed05bb55aecb1c559fd9e7c29098e9b811799e115", func := "loop.example/filereconciler/laws.FnExactBookSteps", spec := "fnExactBookSteps", inPlace := ["internal/bytealg.CountString", "internal/bytealg.IndexByteString", "internal/bytealg.IndexString"], unfollowed := true, recurses := true, named := ["unicode/utf8.first", "unicode/utf8.acceptRanges", "internal/bytealg.MaxLen"], apart := false, laid := [("unicode/utf8.acceptRanges", laid_unicode_utf8_acceptRanges), ("unicode/utf8.first", laid_unicode_utf8_first)], narrowed := true }
def FnExactBookStepsUptoSaid : Prop := fnExactBookStepsUptoRow.holds Tryz.pinned (OpenSpec.upto fnExactBookStepsSpec)

/-- 'laws.FnReplace', WHERE WHAT IT READS IS OF BULK AT MOST 1048576: true; the input reads as it did. -/
def fnReplaceUptoRow : OpenClaim := { program := "ytccifbbjbnjcfaagreatdoor", sum := "ac9a45a929ff64b54d4c59bed05bb55aecb1c559fd9e7c29098e9b811799e115", func := "loop.example/filereconciler/laws.FnReplace", spec := "fnReplace", inPlace := ["internal/bytealg.CountString", "internal/bytealg.IndexByteString", "internal/bytealg.IndexString"], unfollowed := true, recurses := true, named := ["unicode/utf8.first", "unicode/utf8.acceptRanges", "internal/bytealg.MaxLen"], apart := false, laid := [("unicode/utf8.acceptRanges", laid_unicode_utf8_acceptRanges), ("unicode/utf8.first", laid_unicode_utf8_first)], narrowed := true }
def FnReplaceUptoSaid : Prop := fnReplaceUptoRow.holds Tryz.pinned (OpenSpec.upto fnReplaceSpec)

/-- 'laws.FnReplaceCrash', WHERE WHAT IT READS IS OF BULK AT MOST 1048576: true; the input reads as it did. -/
def fnReplaceCrashUptoRow : OpenClaim := { program := "ytccifbbjbnjcfaagreatdoor", sum := "ac9a45a929ff64b54d4c59bed05bb55aecb1c559fd9e7c29098e9b811799e115", func := "loop.example/filereconciler/laws.FnReplaceCrash", spec := "fnReplaceCrash", inPlace := ["internal/bytealg.CountString", "internal/bytealg.IndexByteString", "internal/bytealg.IndexString"], unfollowed := true, recurses := true, named := ["unicode/utf8.first", "unicode/utf8.acceptRanges", "internal/bytealg.MaxLen"], apart := false, laid := [("unicode/utf8.acceptRanges", laid_unicode_utf8_acceptRanges), ("unicode/utf8.first", laid_unicode_utf8_first)], narrowed := true }
def FnReplaceCrashUptoSaid : Prop := fnReplaceCrashUptoRow.holds Tryz.pinned (OpenSpec.upto fnReplaceCrashSpec)

/-- 'laws.FnAdd', WHERE WHAT IT READS IS OF BULK AT MOST 1048576: true; the input reads as it did. -/
def fnAddUptoRow : OpenClaim := { program := "ytccifbbjbnjcfaagreatdoor", sum := "ac9a45a929ff64b54d4c59bed05bb55aecb1c559fd9e7c29098e9b811799e115", func := "loop.example/filereconciler/laws.FnAdd", spec := "fnAdd", inPlace := ["internal/bytealg.CountString", "internal/bytealg.IndexByteString", "internal/bytealg.IndexString"], unfollowed := true, recurses := true, named := ["unicode/utf8.first", "unicode/utf8.acceptRanges", "internal/bytealg.MaxLen"], apart := false, laid := [("unicode/utf8.acceptRanges", laid_unicode_utf8_acceptRanges), ("unicode/utf8.first", laid_unicode_utf8_first)], narrowed := true }
def FnAddUptoSaid : Prop := fnAddUptoRow.holds Tryz.pinned (OpenSpec.upto fnAddSpec)

end Rows
end Go.Proofs.YtccifbbjbnjcfaaGreatDoor
