/-
  NARROWER THAN 'FOR EVERY INPUT', by the rows' own cells (each row's printed sentence says how): FnSitePart: laid · FnSiteTree: laid · FnExactSiteValid: laid · FnSiteDo: laid · FnSiteDoBreak: laid · FnExactSiteTree: laid · FnExactSiteDo: laid.
  DERIVED. THE GIVEN ROWS OF THIS SEAT. 7 by the template 'for every input the law returns true; each argument reads behind the call as it read before'; 0 by the template 'total and deterministic' (their statements: YtcjialgknmplbaaDoorTotals.lean).
  GIVEN WITH THE SEED: the statements are not yours to turn. If you find one false, say at which input.
  Laid BY PROGRAM, IN A SANDBOX (cutbox-rows.mjs): the forced cells as the released guide's own fill.sh prints them over the translation 26608ba1d63fc4cf… (all of the seat's roots in one cut). By AI agents, Wed Nov 11 2026. No macro, syntax, notation, axiom, sorry.
-/
import Derived.Test.YtcjialgknmplbaaDoorChecked
import GoSem.PinnedTables
import GoSem.Claim
import GoSem.ClaimJoined
import GoSem.ClaimMapViews
import Derived.JoinedTies
import Derived.KernelRfl
namespace Go.Proofs.YtcjialgknmplbaaDoor
/- THE CELL 'sum', in the pinned program and in every row, IS THE sha256 OF THE DUMP (.gsa) THAT YtcjialgknmplbaaDoorProg.lean LOADS. Nothing in Lean hashes anything: it is a label: what it is worth is what the hold of that sum in a sandbox is worth. -/
noncomputable def Tryd.pinned : Pinned := { name := "ytcjialgknmplbaadoor", sum := "26608ba1d63fc4cf191df73a9dd750fc760006af265b1da0cef16760238d4916", checked := Tryd.checked }
namespace Rows
def none {H : Type} : Left H := { results := [], args := [] }

/- WHAT THE LISTED PACKAGE-LEVEL VARIABLES READ AS WHEN THE CALL BEGINS. Each datum BY PROGRAM (the guide's laid-datum.mjs) off the statement by which the dump's own 'gosem.cut.vars' lays the variable. In a bare row this is a premise. The card (YtcjialgknmplbaaDoorCards.lean) ties it to the program's text. -/
def laid_unicode_utf8_acceptRanges {H : Type} : DataW H := .agg [.agg [.lit (.int .u8 128), .lit (.int .u8 191)], .agg [.lit (.int .u8 160), .lit (.int .u8 191)], .agg [.lit (.int .u8 128), .lit (.int .u8 159)], .agg [.lit (.int .u8 144), .lit (.int .u8 191)], .agg [.lit (.int .u8 128), .lit (.int .u8 143)], .agg [.lit (.int .u8 0), .lit (.int .u8 0)], .agg [.lit (.int .u8 0), .lit (.int .u8 0)], .agg [.lit (.int .u8 0), .lit (.int .u8 0)], .agg [.lit (.int .u8 0), .lit (.int .u8 0)], .agg [.lit (.int .u8 0), .lit (.int .u8 0)], .agg [.lit (.int .u8 0), .lit (.int .u8 0)], .agg [.lit (.int .u8 0), .lit (.int .u8 0)], .agg [.lit (.int .u8 0), .lit (.int .u8 0)], .agg [.lit (.int .u8 0), .lit (.int .u8 0)], .agg [.lit (.int .u8 0), .lit (.int .u8 0)], .agg [.lit (.int .u8 0), .lit (.int .u8 0)]]
/-- One of Go's own tables, pinned by name: the form's constant. -/
def laid_unicode_utf8_first : DataW Unit := Go.Pinned.utf8First

/-- 'laws.FnSitePart': WHATEVER THE INPUT: true; the input reads as it did. -/
def fnSitePartSpec : ChangeSpec := { name := "fnSitePart", fn := fun _ => fun
  | [d1, d2] => { results := [.lit (.bool true)], args := [d1, d2] }
  | _ => none }
def fnSitePartRow : OpenClaim := { program := "ytcjialgknmplbaadoor", sum := "26608ba1d63fc4cf191df73a9dd750fc760006af265b1da0cef16760238d4916", func := "loop.example/filereconciler/laws.FnSitePart", spec := "fnSitePart", inPlace := ["internal/bytealg.CountString", "internal/bytealg.IndexByteString", "internal/bytealg.IndexString", "slices.overlaps[loop.example/filereconciler/impl.Node]"], unfollowed := true, recurses := true, named := ["unicode/utf8.first", "unicode/utf8.acceptRanges", "internal/bytealg.MaxLen"], apart := false, laid := [("unicode/utf8.acceptRanges", laid_unicode_utf8_acceptRanges), ("unicode/utf8.first", laid_unicode_utf8_first)] }
def FnSitePartSaid : Prop := fnSitePartRow.holds Tryd.pinned (OpenSpec.ofChange fnSitePartSpec)

/-- ITS FALSE NEIGHBOUR: 'it returns false'. Refute it at one input. -/
def fnSitePartWrong : ChangeSpec := { name := "fnSitePart", fn := fun _ => fun
  | [d1, d2] => { results := [.lit (.bool false)], args := [d1, d2] }
  | _ => none }
def FnSitePartWrongFalsely : Prop := fnSitePartRow.holds Tryd.pinned (OpenSpec.ofChange fnSitePartWrong)

/-- 'laws.FnSiteTree': WHATEVER THE INPUT: true; the input reads as it did. -/
def fnSiteTreeSpec : ChangeSpec := { name := "fnSiteTree", fn := fun _ => fun
  | [d] => { results := [.lit (.bool true)], args := [d] }
  | _ => none }
def fnSiteTreeRow : OpenClaim := { program := "ytcjialgknmplbaadoor", sum := "26608ba1d63fc4cf191df73a9dd750fc760006af265b1da0cef16760238d4916", func := "loop.example/filereconciler/laws.FnSiteTree", spec := "fnSiteTree", inPlace := ["internal/bytealg.CountString", "internal/bytealg.IndexByteString", "internal/bytealg.IndexString", "slices.overlaps[loop.example/filereconciler/impl.Node]"], unfollowed := true, recurses := true, named := ["unicode/utf8.first", "unicode/utf8.acceptRanges", "internal/bytealg.MaxLen"], apart := false, laid := [("unicode/utf8.acceptRanges", laid_unicode_utf8_acceptRanges), ("unicode/utf8.first", laid_unicode_utf8_first)] }
def FnSiteTreeSaid : Prop := fnSiteTreeRow.holds Tryd.pinned (OpenSpec.ofChange fnSiteTreeSpec)

/-- ITS FALSE NEIGHBOUR: 'it returns false'. Refute it at one input. -/
def fnSiteTreeWrong : ChangeSpec := { name := "fnSiteTree", fn := fun _ => fun
  | [d] => { results := [.lit (.bool false)], args := [d] }
  | _ => none }
def FnSiteTreeWrongFalsely : Prop := fnSiteTreeRow.holds Tryd.pinned (OpenSpec.ofChange fnSiteTreeWrong)

/-- 'laws.FnExactSiteValid': WHATEVER THE INPUT: true; the input reads as it did. -/
def fnExactSiteValidSpec : ChangeSpec := { name := "fnExactSiteValid", fn := fun _ => fun
  | [d] => { results := [.lit (.bool true)], args := [d] }
  | _ => none }
def fnExactSiteValidRow : OpenClaim := { program := "ytcjialgknmplbaadoor", sum := "26608ba1d63fc4cf191df73a9dd750fc760006af265b1da0cef16760238d4916", func := "loop.example/filereconciler/laws.FnExactSiteValid", spec := "fnExactSiteValid", inPlace := ["internal/bytealg.CountString", "internal/bytealg.IndexByteString", "internal/bytealg.IndexString", "slices.overlaps[loop.example/filereconciler/impl.Node]"], unfollowed := true, recurses := true, named := ["unicode/utf8.first", "unicode/utf8.acceptRanges", "internal/bytealg.MaxLen"], apart := false, laid := [("unicode/utf8.acceptRanges", laid_unicode_utf8_acceptRanges), ("unicode/utf8.first", laid_unicode_utf8_first)] }
def FnExactSiteValidSaid : Prop := fnExactSiteValidRow.holds Tryd.pinned (OpenSpec.ofChange fnExactSiteValidSpec)

/-- ITS FALSE NEIGHBOUR: 'it returns false'. Refute it at one input. -/
def fnExactSiteValidWrong : ChangeSpec := { name := "fnExactSiteValid", fn := fun _ => fun
  | [d] => { results := [.lit (.bool false)], args := [d] }
  | _ => none }
def FnExactSiteValidWrongFalsely : Prop := fnExactSiteValidRow.holds Tryd.pinned (OpenSpec.ofChange fnExactSiteValidWrong)

/-- 'laws.FnSiteDo': WHATEVER THE INPUT: true; the input reads as it did. -/
def fnSiteDoSpec : ChangeSpec := { name := "fnSiteDo", fn := fun _ => fun
  | [d] => { results := [.lit (.bool true)], args := [d] }
  | _ => none }
def fnSiteDoRow : OpenClaim := { program := "ytcjialgknmplbaadoor", sum := "26608ba1d63fc4cf191df73a9dd750fc760006af265b1da0cef16760238d4916", func := "loop.example/filereconciler/laws.FnSiteDo", spec := "fnSiteDo", inPlace := ["internal/bytealg.CountString", "internal/bytealg.IndexByteString", "internal/bytealg.IndexString", "slices.overlaps[loop.example/filereconciler/impl.Node]"], unfollowed := true, recurses := true, named := ["unicode/utf8.first", "unicode/utf8.acceptRanges", "internal/bytealg.MaxLen"], apart := false, laid := [("unicode/utf8.acceptRanges", laid_unicode_utf8_acceptRanges), ("unicode/utf8.first", laid_unicode_utf8_first)] }
def FnSiteDoSaid : Prop := fnSiteDoRow.holds Tryd.pinned (OpenSpec.ofChange fnSiteDoSpec)

/-- ITS FALSE NEIGHBOUR: 'it returns false'. Refute it at one input. -/
def fnSiteDoWrong : ChangeSpec := { name := "fnSiteDo", fn := fun _ => fun
  | [d] => { results := [.lit (.bool false)], args := [d] }
  | _ => none }
def FnSiteDoWrongFalsely : Prop := fnSiteDoRow.holds Tryd.pinned (OpenSpec.ofChange fnSiteDoWrong)

/-- 'laws.FnSiteDoBreak': WHATEVER THE INPUT: true; the input reads as it did. -/
def fnSiteDoBreakSpec : ChangeSpec := { name := "fnSiteDoBreak", fn := fun _ => fun
  | [d] => { results := [.lit (.bool true)], args := [d] }
  | _ => none }
def fnSiteDoBreakRow : OpenClaim := { program := "ytcjialgknmplbaadoor", sum := "26608ba1d63fc4cf191df73a9dd750fc760006af265b1da0cef16760238d4916", func := "loop.example/filereconciler/laws.FnSiteDoBreak", spec := "fnSiteDoBreak", inPlace := ["internal/bytealg.CountString", "internal/bytealg.IndexByteString", "internal/bytealg.IndexString", "slices.overlaps[loop.example/filereconciler/impl.Node]"], unfollowed := true, recurses := true, named := ["unicode/utf8.first", "unicode/utf8.acceptRanges", "internal/bytealg.MaxLen"], apart := false, laid := [("unicode/utf8.acceptRanges", laid_unicode_utf8_acceptRanges), ("unicode/utf8.first", laid_unicode_utf8_first)] }
def FnSiteDoBreakSaid : Prop := fnSiteDoBreakRow.holds Tryd.pinned (OpenSpec.ofChange fnSiteDoBreakSpec)

/-- ITS FALSE NEIGHBOUR: 'it returns false'. Refute it at one input. -/
def fnSiteDoBreakWrong : ChangeSpec := { name := "fnSiteDoBreak", fn := fun _ => fun
  | [d] => { results := [.lit (.bool false)], args := [d] }
  | _ => none }
def FnSiteDoBreakWrongFalsely : Prop := fnSiteDoBreakRow.holds Tryd.pinned (OpenSpec.ofChange fnSiteDoBreakWrong)

/-- 'laws.FnExactSiteTree': WHATEVER THE INPUT: true; the input reads as it did. -/
def fnExactSiteTreeSpec : ChangeSpec := { name := "fnExactSiteTree", fn := fun _ => fun
  | [d] => { results := [.lit (.bool true)], args := [d] }
  | _ => none }
def fnExactSiteTreeRow : OpenClaim := { program := "ytcjialgknmplbaadoor", sum := "26608ba1d63fc4cf191df73a9dd750fc760006af265b1da0cef16760238d4916", func := "loop.example/filereconciler/laws.FnExactSiteTree", spec := "fnExactSiteTree", inPlace := ["internal/bytealg.CountString", "internal/bytealg.IndexByteString", "internal/bytealg.IndexString", "slices.overlaps[loop.example/filereconciler/impl.Node]"], unfollowed := true, recurses := true, named := ["unicode/utf8.first", "unicode/utf8.acceptRanges", "internal/bytealg.MaxLen"], apart := false, laid := [("unicode/utf8.acceptRanges", laid_unicode_utf8_acceptRanges), ("unicode/utf8.first", laid_unicode_utf8_first)] }
def FnExactSiteTreeSaid : Prop := fnExactSiteTreeRow.holds Tryd.pinned (OpenSpec.ofChange fnExactSiteTreeSpec)

/-- ITS FALSE NEIGHBOUR: 'it returns false'. Refute it at one input. -/
def fnExactSiteTreeWrong : ChangeSpec := { name := "fnExactSiteTree", fn := fun _ => fun
  | [d] => { results := [.lit (.bool false)], args := [d] }
  | _ => none }
def FnExactSiteTreeWrongFalsely : Prop := fnExactSiteTreeRow.holds Tryd.pinned (OpenSpec.ofChange fnExactSiteTreeWrong)

/-- 'laws.FnExactSiteDo': WHATEVER THE INPUT: true; the input reads as it did. -/
def fnExactSiteDoSpec : ChangeSpec := { name := "fnExactSiteDo", fn := fun _ => fun
  | [d1, d2] => { results := [.lit (.bool true)], args := [d1, d2] }
  | _ => none }
def fnExactSiteDoRow : OpenClaim := { program := "ytcjialgknmplbaadoor", sum := "26608ba1d63fc4cf191df73a9dd750fc760006af265b1da0cef16760238d4916", func := "loop.example/filereconciler/laws.FnExactSiteDo", spec := "fnExactSiteDo", inPlace := ["internal/bytealg.CountString", "internal/bytealg.IndexByteString", "internal/bytealg.IndexString", "slices.overlaps[loop.example/filereconciler/impl.Node]"], unfollowed := true, recurses := true, named := ["unicode/utf8.first", "unicode/utf8.acceptRanges", "internal/bytealg.MaxLen"], apart := false, laid := [("unicode/utf8.acceptRanges", laid_unicode_utf8_acceptRanges), ("unicode/utf8.first", laid_unicode_utf8_first)] }
def FnExactSiteDoSaid : Prop := fnExactSiteDoRow.holds Tryd.pinned (OpenSpec.ofChange fnExactSiteDoSpec)

/-- ITS FALSE NEIGHBOUR: 'it returns false'. Refute it at one input. -/
def fnExactSiteDoWrong : ChangeSpec := { name := "fnExactSiteDo", fn := fun _ => fun
  | [d1, d2] => { results := [.lit (.bool false)], args := [d1, d2] }
  | _ => none }
def FnExactSiteDoWrongFalsely : Prop := fnExactSiteDoRow.holds Tryd.pinned (OpenSpec.ofChange fnExactSiteDoWrong)

/- THE SECOND FORM. 'bulk': how many values and letters a reading holds, each counted each time it is reached (what is shared counts as often as it is met; a slice's spare places count too). A statement '..UptoSaid' is the law's where the arguments, and the package variables that the reading takes, are together of bulk at most 1048576: NARROWER than '..Said'. Prove '..Said' where nothing that the law and all that it calls make is longer than what came in: it says more and counts as full. Else prove '..UptoSaid'. A law counts once. -/
mutual
def uptoBulk {H : Type} : DataW H → Nat
  | .lit (.string bytes) => bytes.length + 1
  | .lit _ => 1
  | .nil => 1
  | .ptr d => uptoBulk d + 1
  | .slice elems spare => uptoBulkAll elems + uptoBulkAll spare + 1
  | .agg parts => uptoBulkAll parts + 1
  | .iface _ d => uptoBulk d + 1
  | .map entries => uptoBulkEntries entries + 1
  | .held _ => 1
def uptoBulkAll {H : Type} : List (DataW H) → Nat
  | [] => 0
  | d :: r => uptoBulk d + uptoBulkAll r
def uptoBulkEntries {H : Type} : List (Lit × DataW H) → Nat
  | [] => 0
  | x :: r => uptoBulkEntry x + uptoBulkEntries r
def uptoBulkEntry {H : Type} : Lit × DataW H → Nat
  | (.string bytes, d) => bytes.length + uptoBulk d + 1
  | (_, d) => uptoBulk d + 1
 end
def uptoSmall : (H : Type) → List (DataW H) → Bool := fun _ ds => decide (uptoBulkAll ds ≤ 1048576)
def OpenSpec.upto (s : _root_.Go.ChangeSpec) : _root_.Go.OpenSpec := { _root_.Go.OpenSpec.ofChange s with cond := some uptoSmall }

/-- 'laws.FnSitePart', WHERE WHAT IT READS IS OF BULK AT MOST 1048576: true; the input reads as it did. -/
def fnSitePartUptoRow : OpenClaim := { program := "ytcjialgknmplbaadoor", sum := "26608ba1d63fc4cf191df73a9dd750fc760006af265b1da0cef16760238d4916", func := "loop.example/filereconciler/laws.FnSitePart", spec := "fnSitePart", inPlace := ["internal/bytealg.CountString", "internal/bytealg.IndexByteString", "internal/bytealg.IndexString", "slices.overlaps[loop.example/filereconciler/impl.Node]"], unfollowed := true, recurses := true, named := ["unicode/utf8.first", "unicode/utf8.acceptRanges", "internal/bytealg.MaxLen"], apart := false, laid := [("unicode/utf8.acceptRanges", laid_unicode_utf8_acceptRanges), ("unicode/utf8.first", laid_unicode_utf8_first)], narrowed := true }
def FnSitePartUptoSaid : Prop := fnSitePartUptoRow.holds Tryd.pinned (OpenSpec.upto fnSitePartSpec)

/-- 'laws.FnSiteTree', WHERE WHAT IT READS IS OF BULK AT MOST 1048576: true; the input reads as it did. -/
def fnSiteTreeUptoRow : OpenClaim := { program := "ytcjialgknmplbaadoor", sum := "26608ba1d63fc4cf191df73a9dd750fc760006af265b1da0cef16760238d4916", func := "loop.example/filereconciler/laws.FnSiteTree", spec := "fnSiteTree", inPlace := ["internal/bytealg.CountString", "internal/bytealg.IndexByteString", "internal/bytealg.IndexString", "slices.overlaps[loop.example/filereconciler/impl.Node]"], unfollowed := true, recurses := true, named := ["unicode/utf8.first", "unicode/utf8.acceptRanges", "internal/bytealg.MaxLen"], apart := false, laid := [("unicode/utf8.acceptRanges", laid_unicode_utf8_acceptRanges), ("unicode/utf8.first", laid_unicode_utf8_first)], narrowed := true }
def FnSiteTreeUptoSaid : Prop := fnSiteTreeUptoRow.holds Tryd.pinned (OpenSpec.upto fnSiteTreeSpec)

/-- 'laws.FnExactSiteValid', WHERE WHAT IT READS IS OF BULK AT MOST 1048576: true; the input reads as it did. -/
def fnExactSiteValidUptoRow : OpenClaim := { program := "ytcjialgknmplbaadoor", sum := "26608ba1d63fc4cf191df73a9dd750fc760006af265b1da0cef16760238d4916", func := "loop.example/filereconciler/laws.FnExactSiteValid", spec := "fnExactSiteValid", inPlace := ["internal/bytealg.CountString", "internal/bytealg.IndexByteString", "internal/bytealg.IndexString", "slices.overlaps[loop.example/filereconciler/impl.Node]"], unfollowed := true, recurses := true, named := ["unicode/utf8.first", "unicode/utf8.acceptRanges", "internal/bytealg.MaxLen"], apart := false, laid := [("unicode/utf8.acceptRanges", laid_unicode_utf8_acceptRanges), ("unicode/utf8.first", laid_unicode_utf8_first)], narrowed := true }
def FnExactSiteValidUptoSaid : Prop := fnExactSiteValidUptoRow.holds Tryd.pinned (OpenSpec.upto fnExactSiteValidSpec)

/-- 'laws.FnSiteDo', WHERE WHAT IT READS IS OF BULK AT MOST 1048576: true; the input reads as it did. -/
def fnSiteDoUptoRow : OpenClaim := { program := "ytcjialgknmplbaadoor", sum := "26608ba1d63fc4cf191df73a9dd750fc760006af265b1da0cef16760238d4916", func := "loop.example/filereconciler/laws.FnSiteDo", spec := "fnSiteDo", inPlace := ["internal/bytealg.CountString", "internal/bytealg.IndexByteString", "internal/bytealg.IndexString", "slices.overlaps[loop.example/filereconciler/impl.Node]"], unfollowed := true, recurses := true, named := ["unicode/utf8.first", "unicode/utf8.acceptRanges", "internal/bytealg.MaxLen"], apart := false, laid := [("unicode/utf8.acceptRanges", laid_unicode_utf8_acceptRanges), ("unicode/utf8.first", laid_unicode_utf8_first)], narrowed := true }
def FnSiteDoUptoSaid : Prop := fnSiteDoUptoRow.holds Tryd.pinned (OpenSpec.upto fnSiteDoSpec)

/-- 'laws.FnSiteDoBreak', WHERE WHAT IT READS IS OF BULK AT MOST 1048576: true; the input reads as it did. -/
def fnSiteDoBreakUptoRow : OpenClaim := { program := "ytcjialgknmplbaadoor", sum := "26608ba1d63fc4cf191df73a9dd750fc760006af265b1da0cef16760238d4916", func := "loop.example/filereconciler/laws.FnSiteDoBreak", spec := "fnSiteDoBreak", inPlace := ["internal/bytealg.CountString", "internal/bytealg.IndexByteString", "internal/bytealg.IndexString", "slices.overlaps[loop.example/filereconciler/impl.Node]"], unfollowed := true, recurses := true, named := ["unicode/utf8.first", "unicode/utf8.acceptRanges", "internal/bytealg.MaxLen"], apart := false, laid := [("unicode/utf8.acceptRanges", laid_unicode_utf8_acceptRanges), ("unicode/utf8.first", laid_unicode_utf8_first)], narrowed := true }
def FnSiteDoBreakUptoSaid : Prop := fnSiteDoBreakUptoRow.holds Tryd.pinned (OpenSpec.upto fnSiteDoBreakSpec)

/-- 'laws.FnExactSiteTree', WHERE WHAT IT READS IS OF BULK AT MOST 1048576: true; the input reads as it did. -/
def fnExactSiteTreeUptoRow : OpenClaim := { program := "ytcjialgknmplbaadoor", sum := "26608ba1d63fc4cf191df73a9dd750fc760006af265b1da0cef16760238d4916", func := "loop.example/filereconciler/laws.FnExactSiteTree", spec := "fnExactSiteTree", inPlace := ["internal/bytealg.CountString", "internal/bytealg.IndexByteString", "internal/bytealg.IndexString", "slices.overlaps[loop.example/filereconciler/impl.Node]"], unfollowed := true, recurses := true, named := ["unicode/utf8.first", "unicode/utf8.acceptRanges", "internal/bytealg.MaxLen"], apart := false, laid := [("unicode/utf8.acceptRanges", laid_unicode_utf8_acceptRanges), ("unicode/utf8.first", laid_unicode_utf8_first)], narrowed := true }
def FnExactSiteTreeUptoSaid : Prop := fnExactSiteTreeUptoRow.holds Tryd.pinned (OpenSpec.upto fnExactSiteTreeSpec)

/-- 'laws.FnExactSiteDo', WHERE WHAT IT READS IS OF BULK AT MOST 1048576: true; the input reads as it did. -/
def fnExactSiteDoUptoRow : OpenClaim := { program := "ytcjialgknmplbaadoor", sum := "26608ba1d63fc4cf191df73a9dd750fc760006af265b1da0cef16760238d4916", func := "loop.example/filereconciler/laws.FnExactSiteDo", spec := "fnExactSiteDo", inPlace := ["internal/bytealg.CountString", "internal/bytealg.IndexByteString", "internal/bytealg.IndexString", "slices.overlaps[loop.example/filereconciler/impl.Node]"], unfollowed := true, recurses := true, named := ["unicode/utf8.first", "unicode/utf8.acceptRanges", "internal/bytealg.MaxLen"], apart := false, laid := [("unicode/utf8.acceptRanges", laid_unicode_utf8_acceptRanges), ("unicode/utf8.first", laid_unicode_utf8_first)], narrowed := true }
def FnExactSiteDoUptoSaid : Prop := fnExactSiteDoUptoRow.holds Tryd.pinned (OpenSpec.upto fnExactSiteDoSpec)

end Rows
end Go.Proofs.YtcjialgknmplbaaDoor
