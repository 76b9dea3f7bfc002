/-
  NARROWER THAN 'FOR EVERY INPUT', by the rows' own cells (each row's printed sentence says how): FnSiteUndo: laid · FnSiteShort: laid · FnSiteCanon: laid · FnExactSiteCanon: laid · FnExactSiteShort: laid.
  DERIVED. THE GIVEN ROWS OF THIS SEAT. 5 by the template 'for every input the law returns true; each argument reads behind the call as it read before'; 0 by the template 'total and deterministic' (their statements: YtcjialgknmplbaaGreatDoorTotals.lean).
  GIVEN WITH THE SEED: the statements are not yours to turn. If you find one false, say at which input.
  Laid BY PROGRAM, IN A SANDBOX (cutbox-rows.mjs): the forced cells as the released guide's own fill.sh prints them over the translation 05e5b4691fb9a3ed… (all of the seat's roots in one cut). By AI agents, Wed Nov 11 2026. No macro, syntax, notation, axiom, sorry.
-/
import Derived.Test.YtcjialgknmplbaaGreatDoorChecked
import GoSem.PinnedTables
import GoSem.Claim
import GoSem.ClaimJoined
import GoSem.ClaimMapViews
import Derived.JoinedTies
import Derived.KernelRfl
namespace Go.Proofs.YtcjialgknmplbaaGreatDoor
/- THE CELL 'sum', in the pinned program and in every row, IS THE sha256 OF THE DUMP (.gsa) THAT YtcjialgknmplbaaGreatDoorProg.lean LOADS. Nothing in Lean hashes anything: it is a label: what it is worth is what the hold of that sum in a sandbox is worth. -/
noncomputable def Tryz.pinned : Pinned := { name := "ytcjialgknmplbaagreatdoor", sum := "05e5b4691fb9a3eddafb8935bf47a4f85f44d2a39f73fe7015838643f87a517d", checked := Tryz.checked }
namespace Rows
def none {H : Type} : Left H := { results := [], args := [] }

/- WHAT THE LISTED PACKAGE-LEVEL VARIABLES READ AS WHEN THE CALL BEGINS. Each datum BY PROGRAM (the guide's laid-datum.mjs) off the statement by which the dump's own 'gosem.cut.vars' lays the variable. In a bare row this is a premise. The card (YtcjialgknmplbaaGreatDoorCards.lean) ties it to the program's text. -/
def laid_unicode_utf8_acceptRanges {H : Type} : DataW H := .agg [.agg [.lit (.int .u8 128), .lit (.int .u8 191)], .agg [.lit (.int .u8 160), .lit (.int .u8 191)], .agg [.lit (.int .u8 128), .lit (.int .u8 159)], .agg [.lit (.int .u8 144), .lit (.int .u8 191)], .agg [.lit (.int .u8 128), .lit (.int .u8 143)], .agg [.lit (.int .u8 0), .lit (.int .u8 0)], .agg [.lit (.int .u8 0), .lit (.int .u8 0)], .agg [.lit (.int .u8 0), .lit (.int .u8 0)], .agg [.lit (.int .u8 0), .lit (.int .u8 0)], .agg [.lit (.int .u8 0), .lit (.int .u8 0)], .agg [.lit (.int .u8 0), .lit (.int .u8 0)], .agg [.lit (.int .u8 0), .lit (.int .u8 0)], .agg [.lit (.int .u8 0), .lit (.int .u8 0)], .agg [.lit (.int .u8 0), .lit (.int .u8 0)], .agg [.lit (.int .u8 0), .lit (.int .u8 0)], .agg [.lit (.int .u8 0), .lit (.int .u8 0)]]
/-- One of Go's own tables, pinned by name: the form's constant. -/
def laid_unicode_utf8_first : DataW Unit := Go.Pinned.utf8First

/-- 'laws.FnSiteUndo': WHATEVER THE INPUT: true; the input reads as it did. -/
def fnSiteUndoSpec : ChangeSpec := { name := "fnSiteUndo", fn := fun _ => fun
  | [d] => { results := [.lit (.bool true)], args := [d] }
  | _ => none }
def fnSiteUndoRow : OpenClaim := { program := "ytcjialgknmplbaagreatdoor", sum := "05e5b4691fb9a3eddafb8935bf47a4f85f44d2a39f73fe7015838643f87a517d", func := "loop.example/filereconciler/laws.FnSiteUndo", spec := "fnSiteUndo", inPlace := ["internal/bytealg.CountString", "internal/bytealg.IndexByteString", "internal/bytealg.IndexString", "slices.overlaps[loop.example/filereconciler/impl.Node]"], unfollowed := true, recurses := true, named := ["unicode/utf8.first", "unicode/utf8.acceptRanges", "internal/bytealg.MaxLen"], apart := false, laid := [("unicode/utf8.acceptRanges", laid_unicode_utf8_acceptRanges), ("unicode/utf8.first", laid_unicode_utf8_first)] }
def FnSiteUndoSaid : Prop := fnSiteUndoRow.holds Tryz.pinned (OpenSpec.ofChange fnSiteUndoSpec)

/-- ITS FALSE NEIGHBOUR: 'it returns false'. Refute it at one input. -/
def fnSiteUndoWrong : ChangeSpec := { name := "fnSiteUndo", fn := fun _ => fun
  | [d] => { results := [.lit (.bool false)], args := [d] }
  | _ => none }
def FnSiteUndoWrongFalsely : Prop := fnSiteUndoRow.holds Tryz.pinned (OpenSpec.ofChange fnSiteUndoWrong)

/-- 'laws.FnSiteShort': WHATEVER THE INPUT: true; the input reads as it did. -/
def fnSiteShortSpec : ChangeSpec := { name := "fnSiteShort", fn := fun _ => fun
  | [d] => { results := [.lit (.bool true)], args := [d] }
  | _ => none }
def fnSiteShortRow : OpenClaim := { program := "ytcjialgknmplbaagreatdoor", sum := "05e5b4691fb9a3eddafb8935bf47a4f85f44d2a39f73fe7015838643f87a517d", func := "loop.example/filereconciler/laws.FnSiteShort", spec := "fnSiteShort", inPlace := ["internal/bytealg.CountString", "internal/bytealg.IndexByteString", "internal/bytealg.IndexString", "slices.overlaps[loop.example/filereconciler/impl.Node]"], unfollowed := true, recurses := true, named := ["unicode/utf8.first", "unicode/utf8.acceptRanges", "internal/bytealg.MaxLen"], apart := false, laid := [("unicode/utf8.acceptRanges", laid_unicode_utf8_acceptRanges), ("unicode/utf8.first", laid_unicode_utf8_first)] }
def FnSiteShortSaid : Prop := fnSiteShortRow.holds Tryz.pinned (OpenSpec.ofChange fnSiteShortSpec)

/-- ITS FALSE NEIGHBOUR: 'it returns false'. Refute it at one input. -/
def fnSiteShortWrong : ChangeSpec := { name := "fnSiteShort", fn := fun _ => fun
  | [d] => { results := [.lit (.bool false)], args := [d] }
  | _ => none }
def FnSiteShortWrongFalsely : Prop := fnSiteShortRow.holds Tryz.pinned (OpenSpec.ofChange fnSiteShortWrong)

/-- 'laws.FnSiteCanon': WHATEVER THE INPUT: true; the input reads as it did. -/
def fnSiteCanonSpec : ChangeSpec := { name := "fnSiteCanon", fn := fun _ => fun
  | [d] => { results := [.lit (.bool true)], args := [d] }
  | _ => none }
def fnSiteCanonRow : OpenClaim := { program := "ytcjialgknmplbaagreatdoor", sum := "05e5b4691fb9a3eddafb8935bf47a4f85f44d2a39f73fe7015838643f87a517d", func := "loop.example/filereconciler/laws.FnSiteCanon", spec := "fnSiteCanon", inPlace := ["internal/bytealg.CountString", "internal/bytealg.IndexByteString", "internal/bytealg.IndexString", "slices.overlaps[loop.example/filereconciler/impl.Node]"], unfollowed := true, recurses := true, named := ["unicode/utf8.first", "unicode/utf8.acceptRanges", "internal/bytealg.MaxLen"], apart := false, laid := [("unicode/utf8.acceptRanges", laid_unicode_utf8_acceptRanges), ("unicode/utf8.first", laid_unicode_utf8_first)] }
def FnSiteCanonSaid : Prop := fnSiteCanonRow.holds Tryz.pinned (OpenSpec.ofChange fnSiteCanonSpec)

/-- ITS FALSE NEIGHBOUR: 'it returns false'. Refute it at one input. -/
def fnSiteCanonWrong : ChangeSpec := { name := "fnSiteCanon", fn := fun _ => fun
  | [d] => { results := [.lit (.bool false)], args := [d] }
  | _ => none }
def FnSiteCanonWrongFalsely : Prop := fnSiteCanonRow.holds Tryz.pinned (OpenSpec.ofChange fnSiteCanonWrong)

/-- 'laws.FnExactSiteCanon': WHATEVER THE INPUT: true; the input reads as it did. -/
def fnExactSiteCanonSpec : ChangeSpec := { name := "fnExactSiteCanon", fn := fun _ => fun
  | [d] => { results := [.lit (.bool true)], args := [d] }
  | _ => none }
def fnExactSiteCanonRow : OpenClaim := { program := "ytcjialgknmplbaagreatdoor", sum := "05e5b4691fb9a3eddafb8935bf47a4f85f44d2a39f73fe7015838643f87a517d", func := "loop.example/filereconciler/laws.FnExactSiteCanon", spec := "fnExactSiteCanon", inPlace := ["internal/bytealg.CountString", "internal/bytealg.IndexByteString", "internal/bytealg.IndexString", "slices.overlaps[loop.example/filereconciler/impl.Node]"], unfollowed := true, recurses := true, named := ["unicode/utf8.first", "unicode/utf8.acceptRanges", "internal/bytealg.MaxLen"], apart := false, laid := [("unicode/utf8.acceptRanges", laid_unicode_utf8_acceptRanges), ("unicode/utf8.first", laid_unicode_utf8_first)] }
def FnExactSiteCanonSaid : Prop := fnExactSiteCanonRow.holds Tryz.pinned (OpenSpec.ofChange fnExactSiteCanonSpec)

/-- ITS FALSE NEIGHBOUR: 'it returns false'. Refute it at one input. -/
def fnExactSiteCanonWrong : ChangeSpec := { name := "fnExactSiteCanon", fn := fun _ => fun
  | [d] => { results := [.lit (.bool false)], args := [d] }
  | _ => none }
def FnExactSiteCanonWrongFalsely : Prop := fnExactSiteCanonRow.holds Tryz.pinned (OpenSpec.ofChange fnExactSiteCanonWrong)

/-- 'laws.FnExactSiteShort': WHATEVER THE INPUT: true; the input reads as it did. -/
def fnExactSiteShortSpec : ChangeSpec := { name := "fnExactSiteShort", fn := fun _ => fun
  | [d] => { results := [.lit (.bool true)], args := [d] }
  | _ => none }
def fnExactSiteShortRow : OpenClaim := { program := "ytcjialgknmplbaagreatdoor", sum := "05e5b4691fb9a3eddafb8935bf47a4f85f44d2a39f73fe7015838643f87a517d", func := "loop.example/filereconciler/laws.FnExactSiteShort", spec := "fnExactSiteShort", inPlace := ["internal/bytealg.CountString", "internal/bytealg.IndexByteString", "internal/bytealg.IndexString", "slices.overlaps[loop.example/filereconciler/impl.Node]"], unfollowed := true, recurses := true, named := ["unicode/utf8.first", "unicode/utf8.acceptRanges", "internal/bytealg.MaxLen"], apart := false, laid := [("unicode/utf8.acceptRanges", laid_unicode_utf8_acceptRanges), ("unicode/utf8.first", laid_unicode_utf8_first)] }
def FnExactSiteShortSaid : Prop := fnExactSiteShortRow.holds Tryz.pinned (OpenSpec.ofChange fnExactSiteShortSpec)

/-- ITS FALSE NEIGHBOUR: 'it returns false'. Refute it at one input. -/
def fnExactSiteShortWrong : ChangeSpec := { name := "fnExactSiteShort", fn := fun _ => fun
  | [d] => { results := [.lit (.bool false)], args := [d] }
  | _ => none }
def FnExactSiteShortWrongFalsely : Prop := fnExactSiteShortRow.holds Tryz.pinned (OpenSpec.ofChange fnExactSiteShortWrong)

/- THE SECOND FORM. 'bulk': how many values and letters a reading holds, each counted each time it is reached (what is shared counts as often as it is met; a slice's spare places count too). A statement '..UptoSaid' is the law's where the arguments, and the package variables that the reading takes, are together of bulk at most 1048576: NARROWER than '..Said'. Prove '..Said' where nothing that the law and all that it calls make is longer than what came in: it says more and counts as full. Else prove '..UptoSaid'. A law counts once. -/
mutual
def uptoBulk {H : Type} : DataW H → Nat
  | .lit (.string bytes) => bytes.length + 1
  | .lit _ => 1
  | .nil => 1
  | .ptr d => uptoBulk d + 1
  | .slice elems spare => uptoBulkAll elems + uptoBulkAll spare + 1
  | .agg parts => uptoBulkAll parts + 1
  | .iface _ d => uptoBulk d + 1
  | .map entries => uptoBulkEntries entries + 1
  | .held _ => 1
def uptoBulkAll {H : Type} : List (DataW H) → Nat
  | [] => 0
  | d :: r => uptoBulk d + uptoBulkAll r
def uptoBulkEntries {H : Type} : List (Lit × DataW H) → Nat
  | [] => 0
  | x :: r => uptoBulkEntry x + uptoBulkEntries r
def uptoBulkEntry {H : Type} : Lit × DataW H → Nat
  | (.string bytes, d) => bytes.length + uptoBulk d + 1
  | (_, d) => uptoBulk d + 1
 end
def uptoSmall : (H : Type) → List (DataW H) → Bool := fun _ ds => decide (uptoBulkAll ds ≤ 1048576)
def OpenSpec.upto (s : _root_.Go.ChangeSpec) : _root_.Go.OpenSpec := { _root_.Go.OpenSpec.ofChange s with cond := some uptoSmall }

/-- 'laws.FnSiteUndo', WHERE WHAT IT READS IS OF BULK AT MOST 1048576: true; the input reads as it did. -/
def fnSiteUndoUptoRow : OpenClaim := { program := "ytcjialgknmplbaagreatdoor", sum := "05e5b4691fb9a3eddafb8935bf47a4f85f44d2a39f73fe7015838643f87a517d", func := "loop.example/filereconciler/laws.FnSiteUndo", spec := "fnSiteUndo", inPlace := ["internal/bytealg.CountString", "internal/bytealg.IndexByteString", "internal/bytealg.IndexString", "slices.overlaps[loop.example/filereconciler/impl.Node]"], unfollowed := true, recurses := true, named := ["unicode/utf8.first", "unicode/utf8.acceptRanges", "internal/bytealg.MaxLen"], apart := false, laid := [("unicode/utf8.acceptRanges", laid_unicode_utf8_acceptRanges), ("unicode/utf8.first", laid_unicode_utf8_first)], narrowed := true }
def FnSiteUndoUptoSaid : Prop := fnSiteUndoUptoRow.holds Tryz.pinned (OpenSpec.upto fnSiteUndoSpec)

/-- 'laws.FnSiteShort', WHERE WHAT IT READS IS OF BULK AT MOST 1048576: true; the input reads as it did. -/
def fnSiteShortUptoRow : OpenClaim := { program := "ytcjialgknmplbaagreatdoor", sum := "05e5b4691fb9a3eddafb8935bf47a4f85f44d2a39f73fe7015838643f87a517d", func := "loop.example/filereconciler/laws.FnSiteShort", spec := "fnSiteShort", inPlace := ["internal/bytealg.CountString", "internal/bytealg.IndexByteString", "internal/bytealg.IndexString", "slices.overlaps[loop.example/filereconciler/impl.Node]"], unfollowed := true, recurses := true, named := ["unicode/utf8.first", "unicode/utf8.acceptRanges", "internal/bytealg.MaxLen"], apart := false, laid := [("unicode/utf8.acceptRanges", laid_unicode_utf8_acceptRanges), ("unicode/utf8.first", laid_unicode_utf8_first)], narrowed := true }
def FnSiteShortUptoSaid : Prop := fnSiteShortUptoRow.holds Tryz.pinned (OpenSpec.upto fnSiteShortSpec)

/-- 'laws.FnSiteCanon', WHERE WHAT IT READS IS OF BULK AT MOST 1048576: true; the input reads as it did. -/
def fnSiteCanonUptoRow : OpenClaim := { program := "ytcjialgknmplbaagreatdoor", sum := "05e5b4691fb9a3eddafb8935bf47a4f85f44d2a39f73fe7015838643f87a517d", func := "loop.example/filereconciler/laws.FnSiteCanon", spec := "fnSiteCanon", inPlace := ["internal/bytealg.CountString", "internal/bytealg.IndexByteString", "internal/bytealg.IndexString", "slices.overlaps[loop.example/filereconciler/impl.Node]"], unfollowed := true, recurses := true, named := ["unicode/utf8.first", "unicode/utf8.acceptRanges", "internal/bytealg.MaxLen"], apart := false, laid := [("unicode/utf8.acceptRanges", laid_unicode_utf8_acceptRanges), ("unicode/utf8.first", laid_unicode_utf8_first)], narrowed := true }
def FnSiteCanonUptoSaid : Prop := fnSiteCanonUptoRow.holds Tryz.pinned (OpenSpec.upto fnSiteCanonSpec)

/-- 'laws.FnExactSiteCanon', WHERE WHAT IT READS IS OF BULK AT MOST 1048576: true; the input reads as it did. -/
def fnExactSiteCanonUptoRow : OpenClaim := { program := "ytcjialgknmplbaagreatdoor", sum := "05e5b4691fb9a3eddafb8935bf47a4f85f44d2a39f73fe7015838643f87a517d", func := "loop.example/filereconciler/laws.FnExactSiteCanon", spec := "fnExactSiteCanon", inPlace := ["internal/bytealg.CountString", "internal/bytealg.IndexByteString", "internal/bytealg.IndexString", "slices.overlaps[loop.example/filereconciler/impl.Node]"], unfollowed := true, recurses := true, named := ["unicode/utf8.first", "unicode/utf8.acceptRanges", "internal/bytealg.MaxLen"], apart := false, laid := [("unicode/utf8.acceptRanges", laid_unicode_utf8_acceptRanges), ("unicode/utf8.first", laid_unicode_utf8_first)], narrowed := true }
def FnExactSiteCanonUptoSaid : Prop := fnExactSiteCanonUptoRow.holds Tryz.pinned (OpenSpec.upto fnExactSiteCanonSpec)

/-- 'laws.FnExactSiteShort', WHERE WHAT IT READS IS OF BULK AT MOST 1048576: true; the input reads as it did. -/
def fnExactSiteShortUptoRow : OpenClaim := { program := "ytcjialgknmplbaagreatdoor", sum := "05e5b4691fb9a3eddafb8935bf47a4f85f44d2a39f73fe7015838643f87a517d", func := "loop.example/filereconciler/laws.FnExactSiteShort", spec := "fnExactSiteShort", inPlace := ["internal/bytealg.CountString", "internal/bytealg.IndexByteString", "internal/bytealg.IndexString", "slices.overlaps[loop.example/filereconciler/impl.Node]"], unfollowed := true, recurses := true, named := ["unicode/utf8.first", "unicode/utf8.acceptRanges", "internal/bytealg.MaxLen"], apart := false, laid := [("unicode/utf8.acceptRanges", laid_unicode_utf8_acceptRanges), ("unicode/utf8.first", laid_unicode_utf8_first)], narrowed := true }
def FnExactSiteShortUptoSaid : Prop := fnExactSiteShortUptoRow.holds Tryz.pinned (OpenSpec.upto fnExactSiteShortSpec)

end Rows
end Go.Proofs.YtcjialgknmplbaaGreatDoor
