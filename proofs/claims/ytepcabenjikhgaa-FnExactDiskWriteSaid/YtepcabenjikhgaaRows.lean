/-
  No cell of these rows narrows 'for every input' (looked for: loops, veiled, ifaces, maps, wideKeys, modest, calm, conditions, laid).
  DERIVED. THE GIVEN ROWS OF THIS SEAT. 8 by the template 'for every input the law returns true; each argument reads behind the call as it read before'; 0 by the template 'total and deterministic' (their statements: YtepcabenjikhgaaTotals.lean).
  GIVEN WITH THE SEED: the statements are not yours to turn. If you find one false, say at which input.
  Laid BY PROGRAM, IN A SANDBOX (cutbox-rows.mjs): the forced cells as the released guide's own fill.sh prints them over the translation 8209f35e333aac85… (all of the seat's roots in one cut). By AI agents, Wed Nov 11 2026. No macro, syntax, notation, axiom, sorry.
-/
import Derived.Test.YtepcabenjikhgaaChecked
import GoSem.Claim
import GoSem.ClaimJoined
import GoSem.ClaimMapViews
import Derived.JoinedTies
import Derived.KernelRfl
namespace Go.Proofs.Ytepcabenjikhgaa
/- THE CELL 'sum', in the pinned program and in every row, IS THE sha256 OF THE DUMP (.gsa) THAT YtepcabenjikhgaaProg.lean LOADS. Nothing in Lean hashes anything: it is a label: what it is worth is what the hold of that sum in a sandbox is worth. -/
noncomputable def Try.pinned : Pinned := { name := "ytepcabenjikhgaa", sum := "8209f35e333aac85bab72dea424e741b43ee649518f59df236a4f310f55939f3", checked := Try.checked }
namespace Rows
def none {H : Type} : Left H := { results := [], args := [] }

/-- 'laws.FnExactDiskCrash': WHATEVER THE INPUT: true; the input reads as it did. -/
def fnExactDiskCrashSpec : ChangeSpec := { name := "fnExactDiskCrash", fn := fun _ => fun
  | [d1, d2] => { results := [.lit (.bool true)], args := [d1, d2] }
  | _ => none }
def fnExactDiskCrashRow : OpenClaim := { program := "ytepcabenjikhgaa", sum := "8209f35e333aac85bab72dea424e741b43ee649518f59df236a4f310f55939f3", func := "loop.example/filereconciler/laws.FnExactDiskCrash", spec := "fnExactDiskCrash", unfollowed := true, recurses := true, apart := false }
def FnExactDiskCrashSaid : Prop := fnExactDiskCrashRow.holds Try.pinned (OpenSpec.ofChange fnExactDiskCrashSpec)

/-- ITS FALSE NEIGHBOUR: 'it returns false'. Refute it at one input. -/
def fnExactDiskCrashWrong : ChangeSpec := { name := "fnExactDiskCrash", fn := fun _ => fun
  | [d1, d2] => { results := [.lit (.bool false)], args := [d1, d2] }
  | _ => none }
def FnExactDiskCrashWrongFalsely : Prop := fnExactDiskCrashRow.holds Try.pinned (OpenSpec.ofChange fnExactDiskCrashWrong)

/-- 'laws.FnExactDiskSync': WHATEVER THE INPUT: true; the input reads as it did. -/
def fnExactDiskSyncSpec : ChangeSpec := { name := "fnExactDiskSync", fn := fun _ => fun
  | [d1, d2] => { results := [.lit (.bool true)], args := [d1, d2] }
  | _ => none }
def fnExactDiskSyncRow : OpenClaim := { program := "ytepcabenjikhgaa", sum := "8209f35e333aac85bab72dea424e741b43ee649518f59df236a4f310f55939f3", func := "loop.example/filereconciler/laws.FnExactDiskSync", spec := "fnExactDiskSync", unfollowed := true, recurses := true, apart := false }
def FnExactDiskSyncSaid : Prop := fnExactDiskSyncRow.holds Try.pinned (OpenSpec.ofChange fnExactDiskSyncSpec)

/-- ITS FALSE NEIGHBOUR: 'it returns false'. Refute it at one input. -/
def fnExactDiskSyncWrong : ChangeSpec := { name := "fnExactDiskSync", fn := fun _ => fun
  | [d1, d2] => { results := [.lit (.bool false)], args := [d1, d2] }
  | _ => none }
def FnExactDiskSyncWrongFalsely : Prop := fnExactDiskSyncRow.holds Try.pinned (OpenSpec.ofChange fnExactDiskSyncWrong)

/-- 'laws.FnWriteParts': WHATEVER THE INPUT: true; the input reads as it did. -/
def fnWritePartsSpec : ChangeSpec := { name := "fnWriteParts", fn := fun _ => fun
  | [d1, d2] => { results := [.lit (.bool true)], args := [d1, d2] }
  | _ => none }
def fnWritePartsRow : OpenClaim := { program := "ytepcabenjikhgaa", sum := "8209f35e333aac85bab72dea424e741b43ee649518f59df236a4f310f55939f3", func := "loop.example/filereconciler/laws.FnWriteParts", spec := "fnWriteParts", unfollowed := true, recurses := true, apart := false }
def FnWritePartsSaid : Prop := fnWritePartsRow.holds Try.pinned (OpenSpec.ofChange fnWritePartsSpec)

/-- ITS FALSE NEIGHBOUR: 'it returns false'. Refute it at one input. -/
def fnWritePartsWrong : ChangeSpec := { name := "fnWriteParts", fn := fun _ => fun
  | [d1, d2] => { results := [.lit (.bool false)], args := [d1, d2] }
  | _ => none }
def FnWritePartsWrongFalsely : Prop := fnWritePartsRow.holds Try.pinned (OpenSpec.ofChange fnWritePartsWrong)

/-- 'laws.FnRename': WHATEVER THE INPUT: true; the input reads as it did. -/
def fnRenameSpec : ChangeSpec := { name := "fnRename", fn := fun _ => fun
  | [d] => { results := [.lit (.bool true)], args := [d] }
  | _ => none }
def fnRenameRow : OpenClaim := { program := "ytepcabenjikhgaa", sum := "8209f35e333aac85bab72dea424e741b43ee649518f59df236a4f310f55939f3", func := "loop.example/filereconciler/laws.FnRename", spec := "fnRename", unfollowed := true, recurses := true, apart := false }
def FnRenameSaid : Prop := fnRenameRow.holds Try.pinned (OpenSpec.ofChange fnRenameSpec)

/-- ITS FALSE NEIGHBOUR: 'it returns false'. Refute it at one input. -/
def fnRenameWrong : ChangeSpec := { name := "fnRename", fn := fun _ => fun
  | [d] => { results := [.lit (.bool false)], args := [d] }
  | _ => none }
def FnRenameWrongFalsely : Prop := fnRenameRow.holds Try.pinned (OpenSpec.ofChange fnRenameWrong)

/-- 'laws.FnRenameBack': WHATEVER THE INPUT: true; the input reads as it did. -/
def fnRenameBackSpec : ChangeSpec := { name := "fnRenameBack", fn := fun _ => fun
  | [d] => { results := [.lit (.bool true)], args := [d] }
  | _ => none }
def fnRenameBackRow : OpenClaim := { program := "ytepcabenjikhgaa", sum := "8209f35e333aac85bab72dea424e741b43ee649518f59df236a4f310f55939f3", func := "loop.example/filereconciler/laws.FnRenameBack", spec := "fnRenameBack", unfollowed := true, recurses := true, apart := false }
def FnRenameBackSaid : Prop := fnRenameBackRow.holds Try.pinned (OpenSpec.ofChange fnRenameBackSpec)

/-- ITS FALSE NEIGHBOUR: 'it returns false'. Refute it at one input. -/
def fnRenameBackWrong : ChangeSpec := { name := "fnRenameBack", fn := fun _ => fun
  | [d] => { results := [.lit (.bool false)], args := [d] }
  | _ => none }
def FnRenameBackWrongFalsely : Prop := fnRenameBackRow.holds Try.pinned (OpenSpec.ofChange fnRenameBackWrong)

/-- 'laws.FnExactDiskRename': WHATEVER THE INPUT: true; the input reads as it did. -/
def fnExactDiskRenameSpec : ChangeSpec := { name := "fnExactDiskRename", fn := fun _ => fun
  | [d1, d2, d3] => { results := [.lit (.bool true)], args := [d1, d2, d3] }
  | _ => none }
def fnExactDiskRenameRow : OpenClaim := { program := "ytepcabenjikhgaa", sum := "8209f35e333aac85bab72dea424e741b43ee649518f59df236a4f310f55939f3", func := "loop.example/filereconciler/laws.FnExactDiskRename", spec := "fnExactDiskRename", unfollowed := true, recurses := true, apart := false }
def FnExactDiskRenameSaid : Prop := fnExactDiskRenameRow.holds Try.pinned (OpenSpec.ofChange fnExactDiskRenameSpec)

/-- ITS FALSE NEIGHBOUR: 'it returns false'. Refute it at one input. -/
def fnExactDiskRenameWrong : ChangeSpec := { name := "fnExactDiskRename", fn := fun _ => fun
  | [d1, d2, d3] => { results := [.lit (.bool false)], args := [d1, d2, d3] }
  | _ => none }
def FnExactDiskRenameWrongFalsely : Prop := fnExactDiskRenameRow.holds Try.pinned (OpenSpec.ofChange fnExactDiskRenameWrong)

/-- 'laws.FnWrite': WHATEVER THE INPUT: true; the input reads as it did. -/
def fnWriteSpec : ChangeSpec := { name := "fnWrite", fn := fun _ => fun
  | [d] => { results := [.lit (.bool true)], args := [d] }
  | _ => none }
def fnWriteRow : OpenClaim := { program := "ytepcabenjikhgaa", sum := "8209f35e333aac85bab72dea424e741b43ee649518f59df236a4f310f55939f3", func := "loop.example/filereconciler/laws.FnWrite", spec := "fnWrite", unfollowed := true, recurses := true, apart := false }
def FnWriteSaid : Prop := fnWriteRow.holds Try.pinned (OpenSpec.ofChange fnWriteSpec)

/-- ITS FALSE NEIGHBOUR: 'it returns false'. Refute it at one input. -/
def fnWriteWrong : ChangeSpec := { name := "fnWrite", fn := fun _ => fun
  | [d] => { results := [.lit (.bool false)], args := [d] }
  | _ => none }
def FnWriteWrongFalsely : Prop := fnWriteRow.holds Try.pinned (OpenSpec.ofChange fnWriteWrong)

/-- 'laws.FnExactDiskWrite': WHATEVER THE INPUT: true; the input reads as it did. -/
def fnExactDiskWriteSpec : ChangeSpec := { name := "fnExactDiskWrite", fn := fun _ => fun
  | [d1, d2, d3] => { results := [.lit (.bool true)], args := [d1, d2, d3] }
  | _ => none }
def fnExactDiskWriteRow : OpenClaim := { program := "ytepcabenjikhgaa", sum := "8209f35e333aac85bab72dea424e741b43ee649518f59df236a4f310f55939f3", func := "loop.example/filereconciler/laws.FnExactDiskWrite", spec := "fnExactDiskWrite", unfollowed := true, recurses := true, apart := false }
def FnExactDiskWriteSaid : Prop := fnExactDiskWriteRow.holds Try.pinned (OpenSpec.ofChange fnExactDiskWriteSpec)

/-- ITS FALSE NEIGHBOUR: 'it returns false'. Refute it at one input. -/
def fnExactDiskWriteWrong : ChangeSpec := { name := "fnExactDiskWrite", fn := fun _ => fun
  | [d1, d2, d3] => { results := [.lit (.bool false)], args := [d1, d2, d3] }
  | _ => none }
def FnExactDiskWriteWrongFalsely : Prop := fnExactDiskWriteRow.holds Try.pinned (OpenSpec.ofChange fnExactDiskWriteWrong)

/- THE SECOND FORM. 'bulk': how many values and letters a reading holds, each counted each time it is reached (what is shared counts as often as it is met; a slice's spare places count too). A statement '..UptoSaid' is the law's where the arguments, and the package variables that the reading takes, are together of bulk at most 1048576: NARROWER than '..Said'. Prove '..Said' where nothing that the law and all that it calls make is longer than what came in: it says more and counts as full. Else prove '..UptoSaid'. A law counts once. -/
mutual
def uptoBulk {H : Type} : DataW H → Nat
  | .lit (.string bytes) => bytes.length + 1
  | .lit _ => 1
  | .nil => 1
  | .ptr d => uptoBulk d + 1
  | .slice elems spare => uptoBulkAll elems + uptoBulkAll spare + 1
  | .agg parts => uptoBulkAll parts + 1
  | .iface _ d => uptoBulk d + 1
  | .map entries => uptoBulkEntries entries + 1
  | .held _ => 1
def uptoBulkAll {H : Type} : List (DataW H) → Nat
  | [] => 0
  | d :: r => uptoBulk d + uptoBulkAll r
def uptoBulkEntries {H : Type} : List (Lit × DataW H) → Nat
  | [] => 0
  | x :: r => uptoBulkEntry x + uptoBulkEntries r
def uptoBulkEntry {H : Type} : Lit × DataW H → Nat
  | (.string bytes, d) => bytes.length + uptoBulk d + 1
  | (_, d) => uptoBulk d + 1
 end
def uptoSmall : (H : Type) → List (DataW H) → Bool := fun _ ds => decide (uptoBulkAll ds ≤ 1048576)
def OpenSpec.upto (s : _root_.Go.ChangeSpec) : _root_.Go.OpenSpec := { _root_.Go.OpenSpec.ofChange s with cond := some uptoSmall }

/-- 'laws.FnExactDiskCrash', WHERE WHAT IT READS IS OF BULK AT MOST 1048576: true; the input reads as it did. -/
def fnExactDiskCrashUptoRow : OpenClaim := { program := "ytepcabenjikhgaa", sum := "8209f35e333aac85bab72dea424e741b43ee649518f59df236a4f310f55939f3", func := "loop.example/filereconciler/laws.FnExactDiskCrash", spec := "fnExactDiskCrash", unfollowed := true, recurses := true, apart := false, narrowed := true }
def FnExactDiskCrashUptoSaid : Prop := fnExactDiskCrashUptoRow.holds Try.pinned (OpenSpec.upto fnExactDiskCrashSpec)

/-- 'laws.FnExactDiskSync', WHERE WHAT IT READS IS OF BULK AT MOST 1048576: true; the input reads as it did. -/
def fnExactDiskSyncUptoRow : OpenClaim := { program := "ytepcabenjikhgaa", sum := "8209f35e333aac85bab72dea424e741b43ee649518f59df236a4f310f55939f3", func := "loop.example/filereconciler/laws.FnExactDiskSync", spec := "fnExactDiskSync", unfollowed := true, recurses := true, apart := false, narrowed := true }
def FnExactDiskSyncUptoSaid : Prop := fnExactDiskSyncUptoRow.holds Try.pinned (OpenSpec.upto fnExactDiskSyncSpec)

/-- 'laws.FnWriteParts', WHERE WHAT IT READS IS OF BULK AT MOST 1048576: true; the input reads as it did. -/
def fnWritePartsUptoRow : OpenClaim := { program := "ytepcabenjikhgaa", sum := "8209f35e333aac85bab72dea424e741b43ee649518f59df236a4f310f55939f3", func := "loop.example/filereconciler/laws.FnWriteParts", spec := "fnWriteParts", unfollowed := true, recurses := true, apart := false, narrowed := true }
def FnWritePartsUptoSaid : Prop := fnWritePartsUptoRow.holds Try.pinned (OpenSpec.upto fnWritePartsSpec)

/-- 'laws.FnRename', WHERE WHAT IT READS IS OF BULK AT MOST 1048576: true; the input reads as it did. -/
def fnRenameUptoRow : OpenClaim := { program := "ytepcabenjikhgaa", sum := "8209f35e333aac85bab72dea424e741b43ee649518f59df236a4f310f55939f3", func := "loop.example/filereconciler/laws.FnRename", spec := "fnRename", unfollowed := true, recurses := true, apart := false, narrowed := true }
def FnRenameUptoSaid : Prop := fnRenameUptoRow.holds Try.pinned (OpenSpec.upto fnRenameSpec)

/-- 'laws.FnRenameBack', WHERE WHAT IT READS IS OF BULK AT MOST 1048576: true; the input reads as it did. -/
def fnRenameBackUptoRow : OpenClaim := { program := "ytepcabenjikhgaa", sum := "8209f35e333aac85bab72dea424e741b43ee649518f59df236a4f310f55939f3", func := "loop.example/filereconciler/laws.FnRenameBack", spec := "fnRenameBack", unfollowed := true, recurses := true, apart := false, narrowed := true }
def FnRenameBackUptoSaid : Prop := fnRenameBackUptoRow.holds Try.pinned (OpenSpec.upto fnRenameBackSpec)

/-- 'laws.FnExactDiskRename', WHERE WHAT IT READS IS OF BULK AT MOST 1048576: true; the input reads as it did. -/
def fnExactDiskRenameUptoRow : OpenClaim := { program := "ytepcabenjikhgaa", sum := "8209f35e333aac85bab72dea424e741b43ee649518f59df236a4f310f55939f3", func := "loop.example/filereconciler/laws.FnExactDiskRename", spec := "fnExactDiskRename", unfollowed := true, recurses := true, apart := false, narrowed := true }
def FnExactDiskRenameUptoSaid : Prop := fnExactDiskRenameUptoRow.holds Try.pinned (OpenSpec.upto fnExactDiskRenameSpec)

/-- 'laws.FnWrite', WHERE WHAT IT READS IS OF BULK AT MOST 1048576: true; the input reads as it did. -/
def fnWriteUptoRow : OpenClaim := { program := "ytepcabenjikhgaa", sum := "8209f35e333aac85bab72dea424e741b43ee649518f59df236a4f310f55939f3", func := "loop.example/filereconciler/laws.FnWrite", spec := "fnWrite", unfollowed := true, recurses := true, apart := false, narrowed := true }
def FnWriteUptoSaid : Prop := fnWriteUptoRow.holds Try.pinned (OpenSpec.upto fnWriteSpec)

/-- 'laws.FnExactDiskWrite', WHERE WHAT IT READS IS OF BULK AT MOST 1048576: true; the input reads as it did. -/
def fnExactDiskWriteUptoRow : OpenClaim := { program := "ytepcabenjikhgaa", sum := "8209f35e333aac85bab72dea424e741b43ee649518f59df236a4f310f55939f3", func := "loop.example/filereconciler/laws.FnExactDiskWrite", spec := "fnExactDiskWrite", unfollowed := true, recurses := true, apart := false, narrowed := true }
def FnExactDiskWriteUptoSaid : Prop := fnExactDiskWriteUptoRow.holds Try.pinned (OpenSpec.upto fnExactDiskWriteSpec)

end Rows
end Go.Proofs.Ytepcabenjikhgaa
