/-
  No cell of these rows narrows 'for every input' (looked for: loops, veiled, ifaces, maps, wideKeys, modest, calm, conditions, laid).
  DERIVED. THE GIVEN ROWS OF THIS SEAT. 6 by the template 'for every input the law returns true; each argument reads behind the call as it read before'; 0 by the template 'total and deterministic' (their statements: YtjhfhlfiagggpaaTotals.lean).
  GIVEN WITH THE SEED: the statements are not yours to turn. If you find one false, say at which input.
  Laid BY PROGRAM, IN A SANDBOX (cutbox-rows.mjs): the forced cells as the released guide's own fill.sh prints them over the translation cc2e4aa4f840fe79… (all of the seat's roots in one cut). By AI agents, Wed Nov 11 2026. No macro, syntax, notation, axiom, sorry.
-/
import Derived.Test.YtjhfhlfiagggpaaChecked
import GoSem.Claim
import GoSem.ClaimJoined
import GoSem.ClaimMapViews
import Derived.JoinedTies
import Derived.KernelRfl
namespace Go.Proofs.Ytjhfhlfiagggpaa
/- THE CELL 'sum', in the pinned program and in every row, IS THE sha256 OF THE DUMP (.gsa) THAT YtjhfhlfiagggpaaProg.lean LOADS. Nothing in Lean hashes anything: it is a label: what it is worth is what the hold of that sum in a sandbox is worth. -/
noncomputable def Try.pinned : Pinned := { name := "ytjhfhlfiagggpaa", sum := "cc2e4aa4f840fe7922c163839de8702ae84b2f7b9e450132cb289e4873c70d28", checked := Try.checked }
namespace Rows
def none {H : Type} : Left H := { results := [], args := [] }

/-- 'laws.FnSyncTwice': WHATEVER THE INPUT: true; the input reads as it did. -/
def fnSyncTwiceSpec : ChangeSpec := { name := "fnSyncTwice", fn := fun _ => fun
  | [d] => { results := [.lit (.bool true)], args := [d] }
  | _ => none }
def fnSyncTwiceRow : OpenClaim := { program := "ytjhfhlfiagggpaa", sum := "cc2e4aa4f840fe7922c163839de8702ae84b2f7b9e450132cb289e4873c70d28", func := "loop.example/filereconciler/laws.FnSyncTwice", spec := "fnSyncTwice", unfollowed := true, recurses := true, apart := false }
def FnSyncTwiceSaid : Prop := fnSyncTwiceRow.holds Try.pinned (OpenSpec.ofChange fnSyncTwiceSpec)

/-- ITS FALSE NEIGHBOUR: 'it returns false'. Refute it at one input. -/
def fnSyncTwiceWrong : ChangeSpec := { name := "fnSyncTwice", fn := fun _ => fun
  | [d] => { results := [.lit (.bool false)], args := [d] }
  | _ => none }
def FnSyncTwiceWrongFalsely : Prop := fnSyncTwiceRow.holds Try.pinned (OpenSpec.ofChange fnSyncTwiceWrong)

/-- 'laws.FnExactDiskCrash': WHATEVER THE INPUT: true; the input reads as it did. -/
def fnExactDiskCrashSpec : ChangeSpec := { name := "fnExactDiskCrash", fn := fun _ => fun
  | [d1, d2] => { results := [.lit (.bool true)], args := [d1, d2] }
  | _ => none }
def fnExactDiskCrashRow : OpenClaim := { program := "ytjhfhlfiagggpaa", sum := "cc2e4aa4f840fe7922c163839de8702ae84b2f7b9e450132cb289e4873c70d28", func := "loop.example/filereconciler/laws.FnExactDiskCrash", spec := "fnExactDiskCrash", unfollowed := true, recurses := true, apart := false }
def FnExactDiskCrashSaid : Prop := fnExactDiskCrashRow.holds Try.pinned (OpenSpec.ofChange fnExactDiskCrashSpec)

/-- ITS FALSE NEIGHBOUR: 'it returns false'. Refute it at one input. -/
def fnExactDiskCrashWrong : ChangeSpec := { name := "fnExactDiskCrash", fn := fun _ => fun
  | [d1, d2] => { results := [.lit (.bool false)], args := [d1, d2] }
  | _ => none }
def FnExactDiskCrashWrongFalsely : Prop := fnExactDiskCrashRow.holds Try.pinned (OpenSpec.ofChange fnExactDiskCrashWrong)

/-- 'laws.FnSync': WHATEVER THE INPUT: true; the input reads as it did. -/
def fnSyncSpec : ChangeSpec := { name := "fnSync", fn := fun _ => fun
  | [d] => { results := [.lit (.bool true)], args := [d] }
  | _ => none }
def fnSyncRow : OpenClaim := { program := "ytjhfhlfiagggpaa", sum := "cc2e4aa4f840fe7922c163839de8702ae84b2f7b9e450132cb289e4873c70d28", func := "loop.example/filereconciler/laws.FnSync", spec := "fnSync", unfollowed := true, recurses := true, apart := false }
def FnSyncSaid : Prop := fnSyncRow.holds Try.pinned (OpenSpec.ofChange fnSyncSpec)

/-- ITS FALSE NEIGHBOUR: 'it returns false'. Refute it at one input. -/
def fnSyncWrong : ChangeSpec := { name := "fnSync", fn := fun _ => fun
  | [d] => { results := [.lit (.bool false)], args := [d] }
  | _ => none }
def FnSyncWrongFalsely : Prop := fnSyncRow.holds Try.pinned (OpenSpec.ofChange fnSyncWrong)

/-- 'laws.FnExactDiskSync': WHATEVER THE INPUT: true; the input reads as it did. -/
def fnExactDiskSyncSpec : ChangeSpec := { name := "fnExactDiskSync", fn := fun _ => fun
  | [d1, d2] => { results := [.lit (.bool true)], args := [d1, d2] }
  | _ => none }
def fnExactDiskSyncRow : OpenClaim := { program := "ytjhfhlfiagggpaa", sum := "cc2e4aa4f840fe7922c163839de8702ae84b2f7b9e450132cb289e4873c70d28", func := "loop.example/filereconciler/laws.FnExactDiskSync", spec := "fnExactDiskSync", unfollowed := true, recurses := true, apart := false }
def FnExactDiskSyncSaid : Prop := fnExactDiskSyncRow.holds Try.pinned (OpenSpec.ofChange fnExactDiskSyncSpec)

/-- ITS FALSE NEIGHBOUR: 'it returns false'. Refute it at one input. -/
def fnExactDiskSyncWrong : ChangeSpec := { name := "fnExactDiskSync", fn := fun _ => fun
  | [d1, d2] => { results := [.lit (.bool false)], args := [d1, d2] }
  | _ => none }
def FnExactDiskSyncWrongFalsely : Prop := fnExactDiskSyncRow.holds Try.pinned (OpenSpec.ofChange fnExactDiskSyncWrong)

/-- 'laws.FnExactSessionRecover': WHATEVER THE INPUT: true; the input reads as it did. -/
def fnExactSessionRecoverSpec : ChangeSpec := { name := "fnExactSessionRecover", fn := fun _ => fun
  | [d] => { results := [.lit (.bool true)], args := [d] }
  | _ => none }
def fnExactSessionRecoverRow : OpenClaim := { program := "ytjhfhlfiagggpaa", sum := "cc2e4aa4f840fe7922c163839de8702ae84b2f7b9e450132cb289e4873c70d28", func := "loop.example/filereconciler/laws.FnExactSessionRecover", spec := "fnExactSessionRecover", apart := false }
def FnExactSessionRecoverSaid : Prop := fnExactSessionRecoverRow.holds Try.pinned (OpenSpec.ofChange fnExactSessionRecoverSpec)

/-- ITS FALSE NEIGHBOUR: 'it returns false'. Refute it at one input. -/
def fnExactSessionRecoverWrong : ChangeSpec := { name := "fnExactSessionRecover", fn := fun _ => fun
  | [d] => { results := [.lit (.bool false)], args := [d] }
  | _ => none }
def FnExactSessionRecoverWrongFalsely : Prop := fnExactSessionRecoverRow.holds Try.pinned (OpenSpec.ofChange fnExactSessionRecoverWrong)

/-- 'laws.FnWriteParts': WHATEVER THE INPUT: true; the input reads as it did. -/
def fnWritePartsSpec : ChangeSpec := { name := "fnWriteParts", fn := fun _ => fun
  | [d1, d2] => { results := [.lit (.bool true)], args := [d1, d2] }
  | _ => none }
def fnWritePartsRow : OpenClaim := { program := "ytjhfhlfiagggpaa", sum := "cc2e4aa4f840fe7922c163839de8702ae84b2f7b9e450132cb289e4873c70d28", func := "loop.example/filereconciler/laws.FnWriteParts", spec := "fnWriteParts", unfollowed := true, recurses := true, apart := false }
def FnWritePartsSaid : Prop := fnWritePartsRow.holds Try.pinned (OpenSpec.ofChange fnWritePartsSpec)

/-- ITS FALSE NEIGHBOUR: 'it returns false'. Refute it at one input. -/
def fnWritePartsWrong : ChangeSpec := { name := "fnWriteParts", fn := fun _ => fun
  | [d1, d2] => { results := [.lit (.bool false)], args := [d1, d2] }
  | _ => none }
def FnWritePartsWrongFalsely : Prop := fnWritePartsRow.holds Try.pinned (OpenSpec.ofChange fnWritePartsWrong)

/- THE SECOND FORM. 'bulk': how many values and letters a reading holds, each counted each time it is reached (what is shared counts as often as it is met; a slice's spare places count too). A statement '..UptoSaid' is the law's where the arguments, and the package variables that the reading takes, are together of bulk at most 1048576: NARROWER than '..Said'. Prove '..Said' where nothing that the law and all that it calls make is longer than what came in: it says more and counts as full. Else prove '..UptoSaid'. A law counts once. -/
mutual
def uptoBulk {H : Type} : DataW H → Nat
  | .lit (.string bytes) => bytes.length + 1
  | .lit _ => 1
  | .nil => 1
  | .ptr d => uptoBulk d + 1
  | .slice elems spare => uptoBulkAll elems + uptoBulkAll spare + 1
  | .agg parts => uptoBulkAll parts + 1
  | .iface _ d => uptoBulk d + 1
  | .map entries => uptoBulkEntries entries + 1
  | .held _ => 1
def uptoBulkAll {H : Type} : List (DataW H) → Nat
  | [] => 0
  | d :: r => uptoBulk d + uptoBulkAll r
def uptoBulkEntries {H : Type} : List (Lit × DataW H) → Nat
  | [] => 0
  | x :: r => uptoBulkEntry x + uptoBulkEntries r
def uptoBulkEntry {H : Type} : Lit × DataW H → Nat
  | (.string bytes, d) => bytes.length + uptoBulk d + 1
  | (_, d) => uptoBulk d + 1
 end
def uptoSmall : (H : Type) → List (DataW H) → Bool := fun _ ds => decide (uptoBulkAll ds ≤ 1048576)
def OpenSpec.upto (s : _root_.Go.ChangeSpec) : _root_.Go.OpenSpec := { _root_.Go.OpenSpec.ofChange s with cond := some uptoSmall }

/-- 'laws.FnSyncTwice', WHERE WHAT IT READS IS OF BULK AT MOST 1048576: true; the input reads as it did. -/
def fnSyncTwiceUptoRow : OpenClaim := { program := "ytjhfhlfiagggpaa", sum := "cc2e4aa4f840fe7922c163839de8702ae84b2f7b9e450132cb289e4873c70d28", func := "loop.example/filereconciler/laws.FnSyncTwice", spec := "fnSyncTwice", unfollowed := true, recurses := true, apart := false, narrowed := true }
def FnSyncTwiceUptoSaid : Prop := fnSyncTwiceUptoRow.holds Try.pinned (OpenSpec.upto fnSyncTwiceSpec)

/-- 'laws.FnExactDiskCrash', WHERE WHAT IT READS IS OF BULK AT MOST 1048576: true; the input reads as it did. -/
def fnExactDiskCrashUptoRow : OpenClaim := { program := "ytjhfhlfiagggpaa", sum := "cc2e4aa4f840fe7922c163839de8702ae84b2f7b9e450132cb289e4873c70d28", func := "loop.example/filereconciler/laws.FnExactDiskCrash", spec := "fnExactDiskCrash", unfollowed := true, recurses := true, apart := false, narrowed := true }
def FnExactDiskCrashUptoSaid : Prop := fnExactDiskCrashUptoRow.holds Try.pinned (OpenSpec.upto fnExactDiskCrashSpec)

/-- 'laws.FnSync', WHERE WHAT IT READS IS OF BULK AT MOST 1048576: true; the input reads as it did. -/
def fnSyncUptoRow : OpenClaim := { program := "ytjhfhlfiagggpaa", sum := "cc2e4aa4f840fe7922c163839de8702ae84b2f7b9e450132cb289e4873c70d28", func := "loop.example/filereconciler/laws.FnSync", spec := "fnSync", unfollowed := true, recurses := true, apart := false, narrowed := true }
def FnSyncUptoSaid : Prop := fnSyncUptoRow.holds Try.pinned (OpenSpec.upto fnSyncSpec)

/-- 'laws.FnExactDiskSync', WHERE WHAT IT READS IS OF BULK AT MOST 1048576: true; the input reads as it did. -/
def fnExactDiskSyncUptoRow : OpenClaim := { program := "ytjhfhlfiagggpaa", sum := "cc2e4aa4f840fe7922c163839de8702ae84b2f7b9e450132cb289e4873c70d28", func := "loop.example/filereconciler/laws.FnExactDiskSync", spec := "fnExactDiskSync", unfollowed := true, recurses := true, apart := false, narrowed := true }
def FnExactDiskSyncUptoSaid : Prop := fnExactDiskSyncUptoRow.holds Try.pinned (OpenSpec.upto fnExactDiskSyncSpec)

/-- 'laws.FnExactSessionRecover', WHERE WHAT IT READS IS OF BULK AT MOST 1048576: true; the input reads as it did. -/
def fnExactSessionRecoverUptoRow : OpenClaim := { program := "ytjhfhlfiagggpaa", sum := "cc2e4aa4f840fe7922c163839de8702ae84b2f7b9e450132cb289e4873c70d28", func := "loop.example/filereconciler/laws.FnExactSessionRecover", spec := "fnExactSessionRecover", apart := false, narrowed := true }
def FnExactSessionRecoverUptoSaid : Prop := fnExactSessionRecoverUptoRow.holds Try.pinned (OpenSpec.upto fnExactSessionRecoverSpec)

/-- 'laws.FnWriteParts', WHERE WHAT IT READS IS OF BULK AT MOST 1048576: true; the input reads as it did. -/
def fnWritePartsUptoRow : OpenClaim := { program := "ytjhfhlfiagggpaa", sum := "cc2e4aa4f840fe7922c163839de8702ae84b2f7b9e450132cb289e4873c70d28", func := "loop.example/filereconciler/laws.FnWriteParts", spec := "fnWriteParts", unfollowed := true, recurses := true, apart := false, narrowed := true }
def FnWritePartsUptoSaid : Prop := fnWritePartsUptoRow.holds Try.pinned (OpenSpec.upto fnWritePartsSpec)

end Rows
end Go.Proofs.Ytjhfhlfiagggpaa
