/-
  No cell of these rows narrows 'for every input' (looked for: loops, veiled, ifaces, maps, wideKeys, modest, calm, conditions, laid).
  DERIVED. THE GIVEN ROWS OF THIS SEAT. 7 by the template 'for every input the law returns true; each argument reads behind the call as it read before'; 0 by the template 'total and deterministic' (their statements: YthojdfndgfpkpaaTotals.lean).
  GIVEN WITH THE SEED: the statements are not yours to turn. If you find one false, say at which input.
  Laid BY PROGRAM, IN A SANDBOX (cutbox-rows.mjs): the forced cells as the released guide's own fill.sh prints them over the translation dec0700f29edf603… (all of the seat's roots in one cut). By AI agents, Wed Nov 11 2026. No macro, syntax, notation, axiom, sorry.
-/
import Derived.Test.YthojdfndgfpkpaaChecked
import GoSem.Claim
import GoSem.ClaimJoined
import GoSem.ClaimMapViews
import Derived.JoinedTies
import Derived.KernelRfl
namespace Go.Proofs.Ythojdfndgfpkpaa
/- THE CELL 'sum', in the pinned program and in every row, IS THE sha256 OF THE DUMP (.gsa) THAT YthojdfndgfpkpaaProg.lean LOADS. Nothing in Lean hashes anything: it is a label: what it is worth is what the hold of that sum in a sandbox is worth. -/
noncomputable def Try.pinned : Pinned := { name := "ythojdfndgfpkpaa", sum := "dec0700f29edf6035fa6a51eafaf6db552272e1f6d02b63bffebf1bacb8a818a", checked := Try.checked }
namespace Rows
def none {H : Type} : Left H := { results := [], args := [] }

/-- 'laws.FnExactWithPrefix': WHATEVER THE INPUT: true; the input reads as it did. -/
def fnExactWithPrefixSpec : ChangeSpec := { name := "fnExactWithPrefix", fn := fun _ => fun
  | [d1, d2] => { results := [.lit (.bool true)], args := [d1, d2] }
  | _ => none }
def fnExactWithPrefixRow : OpenClaim := { program := "ythojdfndgfpkpaa", sum := "dec0700f29edf6035fa6a51eafaf6db552272e1f6d02b63bffebf1bacb8a818a", func := "loop.example/g00149/laws.FnExactWithPrefix", spec := "fnExactWithPrefix", unfollowed := true, recurses := true, apart := false }
def FnExactWithPrefixSaid : Prop := fnExactWithPrefixRow.holds Try.pinned (OpenSpec.ofChange fnExactWithPrefixSpec)

/-- ITS FALSE NEIGHBOUR: 'it returns false'. Refute it at one input. -/
def fnExactWithPrefixWrong : ChangeSpec := { name := "fnExactWithPrefix", fn := fun _ => fun
  | [d1, d2] => { results := [.lit (.bool false)], args := [d1, d2] }
  | _ => none }
def FnExactWithPrefixWrongFalsely : Prop := fnExactWithPrefixRow.holds Try.pinned (OpenSpec.ofChange fnExactWithPrefixWrong)

/-- 'laws.FnExactBatchBytes': WHATEVER THE INPUT: true; the input reads as it did. -/
def fnExactBatchBytesSpec : ChangeSpec := { name := "fnExactBatchBytes", fn := fun _ => fun
  | [d] => { results := [.lit (.bool true)], args := [d] }
  | _ => none }
def fnExactBatchBytesRow : OpenClaim := { program := "ythojdfndgfpkpaa", sum := "dec0700f29edf6035fa6a51eafaf6db552272e1f6d02b63bffebf1bacb8a818a", func := "loop.example/g00149/laws.FnExactBatchBytes", spec := "fnExactBatchBytes", unfollowed := true, recurses := true, apart := false }
def FnExactBatchBytesSaid : Prop := fnExactBatchBytesRow.holds Try.pinned (OpenSpec.ofChange fnExactBatchBytesSpec)

/-- ITS FALSE NEIGHBOUR: 'it returns false'. Refute it at one input. -/
def fnExactBatchBytesWrong : ChangeSpec := { name := "fnExactBatchBytes", fn := fun _ => fun
  | [d] => { results := [.lit (.bool false)], args := [d] }
  | _ => none }
def FnExactBatchBytesWrongFalsely : Prop := fnExactBatchBytesRow.holds Try.pinned (OpenSpec.ofChange fnExactBatchBytesWrong)

/-- 'laws.FnExactDeviceRead': WHATEVER THE INPUT: true; the input reads as it did. -/
def fnExactDeviceReadSpec : ChangeSpec := { name := "fnExactDeviceRead", fn := fun _ => fun
  | [d] => { results := [.lit (.bool true)], args := [d] }
  | _ => none }
def fnExactDeviceReadRow : OpenClaim := { program := "ythojdfndgfpkpaa", sum := "dec0700f29edf6035fa6a51eafaf6db552272e1f6d02b63bffebf1bacb8a818a", func := "loop.example/g00149/laws.FnExactDeviceRead", spec := "fnExactDeviceRead", unfollowed := true, recurses := true, apart := false }
def FnExactDeviceReadSaid : Prop := fnExactDeviceReadRow.holds Try.pinned (OpenSpec.ofChange fnExactDeviceReadSpec)

/-- ITS FALSE NEIGHBOUR: 'it returns false'. Refute it at one input. -/
def fnExactDeviceReadWrong : ChangeSpec := { name := "fnExactDeviceRead", fn := fun _ => fun
  | [d] => { results := [.lit (.bool false)], args := [d] }
  | _ => none }
def FnExactDeviceReadWrongFalsely : Prop := fnExactDeviceReadRow.holds Try.pinned (OpenSpec.ofChange fnExactDeviceReadWrong)

/-- 'laws.FnExactDeviceCrash': WHATEVER THE INPUT: true; the input reads as it did. -/
def fnExactDeviceCrashSpec : ChangeSpec := { name := "fnExactDeviceCrash", fn := fun _ => fun
  | [d1, d2] => { results := [.lit (.bool true)], args := [d1, d2] }
  | _ => none }
def fnExactDeviceCrashRow : OpenClaim := { program := "ythojdfndgfpkpaa", sum := "dec0700f29edf6035fa6a51eafaf6db552272e1f6d02b63bffebf1bacb8a818a", func := "loop.example/g00149/laws.FnExactDeviceCrash", spec := "fnExactDeviceCrash", unfollowed := true, recurses := true, apart := false }
def FnExactDeviceCrashSaid : Prop := fnExactDeviceCrashRow.holds Try.pinned (OpenSpec.ofChange fnExactDeviceCrashSpec)

/-- ITS FALSE NEIGHBOUR: 'it returns false'. Refute it at one input. -/
def fnExactDeviceCrashWrong : ChangeSpec := { name := "fnExactDeviceCrash", fn := fun _ => fun
  | [d1, d2] => { results := [.lit (.bool false)], args := [d1, d2] }
  | _ => none }
def FnExactDeviceCrashWrongFalsely : Prop := fnExactDeviceCrashRow.holds Try.pinned (OpenSpec.ofChange fnExactDeviceCrashWrong)

/-- 'laws.FnExactLogOf': WHATEVER THE INPUT: true; the input reads as it did. -/
def fnExactLogOfSpec : ChangeSpec := { name := "fnExactLogOf", fn := fun _ => fun
  | [d] => { results := [.lit (.bool true)], args := [d] }
  | _ => none }
def fnExactLogOfRow : OpenClaim := { program := "ythojdfndgfpkpaa", sum := "dec0700f29edf6035fa6a51eafaf6db552272e1f6d02b63bffebf1bacb8a818a", func := "loop.example/g00149/laws.FnExactLogOf", spec := "fnExactLogOf", unfollowed := true, recurses := true, apart := false }
def FnExactLogOfSaid : Prop := fnExactLogOfRow.holds Try.pinned (OpenSpec.ofChange fnExactLogOfSpec)

/-- ITS FALSE NEIGHBOUR: 'it returns false'. Refute it at one input. -/
def fnExactLogOfWrong : ChangeSpec := { name := "fnExactLogOf", fn := fun _ => fun
  | [d] => { results := [.lit (.bool false)], args := [d] }
  | _ => none }
def FnExactLogOfWrongFalsely : Prop := fnExactLogOfRow.holds Try.pinned (OpenSpec.ofChange fnExactLogOfWrong)

/-- 'laws.FnExactApplyBatch': WHATEVER THE INPUT: true; the input reads as it did. -/
def fnExactApplyBatchSpec : ChangeSpec := { name := "fnExactApplyBatch", fn := fun _ => fun
  | [d1, d2] => { results := [.lit (.bool true)], args := [d1, d2] }
  | _ => none }
def fnExactApplyBatchRow : OpenClaim := { program := "ythojdfndgfpkpaa", sum := "dec0700f29edf6035fa6a51eafaf6db552272e1f6d02b63bffebf1bacb8a818a", func := "loop.example/g00149/laws.FnExactApplyBatch", spec := "fnExactApplyBatch", inPlace := ["internal/bytealg.abigen_runtime_cmpstring", "slices.overlaps[loop.example/g00149/impl.Pair]"], unfollowed := true, recurses := true, apart := false }
def FnExactApplyBatchSaid : Prop := fnExactApplyBatchRow.holds Try.pinned (OpenSpec.ofChange fnExactApplyBatchSpec)

/-- ITS FALSE NEIGHBOUR: 'it returns false'. Refute it at one input. -/
def fnExactApplyBatchWrong : ChangeSpec := { name := "fnExactApplyBatch", fn := fun _ => fun
  | [d1, d2] => { results := [.lit (.bool false)], args := [d1, d2] }
  | _ => none }
def FnExactApplyBatchWrongFalsely : Prop := fnExactApplyBatchRow.holds Try.pinned (OpenSpec.ofChange fnExactApplyBatchWrong)

/-- 'laws.FnExactLoad': WHATEVER THE INPUT: true; the input reads as it did. -/
def fnExactLoadSpec : ChangeSpec := { name := "fnExactLoad", fn := fun _ => fun
  | [d] => { results := [.lit (.bool true)], args := [d] }
  | _ => none }
def fnExactLoadRow : OpenClaim := { program := "ythojdfndgfpkpaa", sum := "dec0700f29edf6035fa6a51eafaf6db552272e1f6d02b63bffebf1bacb8a818a", func := "loop.example/g00149/laws.FnExactLoad", spec := "fnExactLoad", inPlace := ["internal/bytealg.abigen_runtime_cmpstring", "slices.overlaps[loop.example/g00149/impl.Pair]"], unfollowed := true, recurses := true, apart := false }
def FnExactLoadSaid : Prop := fnExactLoadRow.holds Try.pinned (OpenSpec.ofChange fnExactLoadSpec)

/-- ITS FALSE NEIGHBOUR: 'it returns false'. Refute it at one input. -/
def fnExactLoadWrong : ChangeSpec := { name := "fnExactLoad", fn := fun _ => fun
  | [d] => { results := [.lit (.bool false)], args := [d] }
  | _ => none }
def FnExactLoadWrongFalsely : Prop := fnExactLoadRow.holds Try.pinned (OpenSpec.ofChange fnExactLoadWrong)

/- THE SECOND FORM. 'bulk': how many values and letters a reading holds, each counted each time it is reached (what is shared counts as often as it is met; a slice's spare places count too). A statement '..UptoSaid' is the law's where the arguments, and the package variables that the reading takes, are together of bulk at most 1048576: NARROWER than '..Said'. Prove '..Said' where nothing that the law and all that it calls make is longer than what came in: it says more and counts as full. Else prove '..UptoSaid'. A law counts once. -/
mutual
def uptoBulk {H : Type} : DataW H → Nat
  | .lit (.string bytes) => bytes.length + 1
  | .lit _ => 1
  | .nil => 1
  | .ptr d => uptoBulk d + 1
  | .slice elems spare => uptoBulkAll elems + uptoBulkAll spare + 1
  | .agg parts => uptoBulkAll parts + 1
  | .iface _ d => uptoBulk d + 1
  | .map entries => uptoBulkEntries entries + 1
  | .held _ => 1
def uptoBulkAll {H : Type} : List (DataW H) → Nat
  | [] => 0
  | d :: r => uptoBulk d + uptoBulkAll r
def uptoBulkEntries {H : Type} : List (Lit × DataW H) → Nat
  | [] => 0
  | x :: r => uptoBulkEntry x + uptoBulkEntries r
def uptoBulkEntry {H : Type} : Lit × DataW H → Nat
  | (.string bytes, d) => bytes.length + uptoBulk d + 1
  | (_, d) => uptoBulk d + 1
 end
def uptoSmall : (H : Type) → List (DataW H) → Bool := fun _ ds => decide (uptoBulkAll ds ≤ 1048576)
def OpenSpec.upto (s : _root_.Go.ChangeSpec) : _root_.Go.OpenSpec := { _root_.Go.OpenSpec.ofChange s with cond := some uptoSmall }

/-- 'laws.FnExactWithPrefix', WHERE WHAT IT READS IS OF BULK AT MOST 1048576: true; the input reads as it did. -/
def fnExactWithPrefixUptoRow : OpenClaim := { program := "ythojdfndgfpkpaa", sum := "dec0700f29edf6035fa6a51eafaf6db552272e1f6d02b63bffebf1bacb8a818a", func := "loop.example/g00149/laws.FnExactWithPrefix", spec := "fnExactWithPrefix", unfollowed := true, recurses := true, apart := false, narrowed := true }
def FnExactWithPrefixUptoSaid : Prop := fnExactWithPrefixUptoRow.holds Try.pinned (OpenSpec.upto fnExactWithPrefixSpec)

/-- 'laws.FnExactBatchBytes', WHERE WHAT IT READS IS OF BULK AT MOST 1048576: true; the input reads as it did. -/
def fnExactBatchBytesUptoRow : OpenClaim := { program := "ythojdfndgfpkpaa", sum := "dec0700f29edf6035fa6a51eafaf6db552272e1f6d02b63bffebf1bacb8a818a", func := "loop.example/g00149/laws.FnExactBatchBytes", spec := "fnExactBatchBytes", unfollowed := true, recurses := true, apart := false, narrowed := true }
def FnExactBatchBytesUptoSaid : Prop := fnExactBatchBytesUptoRow.holds Try.pinned (OpenSpec.upto fnExactBatchBytesSpec)

/-- 'laws.FnExactDeviceRead', WHERE WHAT IT READS IS OF BULK AT MOST 1048576: true; the input reads as it did. -/
def fnExactDeviceReadUptoRow : OpenClaim := { program := "ythojdfndgfpkpaa", sum := "dec0700f29edf6035fa6a51eafaf6db552272e1f6d02b63bffebf1bacb8a818a", func := "loop.example/g00149/laws.FnExactDeviceRead", spec := "fnExactDeviceRead", unfollowed := true, recurses := true, apart := false, narrowed := true }
def FnExactDeviceReadUptoSaid : Prop := fnExactDeviceReadUptoRow.holds Try.pinned (OpenSpec.upto fnExactDeviceReadSpec)

/-- 'laws.FnExactDeviceCrash', WHERE WHAT IT READS IS OF BULK AT MOST 1048576: true; the input reads as it did. -/
def fnExactDeviceCrashUptoRow : OpenClaim := { program := "ythojdfndgfpkpaa", sum := "dec0700f29edf6035fa6a51eafaf6db552272e1f6d02b63bffebf1bacb8a818a", func := "loop.example/g00149/laws.FnExactDeviceCrash", spec := "fnExactDeviceCrash", unfollowed := true, recurses := true, apart := false, narrowed := true }
def FnExactDeviceCrashUptoSaid : Prop := fnExactDeviceCrashUptoRow.holds Try.pinned (OpenSpec.upto fnExactDeviceCrashSpec)

/-- 'laws.FnExactLogOf', WHERE WHAT IT READS IS OF BULK AT MOST 1048576: true; the input reads as it did. -/
def fnExactLogOfUptoRow : OpenClaim := { program := "ythojdfndgfpkpaa", sum := "dec0700f29edf6035fa6a51eafaf6db552272e1f6d02b63bffebf1bacb8a818a", func := "loop.example/g00149/laws.FnExactLogOf", spec := "fnExactLogOf", unfollowed := true, recurses := true, apart := false, narrowed := true }
def FnExactLogOfUptoSaid : Prop := fnExactLogOfUptoRow.holds Try.pinned (OpenSpec.upto fnExactLogOfSpec)

/-- 'laws.FnExactApplyBatch', WHERE WHAT IT READS IS OF BULK AT MOST 1048576: true; the input reads as it did. -/
def fnExactApplyBatchUptoRow : OpenClaim := { program := "ythojdfndgfpkpaa", sum := "dec0700f29edf6035fa6a51eafaf6db552272e1f6d02b63bffebf1bacb8a818a", func := "loop.example/g00149/laws.FnExactApplyBatch", spec := "fnExactApplyBatch", inPlace := ["internal/bytealg.abigen_runtime_cmpstring", "slices.overlaps[loop.example/g00149/impl.Pair]"], unfollowed := true, recurses := true, apart := false, narrowed := true }
def FnExactApplyBatchUptoSaid : Prop := fnExactApplyBatchUptoRow.holds Try.pinned (OpenSpec.upto fnExactApplyBatchSpec)

/-- 'laws.FnExactLoad', WHERE WHAT IT READS IS OF BULK AT MOST 1048576: true; the input reads as it did. -/
def fnExactLoadUptoRow : OpenClaim := { program := "ythojdfndgfpkpaa", sum := "dec0700f29edf6035fa6a51eafaf6db552272e1f6d02b63bffebf1bacb8a818a", func := "loop.example/g00149/laws.FnExactLoad", spec := "fnExactLoad", inPlace := ["internal/bytealg.abigen_runtime_cmpstring", "slices.overlaps[loop.example/g00149/impl.Pair]"], unfollowed := true, recurses := true, apart := false, narrowed := true }
def FnExactLoadUptoSaid : Prop := fnExactLoadUptoRow.holds Try.pinned (OpenSpec.upto fnExactLoadSpec)

end Rows
end Go.Proofs.Ythojdfndgfpkpaa
