/-
  No cell of these rows narrows 'for every input' (looked for: loops, veiled, ifaces, maps, wideKeys, modest, calm, conditions, laid).
  DERIVED. THE GIVEN ROWS OF THIS SEAT. 6 by the template 'for every input the law returns true; each argument reads behind the call as it read before'; 0 by the template 'total and deterministic' (their statements: YtjckchadcpaijaaTotals.lean).
  GIVEN WITH THE SEED: the statements are not yours to turn. If you find one false, say at which input.
  Laid BY PROGRAM, IN A SANDBOX (cutbox-rows.mjs): the forced cells as the released guide's own fill.sh prints them over the translation 1df56aecd96da55c… (all of the seat's roots in one cut). By AI agents, Wed Nov 11 2026. No macro, syntax, notation, axiom, sorry.
-/
import Derived.Test.YtjckchadcpaijaaChecked
import GoSem.Claim
import GoSem.ClaimJoined
import GoSem.ClaimMapViews
import Derived.JoinedTies
import Derived.KernelRfl
namespace Go.Proofs.Ytjckchadcpaijaa
/- THE CELL 'sum', in the pinned program and in every row, IS THE sha256 OF THE DUMP (.gsa) THAT YtjckchadcpaijaaProg.lean LOADS. Nothing in Lean hashes anything: it is a label: what it is worth is what the hold of that sum in a sandbox is worth. -/
noncomputable def Try.pinned : Pinned := { name := "ytjckchadcpaijaa", sum := "1df56aecd96da55cb8ecf0022ab95cbbf16bfc67f8e92c89c2da79f023e6e1a1", checked := Try.checked }
namespace Rows
def none {H : Type} : Left H := { results := [], args := [] }

/-- 'laws.FnExactIntegerOf': WHATEVER THE INPUT: true; the input reads as it did. -/
def fnExactIntegerOfSpec : ChangeSpec := { name := "fnExactIntegerOf", fn := fun _ => fun
  | [d] => { results := [.lit (.bool true)], args := [d] }
  | _ => none }
def fnExactIntegerOfRow : OpenClaim := { program := "ytjckchadcpaijaa", sum := "1df56aecd96da55cb8ecf0022ab95cbbf16bfc67f8e92c89c2da79f023e6e1a1", func := "loop.example/g00149/laws.FnExactIntegerOf", spec := "fnExactIntegerOf", recurses := true, apart := false }
def FnExactIntegerOfSaid : Prop := fnExactIntegerOfRow.holds Try.pinned (OpenSpec.ofChange fnExactIntegerOfSpec)

/-- ITS FALSE NEIGHBOUR: 'it returns false'. Refute it at one input. -/
def fnExactIntegerOfWrong : ChangeSpec := { name := "fnExactIntegerOf", fn := fun _ => fun
  | [d] => { results := [.lit (.bool false)], args := [d] }
  | _ => none }
def FnExactIntegerOfWrongFalsely : Prop := fnExactIntegerOfRow.holds Try.pinned (OpenSpec.ofChange fnExactIntegerOfWrong)

/-- 'laws.FnExactCertOK': WHATEVER THE INPUT: true; the input reads as it did. -/
def fnExactCertOKSpec : ChangeSpec := { name := "fnExactCertOK", fn := fun _ => fun
  | [d] => { results := [.lit (.bool true)], args := [d] }
  | _ => none }
def fnExactCertOKRow : OpenClaim := { program := "ytjckchadcpaijaa", sum := "1df56aecd96da55cb8ecf0022ab95cbbf16bfc67f8e92c89c2da79f023e6e1a1", func := "loop.example/g00149/laws.FnExactCertOK", spec := "fnExactCertOK", inPlace := ["internal/bytealg.IndexByteString"], unfollowed := true, recurses := true, apart := false }
def FnExactCertOKSaid : Prop := fnExactCertOKRow.holds Try.pinned (OpenSpec.ofChange fnExactCertOKSpec)

/-- ITS FALSE NEIGHBOUR: 'it returns false'. Refute it at one input. -/
def fnExactCertOKWrong : ChangeSpec := { name := "fnExactCertOK", fn := fun _ => fun
  | [d] => { results := [.lit (.bool false)], args := [d] }
  | _ => none }
def FnExactCertOKWrongFalsely : Prop := fnExactCertOKRow.holds Try.pinned (OpenSpec.ofChange fnExactCertOKWrong)

/-- 'laws.FnExactCrlOK': WHATEVER THE INPUT: true; the input reads as it did. -/
def fnExactCrlOKSpec : ChangeSpec := { name := "fnExactCrlOK", fn := fun _ => fun
  | [d] => { results := [.lit (.bool true)], args := [d] }
  | _ => none }
def fnExactCrlOKRow : OpenClaim := { program := "ytjckchadcpaijaa", sum := "1df56aecd96da55cb8ecf0022ab95cbbf16bfc67f8e92c89c2da79f023e6e1a1", func := "loop.example/g00149/laws.FnExactCrlOK", spec := "fnExactCrlOK", inPlace := ["internal/bytealg.IndexByteString"], unfollowed := true, recurses := true, apart := false }
def FnExactCrlOKSaid : Prop := fnExactCrlOKRow.holds Try.pinned (OpenSpec.ofChange fnExactCrlOKSpec)

/-- ITS FALSE NEIGHBOUR: 'it returns false'. Refute it at one input. -/
def fnExactCrlOKWrong : ChangeSpec := { name := "fnExactCrlOK", fn := fun _ => fun
  | [d] => { results := [.lit (.bool false)], args := [d] }
  | _ => none }
def FnExactCrlOKWrongFalsely : Prop := fnExactCrlOKRow.holds Try.pinned (OpenSpec.ofChange fnExactCrlOKWrong)

/-- 'laws.FnExactDeviceOK': WHATEVER THE INPUT: true; the input reads as it did. -/
def fnExactDeviceOKSpec : ChangeSpec := { name := "fnExactDeviceOK", fn := fun _ => fun
  | [d] => { results := [.lit (.bool true)], args := [d] }
  | _ => none }
def fnExactDeviceOKRow : OpenClaim := { program := "ytjckchadcpaijaa", sum := "1df56aecd96da55cb8ecf0022ab95cbbf16bfc67f8e92c89c2da79f023e6e1a1", func := "loop.example/g00149/laws.FnExactDeviceOK", spec := "fnExactDeviceOK", unfollowed := true, recurses := true, apart := false }
def FnExactDeviceOKSaid : Prop := fnExactDeviceOKRow.holds Try.pinned (OpenSpec.ofChange fnExactDeviceOKSpec)

/-- ITS FALSE NEIGHBOUR: 'it returns false'. Refute it at one input. -/
def fnExactDeviceOKWrong : ChangeSpec := { name := "fnExactDeviceOK", fn := fun _ => fun
  | [d] => { results := [.lit (.bool false)], args := [d] }
  | _ => none }
def FnExactDeviceOKWrongFalsely : Prop := fnExactDeviceOKRow.holds Try.pinned (OpenSpec.ofChange fnExactDeviceOKWrong)

/-- 'laws.FnExactScan': WHATEVER THE INPUT: true; the input reads as it did. -/
def fnExactScanSpec : ChangeSpec := { name := "fnExactScan", fn := fun _ => fun
  | [d] => { results := [.lit (.bool true)], args := [d] }
  | _ => none }
def fnExactScanRow : OpenClaim := { program := "ytjckchadcpaijaa", sum := "1df56aecd96da55cb8ecf0022ab95cbbf16bfc67f8e92c89c2da79f023e6e1a1", func := "loop.example/g00149/laws.FnExactScan", spec := "fnExactScan", apart := false }
def FnExactScanSaid : Prop := fnExactScanRow.holds Try.pinned (OpenSpec.ofChange fnExactScanSpec)

/-- ITS FALSE NEIGHBOUR: 'it returns false'. Refute it at one input. -/
def fnExactScanWrong : ChangeSpec := { name := "fnExactScan", fn := fun _ => fun
  | [d] => { results := [.lit (.bool false)], args := [d] }
  | _ => none }
def FnExactScanWrongFalsely : Prop := fnExactScanRow.holds Try.pinned (OpenSpec.ofChange fnExactScanWrong)

/-- 'laws.FnExactReadBatch': WHATEVER THE INPUT: true; the input reads as it did. -/
def fnExactReadBatchSpec : ChangeSpec := { name := "fnExactReadBatch", fn := fun _ => fun
  | [d] => { results := [.lit (.bool true)], args := [d] }
  | _ => none }
def fnExactReadBatchRow : OpenClaim := { program := "ytjckchadcpaijaa", sum := "1df56aecd96da55cb8ecf0022ab95cbbf16bfc67f8e92c89c2da79f023e6e1a1", func := "loop.example/g00149/laws.FnExactReadBatch", spec := "fnExactReadBatch", apart := false }
def FnExactReadBatchSaid : Prop := fnExactReadBatchRow.holds Try.pinned (OpenSpec.ofChange fnExactReadBatchSpec)

/-- ITS FALSE NEIGHBOUR: 'it returns false'. Refute it at one input. -/
def fnExactReadBatchWrong : ChangeSpec := { name := "fnExactReadBatch", fn := fun _ => fun
  | [d] => { results := [.lit (.bool false)], args := [d] }
  | _ => none }
def FnExactReadBatchWrongFalsely : Prop := fnExactReadBatchRow.holds Try.pinned (OpenSpec.ofChange fnExactReadBatchWrong)

/- THE SECOND FORM. 'bulk': how many values and letters a reading holds, each counted each time it is reached (what is shared counts as often as it is met; a slice's spare places count too). A statement '..UptoSaid' is the law's where the arguments, and the package variables that the reading takes, are together of bulk at most 1048576: NARROWER than '..Said'. Prove '..Said' where nothing that the law and all that it calls make is longer than what came in: it says more and counts as full. Else prove '..UptoSaid'. A law counts once. -/
mutual
def uptoBulk {H : Type} : DataW H → Nat
  | .lit (.string bytes) => bytes.length + 1
  | .lit _ => 1
  | .nil => 1
  | .ptr d => uptoBulk d + 1
  | .slice elems spare => uptoBulkAll elems + uptoBulkAll spare + 1
  | .agg parts => uptoBulkAll parts + 1
  | .iface _ d => uptoBulk d + 1
  | .map entries => uptoBulkEntries entries + 1
  | .held _ => 1
def uptoBulkAll {H : Type} : List (DataW H) → Nat
  | [] => 0
  | d :: r => uptoBulk d + uptoBulkAll r
def uptoBulkEntries {H : Type} : List (Lit × DataW H) → Nat
  | [] => 0
  | x :: r => uptoBulkEntry x + uptoBulkEntries r
def uptoBulkEntry {H : Type} : Lit × DataW H → Nat
  | (.string bytes, d) => bytes.length + uptoBulk d + 1
  | (_, d) => uptoBulk d + 1
 end
def uptoSmall : (H : Type) → List (DataW H) → Bool := fun _ ds => decide (uptoBulkAll ds ≤ 1048576)
def OpenSpec.upto (s : _root_.Go.ChangeSpec) : _root_.Go.OpenSpec := { _root_.Go.OpenSpec.ofChange s with cond := some uptoSmall }

/-- 'laws.FnExactIntegerOf', WHERE WHAT IT READS IS OF BULK AT MOST 1048576: true; the input reads as it did. -/
def fnExactIntegerOfUptoRow : OpenClaim := { program := "ytjckchadcpaijaa", sum := "1df56aecd96da55cb8ecf0022ab95cbbf16bfc67f8e92c89c2da79f023e6e1a1", func := "loop.example/g00149/laws.FnExactIntegerOf", spec := "fnExactIntegerOf", recurses := true, apart := false, narrowed := true }
def FnExactIntegerOfUptoSaid : Prop := fnExactIntegerOfUptoRow.holds Try.pinned (OpenSpec.upto fnExactIntegerOfSpec)

/-- 'laws.FnExactCertOK', WHERE WHAT IT READS IS OF BULK AT MOST 1048576: true; the input reads as it did. -/
def fnExactCertOKUptoRow : OpenClaim := { program := "ytjckchadcpaijaa", sum := "1df56aecd96da55cb8ecf0022ab95cbbf16bfc67f8e92c89c2da79f023e6e1a1", func := "loop.example/g00149/laws.FnExactCertOK", spec := "fnExactCertOK", inPlace := ["internal/bytealg.IndexByteString"], unfollowed := true, recurses := true, apart := false, narrowed := true }
def FnExactCertOKUptoSaid : Prop := fnExactCertOKUptoRow.holds Try.pinned (OpenSpec.upto fnExactCertOKSpec)

/-- 'laws.FnExactCrlOK', WHERE WHAT IT READS IS OF BULK AT MOST 1048576: true; the input reads as it did. -/
def fnExactCrlOKUptoRow : OpenClaim := { program := "ytjckchadcpaijaa", sum := "1df56aecd96da55cb8ecf0022ab95cbbf16bfc67f8e92c89c2da79f023e6e1a1", func := "loop.example/g00149/laws.FnExactCrlOK", spec := "fnExactCrlOK", inPlace := ["internal/bytealg.IndexByteString"], unfollowed := true, recurses := true, apart := false, narrowed := true }
def FnExactCrlOKUptoSaid : Prop := fnExactCrlOKUptoRow.holds Try.pinned (OpenSpec.upto fnExactCrlOKSpec)

/-- 'laws.FnExactDeviceOK', WHERE WHAT IT READS IS OF BULK AT MOST 1048576: true; the input reads as it did. -/
def fnExactDeviceOKUptoRow : OpenClaim := { program := "ytjckchadcpaijaa", sum := "1df56aecd96da55cb8ecf0022ab95cbbf16bfc67f8e92c89c2da79f023e6e1a1", func := "loop.example/g00149/laws.FnExactDeviceOK", spec := "fnExactDeviceOK", unfollowed := true, recurses := true, apart := false, narrowed := true }
def FnExactDeviceOKUptoSaid : Prop := fnExactDeviceOKUptoRow.holds Try.pinned (OpenSpec.upto fnExactDeviceOKSpec)

/-- 'laws.FnExactScan', WHERE WHAT IT READS IS OF BULK AT MOST 1048576: true; the input reads as it did. -/
def fnExactScanUptoRow : OpenClaim := { program := "ytjckchadcpaijaa", sum := "1df56aecd96da55cb8ecf0022ab95cbbf16bfc67f8e92c89c2da79f023e6e1a1", func := "loop.example/g00149/laws.FnExactScan", spec := "fnExactScan", apart := false, narrowed := true }
def FnExactScanUptoSaid : Prop := fnExactScanUptoRow.holds Try.pinned (OpenSpec.upto fnExactScanSpec)

/-- 'laws.FnExactReadBatch', WHERE WHAT IT READS IS OF BULK AT MOST 1048576: true; the input reads as it did. -/
def fnExactReadBatchUptoRow : OpenClaim := { program := "ytjckchadcpaijaa", sum := "1df56aecd96da55cb8ecf0022ab95cbbf16bfc67f8e92c89c2da79f023e6e1a1", func := "loop.example/g00149/laws.FnExactReadBatch", spec := "fnExactReadBatch", apart := false, narrowed := true }
def FnExactReadBatchUptoSaid : Prop := fnExactReadBatchUptoRow.holds Try.pinned (OpenSpec.upto fnExactReadBatchSpec)

end Rows
end Go.Proofs.Ytjckchadcpaijaa
