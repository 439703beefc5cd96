/-
  No cell of these rows narrows 'for every input' (looked for: loops, veiled, ifaces, maps, wideKeys, modest, calm, conditions, laid).
  DERIVED. THE GIVEN ROWS OF THIS SEAT. 12 by the template 'for every input the law returns true; each argument reads behind the call as it read before'; 0 by the template 'total and deterministic' (their statements: YtijeackkgcnbgaaTotals.lean).
  GIVEN WITH THE SEED: the statements are not yours to turn. If you find one false, say at which input.
  Laid BY PROGRAM, IN A SANDBOX (cutbox-rows.mjs): the forced cells as the released guide's own fill.sh prints them over the translation 3e4fd8705622bcaf… (all of the seat's roots in one cut). By AI agents, Wed Nov 11 2026. No macro, syntax, notation, axiom, sorry.
-/
import Derived.Test.YtijeackkgcnbgaaChecked
import GoSem.Claim
import GoSem.ClaimJoined
import GoSem.ClaimMapViews
import Derived.JoinedTies
import Derived.KernelRfl
namespace Go.Proofs.Ytijeackkgcnbgaa
/- THE CELL 'sum', in the pinned program and in every row, IS THE sha256 OF THE DUMP (.gsa) THAT YtijeackkgcnbgaaProg.lean LOADS. Nothing in Lean hashes anything: it is a label: what it is worth is what the hold of that sum in a sandbox is worth. -/
noncomputable def Try.pinned : Pinned := { name := "ytijeackkgcnbgaa", sum := "3e4fd8705622bcaf826e2d9fe3eb59affdd60d6250ac15d29d8ab750a9188917", checked := Try.checked }
namespace Rows
def none {H : Type} : Left H := { results := [], args := [] }

/-- 'laws.FnExactFieldOK': WHATEVER THE INPUT: true; the input reads as it did. -/
def fnExactFieldOKSpec : ChangeSpec := { name := "fnExactFieldOK", fn := fun _ => fun
  | [d] => { results := [.lit (.bool true)], args := [d] }
  | _ => none }
def fnExactFieldOKRow : OpenClaim := { program := "ytijeackkgcnbgaa", sum := "3e4fd8705622bcaf826e2d9fe3eb59affdd60d6250ac15d29d8ab750a9188917", func := "loop.example/g00149/laws.FnExactFieldOK", spec := "fnExactFieldOK", apart := false }
def FnExactFieldOKSaid : Prop := fnExactFieldOKRow.holds Try.pinned (OpenSpec.ofChange fnExactFieldOKSpec)

/-- ITS FALSE NEIGHBOUR: 'it returns false'. Refute it at one input. -/
def fnExactFieldOKWrong : ChangeSpec := { name := "fnExactFieldOK", fn := fun _ => fun
  | [d] => { results := [.lit (.bool false)], args := [d] }
  | _ => none }
def FnExactFieldOKWrongFalsely : Prop := fnExactFieldOKRow.holds Try.pinned (OpenSpec.ofChange fnExactFieldOKWrong)

/-- 'laws.FnExactScalarOf': WHATEVER THE INPUT: true; the input reads as it did. -/
def fnExactScalarOfSpec : ChangeSpec := { name := "fnExactScalarOf", fn := fun _ => fun
  | [d] => { results := [.lit (.bool true)], args := [d] }
  | _ => none }
def fnExactScalarOfRow : OpenClaim := { program := "ytijeackkgcnbgaa", sum := "3e4fd8705622bcaf826e2d9fe3eb59affdd60d6250ac15d29d8ab750a9188917", func := "loop.example/g00149/laws.FnExactScalarOf", spec := "fnExactScalarOf", inPlace := ["math/bits.Add64", "math/bits.Sub64"], apart := false }
def FnExactScalarOfSaid : Prop := fnExactScalarOfRow.holds Try.pinned (OpenSpec.ofChange fnExactScalarOfSpec)

/-- ITS FALSE NEIGHBOUR: 'it returns false'. Refute it at one input. -/
def fnExactScalarOfWrong : ChangeSpec := { name := "fnExactScalarOf", fn := fun _ => fun
  | [d] => { results := [.lit (.bool false)], args := [d] }
  | _ => none }
def FnExactScalarOfWrongFalsely : Prop := fnExactScalarOfRow.holds Try.pinned (OpenSpec.ofChange fnExactScalarOfWrong)

/-- 'laws.FnExactFieldAdd': WHATEVER THE INPUT: true; the input reads as it did. -/
def fnExactFieldAddSpec : ChangeSpec := { name := "fnExactFieldAdd", fn := fun _ => fun
  | [d1, d2] => { results := [.lit (.bool true)], args := [d1, d2] }
  | _ => none }
def fnExactFieldAddRow : OpenClaim := { program := "ytijeackkgcnbgaa", sum := "3e4fd8705622bcaf826e2d9fe3eb59affdd60d6250ac15d29d8ab750a9188917", func := "loop.example/g00149/laws.FnExactFieldAdd", spec := "fnExactFieldAdd", inPlace := ["math/bits.Add64", "math/bits.Sub64"], unfollowed := true, recurses := true, apart := false }
def FnExactFieldAddSaid : Prop := fnExactFieldAddRow.holds Try.pinned (OpenSpec.ofChange fnExactFieldAddSpec)

/-- ITS FALSE NEIGHBOUR: 'it returns false'. Refute it at one input. -/
def fnExactFieldAddWrong : ChangeSpec := { name := "fnExactFieldAdd", fn := fun _ => fun
  | [d1, d2] => { results := [.lit (.bool false)], args := [d1, d2] }
  | _ => none }
def FnExactFieldAddWrongFalsely : Prop := fnExactFieldAddRow.holds Try.pinned (OpenSpec.ofChange fnExactFieldAddWrong)

/-- 'laws.FnExactFieldSub': WHATEVER THE INPUT: true; the input reads as it did. -/
def fnExactFieldSubSpec : ChangeSpec := { name := "fnExactFieldSub", fn := fun _ => fun
  | [d1, d2] => { results := [.lit (.bool true)], args := [d1, d2] }
  | _ => none }
def fnExactFieldSubRow : OpenClaim := { program := "ytijeackkgcnbgaa", sum := "3e4fd8705622bcaf826e2d9fe3eb59affdd60d6250ac15d29d8ab750a9188917", func := "loop.example/g00149/laws.FnExactFieldSub", spec := "fnExactFieldSub", inPlace := ["math/bits.Add64", "math/bits.Sub64"], unfollowed := true, recurses := true, apart := false }
def FnExactFieldSubSaid : Prop := fnExactFieldSubRow.holds Try.pinned (OpenSpec.ofChange fnExactFieldSubSpec)

/-- ITS FALSE NEIGHBOUR: 'it returns false'. Refute it at one input. -/
def fnExactFieldSubWrong : ChangeSpec := { name := "fnExactFieldSub", fn := fun _ => fun
  | [d1, d2] => { results := [.lit (.bool false)], args := [d1, d2] }
  | _ => none }
def FnExactFieldSubWrongFalsely : Prop := fnExactFieldSubRow.holds Try.pinned (OpenSpec.ofChange fnExactFieldSubWrong)

/-- 'laws.FnExactScalarMulAdd': WHATEVER THE INPUT: true; the input reads as it did. -/
def fnExactScalarMulAddSpec : ChangeSpec := { name := "fnExactScalarMulAdd", fn := fun _ => fun
  | [d1, d2, d3] => { results := [.lit (.bool true)], args := [d1, d2, d3] }
  | _ => none }
def fnExactScalarMulAddRow : OpenClaim := { program := "ytijeackkgcnbgaa", sum := "3e4fd8705622bcaf826e2d9fe3eb59affdd60d6250ac15d29d8ab750a9188917", func := "loop.example/g00149/laws.FnExactScalarMulAdd", spec := "fnExactScalarMulAdd", inPlace := ["math/bits.Add64", "math/bits.Sub64"], unfollowed := true, recurses := true, apart := false }
def FnExactScalarMulAddSaid : Prop := fnExactScalarMulAddRow.holds Try.pinned (OpenSpec.ofChange fnExactScalarMulAddSpec)

/-- ITS FALSE NEIGHBOUR: 'it returns false'. Refute it at one input. -/
def fnExactScalarMulAddWrong : ChangeSpec := { name := "fnExactScalarMulAdd", fn := fun _ => fun
  | [d1, d2, d3] => { results := [.lit (.bool false)], args := [d1, d2, d3] }
  | _ => none }
def FnExactScalarMulAddWrongFalsely : Prop := fnExactScalarMulAddRow.holds Try.pinned (OpenSpec.ofChange fnExactScalarMulAddWrong)

/-- 'laws.FnExactBasePoint': WHATEVER THE INPUT: true; the input reads as it did. -/
def fnExactBasePointSpec : ChangeSpec := { name := "fnExactBasePoint", fn := fun _ => fun
  | [] => { results := [.lit (.bool true)], args := [] }
  | _ => none }
def fnExactBasePointRow : OpenClaim := { program := "ytijeackkgcnbgaa", sum := "3e4fd8705622bcaf826e2d9fe3eb59affdd60d6250ac15d29d8ab750a9188917", func := "loop.example/g00149/laws.FnExactBasePoint", spec := "fnExactBasePoint", inPlace := ["math/bits.Add64", "math/bits.Sub64"], apart := false }
def FnExactBasePointSaid : Prop := fnExactBasePointRow.holds Try.pinned (OpenSpec.ofChange fnExactBasePointSpec)

/-- ITS FALSE NEIGHBOUR: 'it returns false'. Refute it at one input. -/
def fnExactBasePointWrong : ChangeSpec := { name := "fnExactBasePoint", fn := fun _ => fun
  | [] => { results := [.lit (.bool false)], args := [] }
  | _ => none }
def FnExactBasePointWrongFalsely : Prop := fnExactBasePointRow.holds Try.pinned (OpenSpec.ofChange fnExactBasePointWrong)

/-- 'laws.FnExactFieldMul': WHATEVER THE INPUT: true; the input reads as it did. -/
def fnExactFieldMulSpec : ChangeSpec := { name := "fnExactFieldMul", fn := fun _ => fun
  | [d1, d2] => { results := [.lit (.bool true)], args := [d1, d2] }
  | _ => none }
def fnExactFieldMulRow : OpenClaim := { program := "ytijeackkgcnbgaa", sum := "3e4fd8705622bcaf826e2d9fe3eb59affdd60d6250ac15d29d8ab750a9188917", func := "loop.example/g00149/laws.FnExactFieldMul", spec := "fnExactFieldMul", inPlace := ["math/bits.Add64", "math/bits.Sub64"], unfollowed := true, recurses := true, apart := false }
def FnExactFieldMulSaid : Prop := fnExactFieldMulRow.holds Try.pinned (OpenSpec.ofChange fnExactFieldMulSpec)

/-- ITS FALSE NEIGHBOUR: 'it returns false'. Refute it at one input. -/
def fnExactFieldMulWrong : ChangeSpec := { name := "fnExactFieldMul", fn := fun _ => fun
  | [d1, d2] => { results := [.lit (.bool false)], args := [d1, d2] }
  | _ => none }
def FnExactFieldMulWrongFalsely : Prop := fnExactFieldMulRow.holds Try.pinned (OpenSpec.ofChange fnExactFieldMulWrong)

/-- 'laws.FnExactFieldInverse': WHATEVER THE INPUT: true; the input reads as it did. -/
def fnExactFieldInverseSpec : ChangeSpec := { name := "fnExactFieldInverse", fn := fun _ => fun
  | [d] => { results := [.lit (.bool true)], args := [d] }
  | _ => none }
def fnExactFieldInverseRow : OpenClaim := { program := "ytijeackkgcnbgaa", sum := "3e4fd8705622bcaf826e2d9fe3eb59affdd60d6250ac15d29d8ab750a9188917", func := "loop.example/g00149/laws.FnExactFieldInverse", spec := "fnExactFieldInverse", inPlace := ["math/bits.Sub64", "math/bits.Add64"], unfollowed := true, recurses := true, apart := false }
def FnExactFieldInverseSaid : Prop := fnExactFieldInverseRow.holds Try.pinned (OpenSpec.ofChange fnExactFieldInverseSpec)

/-- ITS FALSE NEIGHBOUR: 'it returns false'. Refute it at one input. -/
def fnExactFieldInverseWrong : ChangeSpec := { name := "fnExactFieldInverse", fn := fun _ => fun
  | [d] => { results := [.lit (.bool false)], args := [d] }
  | _ => none }
def FnExactFieldInverseWrongFalsely : Prop := fnExactFieldInverseRow.holds Try.pinned (OpenSpec.ofChange fnExactFieldInverseWrong)

/-- 'laws.FnField': WHATEVER THE INPUT: true; the input reads as it did. -/
def fnFieldSpec : ChangeSpec := { name := "fnField", fn := fun _ => fun
  | [d1, d2] => { results := [.lit (.bool true)], args := [d1, d2] }
  | _ => none }
def fnFieldRow : OpenClaim := { program := "ytijeackkgcnbgaa", sum := "3e4fd8705622bcaf826e2d9fe3eb59affdd60d6250ac15d29d8ab750a9188917", func := "loop.example/g00149/laws.FnField", spec := "fnField", inPlace := ["math/bits.Add64", "math/bits.Sub64"], unfollowed := true, recurses := true, apart := false }
def FnFieldSaid : Prop := fnFieldRow.holds Try.pinned (OpenSpec.ofChange fnFieldSpec)

/-- ITS FALSE NEIGHBOUR: 'it returns false'. Refute it at one input. -/
def fnFieldWrong : ChangeSpec := { name := "fnField", fn := fun _ => fun
  | [d1, d2] => { results := [.lit (.bool false)], args := [d1, d2] }
  | _ => none }
def FnFieldWrongFalsely : Prop := fnFieldRow.holds Try.pinned (OpenSpec.ofChange fnFieldWrong)

/-- 'laws.FnExactFieldRoot': WHATEVER THE INPUT: true; the input reads as it did. -/
def fnExactFieldRootSpec : ChangeSpec := { name := "fnExactFieldRoot", fn := fun _ => fun
  | [d] => { results := [.lit (.bool true)], args := [d] }
  | _ => none }
def fnExactFieldRootRow : OpenClaim := { program := "ytijeackkgcnbgaa", sum := "3e4fd8705622bcaf826e2d9fe3eb59affdd60d6250ac15d29d8ab750a9188917", func := "loop.example/g00149/laws.FnExactFieldRoot", spec := "fnExactFieldRoot", inPlace := ["math/bits.Add64", "math/bits.Sub64"], unfollowed := true, recurses := true, apart := false }
def FnExactFieldRootSaid : Prop := fnExactFieldRootRow.holds Try.pinned (OpenSpec.ofChange fnExactFieldRootSpec)

/-- ITS FALSE NEIGHBOUR: 'it returns false'. Refute it at one input. -/
def fnExactFieldRootWrong : ChangeSpec := { name := "fnExactFieldRoot", fn := fun _ => fun
  | [d] => { results := [.lit (.bool false)], args := [d] }
  | _ => none }
def FnExactFieldRootWrongFalsely : Prop := fnExactFieldRootRow.holds Try.pinned (OpenSpec.ofChange fnExactFieldRootWrong)

/-- 'laws.FnExactPointOK': WHATEVER THE INPUT: true; the input reads as it did. -/
def fnExactPointOKSpec : ChangeSpec := { name := "fnExactPointOK", fn := fun _ => fun
  | [d] => { results := [.lit (.bool true)], args := [d] }
  | _ => none }
def fnExactPointOKRow : OpenClaim := { program := "ytijeackkgcnbgaa", sum := "3e4fd8705622bcaf826e2d9fe3eb59affdd60d6250ac15d29d8ab750a9188917", func := "loop.example/g00149/laws.FnExactPointOK", spec := "fnExactPointOK", inPlace := ["math/bits.Add64", "math/bits.Sub64"], apart := false }
def FnExactPointOKSaid : Prop := fnExactPointOKRow.holds Try.pinned (OpenSpec.ofChange fnExactPointOKSpec)

/-- ITS FALSE NEIGHBOUR: 'it returns false'. Refute it at one input. -/
def fnExactPointOKWrong : ChangeSpec := { name := "fnExactPointOK", fn := fun _ => fun
  | [d] => { results := [.lit (.bool false)], args := [d] }
  | _ => none }
def FnExactPointOKWrongFalsely : Prop := fnExactPointOKRow.holds Try.pinned (OpenSpec.ofChange fnExactPointOKWrong)

/-- 'laws.FnRoots': WHATEVER THE INPUT: true; the input reads as it did. -/
def fnRootsSpec : ChangeSpec := { name := "fnRoots", fn := fun _ => fun
  | [d] => { results := [.lit (.bool true)], args := [d] }
  | _ => none }
def fnRootsRow : OpenClaim := { program := "ytijeackkgcnbgaa", sum := "3e4fd8705622bcaf826e2d9fe3eb59affdd60d6250ac15d29d8ab750a9188917", func := "loop.example/g00149/laws.FnRoots", spec := "fnRoots", inPlace := ["math/bits.Add64", "math/bits.Sub64"], unfollowed := true, recurses := true, apart := false }
def FnRootsSaid : Prop := fnRootsRow.holds Try.pinned (OpenSpec.ofChange fnRootsSpec)

/-- ITS FALSE NEIGHBOUR: 'it returns false'. Refute it at one input. -/
def fnRootsWrong : ChangeSpec := { name := "fnRoots", fn := fun _ => fun
  | [d] => { results := [.lit (.bool false)], args := [d] }
  | _ => none }
def FnRootsWrongFalsely : Prop := fnRootsRow.holds Try.pinned (OpenSpec.ofChange fnRootsWrong)

/- THE SECOND FORM. 'bulk': how many values and letters a reading holds, each counted each time it is reached (what is shared counts as often as it is met; a slice's spare places count too). A statement '..UptoSaid' is the law's where the arguments, and the package variables that the reading takes, are together of bulk at most 1048576: NARROWER than '..Said'. Prove '..Said' where nothing that the law and all that it calls make is longer than what came in: it says more and counts as full. Else prove '..UptoSaid'. A law counts once. -/
mutual
def uptoBulk {H : Type} : DataW H → Nat
  | .lit (.string bytes) => bytes.length + 1
  | .lit _ => 1
  | .nil => 1
  | .ptr d => uptoBulk d + 1
  | .slice elems spare => uptoBulkAll elems + uptoBulkAll spare + 1
  | .agg parts => uptoBulkAll parts + 1
  | .iface _ d => uptoBulk d + 1
  | .map entries => uptoBulkEntries entries + 1
  | .held _ => 1
def uptoBulkAll {H : Type} : List (DataW H) → Nat
  | [] => 0
  | d :: r => uptoBulk d + uptoBulkAll r
def uptoBulkEntries {H : Type} : List (Lit × DataW H) → Nat
  | [] => 0
  | x :: r => uptoBulkEntry x + uptoBulkEntries r
def uptoBulkEntry {H : Type} : Lit × DataW H → Nat
  | (.string bytes, d) => bytes.length + uptoBulk d + 1
  | (_, d) => uptoBulk d + 1
 end
def uptoSmall : (H : Type) → List (DataW H) → Bool := fun _ ds => decide (uptoBulkAll ds ≤ 1048576)
def OpenSpec.upto (s : _root_.Go.ChangeSpec) : _root_.Go.OpenSpec := { _root_.Go.OpenSpec.ofChange s with cond := some uptoSmall }

/-- 'laws.FnExactFieldOK', WHERE WHAT IT READS IS OF BULK AT MOST 1048576: true; the input reads as it did. -/
def fnExactFieldOKUptoRow : OpenClaim := { program := "ytijeackkgcnbgaa", sum := "3e4fd8705622bcaf826e2d9fe3eb59affdd60d6250ac15d29d8ab750a9188917", func := "loop.example/g00149/laws.FnExactFieldOK", spec := "fnExactFieldOK", apart := false, narrowed := true }
def FnExactFieldOKUptoSaid : Prop := fnExactFieldOKUptoRow.holds Try.pinned (OpenSpec.upto fnExactFieldOKSpec)

/-- 'laws.FnExactScalarOf', WHERE WHAT IT READS IS OF BULK AT MOST 1048576: true; the input reads as it did. -/
def fnExactScalarOfUptoRow : OpenClaim := { program := "ytijeackkgcnbgaa", sum := "3e4fd8705622bcaf826e2d9fe3eb59affdd60d6250ac15d29d8ab750a9188917", func := "loop.example/g00149/laws.FnExactScalarOf", spec := "fnExactScalarOf", inPlace := ["math/bits.Add64", "math/bits.Sub64"], apart := false, narrowed := true }
def FnExactScalarOfUptoSaid : Prop := fnExactScalarOfUptoRow.holds Try.pinned (OpenSpec.upto fnExactScalarOfSpec)

/-- 'laws.FnExactFieldAdd', WHERE WHAT IT READS IS OF BULK AT MOST 1048576: true; the input reads as it did. -/
def fnExactFieldAddUptoRow : OpenClaim := { program := "ytijeackkgcnbgaa", sum := "3e4fd8705622bcaf826e2d9fe3eb59affdd60d6250ac15d29d8ab750a9188917", func := "loop.example/g00149/laws.FnExactFieldAdd", spec := "fnExactFieldAdd", inPlace := ["math/bits.Add64", "math/bits.Sub64"], unfollowed := true, recurses := true, apart := false, narrowed := true }
def FnExactFieldAddUptoSaid : Prop := fnExactFieldAddUptoRow.holds Try.pinned (OpenSpec.upto fnExactFieldAddSpec)

/-- 'laws.FnExactFieldSub', WHERE WHAT IT READS IS OF BULK AT MOST 1048576: true; the input reads as it did. -/
def fnExactFieldSubUptoRow : OpenClaim := { program := "ytijeackkgcnbgaa", sum := "3e4fd8705622bcaf826e2d9fe3eb59affdd60d6250ac15d29d8ab750a9188917", func := "loop.example/g00149/laws.FnExactFieldSub", spec := "fnExactFieldSub", inPlace := ["math/bits.Add64", "math/bits.Sub64"], unfollowed := true, recurses := true, apart := false, narrowed := true }
def FnExactFieldSubUptoSaid : Prop := fnExactFieldSubUptoRow.holds Try.pinned (OpenSpec.upto fnExactFieldSubSpec)

/-- 'laws.FnExactScalarMulAdd', WHERE WHAT IT READS IS OF BULK AT MOST 1048576: true; the input reads as it did. -/
def fnExactScalarMulAddUptoRow : OpenClaim := { program := "ytijeackkgcnbgaa", sum := "3e4fd8705622bcaf826e2d9fe3eb59affdd60d6250ac15d29d8ab750a9188917", func := "loop.example/g00149/laws.FnExactScalarMulAdd", spec := "fnExactScalarMulAdd", inPlace := ["math/bits.Add64", "math/bits.Sub64"], unfollowed := true, recurses := true, apart := false, narrowed := true }
def FnExactScalarMulAddUptoSaid : Prop := fnExactScalarMulAddUptoRow.holds Try.pinned (OpenSpec.upto fnExactScalarMulAddSpec)

/-- 'laws.FnExactBasePoint', WHERE WHAT IT READS IS OF BULK AT MOST 1048576: true; the input reads as it did. -/
def fnExactBasePointUptoRow : OpenClaim := { program := "ytijeackkgcnbgaa", sum := "3e4fd8705622bcaf826e2d9fe3eb59affdd60d6250ac15d29d8ab750a9188917", func := "loop.example/g00149/laws.FnExactBasePoint", spec := "fnExactBasePoint", inPlace := ["math/bits.Add64", "math/bits.Sub64"], apart := false, narrowed := true }
def FnExactBasePointUptoSaid : Prop := fnExactBasePointUptoRow.holds Try.pinned (OpenSpec.upto fnExactBasePointSpec)

/-- 'laws.FnExactFieldMul', WHERE WHAT IT READS IS OF BULK AT MOST 1048576: true; the input reads as it did. -/
def fnExactFieldMulUptoRow : OpenClaim := { program := "ytijeackkgcnbgaa", sum := "3e4fd8705622bcaf826e2d9fe3eb59affdd60d6250ac15d29d8ab750a9188917", func := "loop.example/g00149/laws.FnExactFieldMul", spec := "fnExactFieldMul", inPlace := ["math/bits.Add64", "math/bits.Sub64"], unfollowed := true, recurses := true, apart := false, narrowed := true }
def FnExactFieldMulUptoSaid : Prop := fnExactFieldMulUptoRow.holds Try.pinned (OpenSpec.upto fnExactFieldMulSpec)

/-- 'laws.FnExactFieldInverse', WHERE WHAT IT READS IS OF BULK AT MOST 1048576: true; the input reads as it did. -/
def fnExactFieldInverseUptoRow : OpenClaim := { program := "ytijeackkgcnbgaa", sum := "3e4fd8705622bcaf826e2d9fe3eb59affdd60d6250ac15d29d8ab750a9188917", func := "loop.example/g00149/laws.FnExactFieldInverse", spec := "fnExactFieldInverse", inPlace := ["math/bits.Sub64", "math/bits.Add64"], unfollowed := true, recurses := true, apart := false, narrowed := true }
def FnExactFieldInverseUptoSaid : Prop := fnExactFieldInverseUptoRow.holds Try.pinned (OpenSpec.upto fnExactFieldInverseSpec)

/-- 'laws.FnField', WHERE WHAT IT READS IS OF BULK AT MOST 1048576: true; the input reads as it did. -/
def fnFieldUptoRow : OpenClaim := { program := "ytijeackkgcnbgaa", sum := "3e4fd8705622bcaf826e2d9fe3eb59affdd60d6250ac15d29d8ab750a9188917", func := "loop.example/g00149/laws.FnField", spec := "fnField", inPlace := ["math/bits.Add64", "math/bits.Sub64"], unfollowed := true, recurses := true, apart := false, narrowed := true }
def FnFieldUptoSaid : Prop := fnFieldUptoRow.holds Try.pinned (OpenSpec.upto fnFieldSpec)

/-- 'laws.FnExactFieldRoot', WHERE WHAT IT READS IS OF BULK AT MOST 1048576: true; the input reads as it did. -/
def fnExactFieldRootUptoRow : OpenClaim := { program := "ytijeackkgcnbgaa", sum := "3e4fd8705622bcaf826e2d9fe3eb59affdd60d6250ac15d29d8ab750a9188917", func := "loop.example/g00149/laws.FnExactFieldRoot", spec := "fnExactFieldRoot", inPlace := ["math/bits.Add64", "math/bits.Sub64"], unfollowed := true, recurses := true, apart := false, narrowed := true }
def FnExactFieldRootUptoSaid : Prop := fnExactFieldRootUptoRow.holds Try.pinned (OpenSpec.upto fnExactFieldRootSpec)

/-- 'laws.FnExactPointOK', WHERE WHAT IT READS IS OF BULK AT MOST 1048576: true; the input reads as it did. -/
def fnExactPointOKUptoRow : OpenClaim := { program := "ytijeackkgcnbgaa", sum := "3e4fd8705622bcaf826e2d9fe3eb59affdd60d6250ac15d29d8ab750a9188917", func := "loop.example/g00149/laws.FnExactPointOK", spec := "fnExactPointOK", inPlace := ["math/bits.Add64", "math/bits.Sub64"], apart := false, narrowed := true }
def FnExactPointOKUptoSaid : Prop := fnExactPointOKUptoRow.holds Try.pinned (OpenSpec.upto fnExactPointOKSpec)

/-- 'laws.FnRoots', WHERE WHAT IT READS IS OF BULK AT MOST 1048576: true; the input reads as it did. -/
def fnRootsUptoRow : OpenClaim := { program := "ytijeackkgcnbgaa", sum := "3e4fd8705622bcaf826e2d9fe3eb59affdd60d6250ac15d29d8ab750a9188917", func := "loop.example/g00149/laws.FnRoots", spec := "fnRoots", inPlace := ["math/bits.Add64", "math/bits.Sub64"], unfollowed := true, recurses := true, apart := false, narrowed := true }
def FnRootsUptoSaid : Prop := fnRootsUptoRow.holds Try.pinned (OpenSpec.upto fnRootsSpec)

end Rows
end Go.Proofs.Ytijeackkgcnbgaa
