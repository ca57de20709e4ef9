/-
  No cell of these rows narrows 'for every input' (looked for: loops, veiled, ifaces, maps, wideKeys, modest, calm, conditions, laid).
  DERIVED. THE GIVEN ROWS OF THIS SEAT. 12 by the template 'for every input the law returns true; each argument reads behind the call as it read before'; 0 by the template 'total and deterministic' (their statements: YtpefkhcmfapmnaaTotals.lean).
  GIVEN WITH THE SEED: the statements are not yours to turn. If you find one false, say at which input.
  Laid BY PROGRAM, IN A SANDBOX (cutbox-rows.mjs): the forced cells as the released guide's own fill.sh prints them over the translation ac72f31683db5c37… (all of the seat's roots in one cut). By AI agents, Wed Nov 11 2026. No macro, syntax, notation, axiom, sorry.
-/
import Derived.Test.YtpefkhcmfapmnaaChecked
import GoSem.Claim
import GoSem.ClaimJoined
import GoSem.ClaimMapViews
import Derived.JoinedTies
import Derived.KernelRfl
namespace Go.Proofs.Ytpefkhcmfapmnaa
/- THE CELL 'sum', in the pinned program and in every row, IS THE sha256 OF THE DUMP (.gsa) THAT YtpefkhcmfapmnaaProg.lean LOADS. Nothing in Lean hashes anything: it is a label: what it is worth is what the hold of that sum in a sandbox is worth. -/
noncomputable def Try.pinned : Pinned := { name := "ytpefkhcmfapmnaa", sum := "ac72f31683db5c37099edf25c58ec122405407093f2a0383e0bf256bc86b786e", checked := Try.checked }
namespace Rows
def none {H : Type} : Left H := { results := [], args := [] }

/-- 'laws.FnExactConstants': WHATEVER THE INPUT: true; the input reads as it did. -/
def fnExactConstantsSpec : ChangeSpec := { name := "fnExactConstants", fn := fun _ => fun
  | [] => { results := [.lit (.bool true)], args := [] }
  | _ => none }
def fnExactConstantsRow : OpenClaim := { program := "ytpefkhcmfapmnaa", sum := "ac72f31683db5c37099edf25c58ec122405407093f2a0383e0bf256bc86b786e", func := "loop.example/compurgator/laws.FnExactConstants", spec := "fnExactConstants", apart := false }
def FnExactConstantsSaid : Prop := fnExactConstantsRow.holds Try.pinned (OpenSpec.ofChange fnExactConstantsSpec)

/-- ITS FALSE NEIGHBOUR: 'it returns false'. Refute it at one input. -/
def fnExactConstantsWrong : ChangeSpec := { name := "fnExactConstants", fn := fun _ => fun
  | [] => { results := [.lit (.bool false)], args := [] }
  | _ => none }
def FnExactConstantsWrongFalsely : Prop := fnExactConstantsRow.holds Try.pinned (OpenSpec.ofChange fnExactConstantsWrong)

/-- 'laws.FnExactRatOk': WHATEVER THE INPUT: true; the input reads as it did. -/
def fnExactRatOkSpec : ChangeSpec := { name := "fnExactRatOk", fn := fun _ => fun
  | [d] => { results := [.lit (.bool true)], args := [d] }
  | _ => none }
def fnExactRatOkRow : OpenClaim := { program := "ytpefkhcmfapmnaa", sum := "ac72f31683db5c37099edf25c58ec122405407093f2a0383e0bf256bc86b786e", func := "loop.example/compurgator/laws.FnExactRatOk", spec := "fnExactRatOk", apart := false }
def FnExactRatOkSaid : Prop := fnExactRatOkRow.holds Try.pinned (OpenSpec.ofChange fnExactRatOkSpec)

/-- ITS FALSE NEIGHBOUR: 'it returns false'. Refute it at one input. -/
def fnExactRatOkWrong : ChangeSpec := { name := "fnExactRatOk", fn := fun _ => fun
  | [d] => { results := [.lit (.bool false)], args := [d] }
  | _ => none }
def FnExactRatOkWrongFalsely : Prop := fnExactRatOkRow.holds Try.pinned (OpenSpec.ofChange fnExactRatOkWrong)

/-- 'laws.FnExactRatLess': WHATEVER THE INPUT: true; the input reads as it did. -/
def fnExactRatLessSpec : ChangeSpec := { name := "fnExactRatLess", fn := fun _ => fun
  | [d1, d2] => { results := [.lit (.bool true)], args := [d1, d2] }
  | _ => none }
def fnExactRatLessRow : OpenClaim := { program := "ytpefkhcmfapmnaa", sum := "ac72f31683db5c37099edf25c58ec122405407093f2a0383e0bf256bc86b786e", func := "loop.example/compurgator/laws.FnExactRatLess", spec := "fnExactRatLess", apart := false }
def FnExactRatLessSaid : Prop := fnExactRatLessRow.holds Try.pinned (OpenSpec.ofChange fnExactRatLessSpec)

/-- ITS FALSE NEIGHBOUR: 'it returns false'. Refute it at one input. -/
def fnExactRatLessWrong : ChangeSpec := { name := "fnExactRatLess", fn := fun _ => fun
  | [d1, d2] => { results := [.lit (.bool false)], args := [d1, d2] }
  | _ => none }
def FnExactRatLessWrongFalsely : Prop := fnExactRatLessRow.holds Try.pinned (OpenSpec.ofChange fnExactRatLessWrong)

/-- 'laws.FnExactRatOf': WHATEVER THE INPUT: true; the input reads as it did. -/
def fnExactRatOfSpec : ChangeSpec := { name := "fnExactRatOf", fn := fun _ => fun
  | [d1, d2] => { results := [.lit (.bool true)], args := [d1, d2] }
  | _ => none }
def fnExactRatOfRow : OpenClaim := { program := "ytpefkhcmfapmnaa", sum := "ac72f31683db5c37099edf25c58ec122405407093f2a0383e0bf256bc86b786e", func := "loop.example/compurgator/laws.FnExactRatOf", spec := "fnExactRatOf", apart := false }
def FnExactRatOfSaid : Prop := fnExactRatOfRow.holds Try.pinned (OpenSpec.ofChange fnExactRatOfSpec)

/-- ITS FALSE NEIGHBOUR: 'it returns false'. Refute it at one input. -/
def fnExactRatOfWrong : ChangeSpec := { name := "fnExactRatOf", fn := fun _ => fun
  | [d1, d2] => { results := [.lit (.bool false)], args := [d1, d2] }
  | _ => none }
def FnExactRatOfWrongFalsely : Prop := fnExactRatOfRow.holds Try.pinned (OpenSpec.ofChange fnExactRatOfWrong)

/-- 'laws.FnExactRatAdd': WHATEVER THE INPUT: true; the input reads as it did. -/
def fnExactRatAddSpec : ChangeSpec := { name := "fnExactRatAdd", fn := fun _ => fun
  | [d1, d2] => { results := [.lit (.bool true)], args := [d1, d2] }
  | _ => none }
def fnExactRatAddRow : OpenClaim := { program := "ytpefkhcmfapmnaa", sum := "ac72f31683db5c37099edf25c58ec122405407093f2a0383e0bf256bc86b786e", func := "loop.example/compurgator/laws.FnExactRatAdd", spec := "fnExactRatAdd", apart := false }
def FnExactRatAddSaid : Prop := fnExactRatAddRow.holds Try.pinned (OpenSpec.ofChange fnExactRatAddSpec)

/-- ITS FALSE NEIGHBOUR: 'it returns false'. Refute it at one input. -/
def fnExactRatAddWrong : ChangeSpec := { name := "fnExactRatAdd", fn := fun _ => fun
  | [d1, d2] => { results := [.lit (.bool false)], args := [d1, d2] }
  | _ => none }
def FnExactRatAddWrongFalsely : Prop := fnExactRatAddRow.holds Try.pinned (OpenSpec.ofChange fnExactRatAddWrong)

/-- 'laws.FnExactRatMul': WHATEVER THE INPUT: true; the input reads as it did. -/
def fnExactRatMulSpec : ChangeSpec := { name := "fnExactRatMul", fn := fun _ => fun
  | [d1, d2] => { results := [.lit (.bool true)], args := [d1, d2] }
  | _ => none }
def fnExactRatMulRow : OpenClaim := { program := "ytpefkhcmfapmnaa", sum := "ac72f31683db5c37099edf25c58ec122405407093f2a0383e0bf256bc86b786e", func := "loop.example/compurgator/laws.FnExactRatMul", spec := "fnExactRatMul", apart := false }
def FnExactRatMulSaid : Prop := fnExactRatMulRow.holds Try.pinned (OpenSpec.ofChange fnExactRatMulSpec)

/-- ITS FALSE NEIGHBOUR: 'it returns false'. Refute it at one input. -/
def fnExactRatMulWrong : ChangeSpec := { name := "fnExactRatMul", fn := fun _ => fun
  | [d1, d2] => { results := [.lit (.bool false)], args := [d1, d2] }
  | _ => none }
def FnExactRatMulWrongFalsely : Prop := fnExactRatMulRow.holds Try.pinned (OpenSpec.ofChange fnExactRatMulWrong)

/-- 'laws.FnRatOf': WHATEVER THE INPUT: true; the input reads as it did. -/
def fnRatOfSpec : ChangeSpec := { name := "fnRatOf", fn := fun _ => fun
  | [d] => { results := [.lit (.bool true)], args := [d] }
  | _ => none }
def fnRatOfRow : OpenClaim := { program := "ytpefkhcmfapmnaa", sum := "ac72f31683db5c37099edf25c58ec122405407093f2a0383e0bf256bc86b786e", func := "loop.example/compurgator/laws.FnRatOf", spec := "fnRatOf", apart := false }
def FnRatOfSaid : Prop := fnRatOfRow.holds Try.pinned (OpenSpec.ofChange fnRatOfSpec)

/-- ITS FALSE NEIGHBOUR: 'it returns false'. Refute it at one input. -/
def fnRatOfWrong : ChangeSpec := { name := "fnRatOf", fn := fun _ => fun
  | [d] => { results := [.lit (.bool false)], args := [d] }
  | _ => none }
def FnRatOfWrongFalsely : Prop := fnRatOfRow.holds Try.pinned (OpenSpec.ofChange fnRatOfWrong)

/-- 'laws.FnExactRatMid': WHATEVER THE INPUT: true; the input reads as it did. -/
def fnExactRatMidSpec : ChangeSpec := { name := "fnExactRatMid", fn := fun _ => fun
  | [d1, d2] => { results := [.lit (.bool true)], args := [d1, d2] }
  | _ => none }
def fnExactRatMidRow : OpenClaim := { program := "ytpefkhcmfapmnaa", sum := "ac72f31683db5c37099edf25c58ec122405407093f2a0383e0bf256bc86b786e", func := "loop.example/compurgator/laws.FnExactRatMid", spec := "fnExactRatMid", apart := false }
def FnExactRatMidSaid : Prop := fnExactRatMidRow.holds Try.pinned (OpenSpec.ofChange fnExactRatMidSpec)

/-- ITS FALSE NEIGHBOUR: 'it returns false'. Refute it at one input. -/
def fnExactRatMidWrong : ChangeSpec := { name := "fnExactRatMid", fn := fun _ => fun
  | [d1, d2] => { results := [.lit (.bool false)], args := [d1, d2] }
  | _ => none }
def FnExactRatMidWrongFalsely : Prop := fnExactRatMidRow.holds Try.pinned (OpenSpec.ofChange fnExactRatMidWrong)

/-- 'laws.FnRatOver': WHATEVER THE INPUT: true; the input reads as it did. -/
def fnRatOverSpec : ChangeSpec := { name := "fnRatOver", fn := fun _ => fun
  | [d] => { results := [.lit (.bool true)], args := [d] }
  | _ => none }
def fnRatOverRow : OpenClaim := { program := "ytpefkhcmfapmnaa", sum := "ac72f31683db5c37099edf25c58ec122405407093f2a0383e0bf256bc86b786e", func := "loop.example/compurgator/laws.FnRatOver", spec := "fnRatOver", apart := false }
def FnRatOverSaid : Prop := fnRatOverRow.holds Try.pinned (OpenSpec.ofChange fnRatOverSpec)

/-- ITS FALSE NEIGHBOUR: 'it returns false'. Refute it at one input. -/
def fnRatOverWrong : ChangeSpec := { name := "fnRatOver", fn := fun _ => fun
  | [d] => { results := [.lit (.bool false)], args := [d] }
  | _ => none }
def FnRatOverWrongFalsely : Prop := fnRatOverRow.holds Try.pinned (OpenSpec.ofChange fnRatOverWrong)

/-- 'laws.FnRatNeg': WHATEVER THE INPUT: true; the input reads as it did. -/
def fnRatNegSpec : ChangeSpec := { name := "fnRatNeg", fn := fun _ => fun
  | [d] => { results := [.lit (.bool true)], args := [d] }
  | _ => none }
def fnRatNegRow : OpenClaim := { program := "ytpefkhcmfapmnaa", sum := "ac72f31683db5c37099edf25c58ec122405407093f2a0383e0bf256bc86b786e", func := "loop.example/compurgator/laws.FnRatNeg", spec := "fnRatNeg", apart := false }
def FnRatNegSaid : Prop := fnRatNegRow.holds Try.pinned (OpenSpec.ofChange fnRatNegSpec)

/-- ITS FALSE NEIGHBOUR: 'it returns false'. Refute it at one input. -/
def fnRatNegWrong : ChangeSpec := { name := "fnRatNeg", fn := fun _ => fun
  | [d] => { results := [.lit (.bool false)], args := [d] }
  | _ => none }
def FnRatNegWrongFalsely : Prop := fnRatNegRow.holds Try.pinned (OpenSpec.ofChange fnRatNegWrong)

/-- 'laws.FnRatLess': WHATEVER THE INPUT: true; the input reads as it did. -/
def fnRatLessSpec : ChangeSpec := { name := "fnRatLess", fn := fun _ => fun
  | [d1, d2] => { results := [.lit (.bool true)], args := [d1, d2] }
  | _ => none }
def fnRatLessRow : OpenClaim := { program := "ytpefkhcmfapmnaa", sum := "ac72f31683db5c37099edf25c58ec122405407093f2a0383e0bf256bc86b786e", func := "loop.example/compurgator/laws.FnRatLess", spec := "fnRatLess", apart := false }
def FnRatLessSaid : Prop := fnRatLessRow.holds Try.pinned (OpenSpec.ofChange fnRatLessSpec)

/-- ITS FALSE NEIGHBOUR: 'it returns false'. Refute it at one input. -/
def fnRatLessWrong : ChangeSpec := { name := "fnRatLess", fn := fun _ => fun
  | [d1, d2] => { results := [.lit (.bool false)], args := [d1, d2] }
  | _ => none }
def FnRatLessWrongFalsely : Prop := fnRatLessRow.holds Try.pinned (OpenSpec.ofChange fnRatLessWrong)

/-- 'laws.FnRatAdd': WHATEVER THE INPUT: true; the input reads as it did. -/
def fnRatAddSpec : ChangeSpec := { name := "fnRatAdd", fn := fun _ => fun
  | [d] => { results := [.lit (.bool true)], args := [d] }
  | _ => none }
def fnRatAddRow : OpenClaim := { program := "ytpefkhcmfapmnaa", sum := "ac72f31683db5c37099edf25c58ec122405407093f2a0383e0bf256bc86b786e", func := "loop.example/compurgator/laws.FnRatAdd", spec := "fnRatAdd", apart := false }
def FnRatAddSaid : Prop := fnRatAddRow.holds Try.pinned (OpenSpec.ofChange fnRatAddSpec)

/-- ITS FALSE NEIGHBOUR: 'it returns false'. Refute it at one input. -/
def fnRatAddWrong : ChangeSpec := { name := "fnRatAdd", fn := fun _ => fun
  | [d] => { results := [.lit (.bool false)], args := [d] }
  | _ => none }
def FnRatAddWrongFalsely : Prop := fnRatAddRow.holds Try.pinned (OpenSpec.ofChange fnRatAddWrong)

/- THE SECOND FORM. 'bulk': how many values and letters a reading holds, each counted each time it is reached (what is shared counts as often as it is met; a slice's spare places count too). A statement '..UptoSaid' is the law's where the arguments, and the package variables that the reading takes, are together of bulk at most 1048576: NARROWER than '..Said'. Prove '..Said' where nothing that the law and all that it calls make is longer than what came in: it says more and counts as full. Else prove '..UptoSaid'. A law counts once. -/
mutual
def uptoBulk {H : Type} : DataW H → Nat
  | .lit (.string bytes) => bytes.length + 1
  | .lit _ => 1
  | .nil => 1
  | .ptr d => uptoBulk d + 1
  | .slice elems spare => uptoBulkAll elems + uptoBulkAll spare + 1
  | .agg parts => uptoBulkAll parts + 1
  | .iface _ d => uptoBulk d + 1
  | .map entries => uptoBulkEntries entries + 1
  | .held _ => 1
def uptoBulkAll {H : Type} : List (DataW H) → Nat
  | [] => 0
  | d :: r => uptoBulk d + uptoBulkAll r
def uptoBulkEntries {H : Type} : List (Lit × DataW H) → Nat
  | [] => 0
  | x :: r => uptoBulkEntry x + uptoBulkEntries r
def uptoBulkEntry {H : Type} : Lit × DataW H → Nat
  | (.string bytes, d) => bytes.length + uptoBulk d + 1
  | (_, d) => uptoBulk d + 1
 end
def uptoSmall : (H : Type) → List (DataW H) → Bool := fun _ ds => decide (uptoBulkAll ds ≤ 1048576)
def OpenSpec.upto (s : _root_.Go.ChangeSpec) : _root_.Go.OpenSpec := { _root_.Go.OpenSpec.ofChange s with cond := some uptoSmall }

/-- 'laws.FnExactConstants', WHERE WHAT IT READS IS OF BULK AT MOST 1048576: true; the input reads as it did. -/
def fnExactConstantsUptoRow : OpenClaim := { program := "ytpefkhcmfapmnaa", sum := "ac72f31683db5c37099edf25c58ec122405407093f2a0383e0bf256bc86b786e", func := "loop.example/compurgator/laws.FnExactConstants", spec := "fnExactConstants", apart := false, narrowed := true }
def FnExactConstantsUptoSaid : Prop := fnExactConstantsUptoRow.holds Try.pinned (OpenSpec.upto fnExactConstantsSpec)

/-- 'laws.FnExactRatOk', WHERE WHAT IT READS IS OF BULK AT MOST 1048576: true; the input reads as it did. -/
def fnExactRatOkUptoRow : OpenClaim := { program := "ytpefkhcmfapmnaa", sum := "ac72f31683db5c37099edf25c58ec122405407093f2a0383e0bf256bc86b786e", func := "loop.example/compurgator/laws.FnExactRatOk", spec := "fnExactRatOk", apart := false, narrowed := true }
def FnExactRatOkUptoSaid : Prop := fnExactRatOkUptoRow.holds Try.pinned (OpenSpec.upto fnExactRatOkSpec)

/-- 'laws.FnExactRatLess', WHERE WHAT IT READS IS OF BULK AT MOST 1048576: true; the input reads as it did. -/
def fnExactRatLessUptoRow : OpenClaim := { program := "ytpefkhcmfapmnaa", sum := "ac72f31683db5c37099edf25c58ec122405407093f2a0383e0bf256bc86b786e", func := "loop.example/compurgator/laws.FnExactRatLess", spec := "fnExactRatLess", apart := false, narrowed := true }
def FnExactRatLessUptoSaid : Prop := fnExactRatLessUptoRow.holds Try.pinned (OpenSpec.upto fnExactRatLessSpec)

/-- 'laws.FnExactRatOf', WHERE WHAT IT READS IS OF BULK AT MOST 1048576: true; the input reads as it did. -/
def fnExactRatOfUptoRow : OpenClaim := { program := "ytpefkhcmfapmnaa", sum := "ac72f31683db5c37099edf25c58ec122405407093f2a0383e0bf256bc86b786e", func := "loop.example/compurgator/laws.FnExactRatOf", spec := "fnExactRatOf", apart := false, narrowed := true }
def FnExactRatOfUptoSaid : Prop := fnExactRatOfUptoRow.holds Try.pinned (OpenSpec.upto fnExactRatOfSpec)

/-- 'laws.FnExactRatAdd', WHERE WHAT IT READS IS OF BULK AT MOST 1048576: true; the input reads as it did. -/
def fnExactRatAddUptoRow : OpenClaim := { program := "ytpefkhcmfapmnaa", sum := "ac72f31683db5c37099edf25c58ec122405407093f2a0383e0bf256bc86b786e", func := "loop.example/compurgator/laws.FnExactRatAdd", spec := "fnExactRatAdd", apart := false, narrowed := true }
def FnExactRatAddUptoSaid : Prop := fnExactRatAddUptoRow.holds Try.pinned (OpenSpec.upto fnExactRatAddSpec)

/-- 'laws.FnExactRatMul', WHERE WHAT IT READS IS OF BULK AT MOST 1048576: true; the input reads as it did. -/
def fnExactRatMulUptoRow : OpenClaim := { program := "ytpefkhcmfapmnaa", sum := "ac72f31683db5c37099edf25c58ec122405407093f2a0383e0bf256bc86b786e", func := "loop.example/compurgator/laws.FnExactRatMul", spec := "fnExactRatMul", apart := false, narrowed := true }
def FnExactRatMulUptoSaid : Prop := fnExactRatMulUptoRow.holds Try.pinned (OpenSpec.upto fnExactRatMulSpec)

/-- 'laws.FnRatOf', WHERE WHAT IT READS IS OF BULK AT MOST 1048576: true; the input reads as it did. -/
def fnRatOfUptoRow : OpenClaim := { program := "ytpefkhcmfapmnaa", sum := "ac72f31683db5c37099edf25c58ec122405407093f2a0383e0bf256bc86b786e", func := "loop.example/compurgator/laws.FnRatOf", spec := "fnRatOf", apart := false, narrowed := true }
def FnRatOfUptoSaid : Prop := fnRatOfUptoRow.holds Try.pinned (OpenSpec.upto fnRatOfSpec)

/-- 'laws.FnExactRatMid', WHERE WHAT IT READS IS OF BULK AT MOST 1048576: true; the input reads as it did. -/
def fnExactRatMidUptoRow : OpenClaim := { program := "ytpefkhcmfapmnaa", sum := "ac72f31683db5c37099edf25c58ec122405407093f2a0383e0bf256bc86b786e", func := "loop.example/compurgator/laws.FnExactRatMid", spec := "fnExactRatMid", apart := false, narrowed := true }
def FnExactRatMidUptoSaid : Prop := fnExactRatMidUptoRow.holds Try.pinned (OpenSpec.upto fnExactRatMidSpec)

/-- 'laws.FnRatOver', WHERE WHAT IT READS IS OF BULK AT MOST 1048576: true; the input reads as it did. -/
def fnRatOverUptoRow : OpenClaim := { program := "ytpefkhcmfapmnaa", sum := "ac72f31683db5c37099edf25c58ec122405407093f2a0383e0bf256bc86b786e", func := "loop.example/compurgator/laws.FnRatOver", spec := "fnRatOver", apart := false, narrowed := true }
def FnRatOverUptoSaid : Prop := fnRatOverUptoRow.holds Try.pinned (OpenSpec.upto fnRatOverSpec)

/-- 'laws.FnRatNeg', WHERE WHAT IT READS IS OF BULK AT MOST 1048576: true; the input reads as it did. -/
def fnRatNegUptoRow : OpenClaim := { program := "ytpefkhcmfapmnaa", sum := "ac72f31683db5c37099edf25c58ec122405407093f2a0383e0bf256bc86b786e", func := "loop.example/compurgator/laws.FnRatNeg", spec := "fnRatNeg", apart := false, narrowed := true }
def FnRatNegUptoSaid : Prop := fnRatNegUptoRow.holds Try.pinned (OpenSpec.upto fnRatNegSpec)

/-- 'laws.FnRatLess', WHERE WHAT IT READS IS OF BULK AT MOST 1048576: true; the input reads as it did. -/
def fnRatLessUptoRow : OpenClaim := { program := "ytpefkhcmfapmnaa", sum := "ac72f31683db5c37099edf25c58ec122405407093f2a0383e0bf256bc86b786e", func := "loop.example/compurgator/laws.FnRatLess", spec := "fnRatLess", apart := false, narrowed := true }
def FnRatLessUptoSaid : Prop := fnRatLessUptoRow.holds Try.pinned (OpenSpec.upto fnRatLessSpec)

/-- 'laws.FnRatAdd', WHERE WHAT IT READS IS OF BULK AT MOST 1048576: true; the input reads as it did. -/
def fnRatAddUptoRow : OpenClaim := { program := "ytpefkhcmfapmnaa", sum := "ac72f31683db5c37099edf25c58ec122405407093f2a0383e0bf256bc86b786e", func := "loop.example/compurgator/laws.FnRatAdd", spec := "fnRatAdd", apart := false, narrowed := true }
def FnRatAddUptoSaid : Prop := fnRatAddUptoRow.holds Try.pinned (OpenSpec.upto fnRatAddSpec)

end Rows
end Go.Proofs.Ytpefkhcmfapmnaa
