/-
  No cell of these rows narrows 'for every input' (looked for: loops, veiled, ifaces, maps, wideKeys, modest, calm, conditions, laid).
  DERIVED. THE GIVEN ROWS OF THIS SEAT. 12 by the template 'for every input the law returns true; each argument reads behind the call as it read before'; 0 by the template 'total and deterministic' (their statements: YtacjppdofbfloaaTotals.lean).
  GIVEN WITH THE SEED: the statements are not yours to turn. If you find one false, say at which input.
  Laid BY PROGRAM, IN A SANDBOX (cutbox-rows.mjs): the forced cells as the released guide's own fill.sh prints them over the translation 12dad333bffbfa2d… (all of the seat's roots in one cut). By AI agents, Wed Nov 11 2026. No macro, syntax, notation, axiom, sorry.
-/
import Derived.Test.YtacjppdofbfloaaChecked
import GoSem.Claim
import GoSem.ClaimJoined
import GoSem.ClaimMapViews
import Derived.JoinedTies
import Derived.KernelRfl
namespace Go.Proofs.Ytacjppdofbfloaa
/- THE CELL 'sum', in the pinned program and in every row, IS THE sha256 OF THE DUMP (.gsa) THAT YtacjppdofbfloaaProg.lean LOADS. Nothing in Lean hashes anything: it is a label: what it is worth is what the hold of that sum in a sandbox is worth. -/
noncomputable def Try.pinned : Pinned := { name := "ytacjppdofbfloaa", sum := "12dad333bffbfa2d4f5709f7fd0f5cde1fc147c5be5290341306da4f92113f5e", checked := Try.checked }
namespace Rows
def none {H : Type} : Left H := { results := [], args := [] }

/-- 'laws.FnExactLinOk': WHATEVER THE INPUT: true; the input reads as it did. -/
def fnExactLinOkSpec : ChangeSpec := { name := "fnExactLinOk", fn := fun _ => fun
  | [d] => { results := [.lit (.bool true)], args := [d] }
  | _ => none }
def fnExactLinOkRow : OpenClaim := { program := "ytacjppdofbfloaa", sum := "12dad333bffbfa2d4f5709f7fd0f5cde1fc147c5be5290341306da4f92113f5e", func := "loop.example/compurgator/laws.FnExactLinOk", spec := "fnExactLinOk", apart := false }
def FnExactLinOkSaid : Prop := fnExactLinOkRow.holds Try.pinned (OpenSpec.ofChange fnExactLinOkSpec)

/-- ITS FALSE NEIGHBOUR: 'it returns false'. Refute it at one input. -/
def fnExactLinOkWrong : ChangeSpec := { name := "fnExactLinOk", fn := fun _ => fun
  | [d] => { results := [.lit (.bool false)], args := [d] }
  | _ => none }
def FnExactLinOkWrongFalsely : Prop := fnExactLinOkRow.holds Try.pinned (OpenSpec.ofChange fnExactLinOkWrong)

/-- 'laws.FnExactLinSame': WHATEVER THE INPUT: true; the input reads as it did. -/
def fnExactLinSameSpec : ChangeSpec := { name := "fnExactLinSame", fn := fun _ => fun
  | [d1, d2] => { results := [.lit (.bool true)], args := [d1, d2] }
  | _ => none }
def fnExactLinSameRow : OpenClaim := { program := "ytacjppdofbfloaa", sum := "12dad333bffbfa2d4f5709f7fd0f5cde1fc147c5be5290341306da4f92113f5e", func := "loop.example/compurgator/laws.FnExactLinSame", spec := "fnExactLinSame", apart := false }
def FnExactLinSameSaid : Prop := fnExactLinSameRow.holds Try.pinned (OpenSpec.ofChange fnExactLinSameSpec)

/-- ITS FALSE NEIGHBOUR: 'it returns false'. Refute it at one input. -/
def fnExactLinSameWrong : ChangeSpec := { name := "fnExactLinSame", fn := fun _ => fun
  | [d1, d2] => { results := [.lit (.bool false)], args := [d1, d2] }
  | _ => none }
def FnExactLinSameWrongFalsely : Prop := fnExactLinSameRow.holds Try.pinned (OpenSpec.ofChange fnExactLinSameWrong)

/-- 'laws.FnLinSame': WHATEVER THE INPUT: true; the input reads as it did. -/
def fnLinSameSpec : ChangeSpec := { name := "fnLinSame", fn := fun _ => fun
  | [d] => { results := [.lit (.bool true)], args := [d] }
  | _ => none }
def fnLinSameRow : OpenClaim := { program := "ytacjppdofbfloaa", sum := "12dad333bffbfa2d4f5709f7fd0f5cde1fc147c5be5290341306da4f92113f5e", func := "loop.example/compurgator/laws.FnLinSame", spec := "fnLinSame", apart := false }
def FnLinSameSaid : Prop := fnLinSameRow.holds Try.pinned (OpenSpec.ofChange fnLinSameSpec)

/-- ITS FALSE NEIGHBOUR: 'it returns false'. Refute it at one input. -/
def fnLinSameWrong : ChangeSpec := { name := "fnLinSame", fn := fun _ => fun
  | [d] => { results := [.lit (.bool false)], args := [d] }
  | _ => none }
def FnLinSameWrongFalsely : Prop := fnLinSameRow.holds Try.pinned (OpenSpec.ofChange fnLinSameWrong)

/-- 'laws.FnExactLinBad': WHATEVER THE INPUT: true; the input reads as it did. -/
def fnExactLinBadSpec : ChangeSpec := { name := "fnExactLinBad", fn := fun _ => fun
  | [d] => { results := [.lit (.bool true)], args := [d] }
  | _ => none }
def fnExactLinBadRow : OpenClaim := { program := "ytacjppdofbfloaa", sum := "12dad333bffbfa2d4f5709f7fd0f5cde1fc147c5be5290341306da4f92113f5e", func := "loop.example/compurgator/laws.FnExactLinBad", spec := "fnExactLinBad", unfollowed := true, recurses := true, apart := false }
def FnExactLinBadSaid : Prop := fnExactLinBadRow.holds Try.pinned (OpenSpec.ofChange fnExactLinBadSpec)

/-- ITS FALSE NEIGHBOUR: 'it returns false'. Refute it at one input. -/
def fnExactLinBadWrong : ChangeSpec := { name := "fnExactLinBad", fn := fun _ => fun
  | [d] => { results := [.lit (.bool false)], args := [d] }
  | _ => none }
def FnExactLinBadWrongFalsely : Prop := fnExactLinBadRow.holds Try.pinned (OpenSpec.ofChange fnExactLinBadWrong)

/-- 'laws.FnExactLinFree': WHATEVER THE INPUT: true; the input reads as it did. -/
def fnExactLinFreeSpec : ChangeSpec := { name := "fnExactLinFree", fn := fun _ => fun
  | [d] => { results := [.lit (.bool true)], args := [d] }
  | _ => none }
def fnExactLinFreeRow : OpenClaim := { program := "ytacjppdofbfloaa", sum := "12dad333bffbfa2d4f5709f7fd0f5cde1fc147c5be5290341306da4f92113f5e", func := "loop.example/compurgator/laws.FnExactLinFree", spec := "fnExactLinFree", unfollowed := true, recurses := true, apart := false }
def FnExactLinFreeSaid : Prop := fnExactLinFreeRow.holds Try.pinned (OpenSpec.ofChange fnExactLinFreeSpec)

/-- ITS FALSE NEIGHBOUR: 'it returns false'. Refute it at one input. -/
def fnExactLinFreeWrong : ChangeSpec := { name := "fnExactLinFree", fn := fun _ => fun
  | [d] => { results := [.lit (.bool false)], args := [d] }
  | _ => none }
def FnExactLinFreeWrongFalsely : Prop := fnExactLinFreeRow.holds Try.pinned (OpenSpec.ofChange fnExactLinFreeWrong)

/-- 'laws.FnExactLinNot': WHATEVER THE INPUT: true; the input reads as it did. -/
def fnExactLinNotSpec : ChangeSpec := { name := "fnExactLinNot", fn := fun _ => fun
  | [d] => { results := [.lit (.bool true)], args := [d] }
  | _ => none }
def fnExactLinNotRow : OpenClaim := { program := "ytacjppdofbfloaa", sum := "12dad333bffbfa2d4f5709f7fd0f5cde1fc147c5be5290341306da4f92113f5e", func := "loop.example/compurgator/laws.FnExactLinNot", spec := "fnExactLinNot", apart := false }
def FnExactLinNotSaid : Prop := fnExactLinNotRow.holds Try.pinned (OpenSpec.ofChange fnExactLinNotSpec)

/-- ITS FALSE NEIGHBOUR: 'it returns false'. Refute it at one input. -/
def fnExactLinNotWrong : ChangeSpec := { name := "fnExactLinNot", fn := fun _ => fun
  | [d] => { results := [.lit (.bool false)], args := [d] }
  | _ => none }
def FnExactLinNotWrongFalsely : Prop := fnExactLinNotRow.holds Try.pinned (OpenSpec.ofChange fnExactLinNotWrong)

/-- 'laws.FnLinTwice': WHATEVER THE INPUT: true; the input reads as it did. -/
def fnLinTwiceSpec : ChangeSpec := { name := "fnLinTwice", fn := fun _ => fun
  | [d] => { results := [.lit (.bool true)], args := [d] }
  | _ => none }
def fnLinTwiceRow : OpenClaim := { program := "ytacjppdofbfloaa", sum := "12dad333bffbfa2d4f5709f7fd0f5cde1fc147c5be5290341306da4f92113f5e", func := "loop.example/compurgator/laws.FnLinTwice", spec := "fnLinTwice", apart := false }
def FnLinTwiceSaid : Prop := fnLinTwiceRow.holds Try.pinned (OpenSpec.ofChange fnLinTwiceSpec)

/-- ITS FALSE NEIGHBOUR: 'it returns false'. Refute it at one input. -/
def fnLinTwiceWrong : ChangeSpec := { name := "fnLinTwice", fn := fun _ => fun
  | [d] => { results := [.lit (.bool false)], args := [d] }
  | _ => none }
def FnLinTwiceWrongFalsely : Prop := fnLinTwiceRow.holds Try.pinned (OpenSpec.ofChange fnLinTwiceWrong)

/-- 'laws.FnExactLinSum': WHATEVER THE INPUT: true; the input reads as it did. -/
def fnExactLinSumSpec : ChangeSpec := { name := "fnExactLinSum", fn := fun _ => fun
  | [d1, d2, d3, d4] => { results := [.lit (.bool true)], args := [d1, d2, d3, d4] }
  | _ => none }
def fnExactLinSumRow : OpenClaim := { program := "ytacjppdofbfloaa", sum := "12dad333bffbfa2d4f5709f7fd0f5cde1fc147c5be5290341306da4f92113f5e", func := "loop.example/compurgator/laws.FnExactLinSum", spec := "fnExactLinSum", apart := false }
def FnExactLinSumSaid : Prop := fnExactLinSumRow.holds Try.pinned (OpenSpec.ofChange fnExactLinSumSpec)

/-- ITS FALSE NEIGHBOUR: 'it returns false'. Refute it at one input. -/
def fnExactLinSumWrong : ChangeSpec := { name := "fnExactLinSum", fn := fun _ => fun
  | [d1, d2, d3, d4] => { results := [.lit (.bool false)], args := [d1, d2, d3, d4] }
  | _ => none }
def FnExactLinSumWrongFalsely : Prop := fnExactLinSumRow.holds Try.pinned (OpenSpec.ofChange fnExactLinSumWrong)

/-- 'laws.FnRatThree': WHATEVER THE INPUT: true; the input reads as it did. -/
def fnRatThreeSpec : ChangeSpec := { name := "fnRatThree", fn := fun _ => fun
  | [d1, d2] => { results := [.lit (.bool true)], args := [d1, d2] }
  | _ => none }
def fnRatThreeRow : OpenClaim := { program := "ytacjppdofbfloaa", sum := "12dad333bffbfa2d4f5709f7fd0f5cde1fc147c5be5290341306da4f92113f5e", func := "loop.example/compurgator/laws.FnRatThree", spec := "fnRatThree", apart := false }
def FnRatThreeSaid : Prop := fnRatThreeRow.holds Try.pinned (OpenSpec.ofChange fnRatThreeSpec)

/-- ITS FALSE NEIGHBOUR: 'it returns false'. Refute it at one input. -/
def fnRatThreeWrong : ChangeSpec := { name := "fnRatThree", fn := fun _ => fun
  | [d1, d2] => { results := [.lit (.bool false)], args := [d1, d2] }
  | _ => none }
def FnRatThreeWrongFalsely : Prop := fnRatThreeRow.holds Try.pinned (OpenSpec.ofChange fnRatThreeWrong)

/-- 'laws.FnRatMul': WHATEVER THE INPUT: true; the input reads as it did. -/
def fnRatMulSpec : ChangeSpec := { name := "fnRatMul", fn := fun _ => fun
  | [d1, d2] => { results := [.lit (.bool true)], args := [d1, d2] }
  | _ => none }
def fnRatMulRow : OpenClaim := { program := "ytacjppdofbfloaa", sum := "12dad333bffbfa2d4f5709f7fd0f5cde1fc147c5be5290341306da4f92113f5e", func := "loop.example/compurgator/laws.FnRatMul", spec := "fnRatMul", apart := false }
def FnRatMulSaid : Prop := fnRatMulRow.holds Try.pinned (OpenSpec.ofChange fnRatMulSpec)

/-- ITS FALSE NEIGHBOUR: 'it returns false'. Refute it at one input. -/
def fnRatMulWrong : ChangeSpec := { name := "fnRatMul", fn := fun _ => fun
  | [d1, d2] => { results := [.lit (.bool false)], args := [d1, d2] }
  | _ => none }
def FnRatMulWrongFalsely : Prop := fnRatMulRow.holds Try.pinned (OpenSpec.ofChange fnRatMulWrong)

/-- 'laws.FnLinZero': WHATEVER THE INPUT: true; the input reads as it did. -/
def fnLinZeroSpec : ChangeSpec := { name := "fnLinZero", fn := fun _ => fun
  | [d] => { results := [.lit (.bool true)], args := [d] }
  | _ => none }
def fnLinZeroRow : OpenClaim := { program := "ytacjppdofbfloaa", sum := "12dad333bffbfa2d4f5709f7fd0f5cde1fc147c5be5290341306da4f92113f5e", func := "loop.example/compurgator/laws.FnLinZero", spec := "fnLinZero", unfollowed := true, recurses := true, apart := false }
def FnLinZeroSaid : Prop := fnLinZeroRow.holds Try.pinned (OpenSpec.ofChange fnLinZeroSpec)

/-- ITS FALSE NEIGHBOUR: 'it returns false'. Refute it at one input. -/
def fnLinZeroWrong : ChangeSpec := { name := "fnLinZero", fn := fun _ => fun
  | [d] => { results := [.lit (.bool false)], args := [d] }
  | _ => none }
def FnLinZeroWrongFalsely : Prop := fnLinZeroRow.holds Try.pinned (OpenSpec.ofChange fnLinZeroWrong)

/-- 'laws.FnRatMid': WHATEVER THE INPUT: true; the input reads as it did. -/
def fnRatMidSpec : ChangeSpec := { name := "fnRatMid", fn := fun _ => fun
  | [d] => { results := [.lit (.bool true)], args := [d] }
  | _ => none }
def fnRatMidRow : OpenClaim := { program := "ytacjppdofbfloaa", sum := "12dad333bffbfa2d4f5709f7fd0f5cde1fc147c5be5290341306da4f92113f5e", func := "loop.example/compurgator/laws.FnRatMid", spec := "fnRatMid", apart := false }
def FnRatMidSaid : Prop := fnRatMidRow.holds Try.pinned (OpenSpec.ofChange fnRatMidSpec)

/-- ITS FALSE NEIGHBOUR: 'it returns false'. Refute it at one input. -/
def fnRatMidWrong : ChangeSpec := { name := "fnRatMid", fn := fun _ => fun
  | [d] => { results := [.lit (.bool false)], args := [d] }
  | _ => none }
def FnRatMidWrongFalsely : Prop := fnRatMidRow.holds Try.pinned (OpenSpec.ofChange fnRatMidWrong)

/- THE SECOND FORM. 'bulk': how many values and letters a reading holds, each counted each time it is reached (what is shared counts as often as it is met; a slice's spare places count too). A statement '..UptoSaid' is the law's where the arguments, and the package variables that the reading takes, are together of bulk at most 1048576: NARROWER than '..Said'. Prove '..Said' where nothing that the law and all that it calls make is longer than what came in: it says more and counts as full. Else prove '..UptoSaid'. A law counts once. -/
mutual
def uptoBulk {H : Type} : DataW H → Nat
  | .lit (.string bytes) => bytes.length + 1
  | .lit _ => 1
  | .nil => 1
  | .ptr d => uptoBulk d + 1
  | .slice elems spare => uptoBulkAll elems + uptoBulkAll spare + 1
  | .agg parts => uptoBulkAll parts + 1
  | .iface _ d => uptoBulk d + 1
  | .map entries => uptoBulkEntries entries + 1
  | .held _ => 1
def uptoBulkAll {H : Type} : List (DataW H) → Nat
  | [] => 0
  | d :: r => uptoBulk d + uptoBulkAll r
def uptoBulkEntries {H : Type} : List (Lit × DataW H) → Nat
  | [] => 0
  | x :: r => uptoBulkEntry x + uptoBulkEntries r
def uptoBulkEntry {H : Type} : Lit × DataW H → Nat
  | (.string bytes, d) => bytes.length + uptoBulk d + 1
  | (_, d) => uptoBulk d + 1
 end
def uptoSmall : (H : Type) → List (DataW H) → Bool := fun _ ds => decide (uptoBulkAll ds ≤ 1048576)
def OpenSpec.upto (s : _root_.Go.ChangeSpec) : _root_.Go.OpenSpec := { _root_.Go.OpenSpec.ofChange s with cond := some uptoSmall }

/-- 'laws.FnExactLinOk', WHERE WHAT IT READS IS OF BULK AT MOST 1048576: true; the input reads as it did. -/
def fnExactLinOkUptoRow : OpenClaim := { program := "ytacjppdofbfloaa", sum := "12dad333bffbfa2d4f5709f7fd0f5cde1fc147c5be5290341306da4f92113f5e", func := "loop.example/compurgator/laws.FnExactLinOk", spec := "fnExactLinOk", apart := false, narrowed := true }
def FnExactLinOkUptoSaid : Prop := fnExactLinOkUptoRow.holds Try.pinned (OpenSpec.upto fnExactLinOkSpec)

/-- 'laws.FnExactLinSame', WHERE WHAT IT READS IS OF BULK AT MOST 1048576: true; the input reads as it did. -/
def fnExactLinSameUptoRow : OpenClaim := { program := "ytacjppdofbfloaa", sum := "12dad333bffbfa2d4f5709f7fd0f5cde1fc147c5be5290341306da4f92113f5e", func := "loop.example/compurgator/laws.FnExactLinSame", spec := "fnExactLinSame", apart := false, narrowed := true }
def FnExactLinSameUptoSaid : Prop := fnExactLinSameUptoRow.holds Try.pinned (OpenSpec.upto fnExactLinSameSpec)

/-- 'laws.FnLinSame', WHERE WHAT IT READS IS OF BULK AT MOST 1048576: true; the input reads as it did. -/
def fnLinSameUptoRow : OpenClaim := { program := "ytacjppdofbfloaa", sum := "12dad333bffbfa2d4f5709f7fd0f5cde1fc147c5be5290341306da4f92113f5e", func := "loop.example/compurgator/laws.FnLinSame", spec := "fnLinSame", apart := false, narrowed := true }
def FnLinSameUptoSaid : Prop := fnLinSameUptoRow.holds Try.pinned (OpenSpec.upto fnLinSameSpec)

/-- 'laws.FnExactLinBad', WHERE WHAT IT READS IS OF BULK AT MOST 1048576: true; the input reads as it did. -/
def fnExactLinBadUptoRow : OpenClaim := { program := "ytacjppdofbfloaa", sum := "12dad333bffbfa2d4f5709f7fd0f5cde1fc147c5be5290341306da4f92113f5e", func := "loop.example/compurgator/laws.FnExactLinBad", spec := "fnExactLinBad", unfollowed := true, recurses := true, apart := false, narrowed := true }
def FnExactLinBadUptoSaid : Prop := fnExactLinBadUptoRow.holds Try.pinned (OpenSpec.upto fnExactLinBadSpec)

/-- 'laws.FnExactLinFree', WHERE WHAT IT READS IS OF BULK AT MOST 1048576: true; the input reads as it did. -/
def fnExactLinFreeUptoRow : OpenClaim := { program := "ytacjppdofbfloaa", sum := "12dad333bffbfa2d4f5709f7fd0f5cde1fc147c5be5290341306da4f92113f5e", func := "loop.example/compurgator/laws.FnExactLinFree", spec := "fnExactLinFree", unfollowed := true, recurses := true, apart := false, narrowed := true }
def FnExactLinFreeUptoSaid : Prop := fnExactLinFreeUptoRow.holds Try.pinned (OpenSpec.upto fnExactLinFreeSpec)

/-- 'laws.FnExactLinNot', WHERE WHAT IT READS IS OF BULK AT MOST 1048576: true; the input reads as it did. -/
def fnExactLinNotUptoRow : OpenClaim := { program := "ytacjppdofbfloaa", sum := "12dad333bffbfa2d4f5709f7fd0f5cde1fc147c5be5290341306da4f92113f5e", func := "loop.example/compurgator/laws.FnExactLinNot", spec := "fnExactLinNot", apart := false, narrowed := true }
def FnExactLinNotUptoSaid : Prop := fnExactLinNotUptoRow.holds Try.pinned (OpenSpec.upto fnExactLinNotSpec)

/-- 'laws.FnLinTwice', WHERE WHAT IT READS IS OF BULK AT MOST 1048576: true; the input reads as it did. -/
def fnLinTwiceUptoRow : OpenClaim := { program := "ytacjppdofbfloaa", sum := "12dad333bffbfa2d4f5709f7fd0f5cde1fc147c5be5290341306da4f92113f5e", func := "loop.example/compurgator/laws.FnLinTwice", spec := "fnLinTwice", apart := false, narrowed := true }
def FnLinTwiceUptoSaid : Prop := fnLinTwiceUptoRow.holds Try.pinned (OpenSpec.upto fnLinTwiceSpec)

/-- 'laws.FnExactLinSum', WHERE WHAT IT READS IS OF BULK AT MOST 1048576: true; the input reads as it did. -/
def fnExactLinSumUptoRow : OpenClaim := { program := "ytacjppdofbfloaa", sum := "12dad333bffbfa2d4f5709f7fd0f5cde1fc147c5be5290341306da4f92113f5e", func := "loop.example/compurgator/laws.FnExactLinSum", spec := "fnExactLinSum", apart := false, narrowed := true }
def FnExactLinSumUptoSaid : Prop := fnExactLinSumUptoRow.holds Try.pinned (OpenSpec.upto fnExactLinSumSpec)

/-- 'laws.FnRatThree', WHERE WHAT IT READS IS OF BULK AT MOST 1048576: true; the input reads as it did. -/
def fnRatThreeUptoRow : OpenClaim := { program := "ytacjppdofbfloaa", sum := "12dad333bffbfa2d4f5709f7fd0f5cde1fc147c5be5290341306da4f92113f5e", func := "loop.example/compurgator/laws.FnRatThree", spec := "fnRatThree", apart := false, narrowed := true }
def FnRatThreeUptoSaid : Prop := fnRatThreeUptoRow.holds Try.pinned (OpenSpec.upto fnRatThreeSpec)

/-- 'laws.FnRatMul', WHERE WHAT IT READS IS OF BULK AT MOST 1048576: true; the input reads as it did. -/
def fnRatMulUptoRow : OpenClaim := { program := "ytacjppdofbfloaa", sum := "12dad333bffbfa2d4f5709f7fd0f5cde1fc147c5be5290341306da4f92113f5e", func := "loop.example/compurgator/laws.FnRatMul", spec := "fnRatMul", apart := false, narrowed := true }
def FnRatMulUptoSaid : Prop := fnRatMulUptoRow.holds Try.pinned (OpenSpec.upto fnRatMulSpec)

/-- 'laws.FnLinZero', WHERE WHAT IT READS IS OF BULK AT MOST 1048576: true; the input reads as it did. -/
def fnLinZeroUptoRow : OpenClaim := { program := "ytacjppdofbfloaa", sum := "12dad333bffbfa2d4f5709f7fd0f5cde1fc147c5be5290341306da4f92113f5e", func := "loop.example/compurgator/laws.FnLinZero", spec := "fnLinZero", unfollowed := true, recurses := true, apart := false, narrowed := true }
def FnLinZeroUptoSaid : Prop := fnLinZeroUptoRow.holds Try.pinned (OpenSpec.upto fnLinZeroSpec)

/-- 'laws.FnRatMid', WHERE WHAT IT READS IS OF BULK AT MOST 1048576: true; the input reads as it did. -/
def fnRatMidUptoRow : OpenClaim := { program := "ytacjppdofbfloaa", sum := "12dad333bffbfa2d4f5709f7fd0f5cde1fc147c5be5290341306da4f92113f5e", func := "loop.example/compurgator/laws.FnRatMid", spec := "fnRatMid", apart := false, narrowed := true }
def FnRatMidUptoSaid : Prop := fnRatMidUptoRow.holds Try.pinned (OpenSpec.upto fnRatMidSpec)

end Rows
end Go.Proofs.Ytacjppdofbfloaa
