/-
  No cell of these rows narrows 'for every input' (looked for: loops, veiled, ifaces, maps, wideKeys, modest, calm, conditions, laid).
  DERIVED. THE GIVEN ROWS OF THIS SEAT. 12 by the template 'for every input the law returns true; each argument reads behind the call as it read before'; 0 by the template 'total and deterministic' (their statements: YthamgdinhlnldaaTotals.lean).
  GIVEN WITH THE SEED: the statements are not yours to turn. If you find one false, say at which input.
  Laid BY PROGRAM, IN A SANDBOX (cutbox-rows.mjs): the forced cells as the released guide's own fill.sh prints them over the translation 1820545ff3740438… (all of the seat's roots in one cut). By AI agents, Wed Nov 11 2026. No macro, syntax, notation, axiom, sorry.
-/
import Derived.Test.YthamgdinhlnldaaChecked
import GoSem.Claim
import GoSem.ClaimJoined
import GoSem.ClaimMapViews
import Derived.JoinedTies
import Derived.KernelRfl
namespace Go.Proofs.Ythamgdinhlnldaa
/- THE CELL 'sum', in the pinned program and in every row, IS THE sha256 OF THE DUMP (.gsa) THAT YthamgdinhlnldaaProg.lean LOADS. Nothing in Lean hashes anything: it is a label: what it is worth is what the hold of that sum in a sandbox is worth. -/
noncomputable def Try.pinned : Pinned := { name := "ythamgdinhlnldaa", sum := "1820545ff3740438e38b0e26d9fa5cfb6312dac4d6bec6d48b781b8ecc7f6a00", checked := Try.checked }
namespace Rows
def none {H : Type} : Left H := { results := [], args := [] }

/-- 'laws.FnExactFarOk': WHATEVER THE INPUT: true; the input reads as it did. -/
def fnExactFarOkSpec : ChangeSpec := { name := "fnExactFarOk", fn := fun _ => fun
  | [d1, d2] => { results := [.lit (.bool true)], args := [d1, d2] }
  | _ => none }
def fnExactFarOkRow : OpenClaim := { program := "ythamgdinhlnldaa", sum := "1820545ff3740438e38b0e26d9fa5cfb6312dac4d6bec6d48b781b8ecc7f6a00", func := "loop.example/compurgator/laws.FnExactFarOk", spec := "fnExactFarOk", unfollowed := true, recurses := true, apart := false }
def FnExactFarOkSaid : Prop := fnExactFarOkRow.holds Try.pinned (OpenSpec.ofChange fnExactFarOkSpec)

/-- ITS FALSE NEIGHBOUR: 'it returns false'. Refute it at one input. -/
def fnExactFarOkWrong : ChangeSpec := { name := "fnExactFarOk", fn := fun _ => fun
  | [d1, d2] => { results := [.lit (.bool false)], args := [d1, d2] }
  | _ => none }
def FnExactFarOkWrongFalsely : Prop := fnExactFarOkRow.holds Try.pinned (OpenSpec.ofChange fnExactFarOkWrong)

/-- 'laws.FnExactFarSum': WHATEVER THE INPUT: true; the input reads as it did. -/
def fnExactFarSumSpec : ChangeSpec := { name := "fnExactFarSum", fn := fun _ => fun
  | [d1, d2] => { results := [.lit (.bool true)], args := [d1, d2] }
  | _ => none }
def fnExactFarSumRow : OpenClaim := { program := "ythamgdinhlnldaa", sum := "1820545ff3740438e38b0e26d9fa5cfb6312dac4d6bec6d48b781b8ecc7f6a00", func := "loop.example/compurgator/laws.FnExactFarSum", spec := "fnExactFarSum", unfollowed := true, recurses := true, apart := false }
def FnExactFarSumSaid : Prop := fnExactFarSumRow.holds Try.pinned (OpenSpec.ofChange fnExactFarSumSpec)

/-- ITS FALSE NEIGHBOUR: 'it returns false'. Refute it at one input. -/
def fnExactFarSumWrong : ChangeSpec := { name := "fnExactFarSum", fn := fun _ => fun
  | [d1, d2] => { results := [.lit (.bool false)], args := [d1, d2] }
  | _ => none }
def FnExactFarSumWrongFalsely : Prop := fnExactFarSumRow.holds Try.pinned (OpenSpec.ofChange fnExactFarSumWrong)

/-- 'laws.FnLinNot': WHATEVER THE INPUT: true; the input reads as it did. -/
def fnLinNotSpec : ChangeSpec := { name := "fnLinNot", fn := fun _ => fun
  | [d] => { results := [.lit (.bool true)], args := [d] }
  | _ => none }
def fnLinNotRow : OpenClaim := { program := "ythamgdinhlnldaa", sum := "1820545ff3740438e38b0e26d9fa5cfb6312dac4d6bec6d48b781b8ecc7f6a00", func := "loop.example/compurgator/laws.FnLinNot", spec := "fnLinNot", unfollowed := true, recurses := true, apart := false }
def FnLinNotSaid : Prop := fnLinNotRow.holds Try.pinned (OpenSpec.ofChange fnLinNotSpec)

/-- ITS FALSE NEIGHBOUR: 'it returns false'. Refute it at one input. -/
def fnLinNotWrong : ChangeSpec := { name := "fnLinNot", fn := fun _ => fun
  | [d] => { results := [.lit (.bool false)], args := [d] }
  | _ => none }
def FnLinNotWrongFalsely : Prop := fnLinNotRow.holds Try.pinned (OpenSpec.ofChange fnLinNotWrong)

/-- 'laws.FnExactLinAt': WHATEVER THE INPUT: true; the input reads as it did. -/
def fnExactLinAtSpec : ChangeSpec := { name := "fnExactLinAt", fn := fun _ => fun
  | [d1, d2] => { results := [.lit (.bool true)], args := [d1, d2] }
  | _ => none }
def fnExactLinAtRow : OpenClaim := { program := "ythamgdinhlnldaa", sum := "1820545ff3740438e38b0e26d9fa5cfb6312dac4d6bec6d48b781b8ecc7f6a00", func := "loop.example/compurgator/laws.FnExactLinAt", spec := "fnExactLinAt", unfollowed := true, recurses := true, apart := false }
def FnExactLinAtSaid : Prop := fnExactLinAtRow.holds Try.pinned (OpenSpec.ofChange fnExactLinAtSpec)

/-- ITS FALSE NEIGHBOUR: 'it returns false'. Refute it at one input. -/
def fnExactLinAtWrong : ChangeSpec := { name := "fnExactLinAt", fn := fun _ => fun
  | [d1, d2] => { results := [.lit (.bool false)], args := [d1, d2] }
  | _ => none }
def FnExactLinAtWrongFalsely : Prop := fnExactLinAtRow.holds Try.pinned (OpenSpec.ofChange fnExactLinAtWrong)

/-- 'laws.FnLinBad': WHATEVER THE INPUT: true; the input reads as it did. -/
def fnLinBadSpec : ChangeSpec := { name := "fnLinBad", fn := fun _ => fun
  | [d] => { results := [.lit (.bool true)], args := [d] }
  | _ => none }
def fnLinBadRow : OpenClaim := { program := "ythamgdinhlnldaa", sum := "1820545ff3740438e38b0e26d9fa5cfb6312dac4d6bec6d48b781b8ecc7f6a00", func := "loop.example/compurgator/laws.FnLinBad", spec := "fnLinBad", unfollowed := true, recurses := true, apart := false }
def FnLinBadSaid : Prop := fnLinBadRow.holds Try.pinned (OpenSpec.ofChange fnLinBadSpec)

/-- ITS FALSE NEIGHBOUR: 'it returns false'. Refute it at one input. -/
def fnLinBadWrong : ChangeSpec := { name := "fnLinBad", fn := fun _ => fun
  | [d] => { results := [.lit (.bool false)], args := [d] }
  | _ => none }
def FnLinBadWrongFalsely : Prop := fnLinBadRow.holds Try.pinned (OpenSpec.ofChange fnLinBadWrong)

/-- 'laws.FnLinSum': WHATEVER THE INPUT: true; the input reads as it did. -/
def fnLinSumSpec : ChangeSpec := { name := "fnLinSum", fn := fun _ => fun
  | [d] => { results := [.lit (.bool true)], args := [d] }
  | _ => none }
def fnLinSumRow : OpenClaim := { program := "ythamgdinhlnldaa", sum := "1820545ff3740438e38b0e26d9fa5cfb6312dac4d6bec6d48b781b8ecc7f6a00", func := "loop.example/compurgator/laws.FnLinSum", spec := "fnLinSum", unfollowed := true, recurses := true, apart := false }
def FnLinSumSaid : Prop := fnLinSumRow.holds Try.pinned (OpenSpec.ofChange fnLinSumSpec)

/-- ITS FALSE NEIGHBOUR: 'it returns false'. Refute it at one input. -/
def fnLinSumWrong : ChangeSpec := { name := "fnLinSum", fn := fun _ => fun
  | [d] => { results := [.lit (.bool false)], args := [d] }
  | _ => none }
def FnLinSumWrongFalsely : Prop := fnLinSumRow.holds Try.pinned (OpenSpec.ofChange fnLinSumWrong)

/-- 'laws.FnLinAt': WHATEVER THE INPUT: true; the input reads as it did. -/
def fnLinAtSpec : ChangeSpec := { name := "fnLinAt", fn := fun _ => fun
  | [d] => { results := [.lit (.bool true)], args := [d] }
  | _ => none }
def fnLinAtRow : OpenClaim := { program := "ythamgdinhlnldaa", sum := "1820545ff3740438e38b0e26d9fa5cfb6312dac4d6bec6d48b781b8ecc7f6a00", func := "loop.example/compurgator/laws.FnLinAt", spec := "fnLinAt", unfollowed := true, recurses := true, apart := false }
def FnLinAtSaid : Prop := fnLinAtRow.holds Try.pinned (OpenSpec.ofChange fnLinAtSpec)

/-- ITS FALSE NEIGHBOUR: 'it returns false'. Refute it at one input. -/
def fnLinAtWrong : ChangeSpec := { name := "fnLinAt", fn := fun _ => fun
  | [d] => { results := [.lit (.bool false)], args := [d] }
  | _ => none }
def FnLinAtWrongFalsely : Prop := fnLinAtRow.holds Try.pinned (OpenSpec.ofChange fnLinAtWrong)

/-- 'laws.FnExactFarLess': WHATEVER THE INPUT: true; the input reads as it did. -/
def fnExactFarLessSpec : ChangeSpec := { name := "fnExactFarLess", fn := fun _ => fun
  | [d1, d2] => { results := [.lit (.bool true)], args := [d1, d2] }
  | _ => none }
def fnExactFarLessRow : OpenClaim := { program := "ythamgdinhlnldaa", sum := "1820545ff3740438e38b0e26d9fa5cfb6312dac4d6bec6d48b781b8ecc7f6a00", func := "loop.example/compurgator/laws.FnExactFarLess", spec := "fnExactFarLess", unfollowed := true, recurses := true, apart := false }
def FnExactFarLessSaid : Prop := fnExactFarLessRow.holds Try.pinned (OpenSpec.ofChange fnExactFarLessSpec)

/-- ITS FALSE NEIGHBOUR: 'it returns false'. Refute it at one input. -/
def fnExactFarLessWrong : ChangeSpec := { name := "fnExactFarLess", fn := fun _ => fun
  | [d1, d2] => { results := [.lit (.bool false)], args := [d1, d2] }
  | _ => none }
def FnExactFarLessWrongFalsely : Prop := fnExactFarLessRow.holds Try.pinned (OpenSpec.ofChange fnExactFarLessWrong)

/-- 'laws.FnExactFarAll': WHATEVER THE INPUT: true; the input reads as it did. -/
def fnExactFarAllSpec : ChangeSpec := { name := "fnExactFarAll", fn := fun _ => fun
  | [d1, d2] => { results := [.lit (.bool true)], args := [d1, d2] }
  | _ => none }
def fnExactFarAllRow : OpenClaim := { program := "ythamgdinhlnldaa", sum := "1820545ff3740438e38b0e26d9fa5cfb6312dac4d6bec6d48b781b8ecc7f6a00", func := "loop.example/compurgator/laws.FnExactFarAll", spec := "fnExactFarAll", unfollowed := true, recurses := true, apart := false }
def FnExactFarAllSaid : Prop := fnExactFarAllRow.holds Try.pinned (OpenSpec.ofChange fnExactFarAllSpec)

/-- ITS FALSE NEIGHBOUR: 'it returns false'. Refute it at one input. -/
def fnExactFarAllWrong : ChangeSpec := { name := "fnExactFarAll", fn := fun _ => fun
  | [d1, d2] => { results := [.lit (.bool false)], args := [d1, d2] }
  | _ => none }
def FnExactFarAllWrongFalsely : Prop := fnExactFarAllRow.holds Try.pinned (OpenSpec.ofChange fnExactFarAllWrong)

/-- 'laws.FnFarBoth': WHATEVER THE INPUT: true; the input reads as it did. -/
def fnFarBothSpec : ChangeSpec := { name := "fnFarBoth", fn := fun _ => fun
  | [d] => { results := [.lit (.bool true)], args := [d] }
  | _ => none }
def fnFarBothRow : OpenClaim := { program := "ythamgdinhlnldaa", sum := "1820545ff3740438e38b0e26d9fa5cfb6312dac4d6bec6d48b781b8ecc7f6a00", func := "loop.example/compurgator/laws.FnFarBoth", spec := "fnFarBoth", unfollowed := true, recurses := true, apart := false }
def FnFarBothSaid : Prop := fnFarBothRow.holds Try.pinned (OpenSpec.ofChange fnFarBothSpec)

/-- ITS FALSE NEIGHBOUR: 'it returns false'. Refute it at one input. -/
def fnFarBothWrong : ChangeSpec := { name := "fnFarBoth", fn := fun _ => fun
  | [d] => { results := [.lit (.bool false)], args := [d] }
  | _ => none }
def FnFarBothWrongFalsely : Prop := fnFarBothRow.holds Try.pinned (OpenSpec.ofChange fnFarBothWrong)

/-- 'laws.FnFarTwice': WHATEVER THE INPUT: true; the input reads as it did. -/
def fnFarTwiceSpec : ChangeSpec := { name := "fnFarTwice", fn := fun _ => fun
  | [d] => { results := [.lit (.bool true)], args := [d] }
  | _ => none }
def fnFarTwiceRow : OpenClaim := { program := "ythamgdinhlnldaa", sum := "1820545ff3740438e38b0e26d9fa5cfb6312dac4d6bec6d48b781b8ecc7f6a00", func := "loop.example/compurgator/laws.FnFarTwice", spec := "fnFarTwice", unfollowed := true, recurses := true, apart := false }
def FnFarTwiceSaid : Prop := fnFarTwiceRow.holds Try.pinned (OpenSpec.ofChange fnFarTwiceSpec)

/-- ITS FALSE NEIGHBOUR: 'it returns false'. Refute it at one input. -/
def fnFarTwiceWrong : ChangeSpec := { name := "fnFarTwice", fn := fun _ => fun
  | [d] => { results := [.lit (.bool false)], args := [d] }
  | _ => none }
def FnFarTwiceWrongFalsely : Prop := fnFarTwiceRow.holds Try.pinned (OpenSpec.ofChange fnFarTwiceWrong)

/-- 'laws.FnFarAll': WHATEVER THE INPUT: true; the input reads as it did. -/
def fnFarAllSpec : ChangeSpec := { name := "fnFarAll", fn := fun _ => fun
  | [d] => { results := [.lit (.bool true)], args := [d] }
  | _ => none }
def fnFarAllRow : OpenClaim := { program := "ythamgdinhlnldaa", sum := "1820545ff3740438e38b0e26d9fa5cfb6312dac4d6bec6d48b781b8ecc7f6a00", func := "loop.example/compurgator/laws.FnFarAll", spec := "fnFarAll", unfollowed := true, recurses := true, apart := false }
def FnFarAllSaid : Prop := fnFarAllRow.holds Try.pinned (OpenSpec.ofChange fnFarAllSpec)

/-- ITS FALSE NEIGHBOUR: 'it returns false'. Refute it at one input. -/
def fnFarAllWrong : ChangeSpec := { name := "fnFarAll", fn := fun _ => fun
  | [d] => { results := [.lit (.bool false)], args := [d] }
  | _ => none }
def FnFarAllWrongFalsely : Prop := fnFarAllRow.holds Try.pinned (OpenSpec.ofChange fnFarAllWrong)

/- THE SECOND FORM. 'bulk': how many values and letters a reading holds, each counted each time it is reached (what is shared counts as often as it is met; a slice's spare places count too). A statement '..UptoSaid' is the law's where the arguments, and the package variables that the reading takes, are together of bulk at most 1048576: NARROWER than '..Said'. Prove '..Said' where nothing that the law and all that it calls make is longer than what came in: it says more and counts as full. Else prove '..UptoSaid'. A law counts once. -/
mutual
def uptoBulk {H : Type} : DataW H → Nat
  | .lit (.string bytes) => bytes.length + 1
  | .lit _ => 1
  | .nil => 1
  | .ptr d => uptoBulk d + 1
  | .slice elems spare => uptoBulkAll elems + uptoBulkAll spare + 1
  | .agg parts => uptoBulkAll parts + 1
  | .iface _ d => uptoBulk d + 1
  | .map entries => uptoBulkEntries entries + 1
  | .held _ => 1
def uptoBulkAll {H : Type} : List (DataW H) → Nat
  | [] => 0
  | d :: r => uptoBulk d + uptoBulkAll r
def uptoBulkEntries {H : Type} : List (Lit × DataW H) → Nat
  | [] => 0
  | x :: r => uptoBulkEntry x + uptoBulkEntries r
def uptoBulkEntry {H : Type} : Lit × DataW H → Nat
  | (.string bytes, d) => bytes.length + uptoBulk d + 1
  | (_, d) => uptoBulk d + 1
 end
def uptoSmall : (H : Type) → List (DataW H) → Bool := fun _ ds => decide (uptoBulkAll ds ≤ 1048576)
def OpenSpec.upto (s : _root_.Go.ChangeSpec) : _root_.Go.OpenSpec := { _root_.Go.OpenSpec.ofChange s with cond := some uptoSmall }

/-- 'laws.FnExactFarOk', WHERE WHAT IT READS IS OF BULK AT MOST 1048576: true; the input reads as it did. -/
def fnExactFarOkUptoRow : OpenClaim := { program := "ythamgdinhlnldaa", sum := "1820545ff3740438e38b0e26d9fa5cfb6312dac4d6bec6d48b781b8ecc7f6a00", func := "loop.example/compurgator/laws.FnExactFarOk", spec := "fnExactFarOk", unfollowed := true, recurses := true, apart := false, narrowed := true }
def FnExactFarOkUptoSaid : Prop := fnExactFarOkUptoRow.holds Try.pinned (OpenSpec.upto fnExactFarOkSpec)

/-- 'laws.FnExactFarSum', WHERE WHAT IT READS IS OF BULK AT MOST 1048576: true; the input reads as it did. -/
def fnExactFarSumUptoRow : OpenClaim := { program := "ythamgdinhlnldaa", sum := "1820545ff3740438e38b0e26d9fa5cfb6312dac4d6bec6d48b781b8ecc7f6a00", func := "loop.example/compurgator/laws.FnExactFarSum", spec := "fnExactFarSum", unfollowed := true, recurses := true, apart := false, narrowed := true }
def FnExactFarSumUptoSaid : Prop := fnExactFarSumUptoRow.holds Try.pinned (OpenSpec.upto fnExactFarSumSpec)

/-- 'laws.FnLinNot', WHERE WHAT IT READS IS OF BULK AT MOST 1048576: true; the input reads as it did. -/
def fnLinNotUptoRow : OpenClaim := { program := "ythamgdinhlnldaa", sum := "1820545ff3740438e38b0e26d9fa5cfb6312dac4d6bec6d48b781b8ecc7f6a00", func := "loop.example/compurgator/laws.FnLinNot", spec := "fnLinNot", unfollowed := true, recurses := true, apart := false, narrowed := true }
def FnLinNotUptoSaid : Prop := fnLinNotUptoRow.holds Try.pinned (OpenSpec.upto fnLinNotSpec)

/-- 'laws.FnExactLinAt', WHERE WHAT IT READS IS OF BULK AT MOST 1048576: true; the input reads as it did. -/
def fnExactLinAtUptoRow : OpenClaim := { program := "ythamgdinhlnldaa", sum := "1820545ff3740438e38b0e26d9fa5cfb6312dac4d6bec6d48b781b8ecc7f6a00", func := "loop.example/compurgator/laws.FnExactLinAt", spec := "fnExactLinAt", unfollowed := true, recurses := true, apart := false, narrowed := true }
def FnExactLinAtUptoSaid : Prop := fnExactLinAtUptoRow.holds Try.pinned (OpenSpec.upto fnExactLinAtSpec)

/-- 'laws.FnLinBad', WHERE WHAT IT READS IS OF BULK AT MOST 1048576: true; the input reads as it did. -/
def fnLinBadUptoRow : OpenClaim := { program := "ythamgdinhlnldaa", sum := "1820545ff3740438e38b0e26d9fa5cfb6312dac4d6bec6d48b781b8ecc7f6a00", func := "loop.example/compurgator/laws.FnLinBad", spec := "fnLinBad", unfollowed := true, recurses := true, apart := false, narrowed := true }
def FnLinBadUptoSaid : Prop := fnLinBadUptoRow.holds Try.pinned (OpenSpec.upto fnLinBadSpec)

/-- 'laws.FnLinSum', WHERE WHAT IT READS IS OF BULK AT MOST 1048576: true; the input reads as it did. -/
def fnLinSumUptoRow : OpenClaim := { program := "ythamgdinhlnldaa", sum := "1820545ff3740438e38b0e26d9fa5cfb6312dac4d6bec6d48b781b8ecc7f6a00", func := "loop.example/compurgator/laws.FnLinSum", spec := "fnLinSum", unfollowed := true, recurses := true, apart := false, narrowed := true }
def FnLinSumUptoSaid : Prop := fnLinSumUptoRow.holds Try.pinned (OpenSpec.upto fnLinSumSpec)

/-- 'laws.FnLinAt', WHERE WHAT IT READS IS OF BULK AT MOST 1048576: true; the input reads as it did. -/
def fnLinAtUptoRow : OpenClaim := { program := "ythamgdinhlnldaa", sum := "1820545ff3740438e38b0e26d9fa5cfb6312dac4d6bec6d48b781b8ecc7f6a00", func := "loop.example/compurgator/laws.FnLinAt", spec := "fnLinAt", unfollowed := true, recurses := true, apart := false, narrowed := true }
def FnLinAtUptoSaid : Prop := fnLinAtUptoRow.holds Try.pinned (OpenSpec.upto fnLinAtSpec)

/-- 'laws.FnExactFarLess', WHERE WHAT IT READS IS OF BULK AT MOST 1048576: true; the input reads as it did. -/
def fnExactFarLessUptoRow : OpenClaim := { program := "ythamgdinhlnldaa", sum := "1820545ff3740438e38b0e26d9fa5cfb6312dac4d6bec6d48b781b8ecc7f6a00", func := "loop.example/compurgator/laws.FnExactFarLess", spec := "fnExactFarLess", unfollowed := true, recurses := true, apart := false, narrowed := true }
def FnExactFarLessUptoSaid : Prop := fnExactFarLessUptoRow.holds Try.pinned (OpenSpec.upto fnExactFarLessSpec)

/-- 'laws.FnExactFarAll', WHERE WHAT IT READS IS OF BULK AT MOST 1048576: true; the input reads as it did. -/
def fnExactFarAllUptoRow : OpenClaim := { program := "ythamgdinhlnldaa", sum := "1820545ff3740438e38b0e26d9fa5cfb6312dac4d6bec6d48b781b8ecc7f6a00", func := "loop.example/compurgator/laws.FnExactFarAll", spec := "fnExactFarAll", unfollowed := true, recurses := true, apart := false, narrowed := true }
def FnExactFarAllUptoSaid : Prop := fnExactFarAllUptoRow.holds Try.pinned (OpenSpec.upto fnExactFarAllSpec)

/-- 'laws.FnFarBoth', WHERE WHAT IT READS IS OF BULK AT MOST 1048576: true; the input reads as it did. -/
def fnFarBothUptoRow : OpenClaim := { program := "ythamgdinhlnldaa", sum := "1820545ff3740438e38b0e26d9fa5cfb6312dac4d6bec6d48b781b8ecc7f6a00", func := "loop.example/compurgator/laws.FnFarBoth", spec := "fnFarBoth", unfollowed := true, recurses := true, apart := false, narrowed := true }
def FnFarBothUptoSaid : Prop := fnFarBothUptoRow.holds Try.pinned (OpenSpec.upto fnFarBothSpec)

/-- 'laws.FnFarTwice', WHERE WHAT IT READS IS OF BULK AT MOST 1048576: true; the input reads as it did. -/
def fnFarTwiceUptoRow : OpenClaim := { program := "ythamgdinhlnldaa", sum := "1820545ff3740438e38b0e26d9fa5cfb6312dac4d6bec6d48b781b8ecc7f6a00", func := "loop.example/compurgator/laws.FnFarTwice", spec := "fnFarTwice", unfollowed := true, recurses := true, apart := false, narrowed := true }
def FnFarTwiceUptoSaid : Prop := fnFarTwiceUptoRow.holds Try.pinned (OpenSpec.upto fnFarTwiceSpec)

/-- 'laws.FnFarAll', WHERE WHAT IT READS IS OF BULK AT MOST 1048576: true; the input reads as it did. -/
def fnFarAllUptoRow : OpenClaim := { program := "ythamgdinhlnldaa", sum := "1820545ff3740438e38b0e26d9fa5cfb6312dac4d6bec6d48b781b8ecc7f6a00", func := "loop.example/compurgator/laws.FnFarAll", spec := "fnFarAll", unfollowed := true, recurses := true, apart := false, narrowed := true }
def FnFarAllUptoSaid : Prop := fnFarAllUptoRow.holds Try.pinned (OpenSpec.upto fnFarAllSpec)

end Rows
end Go.Proofs.Ythamgdinhlnldaa
