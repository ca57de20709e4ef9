/-
  No cell of these rows narrows 'for every input' (looked for: loops, veiled, ifaces, maps, wideKeys, modest, calm, conditions, laid).
  DERIVED. THE GIVEN ROWS OF THIS SEAT. 9 by the template 'for every input the law returns true; each argument reads behind the call as it read before'; 0 by the template 'total and deterministic' (their statements: YtccjbipmlpnhkaaTotals.lean).
  GIVEN WITH THE SEED: the statements are not yours to turn. If you find one false, say at which input.
  Laid BY PROGRAM, IN A SANDBOX (cutbox-rows.mjs): the forced cells as the released guide's own fill.sh prints them over the translation 93c425b6ec89d54e… (all of the seat's roots in one cut). By AI agents, Wed Nov 11 2026. No macro, syntax, notation, axiom, sorry.
-/
import Derived.Test.YtccjbipmlpnhkaaChecked
import GoSem.Claim
import GoSem.ClaimJoined
import GoSem.ClaimMapViews
import Derived.JoinedTies
import Derived.KernelRfl
namespace Go.Proofs.Ytccjbipmlpnhkaa
/- THE CELL 'sum', in the pinned program and in every row, IS THE sha256 OF THE DUMP (.gsa) THAT YtccjbipmlpnhkaaProg.lean LOADS. Nothing in Lean hashes anything: it is a label: what it is worth is what the hold of that sum in a sandbox is worth. -/
noncomputable def Try.pinned : Pinned := { name := "ytccjbipmlpnhkaa", sum := "93c425b6ec89d54e3b78519387101790b89c5ae1080ff4e19521612807d934ca", checked := Try.checked }
namespace Rows
def none {H : Type} : Left H := { results := [], args := [] }

/-- 'laws.FnFarLess': WHATEVER THE INPUT: true; the input reads as it did. -/
def fnFarLessSpec : ChangeSpec := { name := "fnFarLess", fn := fun _ => fun
  | [d] => { results := [.lit (.bool true)], args := [d] }
  | _ => none }
def fnFarLessRow : OpenClaim := { program := "ytccjbipmlpnhkaa", sum := "93c425b6ec89d54e3b78519387101790b89c5ae1080ff4e19521612807d934ca", func := "loop.example/compurgator/laws.FnFarLess", spec := "fnFarLess", unfollowed := true, recurses := true, apart := false }
def FnFarLessSaid : Prop := fnFarLessRow.holds Try.pinned (OpenSpec.ofChange fnFarLessSpec)

/-- ITS FALSE NEIGHBOUR: 'it returns false'. Refute it at one input. -/
def fnFarLessWrong : ChangeSpec := { name := "fnFarLess", fn := fun _ => fun
  | [d] => { results := [.lit (.bool false)], args := [d] }
  | _ => none }
def FnFarLessWrongFalsely : Prop := fnFarLessRow.holds Try.pinned (OpenSpec.ofChange fnFarLessWrong)

/-- 'laws.FnFarPart': WHATEVER THE INPUT: true; the input reads as it did. -/
def fnFarPartSpec : ChangeSpec := { name := "fnFarPart", fn := fun _ => fun
  | [d1, d2] => { results := [.lit (.bool true)], args := [d1, d2] }
  | _ => none }
def fnFarPartRow : OpenClaim := { program := "ytccjbipmlpnhkaa", sum := "93c425b6ec89d54e3b78519387101790b89c5ae1080ff4e19521612807d934ca", func := "loop.example/compurgator/laws.FnFarPart", spec := "fnFarPart", unfollowed := true, recurses := true, apart := false }
def FnFarPartSaid : Prop := fnFarPartRow.holds Try.pinned (OpenSpec.ofChange fnFarPartSpec)

/-- ITS FALSE NEIGHBOUR: 'it returns false'. Refute it at one input. -/
def fnFarPartWrong : ChangeSpec := { name := "fnFarPart", fn := fun _ => fun
  | [d1, d2] => { results := [.lit (.bool false)], args := [d1, d2] }
  | _ => none }
def FnFarPartWrongFalsely : Prop := fnFarPartRow.holds Try.pinned (OpenSpec.ofChange fnFarPartWrong)

/-- 'laws.FnFarBent': WHATEVER THE INPUT: true; the input reads as it did. -/
def fnFarBentSpec : ChangeSpec := { name := "fnFarBent", fn := fun _ => fun
  | [d] => { results := [.lit (.bool true)], args := [d] }
  | _ => none }
def fnFarBentRow : OpenClaim := { program := "ytccjbipmlpnhkaa", sum := "93c425b6ec89d54e3b78519387101790b89c5ae1080ff4e19521612807d934ca", func := "loop.example/compurgator/laws.FnFarBent", spec := "fnFarBent", unfollowed := true, recurses := true, apart := false }
def FnFarBentSaid : Prop := fnFarBentRow.holds Try.pinned (OpenSpec.ofChange fnFarBentSpec)

/-- ITS FALSE NEIGHBOUR: 'it returns false'. Refute it at one input. -/
def fnFarBentWrong : ChangeSpec := { name := "fnFarBent", fn := fun _ => fun
  | [d] => { results := [.lit (.bool false)], args := [d] }
  | _ => none }
def FnFarBentWrongFalsely : Prop := fnFarBentRow.holds Try.pinned (OpenSpec.ofChange fnFarBentWrong)

/-- 'laws.FnFarRun': WHATEVER THE INPUT: true; the input reads as it did. -/
def fnFarRunSpec : ChangeSpec := { name := "fnFarRun", fn := fun _ => fun
  | [d] => { results := [.lit (.bool true)], args := [d] }
  | _ => none }
def fnFarRunRow : OpenClaim := { program := "ytccjbipmlpnhkaa", sum := "93c425b6ec89d54e3b78519387101790b89c5ae1080ff4e19521612807d934ca", func := "loop.example/compurgator/laws.FnFarRun", spec := "fnFarRun", unfollowed := true, recurses := true, apart := false }
def FnFarRunSaid : Prop := fnFarRunRow.holds Try.pinned (OpenSpec.ofChange fnFarRunSpec)

/-- ITS FALSE NEIGHBOUR: 'it returns false'. Refute it at one input. -/
def fnFarRunWrong : ChangeSpec := { name := "fnFarRun", fn := fun _ => fun
  | [d] => { results := [.lit (.bool false)], args := [d] }
  | _ => none }
def FnFarRunWrongFalsely : Prop := fnFarRunRow.holds Try.pinned (OpenSpec.ofChange fnFarRunWrong)

/-- 'laws.FnFarSum': WHATEVER THE INPUT: true; the input reads as it did. -/
def fnFarSumSpec : ChangeSpec := { name := "fnFarSum", fn := fun _ => fun
  | [d] => { results := [.lit (.bool true)], args := [d] }
  | _ => none }
def fnFarSumRow : OpenClaim := { program := "ytccjbipmlpnhkaa", sum := "93c425b6ec89d54e3b78519387101790b89c5ae1080ff4e19521612807d934ca", func := "loop.example/compurgator/laws.FnFarSum", spec := "fnFarSum", unfollowed := true, recurses := true, apart := false }
def FnFarSumSaid : Prop := fnFarSumRow.holds Try.pinned (OpenSpec.ofChange fnFarSumSpec)

/-- ITS FALSE NEIGHBOUR: 'it returns false'. Refute it at one input. -/
def fnFarSumWrong : ChangeSpec := { name := "fnFarSum", fn := fun _ => fun
  | [d] => { results := [.lit (.bool false)], args := [d] }
  | _ => none }
def FnFarSumWrongFalsely : Prop := fnFarSumRow.holds Try.pinned (OpenSpec.ofChange fnFarSumWrong)

/-- 'laws.FnFarMore': WHATEVER THE INPUT: true; the input reads as it did. -/
def fnFarMoreSpec : ChangeSpec := { name := "fnFarMore", fn := fun _ => fun
  | [d] => { results := [.lit (.bool true)], args := [d] }
  | _ => none }
def fnFarMoreRow : OpenClaim := { program := "ytccjbipmlpnhkaa", sum := "93c425b6ec89d54e3b78519387101790b89c5ae1080ff4e19521612807d934ca", func := "loop.example/compurgator/laws.FnFarMore", spec := "fnFarMore", unfollowed := true, recurses := true, apart := false }
def FnFarMoreSaid : Prop := fnFarMoreRow.holds Try.pinned (OpenSpec.ofChange fnFarMoreSpec)

/-- ITS FALSE NEIGHBOUR: 'it returns false'. Refute it at one input. -/
def fnFarMoreWrong : ChangeSpec := { name := "fnFarMore", fn := fun _ => fun
  | [d] => { results := [.lit (.bool false)], args := [d] }
  | _ => none }
def FnFarMoreWrongFalsely : Prop := fnFarMoreRow.holds Try.pinned (OpenSpec.ofChange fnFarMoreWrong)

/-- 'laws.FnFarNone': WHATEVER THE INPUT: true; the input reads as it did. -/
def fnFarNoneSpec : ChangeSpec := { name := "fnFarNone", fn := fun _ => fun
  | [d] => { results := [.lit (.bool true)], args := [d] }
  | _ => none }
def fnFarNoneRow : OpenClaim := { program := "ytccjbipmlpnhkaa", sum := "93c425b6ec89d54e3b78519387101790b89c5ae1080ff4e19521612807d934ca", func := "loop.example/compurgator/laws.FnFarNone", spec := "fnFarNone", unfollowed := true, recurses := true, apart := false }
def FnFarNoneSaid : Prop := fnFarNoneRow.holds Try.pinned (OpenSpec.ofChange fnFarNoneSpec)

/-- ITS FALSE NEIGHBOUR: 'it returns false'. Refute it at one input. -/
def fnFarNoneWrong : ChangeSpec := { name := "fnFarNone", fn := fun _ => fun
  | [d] => { results := [.lit (.bool false)], args := [d] }
  | _ => none }
def FnFarNoneWrongFalsely : Prop := fnFarNoneRow.holds Try.pinned (OpenSpec.ofChange fnFarNoneWrong)

/-- 'laws.FnExactFarRun': WHATEVER THE INPUT: true; the input reads as it did. -/
def fnExactFarRunSpec : ChangeSpec := { name := "fnExactFarRun", fn := fun _ => fun
  | [d] => { results := [.lit (.bool true)], args := [d] }
  | _ => none }
def fnExactFarRunRow : OpenClaim := { program := "ytccjbipmlpnhkaa", sum := "93c425b6ec89d54e3b78519387101790b89c5ae1080ff4e19521612807d934ca", func := "loop.example/compurgator/laws.FnExactFarRun", spec := "fnExactFarRun", unfollowed := true, recurses := true, apart := false }
def FnExactFarRunSaid : Prop := fnExactFarRunRow.holds Try.pinned (OpenSpec.ofChange fnExactFarRunSpec)

/-- ITS FALSE NEIGHBOUR: 'it returns false'. Refute it at one input. -/
def fnExactFarRunWrong : ChangeSpec := { name := "fnExactFarRun", fn := fun _ => fun
  | [d] => { results := [.lit (.bool false)], args := [d] }
  | _ => none }
def FnExactFarRunWrongFalsely : Prop := fnExactFarRunRow.holds Try.pinned (OpenSpec.ofChange fnExactFarRunWrong)

/-- 'laws.FnFarNever': WHATEVER THE INPUT: true; the input reads as it did. -/
def fnFarNeverSpec : ChangeSpec := { name := "fnFarNever", fn := fun _ => fun
  | [d] => { results := [.lit (.bool true)], args := [d] }
  | _ => none }
def fnFarNeverRow : OpenClaim := { program := "ytccjbipmlpnhkaa", sum := "93c425b6ec89d54e3b78519387101790b89c5ae1080ff4e19521612807d934ca", func := "loop.example/compurgator/laws.FnFarNever", spec := "fnFarNever", unfollowed := true, recurses := true, apart := false }
def FnFarNeverSaid : Prop := fnFarNeverRow.holds Try.pinned (OpenSpec.ofChange fnFarNeverSpec)

/-- ITS FALSE NEIGHBOUR: 'it returns false'. Refute it at one input. -/
def fnFarNeverWrong : ChangeSpec := { name := "fnFarNever", fn := fun _ => fun
  | [d] => { results := [.lit (.bool false)], args := [d] }
  | _ => none }
def FnFarNeverWrongFalsely : Prop := fnFarNeverRow.holds Try.pinned (OpenSpec.ofChange fnFarNeverWrong)

/- THE SECOND FORM. 'bulk': how many values and letters a reading holds, each counted each time it is reached (what is shared counts as often as it is met; a slice's spare places count too). A statement '..UptoSaid' is the law's where the arguments, and the package variables that the reading takes, are together of bulk at most 1048576: NARROWER than '..Said'. Prove '..Said' where nothing that the law and all that it calls make is longer than what came in: it says more and counts as full. Else prove '..UptoSaid'. A law counts once. -/
mutual
def uptoBulk {H : Type} : DataW H → Nat
  | .lit (.string bytes) => bytes.length + 1
  | .lit _ => 1
  | .nil => 1
  | .ptr d => uptoBulk d + 1
  | .slice elems spare => uptoBulkAll elems + uptoBulkAll spare + 1
  | .agg parts => uptoBulkAll parts + 1
  | .iface _ d => uptoBulk d + 1
  | .map entries => uptoBulkEntries entries + 1
  | .held _ => 1
def uptoBulkAll {H : Type} : List (DataW H) → Nat
  | [] => 0
  | d :: r => uptoBulk d + uptoBulkAll r
def uptoBulkEntries {H : Type} : List (Lit × DataW H) → Nat
  | [] => 0
  | x :: r => uptoBulkEntry x + uptoBulkEntries r
def uptoBulkEntry {H : Type} : Lit × DataW H → Nat
  | (.string bytes, d) => bytes.length + uptoBulk d + 1
  | (_, d) => uptoBulk d + 1
 end
def uptoSmall : (H : Type) → List (DataW H) → Bool := fun _ ds => decide (uptoBulkAll ds ≤ 1048576)
def OpenSpec.upto (s : _root_.Go.ChangeSpec) : _root_.Go.OpenSpec := { _root_.Go.OpenSpec.ofChange s with cond := some uptoSmall }

/-- 'laws.FnFarLess', WHERE WHAT IT READS IS OF BULK AT MOST 1048576: true; the input reads as it did. -/
def fnFarLessUptoRow : OpenClaim := { program := "ytccjbipmlpnhkaa", sum := "93c425b6ec89d54e3b78519387101790b89c5ae1080ff4e19521612807d934ca", func := "loop.example/compurgator/laws.FnFarLess", spec := "fnFarLess", unfollowed := true, recurses := true, apart := false, narrowed := true }
def FnFarLessUptoSaid : Prop := fnFarLessUptoRow.holds Try.pinned (OpenSpec.upto fnFarLessSpec)

/-- 'laws.FnFarPart', WHERE WHAT IT READS IS OF BULK AT MOST 1048576: true; the input reads as it did. -/
def fnFarPartUptoRow : OpenClaim := { program := "ytccjbipmlpnhkaa", sum := "93c425b6ec89d54e3b78519387101790b89c5ae1080ff4e19521612807d934ca", func := "loop.example/compurgator/laws.FnFarPart", spec := "fnFarPart", unfollowed := true, recurses := true, apart := false, narrowed := true }
def FnFarPartUptoSaid : Prop := fnFarPartUptoRow.holds Try.pinned (OpenSpec.upto fnFarPartSpec)

/-- 'laws.FnFarBent', WHERE WHAT IT READS IS OF BULK AT MOST 1048576: true; the input reads as it did. -/
def fnFarBentUptoRow : OpenClaim := { program := "ytccjbipmlpnhkaa", sum := "93c425b6ec89d54e3b78519387101790b89c5ae1080ff4e19521612807d934ca", func := "loop.example/compurgator/laws.FnFarBent", spec := "fnFarBent", unfollowed := true, recurses := true, apart := false, narrowed := true }
def FnFarBentUptoSaid : Prop := fnFarBentUptoRow.holds Try.pinned (OpenSpec.upto fnFarBentSpec)

/-- 'laws.FnFarRun', WHERE WHAT IT READS IS OF BULK AT MOST 1048576: true; the input reads as it did. -/
def fnFarRunUptoRow : OpenClaim := { program := "ytccjbipmlpnhkaa", sum := "93c425b6ec89d54e3b78519387101790b89c5ae1080ff4e19521612807d934ca", func := "loop.example/compurgator/laws.FnFarRun", spec := "fnFarRun", unfollowed := true, recurses := true, apart := false, narrowed := true }
def FnFarRunUptoSaid : Prop := fnFarRunUptoRow.holds Try.pinned (OpenSpec.upto fnFarRunSpec)

/-- 'laws.FnFarSum', WHERE WHAT IT READS IS OF BULK AT MOST 1048576: true; the input reads as it did. -/
def fnFarSumUptoRow : OpenClaim := { program := "ytccjbipmlpnhkaa", sum := "93c425b6ec89d54e3b78519387101790b89c5ae1080ff4e19521612807d934ca", func := "loop.example/compurgator/laws.FnFarSum", spec := "fnFarSum", unfollowed := true, recurses := true, apart := false, narrowed := true }
def FnFarSumUptoSaid : Prop := fnFarSumUptoRow.holds Try.pinned (OpenSpec.upto fnFarSumSpec)

/-- 'laws.FnFarMore', WHERE WHAT IT READS IS OF BULK AT MOST 1048576: true; the input reads as it did. -/
def fnFarMoreUptoRow : OpenClaim := { program := "ytccjbipmlpnhkaa", sum := "93c425b6ec89d54e3b78519387101790b89c5ae1080ff4e19521612807d934ca", func := "loop.example/compurgator/laws.FnFarMore", spec := "fnFarMore", unfollowed := true, recurses := true, apart := false, narrowed := true }
def FnFarMoreUptoSaid : Prop := fnFarMoreUptoRow.holds Try.pinned (OpenSpec.upto fnFarMoreSpec)

/-- 'laws.FnFarNone', WHERE WHAT IT READS IS OF BULK AT MOST 1048576: true; the input reads as it did. -/
def fnFarNoneUptoRow : OpenClaim := { program := "ytccjbipmlpnhkaa", sum := "93c425b6ec89d54e3b78519387101790b89c5ae1080ff4e19521612807d934ca", func := "loop.example/compurgator/laws.FnFarNone", spec := "fnFarNone", unfollowed := true, recurses := true, apart := false, narrowed := true }
def FnFarNoneUptoSaid : Prop := fnFarNoneUptoRow.holds Try.pinned (OpenSpec.upto fnFarNoneSpec)

/-- 'laws.FnExactFarRun', WHERE WHAT IT READS IS OF BULK AT MOST 1048576: true; the input reads as it did. -/
def fnExactFarRunUptoRow : OpenClaim := { program := "ytccjbipmlpnhkaa", sum := "93c425b6ec89d54e3b78519387101790b89c5ae1080ff4e19521612807d934ca", func := "loop.example/compurgator/laws.FnExactFarRun", spec := "fnExactFarRun", unfollowed := true, recurses := true, apart := false, narrowed := true }
def FnExactFarRunUptoSaid : Prop := fnExactFarRunUptoRow.holds Try.pinned (OpenSpec.upto fnExactFarRunSpec)

/-- 'laws.FnFarNever', WHERE WHAT IT READS IS OF BULK AT MOST 1048576: true; the input reads as it did. -/
def fnFarNeverUptoRow : OpenClaim := { program := "ytccjbipmlpnhkaa", sum := "93c425b6ec89d54e3b78519387101790b89c5ae1080ff4e19521612807d934ca", func := "loop.example/compurgator/laws.FnFarNever", spec := "fnFarNever", unfollowed := true, recurses := true, apart := false, narrowed := true }
def FnFarNeverUptoSaid : Prop := fnFarNeverUptoRow.holds Try.pinned (OpenSpec.upto fnFarNeverSpec)

end Rows
end Go.Proofs.Ytccjbipmlpnhkaa
