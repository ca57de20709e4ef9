/-
  NARROWER THAN 'FOR EVERY INPUT', by the rows' own cells (each row's printed sentence says how): FnExactTermSame: loops · FnExactWhySame: loops · FnExactTermText: loops.
  DERIVED. THE GIVEN ROWS OF THIS SEAT. 9 by the template 'for every input the law returns true; each argument reads behind the call as it read before'; 0 by the template 'total and deterministic' (their statements: YtgmeoblapnmpiaaTotals.lean).
  GIVEN WITH THE SEED: the statements are not yours to turn. If you find one false, say at which input.
  Laid BY PROGRAM, IN A SANDBOX (cutbox-rows.mjs): the forced cells as the released guide's own fill.sh prints them over the translation 27d11ffcacbfe621… (all of the seat's roots in one cut). By AI agents, Wed Nov 11 2026. No macro, syntax, notation, axiom, sorry.
-/
import Derived.Test.YtgmeoblapnmpiaaChecked
import GoSem.Claim
import GoSem.ClaimJoined
import GoSem.ClaimMapViews
import Derived.JoinedTies
import Derived.KernelRfl
namespace Go.Proofs.Ytgmeoblapnmpiaa
/- THE CELL 'sum', in the pinned program and in every row, IS THE sha256 OF THE DUMP (.gsa) THAT YtgmeoblapnmpiaaProg.lean LOADS. Nothing in Lean hashes anything: it is a label: what it is worth is what the hold of that sum in a sandbox is worth. -/
noncomputable def Try.pinned : Pinned := { name := "ytgmeoblapnmpiaa", sum := "27d11ffcacbfe6215b4da8584af4055474cca930782cddcd891bb9bd0bb97ddb", checked := Try.checked }
namespace Rows
def none {H : Type} : Left H := { results := [], args := [] }

/-- 'laws.FnExactNameOk': WHATEVER THE INPUT: true; the input reads as it did. -/
def fnExactNameOkSpec : ChangeSpec := { name := "fnExactNameOk", fn := fun _ => fun
  | [d] => { results := [.lit (.bool true)], args := [d] }
  | _ => none }
def fnExactNameOkRow : OpenClaim := { program := "ytgmeoblapnmpiaa", sum := "27d11ffcacbfe6215b4da8584af4055474cca930782cddcd891bb9bd0bb97ddb", func := "loop.example/compurgator/laws.FnExactNameOk", spec := "fnExactNameOk", apart := false }
def FnExactNameOkSaid : Prop := fnExactNameOkRow.holds Try.pinned (OpenSpec.ofChange fnExactNameOkSpec)

/-- ITS FALSE NEIGHBOUR: 'it returns false'. Refute it at one input. -/
def fnExactNameOkWrong : ChangeSpec := { name := "fnExactNameOk", fn := fun _ => fun
  | [d] => { results := [.lit (.bool false)], args := [d] }
  | _ => none }
def FnExactNameOkWrongFalsely : Prop := fnExactNameOkRow.holds Try.pinned (OpenSpec.ofChange fnExactNameOkWrong)

/-- 'laws.FnExactTermSame': WHATEVER THE INPUT: true; the input reads as it did. -/
def fnExactTermSameSpec : ChangeSpec := { name := "fnExactTermSame", fn := fun _ => fun
  | [d1, d2] => { results := [.lit (.bool true)], args := [d1, d2] }
  | _ => none }
def fnExactTermSameRow : OpenClaim := { program := "ytgmeoblapnmpiaa", sum := "27d11ffcacbfe6215b4da8584af4055474cca930782cddcd891bb9bd0bb97ddb", func := "loop.example/compurgator/laws.FnExactTermSame", spec := "fnExactTermSame", unfollowed := true, recurses := true, loops := true, apart := false }
def FnExactTermSameSaid : Prop := fnExactTermSameRow.holds Try.pinned (OpenSpec.ofChange fnExactTermSameSpec)

/-- ITS FALSE NEIGHBOUR: 'it returns false'. Refute it at one input. -/
def fnExactTermSameWrong : ChangeSpec := { name := "fnExactTermSame", fn := fun _ => fun
  | [d1, d2] => { results := [.lit (.bool false)], args := [d1, d2] }
  | _ => none }
def FnExactTermSameWrongFalsely : Prop := fnExactTermSameRow.holds Try.pinned (OpenSpec.ofChange fnExactTermSameWrong)

/-- 'laws.FnSigSame': WHATEVER THE INPUT: true; the input reads as it did. -/
def fnSigSameSpec : ChangeSpec := { name := "fnSigSame", fn := fun _ => fun
  | [d] => { results := [.lit (.bool true)], args := [d] }
  | _ => none }
def fnSigSameRow : OpenClaim := { program := "ytgmeoblapnmpiaa", sum := "27d11ffcacbfe6215b4da8584af4055474cca930782cddcd891bb9bd0bb97ddb", func := "loop.example/compurgator/laws.FnSigSame", spec := "fnSigSame", unfollowed := true, recurses := true, apart := false }
def FnSigSameSaid : Prop := fnSigSameRow.holds Try.pinned (OpenSpec.ofChange fnSigSameSpec)

/-- ITS FALSE NEIGHBOUR: 'it returns false'. Refute it at one input. -/
def fnSigSameWrong : ChangeSpec := { name := "fnSigSame", fn := fun _ => fun
  | [d] => { results := [.lit (.bool false)], args := [d] }
  | _ => none }
def FnSigSameWrongFalsely : Prop := fnSigSameRow.holds Try.pinned (OpenSpec.ofChange fnSigSameWrong)

/-- 'laws.FnExactSigSame': WHATEVER THE INPUT: true; the input reads as it did. -/
def fnExactSigSameSpec : ChangeSpec := { name := "fnExactSigSame", fn := fun _ => fun
  | [d1, d2] => { results := [.lit (.bool true)], args := [d1, d2] }
  | _ => none }
def fnExactSigSameRow : OpenClaim := { program := "ytgmeoblapnmpiaa", sum := "27d11ffcacbfe6215b4da8584af4055474cca930782cddcd891bb9bd0bb97ddb", func := "loop.example/compurgator/laws.FnExactSigSame", spec := "fnExactSigSame", unfollowed := true, recurses := true, apart := false }
def FnExactSigSameSaid : Prop := fnExactSigSameRow.holds Try.pinned (OpenSpec.ofChange fnExactSigSameSpec)

/-- ITS FALSE NEIGHBOUR: 'it returns false'. Refute it at one input. -/
def fnExactSigSameWrong : ChangeSpec := { name := "fnExactSigSame", fn := fun _ => fun
  | [d1, d2] => { results := [.lit (.bool false)], args := [d1, d2] }
  | _ => none }
def FnExactSigSameWrongFalsely : Prop := fnExactSigSameRow.holds Try.pinned (OpenSpec.ofChange fnExactSigSameWrong)

/-- 'laws.FnExactWhySame': WHATEVER THE INPUT: true; the input reads as it did. -/
def fnExactWhySameSpec : ChangeSpec := { name := "fnExactWhySame", fn := fun _ => fun
  | [d1, d2] => { results := [.lit (.bool true)], args := [d1, d2] }
  | _ => none }
def fnExactWhySameRow : OpenClaim := { program := "ytgmeoblapnmpiaa", sum := "27d11ffcacbfe6215b4da8584af4055474cca930782cddcd891bb9bd0bb97ddb", func := "loop.example/compurgator/laws.FnExactWhySame", spec := "fnExactWhySame", unfollowed := true, recurses := true, loops := true, apart := false }
def FnExactWhySameSaid : Prop := fnExactWhySameRow.holds Try.pinned (OpenSpec.ofChange fnExactWhySameSpec)

/-- ITS FALSE NEIGHBOUR: 'it returns false'. Refute it at one input. -/
def fnExactWhySameWrong : ChangeSpec := { name := "fnExactWhySame", fn := fun _ => fun
  | [d1, d2] => { results := [.lit (.bool false)], args := [d1, d2] }
  | _ => none }
def FnExactWhySameWrongFalsely : Prop := fnExactWhySameRow.holds Try.pinned (OpenSpec.ofChange fnExactWhySameWrong)

/-- 'laws.FnExactTermText': WHATEVER THE INPUT: true; the input reads as it did. -/
def fnExactTermTextSpec : ChangeSpec := { name := "fnExactTermText", fn := fun _ => fun
  | [d] => { results := [.lit (.bool true)], args := [d] }
  | _ => none }
def fnExactTermTextRow : OpenClaim := { program := "ytgmeoblapnmpiaa", sum := "27d11ffcacbfe6215b4da8584af4055474cca930782cddcd891bb9bd0bb97ddb", func := "loop.example/compurgator/laws.FnExactTermText", spec := "fnExactTermText", inPlace := ["internal/abi.NoEscape", "internal/bytealg.MakeNoZero"], recurses := true, loops := true, apart := false }
def FnExactTermTextSaid : Prop := fnExactTermTextRow.holds Try.pinned (OpenSpec.ofChange fnExactTermTextSpec)

/-- ITS FALSE NEIGHBOUR: 'it returns false'. Refute it at one input. -/
def fnExactTermTextWrong : ChangeSpec := { name := "fnExactTermText", fn := fun _ => fun
  | [d] => { results := [.lit (.bool false)], args := [d] }
  | _ => none }
def FnExactTermTextWrongFalsely : Prop := fnExactTermTextRow.holds Try.pinned (OpenSpec.ofChange fnExactTermTextWrong)

/-- 'laws.FnTermSame': WHATEVER THE INPUT: true; the input reads as it did. -/
def fnTermSameSpec : ChangeSpec := { name := "fnTermSame", fn := fun _ => fun
  | [d] => { results := [.lit (.bool true)], args := [d] }
  | _ => none }
def fnTermSameRow : OpenClaim := { program := "ytgmeoblapnmpiaa", sum := "27d11ffcacbfe6215b4da8584af4055474cca930782cddcd891bb9bd0bb97ddb", func := "loop.example/compurgator/laws.FnTermSame", spec := "fnTermSame", inPlace := ["internal/abi.NoEscape", "internal/bytealg.MakeNoZero"], unfollowed := true, recurses := true, apart := false }
def FnTermSameSaid : Prop := fnTermSameRow.holds Try.pinned (OpenSpec.ofChange fnTermSameSpec)

/-- ITS FALSE NEIGHBOUR: 'it returns false'. Refute it at one input. -/
def fnTermSameWrong : ChangeSpec := { name := "fnTermSame", fn := fun _ => fun
  | [d] => { results := [.lit (.bool false)], args := [d] }
  | _ => none }
def FnTermSameWrongFalsely : Prop := fnTermSameRow.holds Try.pinned (OpenSpec.ofChange fnTermSameWrong)

/-- 'laws.FnExactTermRead': WHATEVER THE INPUT: true; the input reads as it did. -/
def fnExactTermReadSpec : ChangeSpec := { name := "fnExactTermRead", fn := fun _ => fun
  | [d] => { results := [.lit (.bool true)], args := [d] }
  | _ => none }
def fnExactTermReadRow : OpenClaim := { program := "ytgmeoblapnmpiaa", sum := "27d11ffcacbfe6215b4da8584af4055474cca930782cddcd891bb9bd0bb97ddb", func := "loop.example/compurgator/laws.FnExactTermRead", spec := "fnExactTermRead", inPlace := ["internal/abi.NoEscape", "internal/bytealg.MakeNoZero"], recurses := true, apart := false }
def FnExactTermReadSaid : Prop := fnExactTermReadRow.holds Try.pinned (OpenSpec.ofChange fnExactTermReadSpec)

/-- ITS FALSE NEIGHBOUR: 'it returns false'. Refute it at one input. -/
def fnExactTermReadWrong : ChangeSpec := { name := "fnExactTermRead", fn := fun _ => fun
  | [d] => { results := [.lit (.bool false)], args := [d] }
  | _ => none }
def FnExactTermReadWrongFalsely : Prop := fnExactTermReadRow.holds Try.pinned (OpenSpec.ofChange fnExactTermReadWrong)

/-- 'laws.FnTermText': WHATEVER THE INPUT: true; the input reads as it did. -/
def fnTermTextSpec : ChangeSpec := { name := "fnTermText", fn := fun _ => fun
  | [d1, d2] => { results := [.lit (.bool true)], args := [d1, d2] }
  | _ => none }
def fnTermTextRow : OpenClaim := { program := "ytgmeoblapnmpiaa", sum := "27d11ffcacbfe6215b4da8584af4055474cca930782cddcd891bb9bd0bb97ddb", func := "loop.example/compurgator/laws.FnTermText", spec := "fnTermText", inPlace := ["internal/abi.NoEscape", "internal/bytealg.MakeNoZero"], unfollowed := true, recurses := true, apart := false }
def FnTermTextSaid : Prop := fnTermTextRow.holds Try.pinned (OpenSpec.ofChange fnTermTextSpec)

/-- ITS FALSE NEIGHBOUR: 'it returns false'. Refute it at one input. -/
def fnTermTextWrong : ChangeSpec := { name := "fnTermText", fn := fun _ => fun
  | [d1, d2] => { results := [.lit (.bool false)], args := [d1, d2] }
  | _ => none }
def FnTermTextWrongFalsely : Prop := fnTermTextRow.holds Try.pinned (OpenSpec.ofChange fnTermTextWrong)

/- THE SECOND FORM. 'bulk': how many values and letters a reading holds, each counted each time it is reached (what is shared counts as often as it is met; a slice's spare places count too). A statement '..UptoSaid' is the law's where the arguments, and the package variables that the reading takes, are together of bulk at most 1048576: NARROWER than '..Said'. Prove '..Said' where nothing that the law and all that it calls make is longer than what came in: it says more and counts as full. Else prove '..UptoSaid'. A law counts once. -/
mutual
def uptoBulk {H : Type} : DataW H → Nat
  | .lit (.string bytes) => bytes.length + 1
  | .lit _ => 1
  | .nil => 1
  | .ptr d => uptoBulk d + 1
  | .slice elems spare => uptoBulkAll elems + uptoBulkAll spare + 1
  | .agg parts => uptoBulkAll parts + 1
  | .iface _ d => uptoBulk d + 1
  | .map entries => uptoBulkEntries entries + 1
  | .held _ => 1
def uptoBulkAll {H : Type} : List (DataW H) → Nat
  | [] => 0
  | d :: r => uptoBulk d + uptoBulkAll r
def uptoBulkEntries {H : Type} : List (Lit × DataW H) → Nat
  | [] => 0
  | x :: r => uptoBulkEntry x + uptoBulkEntries r
def uptoBulkEntry {H : Type} : Lit × DataW H → Nat
  | (.string bytes, d) => bytes.length + uptoBulk d + 1
  | (_, d) => uptoBulk d + 1
 end
def uptoSmall : (H : Type) → List (DataW H) → Bool := fun _ ds => decide (uptoBulkAll ds ≤ 1048576)
def OpenSpec.upto (s : _root_.Go.ChangeSpec) : _root_.Go.OpenSpec := { _root_.Go.OpenSpec.ofChange s with cond := some uptoSmall }

/-- 'laws.FnExactNameOk', WHERE WHAT IT READS IS OF BULK AT MOST 1048576: true; the input reads as it did. -/
def fnExactNameOkUptoRow : OpenClaim := { program := "ytgmeoblapnmpiaa", sum := "27d11ffcacbfe6215b4da8584af4055474cca930782cddcd891bb9bd0bb97ddb", func := "loop.example/compurgator/laws.FnExactNameOk", spec := "fnExactNameOk", apart := false, narrowed := true }
def FnExactNameOkUptoSaid : Prop := fnExactNameOkUptoRow.holds Try.pinned (OpenSpec.upto fnExactNameOkSpec)

/-- 'laws.FnExactTermSame', WHERE WHAT IT READS IS OF BULK AT MOST 1048576: true; the input reads as it did. -/
def fnExactTermSameUptoRow : OpenClaim := { program := "ytgmeoblapnmpiaa", sum := "27d11ffcacbfe6215b4da8584af4055474cca930782cddcd891bb9bd0bb97ddb", func := "loop.example/compurgator/laws.FnExactTermSame", spec := "fnExactTermSame", unfollowed := true, recurses := true, loops := true, apart := false, narrowed := true }
def FnExactTermSameUptoSaid : Prop := fnExactTermSameUptoRow.holds Try.pinned (OpenSpec.upto fnExactTermSameSpec)

/-- 'laws.FnSigSame', WHERE WHAT IT READS IS OF BULK AT MOST 1048576: true; the input reads as it did. -/
def fnSigSameUptoRow : OpenClaim := { program := "ytgmeoblapnmpiaa", sum := "27d11ffcacbfe6215b4da8584af4055474cca930782cddcd891bb9bd0bb97ddb", func := "loop.example/compurgator/laws.FnSigSame", spec := "fnSigSame", unfollowed := true, recurses := true, apart := false, narrowed := true }
def FnSigSameUptoSaid : Prop := fnSigSameUptoRow.holds Try.pinned (OpenSpec.upto fnSigSameSpec)

/-- 'laws.FnExactSigSame', WHERE WHAT IT READS IS OF BULK AT MOST 1048576: true; the input reads as it did. -/
def fnExactSigSameUptoRow : OpenClaim := { program := "ytgmeoblapnmpiaa", sum := "27d11ffcacbfe6215b4da8584af4055474cca930782cddcd891bb9bd0bb97ddb", func := "loop.example/compurgator/laws.FnExactSigSame", spec := "fnExactSigSame", unfollowed := true, recurses := true, apart := false, narrowed := true }
def FnExactSigSameUptoSaid : Prop := fnExactSigSameUptoRow.holds Try.pinned (OpenSpec.upto fnExactSigSameSpec)

/-- 'laws.FnExactWhySame', WHERE WHAT IT READS IS OF BULK AT MOST 1048576: true; the input reads as it did. -/
def fnExactWhySameUptoRow : OpenClaim := { program := "ytgmeoblapnmpiaa", sum := "27d11ffcacbfe6215b4da8584af4055474cca930782cddcd891bb9bd0bb97ddb", func := "loop.example/compurgator/laws.FnExactWhySame", spec := "fnExactWhySame", unfollowed := true, recurses := true, loops := true, apart := false, narrowed := true }
def FnExactWhySameUptoSaid : Prop := fnExactWhySameUptoRow.holds Try.pinned (OpenSpec.upto fnExactWhySameSpec)

/-- 'laws.FnExactTermText', WHERE WHAT IT READS IS OF BULK AT MOST 1048576: true; the input reads as it did. -/
def fnExactTermTextUptoRow : OpenClaim := { program := "ytgmeoblapnmpiaa", sum := "27d11ffcacbfe6215b4da8584af4055474cca930782cddcd891bb9bd0bb97ddb", func := "loop.example/compurgator/laws.FnExactTermText", spec := "fnExactTermText", inPlace := ["internal/abi.NoEscape", "internal/bytealg.MakeNoZero"], recurses := true, loops := true, apart := false, narrowed := true }
def FnExactTermTextUptoSaid : Prop := fnExactTermTextUptoRow.holds Try.pinned (OpenSpec.upto fnExactTermTextSpec)

/-- 'laws.FnTermSame', WHERE WHAT IT READS IS OF BULK AT MOST 1048576: true; the input reads as it did. -/
def fnTermSameUptoRow : OpenClaim := { program := "ytgmeoblapnmpiaa", sum := "27d11ffcacbfe6215b4da8584af4055474cca930782cddcd891bb9bd0bb97ddb", func := "loop.example/compurgator/laws.FnTermSame", spec := "fnTermSame", inPlace := ["internal/abi.NoEscape", "internal/bytealg.MakeNoZero"], unfollowed := true, recurses := true, apart := false, narrowed := true }
def FnTermSameUptoSaid : Prop := fnTermSameUptoRow.holds Try.pinned (OpenSpec.upto fnTermSameSpec)

/-- 'laws.FnExactTermRead', WHERE WHAT IT READS IS OF BULK AT MOST 1048576: true; the input reads as it did. -/
def fnExactTermReadUptoRow : OpenClaim := { program := "ytgmeoblapnmpiaa", sum := "27d11ffcacbfe6215b4da8584af4055474cca930782cddcd891bb9bd0bb97ddb", func := "loop.example/compurgator/laws.FnExactTermRead", spec := "fnExactTermRead", inPlace := ["internal/abi.NoEscape", "internal/bytealg.MakeNoZero"], recurses := true, apart := false, narrowed := true }
def FnExactTermReadUptoSaid : Prop := fnExactTermReadUptoRow.holds Try.pinned (OpenSpec.upto fnExactTermReadSpec)

/-- 'laws.FnTermText', WHERE WHAT IT READS IS OF BULK AT MOST 1048576: true; the input reads as it did. -/
def fnTermTextUptoRow : OpenClaim := { program := "ytgmeoblapnmpiaa", sum := "27d11ffcacbfe6215b4da8584af4055474cca930782cddcd891bb9bd0bb97ddb", func := "loop.example/compurgator/laws.FnTermText", spec := "fnTermText", inPlace := ["internal/abi.NoEscape", "internal/bytealg.MakeNoZero"], unfollowed := true, recurses := true, apart := false, narrowed := true }
def FnTermTextUptoSaid : Prop := fnTermTextUptoRow.holds Try.pinned (OpenSpec.upto fnTermTextSpec)

end Rows
end Go.Proofs.Ytgmeoblapnmpiaa
