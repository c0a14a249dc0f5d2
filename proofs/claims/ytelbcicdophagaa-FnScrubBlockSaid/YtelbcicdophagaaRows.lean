/-
  No cell of these rows narrows 'for every input' (looked for: loops, veiled, ifaces, maps, wideKeys, modest, calm, conditions, laid).
  DERIVED. THE GIVEN ROWS OF THIS SEAT. 8 by the template 'for every input the law returns true; each argument reads behind the call as it read before'; 0 by the template 'total and deterministic' (their statements: YtelbcicdophagaaTotals.lean).
  GIVEN WITH THE SEED: the statements are not yours to turn. If you find one false, say at which input.
  Laid BY PROGRAM, IN A SANDBOX (cutbox-rows.mjs): the forced cells as the released guide's own fill.sh prints them over the translation ae4afd92a257f5e5… (all of the seat's roots in one cut). By AI agents, Wed Nov 11 2026. No macro, syntax, notation, axiom, sorry.
-/
import Derived.Test.YtelbcicdophagaaChecked
import GoSem.Claim
import GoSem.ClaimJoined
import GoSem.ClaimMapViews
import Derived.JoinedTies
import Derived.KernelRfl
namespace Go.Proofs.Ytelbcicdophagaa
/- THE CELL 'sum', in the pinned program and in every row, IS THE sha256 OF THE DUMP (.gsa) THAT YtelbcicdophagaaProg.lean LOADS. Nothing in Lean hashes anything: it is a label: what it is worth is what the hold of that sum in a sandbox is worth. -/
noncomputable def Try.pinned : Pinned := { name := "ytelbcicdophagaa", sum := "ae4afd92a257f5e5c9759a5a53b6c220ea8aaf0ca0b0e43c969a8d0d42e28ce1", checked := Try.checked }
namespace Rows
def none {H : Type} : Left H := { results := [], args := [] }

/-- 'laws.FnExactReadsValid': WHATEVER THE INPUT: true; the input reads as it did. -/
def fnExactReadsValidSpec : ChangeSpec := { name := "fnExactReadsValid", fn := fun _ => fun
  | [d] => { results := [.lit (.bool true)], args := [d] }
  | _ => none }
def fnExactReadsValidRow : OpenClaim := { program := "ytelbcicdophagaa", sum := "ae4afd92a257f5e5c9759a5a53b6c220ea8aaf0ca0b0e43c969a8d0d42e28ce1", func := "loop.example/flashfiles/laws.FnExactReadsValid", spec := "fnExactReadsValid", apart := false }
def FnExactReadsValidSaid : Prop := fnExactReadsValidRow.holds Try.pinned (OpenSpec.ofChange fnExactReadsValidSpec)

/-- ITS FALSE NEIGHBOUR: 'it returns false'. Refute it at one input. -/
def fnExactReadsValidWrong : ChangeSpec := { name := "fnExactReadsValid", fn := fun _ => fun
  | [d] => { results := [.lit (.bool false)], args := [d] }
  | _ => none }
def FnExactReadsValidWrongFalsely : Prop := fnExactReadsValidRow.holds Try.pinned (OpenSpec.ofChange fnExactReadsValidWrong)

/-- 'laws.FnReadsValid': WHATEVER THE INPUT: true; the input reads as it did. -/
def fnReadsValidSpec : ChangeSpec := { name := "fnReadsValid", fn := fun _ => fun
  | [d] => { results := [.lit (.bool true)], args := [d] }
  | _ => none }
def fnReadsValidRow : OpenClaim := { program := "ytelbcicdophagaa", sum := "ae4afd92a257f5e5c9759a5a53b6c220ea8aaf0ca0b0e43c969a8d0d42e28ce1", func := "loop.example/flashfiles/laws.FnReadsValid", spec := "fnReadsValid", apart := false }
def FnReadsValidSaid : Prop := fnReadsValidRow.holds Try.pinned (OpenSpec.ofChange fnReadsValidSpec)

/-- ITS FALSE NEIGHBOUR: 'it returns false'. Refute it at one input. -/
def fnReadsValidWrong : ChangeSpec := { name := "fnReadsValid", fn := fun _ => fun
  | [d] => { results := [.lit (.bool false)], args := [d] }
  | _ => none }
def FnReadsValidWrongFalsely : Prop := fnReadsValidRow.holds Try.pinned (OpenSpec.ofChange fnReadsValidWrong)

/-- 'laws.FnExactCountRead': WHATEVER THE INPUT: true; the input reads as it did. -/
def fnExactCountReadSpec : ChangeSpec := { name := "fnExactCountRead", fn := fun _ => fun
  | [d1, d2] => { results := [.lit (.bool true)], args := [d1, d2] }
  | _ => none }
def fnExactCountReadRow : OpenClaim := { program := "ytelbcicdophagaa", sum := "ae4afd92a257f5e5c9759a5a53b6c220ea8aaf0ca0b0e43c969a8d0d42e28ce1", func := "loop.example/flashfiles/laws.FnExactCountRead", spec := "fnExactCountRead", apart := false }
def FnExactCountReadSaid : Prop := fnExactCountReadRow.holds Try.pinned (OpenSpec.ofChange fnExactCountReadSpec)

/-- ITS FALSE NEIGHBOUR: 'it returns false'. Refute it at one input. -/
def fnExactCountReadWrong : ChangeSpec := { name := "fnExactCountRead", fn := fun _ => fun
  | [d1, d2] => { results := [.lit (.bool false)], args := [d1, d2] }
  | _ => none }
def FnExactCountReadWrongFalsely : Prop := fnExactCountReadRow.holds Try.pinned (OpenSpec.ofChange fnExactCountReadWrong)

/-- 'laws.FnCountRead': WHATEVER THE INPUT: true; the input reads as it did. -/
def fnCountReadSpec : ChangeSpec := { name := "fnCountRead", fn := fun _ => fun
  | [d] => { results := [.lit (.bool true)], args := [d] }
  | _ => none }
def fnCountReadRow : OpenClaim := { program := "ytelbcicdophagaa", sum := "ae4afd92a257f5e5c9759a5a53b6c220ea8aaf0ca0b0e43c969a8d0d42e28ce1", func := "loop.example/flashfiles/laws.FnCountRead", spec := "fnCountRead", apart := false }
def FnCountReadSaid : Prop := fnCountReadRow.holds Try.pinned (OpenSpec.ofChange fnCountReadSpec)

/-- ITS FALSE NEIGHBOUR: 'it returns false'. Refute it at one input. -/
def fnCountReadWrong : ChangeSpec := { name := "fnCountRead", fn := fun _ => fun
  | [d] => { results := [.lit (.bool false)], args := [d] }
  | _ => none }
def FnCountReadWrongFalsely : Prop := fnCountReadRow.holds Try.pinned (OpenSpec.ofChange fnCountReadWrong)

/-- 'laws.FnExactScrubBlock': WHATEVER THE INPUT: true; the input reads as it did. -/
def fnExactScrubBlockSpec : ChangeSpec := { name := "fnExactScrubBlock", fn := fun _ => fun
  | [d1, d2] => { results := [.lit (.bool true)], args := [d1, d2] }
  | _ => none }
def fnExactScrubBlockRow : OpenClaim := { program := "ytelbcicdophagaa", sum := "ae4afd92a257f5e5c9759a5a53b6c220ea8aaf0ca0b0e43c969a8d0d42e28ce1", func := "loop.example/flashfiles/laws.FnExactScrubBlock", spec := "fnExactScrubBlock", apart := false }
def FnExactScrubBlockSaid : Prop := fnExactScrubBlockRow.holds Try.pinned (OpenSpec.ofChange fnExactScrubBlockSpec)

/-- ITS FALSE NEIGHBOUR: 'it returns false'. Refute it at one input. -/
def fnExactScrubBlockWrong : ChangeSpec := { name := "fnExactScrubBlock", fn := fun _ => fun
  | [d1, d2] => { results := [.lit (.bool false)], args := [d1, d2] }
  | _ => none }
def FnExactScrubBlockWrongFalsely : Prop := fnExactScrubBlockRow.holds Try.pinned (OpenSpec.ofChange fnExactScrubBlockWrong)

/-- 'laws.FnScrubBlock': WHATEVER THE INPUT: true; the input reads as it did. -/
def fnScrubBlockSpec : ChangeSpec := { name := "fnScrubBlock", fn := fun _ => fun
  | [d] => { results := [.lit (.bool true)], args := [d] }
  | _ => none }
def fnScrubBlockRow : OpenClaim := { program := "ytelbcicdophagaa", sum := "ae4afd92a257f5e5c9759a5a53b6c220ea8aaf0ca0b0e43c969a8d0d42e28ce1", func := "loop.example/flashfiles/laws.FnScrubBlock", spec := "fnScrubBlock", unfollowed := true, recurses := true, apart := false }
def FnScrubBlockSaid : Prop := fnScrubBlockRow.holds Try.pinned (OpenSpec.ofChange fnScrubBlockSpec)

/-- ITS FALSE NEIGHBOUR: 'it returns false'. Refute it at one input. -/
def fnScrubBlockWrong : ChangeSpec := { name := "fnScrubBlock", fn := fun _ => fun
  | [d] => { results := [.lit (.bool false)], args := [d] }
  | _ => none }
def FnScrubBlockWrongFalsely : Prop := fnScrubBlockRow.holds Try.pinned (OpenSpec.ofChange fnScrubBlockWrong)

/-- 'laws.FnExactScrubOrder': WHATEVER THE INPUT: true; the input reads as it did. -/
def fnExactScrubOrderSpec : ChangeSpec := { name := "fnExactScrubOrder", fn := fun _ => fun
  | [d] => { results := [.lit (.bool true)], args := [d] }
  | _ => none }
def fnExactScrubOrderRow : OpenClaim := { program := "ytelbcicdophagaa", sum := "ae4afd92a257f5e5c9759a5a53b6c220ea8aaf0ca0b0e43c969a8d0d42e28ce1", func := "loop.example/flashfiles/laws.FnExactScrubOrder", spec := "fnExactScrubOrder", unfollowed := true, recurses := true, apart := false }
def FnExactScrubOrderSaid : Prop := fnExactScrubOrderRow.holds Try.pinned (OpenSpec.ofChange fnExactScrubOrderSpec)

/-- ITS FALSE NEIGHBOUR: 'it returns false'. Refute it at one input. -/
def fnExactScrubOrderWrong : ChangeSpec := { name := "fnExactScrubOrder", fn := fun _ => fun
  | [d] => { results := [.lit (.bool false)], args := [d] }
  | _ => none }
def FnExactScrubOrderWrongFalsely : Prop := fnExactScrubOrderRow.holds Try.pinned (OpenSpec.ofChange fnExactScrubOrderWrong)

/-- 'laws.FnScrubOrder': WHATEVER THE INPUT: true; the input reads as it did. -/
def fnScrubOrderSpec : ChangeSpec := { name := "fnScrubOrder", fn := fun _ => fun
  | [d] => { results := [.lit (.bool true)], args := [d] }
  | _ => none }
def fnScrubOrderRow : OpenClaim := { program := "ytelbcicdophagaa", sum := "ae4afd92a257f5e5c9759a5a53b6c220ea8aaf0ca0b0e43c969a8d0d42e28ce1", func := "loop.example/flashfiles/laws.FnScrubOrder", spec := "fnScrubOrder", unfollowed := true, recurses := true, apart := false }
def FnScrubOrderSaid : Prop := fnScrubOrderRow.holds Try.pinned (OpenSpec.ofChange fnScrubOrderSpec)

/-- ITS FALSE NEIGHBOUR: 'it returns false'. Refute it at one input. -/
def fnScrubOrderWrong : ChangeSpec := { name := "fnScrubOrder", fn := fun _ => fun
  | [d] => { results := [.lit (.bool false)], args := [d] }
  | _ => none }
def FnScrubOrderWrongFalsely : Prop := fnScrubOrderRow.holds Try.pinned (OpenSpec.ofChange fnScrubOrderWrong)

/- THE SECOND FORM. 'bulk': how many values and letters a reading holds, each counted each time it is reached (what is shared counts as often as it is met; a slice's spare places count too). A statement '..UptoSaid' is the law's where the arguments, and the package variables that the reading takes, are together of bulk at most 1048576: NARROWER than '..Said'. Prove '..Said' where nothing that the law and all that it calls make is longer than what came in: it says more and counts as full. Else prove '..UptoSaid'. A law counts once. -/
mutual
def uptoBulk {H : Type} : DataW H → Nat
  | .lit (.string bytes) => bytes.length + 1
  | .lit _ => 1
  | .nil => 1
  | .ptr d => uptoBulk d + 1
  | .slice elems spare => uptoBulkAll elems + uptoBulkAll spare + 1
  | .agg parts => uptoBulkAll parts + 1
  | .iface _ d => uptoBulk d + 1
  | .map entries => uptoBulkEntries entries + 1
  | .held _ => 1
def uptoBulkAll {H : Type} : List (DataW H) → Nat
  | [] => 0
  | d :: r => uptoBulk d + uptoBulkAll r
def uptoBulkEntries {H : Type} : List (Lit × DataW H) → Nat
  | [] => 0
  | x :: r => uptoBulkEntry x + uptoBulkEntries r
def uptoBulkEntry {H : Type} : Lit × DataW H → Nat
  | (.string bytes, d) => bytes.length + uptoBulk d + 1
  | (_, d) => uptoBulk d + 1
 end
def uptoSmall : (H : Type) → List (DataW H) → Bool := fun _ ds => decide (uptoBulkAll ds ≤ 1048576)
def OpenSpec.upto (s : _root_.Go.ChangeSpec) : _root_.Go.OpenSpec := { _root_.Go.OpenSpec.ofChange s with cond := some uptoSmall }

/-- 'laws.FnExactReadsValid', WHERE WHAT IT READS IS OF BULK AT MOST 1048576: true; the input reads as it did. -/
def fnExactReadsValidUptoRow : OpenClaim := { program := "ytelbcicdophagaa", sum := "ae4afd92a257f5e5c9759a5a53b6c220ea8aaf0ca0b0e43c969a8d0d42e28ce1", func := "loop.example/flashfiles/laws.FnExactReadsValid", spec := "fnExactReadsValid", apart := false, narrowed := true }
def FnExactReadsValidUptoSaid : Prop := fnExactReadsValidUptoRow.holds Try.pinned (OpenSpec.upto fnExactReadsValidSpec)

/-- 'laws.FnReadsValid', WHERE WHAT IT READS IS OF BULK AT MOST 1048576: true; the input reads as it did. -/
def fnReadsValidUptoRow : OpenClaim := { program := "ytelbcicdophagaa", sum := "ae4afd92a257f5e5c9759a5a53b6c220ea8aaf0ca0b0e43c969a8d0d42e28ce1", func := "loop.example/flashfiles/laws.FnReadsValid", spec := "fnReadsValid", apart := false, narrowed := true }
def FnReadsValidUptoSaid : Prop := fnReadsValidUptoRow.holds Try.pinned (OpenSpec.upto fnReadsValidSpec)

/-- 'laws.FnExactCountRead', WHERE WHAT IT READS IS OF BULK AT MOST 1048576: true; the input reads as it did. -/
def fnExactCountReadUptoRow : OpenClaim := { program := "ytelbcicdophagaa", sum := "ae4afd92a257f5e5c9759a5a53b6c220ea8aaf0ca0b0e43c969a8d0d42e28ce1", func := "loop.example/flashfiles/laws.FnExactCountRead", spec := "fnExactCountRead", apart := false, narrowed := true }
def FnExactCountReadUptoSaid : Prop := fnExactCountReadUptoRow.holds Try.pinned (OpenSpec.upto fnExactCountReadSpec)

/-- 'laws.FnCountRead', WHERE WHAT IT READS IS OF BULK AT MOST 1048576: true; the input reads as it did. -/
def fnCountReadUptoRow : OpenClaim := { program := "ytelbcicdophagaa", sum := "ae4afd92a257f5e5c9759a5a53b6c220ea8aaf0ca0b0e43c969a8d0d42e28ce1", func := "loop.example/flashfiles/laws.FnCountRead", spec := "fnCountRead", apart := false, narrowed := true }
def FnCountReadUptoSaid : Prop := fnCountReadUptoRow.holds Try.pinned (OpenSpec.upto fnCountReadSpec)

/-- 'laws.FnExactScrubBlock', WHERE WHAT IT READS IS OF BULK AT MOST 1048576: true; the input reads as it did. -/
def fnExactScrubBlockUptoRow : OpenClaim := { program := "ytelbcicdophagaa", sum := "ae4afd92a257f5e5c9759a5a53b6c220ea8aaf0ca0b0e43c969a8d0d42e28ce1", func := "loop.example/flashfiles/laws.FnExactScrubBlock", spec := "fnExactScrubBlock", apart := false, narrowed := true }
def FnExactScrubBlockUptoSaid : Prop := fnExactScrubBlockUptoRow.holds Try.pinned (OpenSpec.upto fnExactScrubBlockSpec)

/-- 'laws.FnScrubBlock', WHERE WHAT IT READS IS OF BULK AT MOST 1048576: true; the input reads as it did. -/
def fnScrubBlockUptoRow : OpenClaim := { program := "ytelbcicdophagaa", sum := "ae4afd92a257f5e5c9759a5a53b6c220ea8aaf0ca0b0e43c969a8d0d42e28ce1", func := "loop.example/flashfiles/laws.FnScrubBlock", spec := "fnScrubBlock", unfollowed := true, recurses := true, apart := false, narrowed := true }
def FnScrubBlockUptoSaid : Prop := fnScrubBlockUptoRow.holds Try.pinned (OpenSpec.upto fnScrubBlockSpec)

/-- 'laws.FnExactScrubOrder', WHERE WHAT IT READS IS OF BULK AT MOST 1048576: true; the input reads as it did. -/
def fnExactScrubOrderUptoRow : OpenClaim := { program := "ytelbcicdophagaa", sum := "ae4afd92a257f5e5c9759a5a53b6c220ea8aaf0ca0b0e43c969a8d0d42e28ce1", func := "loop.example/flashfiles/laws.FnExactScrubOrder", spec := "fnExactScrubOrder", unfollowed := true, recurses := true, apart := false, narrowed := true }
def FnExactScrubOrderUptoSaid : Prop := fnExactScrubOrderUptoRow.holds Try.pinned (OpenSpec.upto fnExactScrubOrderSpec)

/-- 'laws.FnScrubOrder', WHERE WHAT IT READS IS OF BULK AT MOST 1048576: true; the input reads as it did. -/
def fnScrubOrderUptoRow : OpenClaim := { program := "ytelbcicdophagaa", sum := "ae4afd92a257f5e5c9759a5a53b6c220ea8aaf0ca0b0e43c969a8d0d42e28ce1", func := "loop.example/flashfiles/laws.FnScrubOrder", spec := "fnScrubOrder", unfollowed := true, recurses := true, apart := false, narrowed := true }
def FnScrubOrderUptoSaid : Prop := fnScrubOrderUptoRow.holds Try.pinned (OpenSpec.upto fnScrubOrderSpec)

end Rows
end Go.Proofs.Ytelbcicdophagaa
