/-
  No cell of these rows narrows 'for every input' (looked for: loops, veiled, ifaces, maps, wideKeys, modest, calm, conditions, laid).
  DERIVED. THE GIVEN ROWS OF THIS SEAT. 10 by the template 'for every input the law returns true; each argument reads behind the call as it read before'; 0 by the template 'total and deterministic' (their statements: YtjkncdmnajfkjaaTotals.lean).
  GIVEN WITH THE SEED: the statements are not yours to turn. If you find one false, say at which input.
  Laid BY PROGRAM, IN A SANDBOX (cutbox-rows.mjs): the forced cells as the released guide's own fill.sh prints them over the translation 8d426b19cb66679d… (all of the seat's roots in one cut). By AI agents, Wed Nov 11 2026. No macro, syntax, notation, axiom, sorry.
-/
import Derived.Test.YtjkncdmnajfkjaaChecked
import GoSem.Claim
import GoSem.ClaimJoined
import GoSem.ClaimMapViews
import Derived.JoinedTies
import Derived.KernelRfl
namespace Go.Proofs.Ytjkncdmnajfkjaa
/- THE CELL 'sum', in the pinned program and in every row, IS THE sha256 OF THE DUMP (.gsa) THAT YtjkncdmnajfkjaaProg.lean LOADS. Nothing in Lean hashes anything: it is a label: what it is worth is what the hold of that sum in a sandbox is worth. -/
noncomputable def Try.pinned : Pinned := { name := "ytjkncdmnajfkjaa", sum := "8d426b19cb66679db04d99e15cf413708a4f2a100e348aab1ece7631a4e1229d", checked := Try.checked }
namespace Rows
def none {H : Type} : Left H := { results := [], args := [] }

/-- 'laws.FnExactRunsValid': WHATEVER THE INPUT: true; the input reads as it did. -/
def fnExactRunsValidSpec : ChangeSpec := { name := "fnExactRunsValid", fn := fun _ => fun
  | [d] => { results := [.lit (.bool true)], args := [d] }
  | _ => none }
def fnExactRunsValidRow : OpenClaim := { program := "ytjkncdmnajfkjaa", sum := "8d426b19cb66679db04d99e15cf413708a4f2a100e348aab1ece7631a4e1229d", func := "loop.example/flashfiles/laws.FnExactRunsValid", spec := "fnExactRunsValid", apart := false }
def FnExactRunsValidSaid : Prop := fnExactRunsValidRow.holds Try.pinned (OpenSpec.ofChange fnExactRunsValidSpec)

/-- ITS FALSE NEIGHBOUR: 'it returns false'. Refute it at one input. -/
def fnExactRunsValidWrong : ChangeSpec := { name := "fnExactRunsValid", fn := fun _ => fun
  | [d] => { results := [.lit (.bool false)], args := [d] }
  | _ => none }
def FnExactRunsValidWrongFalsely : Prop := fnExactRunsValidRow.holds Try.pinned (OpenSpec.ofChange fnExactRunsValidWrong)

/-- 'laws.FnRunsValid': WHATEVER THE INPUT: true; the input reads as it did. -/
def fnRunsValidSpec : ChangeSpec := { name := "fnRunsValid", fn := fun _ => fun
  | [d] => { results := [.lit (.bool true)], args := [d] }
  | _ => none }
def fnRunsValidRow : OpenClaim := { program := "ytjkncdmnajfkjaa", sum := "8d426b19cb66679db04d99e15cf413708a4f2a100e348aab1ece7631a4e1229d", func := "loop.example/flashfiles/laws.FnRunsValid", spec := "fnRunsValid", apart := false }
def FnRunsValidSaid : Prop := fnRunsValidRow.holds Try.pinned (OpenSpec.ofChange fnRunsValidSpec)

/-- ITS FALSE NEIGHBOUR: 'it returns false'. Refute it at one input. -/
def fnRunsValidWrong : ChangeSpec := { name := "fnRunsValid", fn := fun _ => fun
  | [d] => { results := [.lit (.bool false)], args := [d] }
  | _ => none }
def FnRunsValidWrongFalsely : Prop := fnRunsValidRow.holds Try.pinned (OpenSpec.ofChange fnRunsValidWrong)

/-- 'laws.FnExactRunGain': WHATEVER THE INPUT: true; the input reads as it did. -/
def fnExactRunGainSpec : ChangeSpec := { name := "fnExactRunGain", fn := fun _ => fun
  | [d] => { results := [.lit (.bool true)], args := [d] }
  | _ => none }
def fnExactRunGainRow : OpenClaim := { program := "ytjkncdmnajfkjaa", sum := "8d426b19cb66679db04d99e15cf413708a4f2a100e348aab1ece7631a4e1229d", func := "loop.example/flashfiles/laws.FnExactRunGain", spec := "fnExactRunGain", apart := false }
def FnExactRunGainSaid : Prop := fnExactRunGainRow.holds Try.pinned (OpenSpec.ofChange fnExactRunGainSpec)

/-- ITS FALSE NEIGHBOUR: 'it returns false'. Refute it at one input. -/
def fnExactRunGainWrong : ChangeSpec := { name := "fnExactRunGain", fn := fun _ => fun
  | [d] => { results := [.lit (.bool false)], args := [d] }
  | _ => none }
def FnExactRunGainWrongFalsely : Prop := fnExactRunGainRow.holds Try.pinned (OpenSpec.ofChange fnExactRunGainWrong)

/-- 'laws.FnRunGain': WHATEVER THE INPUT: true; the input reads as it did. -/
def fnRunGainSpec : ChangeSpec := { name := "fnRunGain", fn := fun _ => fun
  | [d] => { results := [.lit (.bool true)], args := [d] }
  | _ => none }
def fnRunGainRow : OpenClaim := { program := "ytjkncdmnajfkjaa", sum := "8d426b19cb66679db04d99e15cf413708a4f2a100e348aab1ece7631a4e1229d", func := "loop.example/flashfiles/laws.FnRunGain", spec := "fnRunGain", apart := false }
def FnRunGainSaid : Prop := fnRunGainRow.holds Try.pinned (OpenSpec.ofChange fnRunGainSpec)

/-- ITS FALSE NEIGHBOUR: 'it returns false'. Refute it at one input. -/
def fnRunGainWrong : ChangeSpec := { name := "fnRunGain", fn := fun _ => fun
  | [d] => { results := [.lit (.bool false)], args := [d] }
  | _ => none }
def FnRunGainWrongFalsely : Prop := fnRunGainRow.holds Try.pinned (OpenSpec.ofChange fnRunGainWrong)

/-- 'laws.FnExactValueAt': WHATEVER THE INPUT: true; the input reads as it did. -/
def fnExactValueAtSpec : ChangeSpec := { name := "fnExactValueAt", fn := fun _ => fun
  | [d1, d2] => { results := [.lit (.bool true)], args := [d1, d2] }
  | _ => none }
def fnExactValueAtRow : OpenClaim := { program := "ytjkncdmnajfkjaa", sum := "8d426b19cb66679db04d99e15cf413708a4f2a100e348aab1ece7631a4e1229d", func := "loop.example/flashfiles/laws.FnExactValueAt", spec := "fnExactValueAt", apart := false }
def FnExactValueAtSaid : Prop := fnExactValueAtRow.holds Try.pinned (OpenSpec.ofChange fnExactValueAtSpec)

/-- ITS FALSE NEIGHBOUR: 'it returns false'. Refute it at one input. -/
def fnExactValueAtWrong : ChangeSpec := { name := "fnExactValueAt", fn := fun _ => fun
  | [d1, d2] => { results := [.lit (.bool false)], args := [d1, d2] }
  | _ => none }
def FnExactValueAtWrongFalsely : Prop := fnExactValueAtRow.holds Try.pinned (OpenSpec.ofChange fnExactValueAtWrong)

/-- 'laws.FnValueAt': WHATEVER THE INPUT: true; the input reads as it did. -/
def fnValueAtSpec : ChangeSpec := { name := "fnValueAt", fn := fun _ => fun
  | [d] => { results := [.lit (.bool true)], args := [d] }
  | _ => none }
def fnValueAtRow : OpenClaim := { program := "ytjkncdmnajfkjaa", sum := "8d426b19cb66679db04d99e15cf413708a4f2a100e348aab1ece7631a4e1229d", func := "loop.example/flashfiles/laws.FnValueAt", spec := "fnValueAt", apart := false }
def FnValueAtSaid : Prop := fnValueAtRow.holds Try.pinned (OpenSpec.ofChange fnValueAtSpec)

/-- ITS FALSE NEIGHBOUR: 'it returns false'. Refute it at one input. -/
def fnValueAtWrong : ChangeSpec := { name := "fnValueAt", fn := fun _ => fun
  | [d] => { results := [.lit (.bool false)], args := [d] }
  | _ => none }
def FnValueAtWrongFalsely : Prop := fnValueAtRow.holds Try.pinned (OpenSpec.ofChange fnValueAtWrong)

/-- 'laws.FnExactUnpackRuns': WHATEVER THE INPUT: true; the input reads as it did. -/
def fnExactUnpackRunsSpec : ChangeSpec := { name := "fnExactUnpackRuns", fn := fun _ => fun
  | [d] => { results := [.lit (.bool true)], args := [d] }
  | _ => none }
def fnExactUnpackRunsRow : OpenClaim := { program := "ytjkncdmnajfkjaa", sum := "8d426b19cb66679db04d99e15cf413708a4f2a100e348aab1ece7631a4e1229d", func := "loop.example/flashfiles/laws.FnExactUnpackRuns", spec := "fnExactUnpackRuns", apart := false }
def FnExactUnpackRunsSaid : Prop := fnExactUnpackRunsRow.holds Try.pinned (OpenSpec.ofChange fnExactUnpackRunsSpec)

/-- ITS FALSE NEIGHBOUR: 'it returns false'. Refute it at one input. -/
def fnExactUnpackRunsWrong : ChangeSpec := { name := "fnExactUnpackRuns", fn := fun _ => fun
  | [d] => { results := [.lit (.bool false)], args := [d] }
  | _ => none }
def FnExactUnpackRunsWrongFalsely : Prop := fnExactUnpackRunsRow.holds Try.pinned (OpenSpec.ofChange fnExactUnpackRunsWrong)

/-- 'laws.FnUnpackRuns': WHATEVER THE INPUT: true; the input reads as it did. -/
def fnUnpackRunsSpec : ChangeSpec := { name := "fnUnpackRuns", fn := fun _ => fun
  | [d] => { results := [.lit (.bool true)], args := [d] }
  | _ => none }
def fnUnpackRunsRow : OpenClaim := { program := "ytjkncdmnajfkjaa", sum := "8d426b19cb66679db04d99e15cf413708a4f2a100e348aab1ece7631a4e1229d", func := "loop.example/flashfiles/laws.FnUnpackRuns", spec := "fnUnpackRuns", apart := false }
def FnUnpackRunsSaid : Prop := fnUnpackRunsRow.holds Try.pinned (OpenSpec.ofChange fnUnpackRunsSpec)

/-- ITS FALSE NEIGHBOUR: 'it returns false'. Refute it at one input. -/
def fnUnpackRunsWrong : ChangeSpec := { name := "fnUnpackRuns", fn := fun _ => fun
  | [d] => { results := [.lit (.bool false)], args := [d] }
  | _ => none }
def FnUnpackRunsWrongFalsely : Prop := fnUnpackRunsRow.holds Try.pinned (OpenSpec.ofChange fnUnpackRunsWrong)

/-- 'laws.FnExactPackRuns': WHATEVER THE INPUT: true; the input reads as it did. -/
def fnExactPackRunsSpec : ChangeSpec := { name := "fnExactPackRuns", fn := fun _ => fun
  | [d] => { results := [.lit (.bool true)], args := [d] }
  | _ => none }
def fnExactPackRunsRow : OpenClaim := { program := "ytjkncdmnajfkjaa", sum := "8d426b19cb66679db04d99e15cf413708a4f2a100e348aab1ece7631a4e1229d", func := "loop.example/flashfiles/laws.FnExactPackRuns", spec := "fnExactPackRuns", apart := false }
def FnExactPackRunsSaid : Prop := fnExactPackRunsRow.holds Try.pinned (OpenSpec.ofChange fnExactPackRunsSpec)

/-- ITS FALSE NEIGHBOUR: 'it returns false'. Refute it at one input. -/
def fnExactPackRunsWrong : ChangeSpec := { name := "fnExactPackRuns", fn := fun _ => fun
  | [d] => { results := [.lit (.bool false)], args := [d] }
  | _ => none }
def FnExactPackRunsWrongFalsely : Prop := fnExactPackRunsRow.holds Try.pinned (OpenSpec.ofChange fnExactPackRunsWrong)

/-- 'laws.FnPackRuns': WHATEVER THE INPUT: true; the input reads as it did. -/
def fnPackRunsSpec : ChangeSpec := { name := "fnPackRuns", fn := fun _ => fun
  | [d] => { results := [.lit (.bool true)], args := [d] }
  | _ => none }
def fnPackRunsRow : OpenClaim := { program := "ytjkncdmnajfkjaa", sum := "8d426b19cb66679db04d99e15cf413708a4f2a100e348aab1ece7631a4e1229d", func := "loop.example/flashfiles/laws.FnPackRuns", spec := "fnPackRuns", apart := false }
def FnPackRunsSaid : Prop := fnPackRunsRow.holds Try.pinned (OpenSpec.ofChange fnPackRunsSpec)

/-- ITS FALSE NEIGHBOUR: 'it returns false'. Refute it at one input. -/
def fnPackRunsWrong : ChangeSpec := { name := "fnPackRuns", fn := fun _ => fun
  | [d] => { results := [.lit (.bool false)], args := [d] }
  | _ => none }
def FnPackRunsWrongFalsely : Prop := fnPackRunsRow.holds Try.pinned (OpenSpec.ofChange fnPackRunsWrong)

/- THE SECOND FORM. 'bulk': how many values and letters a reading holds, each counted each time it is reached (what is shared counts as often as it is met; a slice's spare places count too). A statement '..UptoSaid' is the law's where the arguments, and the package variables that the reading takes, are together of bulk at most 1048576: NARROWER than '..Said'. Prove '..Said' where nothing that the law and all that it calls make is longer than what came in: it says more and counts as full. Else prove '..UptoSaid'. A law counts once. -/
mutual
def uptoBulk {H : Type} : DataW H → Nat
  | .lit (.string bytes) => bytes.length + 1
  | .lit _ => 1
  | .nil => 1
  | .ptr d => uptoBulk d + 1
  | .slice elems spare => uptoBulkAll elems + uptoBulkAll spare + 1
  | .agg parts => uptoBulkAll parts + 1
  | .iface _ d => uptoBulk d + 1
  | .map entries => uptoBulkEntries entries + 1
  | .held _ => 1
def uptoBulkAll {H : Type} : List (DataW H) → Nat
  | [] => 0
  | d :: r => uptoBulk d + uptoBulkAll r
def uptoBulkEntries {H : Type} : List (Lit × DataW H) → Nat
  | [] => 0
  | x :: r => uptoBulkEntry x + uptoBulkEntries r
def uptoBulkEntry {H : Type} : Lit × DataW H → Nat
  | (.string bytes, d) => bytes.length + uptoBulk d + 1
  | (_, d) => uptoBulk d + 1
 end
def uptoSmall : (H : Type) → List (DataW H) → Bool := fun _ ds => decide (uptoBulkAll ds ≤ 1048576)
def OpenSpec.upto (s : _root_.Go.ChangeSpec) : _root_.Go.OpenSpec := { _root_.Go.OpenSpec.ofChange s with cond := some uptoSmall }

/-- 'laws.FnExactRunsValid', WHERE WHAT IT READS IS OF BULK AT MOST 1048576: true; the input reads as it did. -/
def fnExactRunsValidUptoRow : OpenClaim := { program := "ytjkncdmnajfkjaa", sum := "8d426b19cb66679db04d99e15cf413708a4f2a100e348aab1ece7631a4e1229d", func := "loop.example/flashfiles/laws.FnExactRunsValid", spec := "fnExactRunsValid", apart := false, narrowed := true }
def FnExactRunsValidUptoSaid : Prop := fnExactRunsValidUptoRow.holds Try.pinned (OpenSpec.upto fnExactRunsValidSpec)

/-- 'laws.FnRunsValid', WHERE WHAT IT READS IS OF BULK AT MOST 1048576: true; the input reads as it did. -/
def fnRunsValidUptoRow : OpenClaim := { program := "ytjkncdmnajfkjaa", sum := "8d426b19cb66679db04d99e15cf413708a4f2a100e348aab1ece7631a4e1229d", func := "loop.example/flashfiles/laws.FnRunsValid", spec := "fnRunsValid", apart := false, narrowed := true }
def FnRunsValidUptoSaid : Prop := fnRunsValidUptoRow.holds Try.pinned (OpenSpec.upto fnRunsValidSpec)

/-- 'laws.FnExactRunGain', WHERE WHAT IT READS IS OF BULK AT MOST 1048576: true; the input reads as it did. -/
def fnExactRunGainUptoRow : OpenClaim := { program := "ytjkncdmnajfkjaa", sum := "8d426b19cb66679db04d99e15cf413708a4f2a100e348aab1ece7631a4e1229d", func := "loop.example/flashfiles/laws.FnExactRunGain", spec := "fnExactRunGain", apart := false, narrowed := true }
def FnExactRunGainUptoSaid : Prop := fnExactRunGainUptoRow.holds Try.pinned (OpenSpec.upto fnExactRunGainSpec)

/-- 'laws.FnRunGain', WHERE WHAT IT READS IS OF BULK AT MOST 1048576: true; the input reads as it did. -/
def fnRunGainUptoRow : OpenClaim := { program := "ytjkncdmnajfkjaa", sum := "8d426b19cb66679db04d99e15cf413708a4f2a100e348aab1ece7631a4e1229d", func := "loop.example/flashfiles/laws.FnRunGain", spec := "fnRunGain", apart := false, narrowed := true }
def FnRunGainUptoSaid : Prop := fnRunGainUptoRow.holds Try.pinned (OpenSpec.upto fnRunGainSpec)

/-- 'laws.FnExactValueAt', WHERE WHAT IT READS IS OF BULK AT MOST 1048576: true; the input reads as it did. -/
def fnExactValueAtUptoRow : OpenClaim := { program := "ytjkncdmnajfkjaa", sum := "8d426b19cb66679db04d99e15cf413708a4f2a100e348aab1ece7631a4e1229d", func := "loop.example/flashfiles/laws.FnExactValueAt", spec := "fnExactValueAt", apart := false, narrowed := true }
def FnExactValueAtUptoSaid : Prop := fnExactValueAtUptoRow.holds Try.pinned (OpenSpec.upto fnExactValueAtSpec)

/-- 'laws.FnValueAt', WHERE WHAT IT READS IS OF BULK AT MOST 1048576: true; the input reads as it did. -/
def fnValueAtUptoRow : OpenClaim := { program := "ytjkncdmnajfkjaa", sum := "8d426b19cb66679db04d99e15cf413708a4f2a100e348aab1ece7631a4e1229d", func := "loop.example/flashfiles/laws.FnValueAt", spec := "fnValueAt", apart := false, narrowed := true }
def FnValueAtUptoSaid : Prop := fnValueAtUptoRow.holds Try.pinned (OpenSpec.upto fnValueAtSpec)

/-- 'laws.FnExactUnpackRuns', WHERE WHAT IT READS IS OF BULK AT MOST 1048576: true; the input reads as it did. -/
def fnExactUnpackRunsUptoRow : OpenClaim := { program := "ytjkncdmnajfkjaa", sum := "8d426b19cb66679db04d99e15cf413708a4f2a100e348aab1ece7631a4e1229d", func := "loop.example/flashfiles/laws.FnExactUnpackRuns", spec := "fnExactUnpackRuns", apart := false, narrowed := true }
def FnExactUnpackRunsUptoSaid : Prop := fnExactUnpackRunsUptoRow.holds Try.pinned (OpenSpec.upto fnExactUnpackRunsSpec)

/-- 'laws.FnUnpackRuns', WHERE WHAT IT READS IS OF BULK AT MOST 1048576: true; the input reads as it did. -/
def fnUnpackRunsUptoRow : OpenClaim := { program := "ytjkncdmnajfkjaa", sum := "8d426b19cb66679db04d99e15cf413708a4f2a100e348aab1ece7631a4e1229d", func := "loop.example/flashfiles/laws.FnUnpackRuns", spec := "fnUnpackRuns", apart := false, narrowed := true }
def FnUnpackRunsUptoSaid : Prop := fnUnpackRunsUptoRow.holds Try.pinned (OpenSpec.upto fnUnpackRunsSpec)

/-- 'laws.FnExactPackRuns', WHERE WHAT IT READS IS OF BULK AT MOST 1048576: true; the input reads as it did. -/
def fnExactPackRunsUptoRow : OpenClaim := { program := "ytjkncdmnajfkjaa", sum := "8d426b19cb66679db04d99e15cf413708a4f2a100e348aab1ece7631a4e1229d", func := "loop.example/flashfiles/laws.FnExactPackRuns", spec := "fnExactPackRuns", apart := false, narrowed := true }
def FnExactPackRunsUptoSaid : Prop := fnExactPackRunsUptoRow.holds Try.pinned (OpenSpec.upto fnExactPackRunsSpec)

/-- 'laws.FnPackRuns', WHERE WHAT IT READS IS OF BULK AT MOST 1048576: true; the input reads as it did. -/
def fnPackRunsUptoRow : OpenClaim := { program := "ytjkncdmnajfkjaa", sum := "8d426b19cb66679db04d99e15cf413708a4f2a100e348aab1ece7631a4e1229d", func := "loop.example/flashfiles/laws.FnPackRuns", spec := "fnPackRuns", apart := false, narrowed := true }
def FnPackRunsUptoSaid : Prop := fnPackRunsUptoRow.holds Try.pinned (OpenSpec.upto fnPackRunsSpec)

end Rows
end Go.Proofs.Ytjkncdmnajfkjaa
