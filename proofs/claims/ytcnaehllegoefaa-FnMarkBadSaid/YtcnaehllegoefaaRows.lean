/-
  No cell of these rows narrows 'for every input' (looked for: loops, veiled, ifaces, maps, wideKeys, modest, calm, conditions, laid).
  DERIVED. THE GIVEN ROWS OF THIS SEAT. 10 by the template 'for every input the law returns true; each argument reads behind the call as it read before'; 0 by the template 'total and deterministic' (their statements: YtcnaehllegoefaaTotals.lean).
  GIVEN WITH THE SEED: the statements are not yours to turn. If you find one false, say at which input.
  Laid BY PROGRAM, IN A SANDBOX (cutbox-rows.mjs): the forced cells as the released guide's own fill.sh prints them over the translation 7f173ce69f3f9f41… (all of the seat's roots in one cut). By AI agents, Wed Nov 11 2026. No macro, syntax, notation, axiom, sorry.
-/
import Derived.Test.YtcnaehllegoefaaChecked
import GoSem.Claim
import GoSem.ClaimJoined
import GoSem.ClaimMapViews
import Derived.JoinedTies
import Derived.KernelRfl
namespace Go.Proofs.Ytcnaehllegoefaa
/- THE CELL 'sum', in the pinned program and in every row, IS THE sha256 OF THE DUMP (.gsa) THAT YtcnaehllegoefaaProg.lean LOADS. Nothing in Lean hashes anything: it is a label: what it is worth is what the hold of that sum in a sandbox is worth. -/
noncomputable def Try.pinned : Pinned := { name := "ytcnaehllegoefaa", sum := "7f173ce69f3f9f41512c676974c34c0377f06ceca900338ae5102fb6458b4b97", checked := Try.checked }
namespace Rows
def none {H : Type} : Left H := { results := [], args := [] }

/-- 'laws.FnExactNewParity': WHATEVER THE INPUT: true; the input reads as it did. -/
def fnExactNewParitySpec : ChangeSpec := { name := "fnExactNewParity", fn := fun _ => fun
  | [d1, d2, d3] => { results := [.lit (.bool true)], args := [d1, d2, d3] }
  | _ => none }
def fnExactNewParityRow : OpenClaim := { program := "ytcnaehllegoefaa", sum := "7f173ce69f3f9f41512c676974c34c0377f06ceca900338ae5102fb6458b4b97", func := "loop.example/flashfiles/laws.FnExactNewParity", spec := "fnExactNewParity", apart := false }
def FnExactNewParitySaid : Prop := fnExactNewParityRow.holds Try.pinned (OpenSpec.ofChange fnExactNewParitySpec)

/-- ITS FALSE NEIGHBOUR: 'it returns false'. Refute it at one input. -/
def fnExactNewParityWrong : ChangeSpec := { name := "fnExactNewParity", fn := fun _ => fun
  | [d1, d2, d3] => { results := [.lit (.bool false)], args := [d1, d2, d3] }
  | _ => none }
def FnExactNewParityWrongFalsely : Prop := fnExactNewParityRow.holds Try.pinned (OpenSpec.ofChange fnExactNewParityWrong)

/-- 'laws.FnNewParity': WHATEVER THE INPUT: true; the input reads as it did. -/
def fnNewParitySpec : ChangeSpec := { name := "fnNewParity", fn := fun _ => fun
  | [d] => { results := [.lit (.bool true)], args := [d] }
  | _ => none }
def fnNewParityRow : OpenClaim := { program := "ytcnaehllegoefaa", sum := "7f173ce69f3f9f41512c676974c34c0377f06ceca900338ae5102fb6458b4b97", func := "loop.example/flashfiles/laws.FnNewParity", spec := "fnNewParity", apart := false }
def FnNewParitySaid : Prop := fnNewParityRow.holds Try.pinned (OpenSpec.ofChange fnNewParitySpec)

/-- ITS FALSE NEIGHBOUR: 'it returns false'. Refute it at one input. -/
def fnNewParityWrong : ChangeSpec := { name := "fnNewParity", fn := fun _ => fun
  | [d] => { results := [.lit (.bool false)], args := [d] }
  | _ => none }
def FnNewParityWrongFalsely : Prop := fnNewParityRow.holds Try.pinned (OpenSpec.ofChange fnNewParityWrong)

/-- 'laws.FnExactStripeValid': WHATEVER THE INPUT: true; the input reads as it did. -/
def fnExactStripeValidSpec : ChangeSpec := { name := "fnExactStripeValid", fn := fun _ => fun
  | [d] => { results := [.lit (.bool true)], args := [d] }
  | _ => none }
def fnExactStripeValidRow : OpenClaim := { program := "ytcnaehllegoefaa", sum := "7f173ce69f3f9f41512c676974c34c0377f06ceca900338ae5102fb6458b4b97", func := "loop.example/flashfiles/laws.FnExactStripeValid", spec := "fnExactStripeValid", apart := false }
def FnExactStripeValidSaid : Prop := fnExactStripeValidRow.holds Try.pinned (OpenSpec.ofChange fnExactStripeValidSpec)

/-- ITS FALSE NEIGHBOUR: 'it returns false'. Refute it at one input. -/
def fnExactStripeValidWrong : ChangeSpec := { name := "fnExactStripeValid", fn := fun _ => fun
  | [d] => { results := [.lit (.bool false)], args := [d] }
  | _ => none }
def FnExactStripeValidWrongFalsely : Prop := fnExactStripeValidRow.holds Try.pinned (OpenSpec.ofChange fnExactStripeValidWrong)

/-- 'laws.FnStripeValid': WHATEVER THE INPUT: true; the input reads as it did. -/
def fnStripeValidSpec : ChangeSpec := { name := "fnStripeValid", fn := fun _ => fun
  | [d] => { results := [.lit (.bool true)], args := [d] }
  | _ => none }
def fnStripeValidRow : OpenClaim := { program := "ytcnaehllegoefaa", sum := "7f173ce69f3f9f41512c676974c34c0377f06ceca900338ae5102fb6458b4b97", func := "loop.example/flashfiles/laws.FnStripeValid", spec := "fnStripeValid", apart := false }
def FnStripeValidSaid : Prop := fnStripeValidRow.holds Try.pinned (OpenSpec.ofChange fnStripeValidSpec)

/-- ITS FALSE NEIGHBOUR: 'it returns false'. Refute it at one input. -/
def fnStripeValidWrong : ChangeSpec := { name := "fnStripeValid", fn := fun _ => fun
  | [d] => { results := [.lit (.bool false)], args := [d] }
  | _ => none }
def FnStripeValidWrongFalsely : Prop := fnStripeValidRow.holds Try.pinned (OpenSpec.ofChange fnStripeValidWrong)

/-- 'laws.FnExactParityOf': WHATEVER THE INPUT: true; the input reads as it did. -/
def fnExactParityOfSpec : ChangeSpec := { name := "fnExactParityOf", fn := fun _ => fun
  | [d] => { results := [.lit (.bool true)], args := [d] }
  | _ => none }
def fnExactParityOfRow : OpenClaim := { program := "ytcnaehllegoefaa", sum := "7f173ce69f3f9f41512c676974c34c0377f06ceca900338ae5102fb6458b4b97", func := "loop.example/flashfiles/laws.FnExactParityOf", spec := "fnExactParityOf", apart := false }
def FnExactParityOfSaid : Prop := fnExactParityOfRow.holds Try.pinned (OpenSpec.ofChange fnExactParityOfSpec)

/-- ITS FALSE NEIGHBOUR: 'it returns false'. Refute it at one input. -/
def fnExactParityOfWrong : ChangeSpec := { name := "fnExactParityOf", fn := fun _ => fun
  | [d] => { results := [.lit (.bool false)], args := [d] }
  | _ => none }
def FnExactParityOfWrongFalsely : Prop := fnExactParityOfRow.holds Try.pinned (OpenSpec.ofChange fnExactParityOfWrong)

/-- 'laws.FnParityOf': WHATEVER THE INPUT: true; the input reads as it did. -/
def fnParityOfSpec : ChangeSpec := { name := "fnParityOf", fn := fun _ => fun
  | [d] => { results := [.lit (.bool true)], args := [d] }
  | _ => none }
def fnParityOfRow : OpenClaim := { program := "ytcnaehllegoefaa", sum := "7f173ce69f3f9f41512c676974c34c0377f06ceca900338ae5102fb6458b4b97", func := "loop.example/flashfiles/laws.FnParityOf", spec := "fnParityOf", apart := false }
def FnParityOfSaid : Prop := fnParityOfRow.holds Try.pinned (OpenSpec.ofChange fnParityOfSpec)

/-- ITS FALSE NEIGHBOUR: 'it returns false'. Refute it at one input. -/
def fnParityOfWrong : ChangeSpec := { name := "fnParityOf", fn := fun _ => fun
  | [d] => { results := [.lit (.bool false)], args := [d] }
  | _ => none }
def FnParityOfWrongFalsely : Prop := fnParityOfRow.holds Try.pinned (OpenSpec.ofChange fnParityOfWrong)

/-- 'laws.FnExactRepairStripe': WHATEVER THE INPUT: true; the input reads as it did. -/
def fnExactRepairStripeSpec : ChangeSpec := { name := "fnExactRepairStripe", fn := fun _ => fun
  | [d1, d2] => { results := [.lit (.bool true)], args := [d1, d2] }
  | _ => none }
def fnExactRepairStripeRow : OpenClaim := { program := "ytcnaehllegoefaa", sum := "7f173ce69f3f9f41512c676974c34c0377f06ceca900338ae5102fb6458b4b97", func := "loop.example/flashfiles/laws.FnExactRepairStripe", spec := "fnExactRepairStripe", apart := false }
def FnExactRepairStripeSaid : Prop := fnExactRepairStripeRow.holds Try.pinned (OpenSpec.ofChange fnExactRepairStripeSpec)

/-- ITS FALSE NEIGHBOUR: 'it returns false'. Refute it at one input. -/
def fnExactRepairStripeWrong : ChangeSpec := { name := "fnExactRepairStripe", fn := fun _ => fun
  | [d1, d2] => { results := [.lit (.bool false)], args := [d1, d2] }
  | _ => none }
def FnExactRepairStripeWrongFalsely : Prop := fnExactRepairStripeRow.holds Try.pinned (OpenSpec.ofChange fnExactRepairStripeWrong)

/-- 'laws.FnRepairStripe': WHATEVER THE INPUT: true; the input reads as it did. -/
def fnRepairStripeSpec : ChangeSpec := { name := "fnRepairStripe", fn := fun _ => fun
  | [d] => { results := [.lit (.bool true)], args := [d] }
  | _ => none }
def fnRepairStripeRow : OpenClaim := { program := "ytcnaehllegoefaa", sum := "7f173ce69f3f9f41512c676974c34c0377f06ceca900338ae5102fb6458b4b97", func := "loop.example/flashfiles/laws.FnRepairStripe", spec := "fnRepairStripe", apart := false }
def FnRepairStripeSaid : Prop := fnRepairStripeRow.holds Try.pinned (OpenSpec.ofChange fnRepairStripeSpec)

/-- ITS FALSE NEIGHBOUR: 'it returns false'. Refute it at one input. -/
def fnRepairStripeWrong : ChangeSpec := { name := "fnRepairStripe", fn := fun _ => fun
  | [d] => { results := [.lit (.bool false)], args := [d] }
  | _ => none }
def FnRepairStripeWrongFalsely : Prop := fnRepairStripeRow.holds Try.pinned (OpenSpec.ofChange fnRepairStripeWrong)

/-- 'laws.FnMarkBad': WHATEVER THE INPUT: true; the input reads as it did. -/
def fnMarkBadSpec : ChangeSpec := { name := "fnMarkBad", fn := fun _ => fun
  | [d] => { results := [.lit (.bool true)], args := [d] }
  | _ => none }
def fnMarkBadRow : OpenClaim := { program := "ytcnaehllegoefaa", sum := "7f173ce69f3f9f41512c676974c34c0377f06ceca900338ae5102fb6458b4b97", func := "loop.example/flashfiles/laws.FnMarkBad", spec := "fnMarkBad", apart := false }
def FnMarkBadSaid : Prop := fnMarkBadRow.holds Try.pinned (OpenSpec.ofChange fnMarkBadSpec)

/-- ITS FALSE NEIGHBOUR: 'it returns false'. Refute it at one input. -/
def fnMarkBadWrong : ChangeSpec := { name := "fnMarkBad", fn := fun _ => fun
  | [d] => { results := [.lit (.bool false)], args := [d] }
  | _ => none }
def FnMarkBadWrongFalsely : Prop := fnMarkBadRow.holds Try.pinned (OpenSpec.ofChange fnMarkBadWrong)

/-- 'laws.FnExactMarkBad': WHATEVER THE INPUT: true; the input reads as it did. -/
def fnExactMarkBadSpec : ChangeSpec := { name := "fnExactMarkBad", fn := fun _ => fun
  | [d1, d2] => { results := [.lit (.bool true)], args := [d1, d2] }
  | _ => none }
def fnExactMarkBadRow : OpenClaim := { program := "ytcnaehllegoefaa", sum := "7f173ce69f3f9f41512c676974c34c0377f06ceca900338ae5102fb6458b4b97", func := "loop.example/flashfiles/laws.FnExactMarkBad", spec := "fnExactMarkBad", apart := false }
def FnExactMarkBadSaid : Prop := fnExactMarkBadRow.holds Try.pinned (OpenSpec.ofChange fnExactMarkBadSpec)

/-- ITS FALSE NEIGHBOUR: 'it returns false'. Refute it at one input. -/
def fnExactMarkBadWrong : ChangeSpec := { name := "fnExactMarkBad", fn := fun _ => fun
  | [d1, d2] => { results := [.lit (.bool false)], args := [d1, d2] }
  | _ => none }
def FnExactMarkBadWrongFalsely : Prop := fnExactMarkBadRow.holds Try.pinned (OpenSpec.ofChange fnExactMarkBadWrong)

/- THE SECOND FORM. 'bulk': how many values and letters a reading holds, each counted each time it is reached (what is shared counts as often as it is met; a slice's spare places count too). A statement '..UptoSaid' is the law's where the arguments, and the package variables that the reading takes, are together of bulk at most 1048576: NARROWER than '..Said'. Prove '..Said' where nothing that the law and all that it calls make is longer than what came in: it says more and counts as full. Else prove '..UptoSaid'. A law counts once. -/
mutual
def uptoBulk {H : Type} : DataW H → Nat
  | .lit (.string bytes) => bytes.length + 1
  | .lit _ => 1
  | .nil => 1
  | .ptr d => uptoBulk d + 1
  | .slice elems spare => uptoBulkAll elems + uptoBulkAll spare + 1
  | .agg parts => uptoBulkAll parts + 1
  | .iface _ d => uptoBulk d + 1
  | .map entries => uptoBulkEntries entries + 1
  | .held _ => 1
def uptoBulkAll {H : Type} : List (DataW H) → Nat
  | [] => 0
  | d :: r => uptoBulk d + uptoBulkAll r
def uptoBulkEntries {H : Type} : List (Lit × DataW H) → Nat
  | [] => 0
  | x :: r => uptoBulkEntry x + uptoBulkEntries r
def uptoBulkEntry {H : Type} : Lit × DataW H → Nat
  | (.string bytes, d) => bytes.length + uptoBulk d + 1
  | (_, d) => uptoBulk d + 1
 end
def uptoSmall : (H : Type) → List (DataW H) → Bool := fun _ ds => decide (uptoBulkAll ds ≤ 1048576)
def OpenSpec.upto (s : _root_.Go.ChangeSpec) : _root_.Go.OpenSpec := { _root_.Go.OpenSpec.ofChange s with cond := some uptoSmall }

/-- 'laws.FnExactNewParity', WHERE WHAT IT READS IS OF BULK AT MOST 1048576: true; the input reads as it did. -/
def fnExactNewParityUptoRow : OpenClaim := { program := "ytcnaehllegoefaa", sum := "7f173ce69f3f9f41512c676974c34c0377f06ceca900338ae5102fb6458b4b97", func := "loop.example/flashfiles/laws.FnExactNewParity", spec := "fnExactNewParity", apart := false, narrowed := true }
def FnExactNewParityUptoSaid : Prop := fnExactNewParityUptoRow.holds Try.pinned (OpenSpec.upto fnExactNewParitySpec)

/-- 'laws.FnNewParity', WHERE WHAT IT READS IS OF BULK AT MOST 1048576: true; the input reads as it did. -/
def fnNewParityUptoRow : OpenClaim := { program := "ytcnaehllegoefaa", sum := "7f173ce69f3f9f41512c676974c34c0377f06ceca900338ae5102fb6458b4b97", func := "loop.example/flashfiles/laws.FnNewParity", spec := "fnNewParity", apart := false, narrowed := true }
def FnNewParityUptoSaid : Prop := fnNewParityUptoRow.holds Try.pinned (OpenSpec.upto fnNewParitySpec)

/-- 'laws.FnExactStripeValid', WHERE WHAT IT READS IS OF BULK AT MOST 1048576: true; the input reads as it did. -/
def fnExactStripeValidUptoRow : OpenClaim := { program := "ytcnaehllegoefaa", sum := "7f173ce69f3f9f41512c676974c34c0377f06ceca900338ae5102fb6458b4b97", func := "loop.example/flashfiles/laws.FnExactStripeValid", spec := "fnExactStripeValid", apart := false, narrowed := true }
def FnExactStripeValidUptoSaid : Prop := fnExactStripeValidUptoRow.holds Try.pinned (OpenSpec.upto fnExactStripeValidSpec)

/-- 'laws.FnStripeValid', WHERE WHAT IT READS IS OF BULK AT MOST 1048576: true; the input reads as it did. -/
def fnStripeValidUptoRow : OpenClaim := { program := "ytcnaehllegoefaa", sum := "7f173ce69f3f9f41512c676974c34c0377f06ceca900338ae5102fb6458b4b97", func := "loop.example/flashfiles/laws.FnStripeValid", spec := "fnStripeValid", apart := false, narrowed := true }
def FnStripeValidUptoSaid : Prop := fnStripeValidUptoRow.holds Try.pinned (OpenSpec.upto fnStripeValidSpec)

/-- 'laws.FnExactParityOf', WHERE WHAT IT READS IS OF BULK AT MOST 1048576: true; the input reads as it did. -/
def fnExactParityOfUptoRow : OpenClaim := { program := "ytcnaehllegoefaa", sum := "7f173ce69f3f9f41512c676974c34c0377f06ceca900338ae5102fb6458b4b97", func := "loop.example/flashfiles/laws.FnExactParityOf", spec := "fnExactParityOf", apart := false, narrowed := true }
def FnExactParityOfUptoSaid : Prop := fnExactParityOfUptoRow.holds Try.pinned (OpenSpec.upto fnExactParityOfSpec)

/-- 'laws.FnParityOf', WHERE WHAT IT READS IS OF BULK AT MOST 1048576: true; the input reads as it did. -/
def fnParityOfUptoRow : OpenClaim := { program := "ytcnaehllegoefaa", sum := "7f173ce69f3f9f41512c676974c34c0377f06ceca900338ae5102fb6458b4b97", func := "loop.example/flashfiles/laws.FnParityOf", spec := "fnParityOf", apart := false, narrowed := true }
def FnParityOfUptoSaid : Prop := fnParityOfUptoRow.holds Try.pinned (OpenSpec.upto fnParityOfSpec)

/-- 'laws.FnExactRepairStripe', WHERE WHAT IT READS IS OF BULK AT MOST 1048576: true; the input reads as it did. -/
def fnExactRepairStripeUptoRow : OpenClaim := { program := "ytcnaehllegoefaa", sum := "7f173ce69f3f9f41512c676974c34c0377f06ceca900338ae5102fb6458b4b97", func := "loop.example/flashfiles/laws.FnExactRepairStripe", spec := "fnExactRepairStripe", apart := false, narrowed := true }
def FnExactRepairStripeUptoSaid : Prop := fnExactRepairStripeUptoRow.holds Try.pinned (OpenSpec.upto fnExactRepairStripeSpec)

/-- 'laws.FnRepairStripe', WHERE WHAT IT READS IS OF BULK AT MOST 1048576: true; the input reads as it did. -/
def fnRepairStripeUptoRow : OpenClaim := { program := "ytcnaehllegoefaa", sum := "7f173ce69f3f9f41512c676974c34c0377f06ceca900338ae5102fb6458b4b97", func := "loop.example/flashfiles/laws.FnRepairStripe", spec := "fnRepairStripe", apart := false, narrowed := true }
def FnRepairStripeUptoSaid : Prop := fnRepairStripeUptoRow.holds Try.pinned (OpenSpec.upto fnRepairStripeSpec)

/-- 'laws.FnMarkBad', WHERE WHAT IT READS IS OF BULK AT MOST 1048576: true; the input reads as it did. -/
def fnMarkBadUptoRow : OpenClaim := { program := "ytcnaehllegoefaa", sum := "7f173ce69f3f9f41512c676974c34c0377f06ceca900338ae5102fb6458b4b97", func := "loop.example/flashfiles/laws.FnMarkBad", spec := "fnMarkBad", apart := false, narrowed := true }
def FnMarkBadUptoSaid : Prop := fnMarkBadUptoRow.holds Try.pinned (OpenSpec.upto fnMarkBadSpec)

/-- 'laws.FnExactMarkBad', WHERE WHAT IT READS IS OF BULK AT MOST 1048576: true; the input reads as it did. -/
def fnExactMarkBadUptoRow : OpenClaim := { program := "ytcnaehllegoefaa", sum := "7f173ce69f3f9f41512c676974c34c0377f06ceca900338ae5102fb6458b4b97", func := "loop.example/flashfiles/laws.FnExactMarkBad", spec := "fnExactMarkBad", apart := false, narrowed := true }
def FnExactMarkBadUptoSaid : Prop := fnExactMarkBadUptoRow.holds Try.pinned (OpenSpec.upto fnExactMarkBadSpec)

end Rows
end Go.Proofs.Ytcnaehllegoefaa
