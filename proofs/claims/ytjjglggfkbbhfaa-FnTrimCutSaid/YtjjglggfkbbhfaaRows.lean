/-
  No cell of these rows narrows 'for every input' (looked for: loops, veiled, ifaces, maps, wideKeys, modest, calm, conditions, laid).
  DERIVED. THE GIVEN ROWS OF THIS SEAT. 12 by the template 'for every input the law returns true; each argument reads behind the call as it read before'; 0 by the template 'total and deterministic' (their statements: YtjjglggfkbbhfaaTotals.lean).
  GIVEN WITH THE SEED: the statements are not yours to turn. If you find one false, say at which input.
  Laid BY PROGRAM, IN A SANDBOX (cutbox-rows.mjs): the forced cells as the released guide's own fill.sh prints them over the translation 0f9f960b7af3d410… (all of the seat's roots in one cut). By AI agents, Wed Nov 11 2026. No macro, syntax, notation, axiom, sorry.
-/
import Derived.Test.YtjjglggfkbbhfaaChecked
import GoSem.Claim
import GoSem.ClaimJoined
import GoSem.ClaimMapViews
import Derived.JoinedTies
import Derived.KernelRfl
namespace Go.Proofs.Ytjjglggfkbbhfaa
/- THE CELL 'sum', in the pinned program and in every row, IS THE sha256 OF THE DUMP (.gsa) THAT YtjjglggfkbbhfaaProg.lean LOADS. Nothing in Lean hashes anything: it is a label: what it is worth is what the hold of that sum in a sandbox is worth. -/
noncomputable def Try.pinned : Pinned := { name := "ytjjglggfkbbhfaa", sum := "0f9f960b7af3d410db5b1970d6f355fa1e35723f52c649f45626da9ff0487699", checked := Try.checked }
namespace Rows
def none {H : Type} : Left H := { results := [], args := [] }

/-- 'laws.FnExactSpanValid': WHATEVER THE INPUT: true; the input reads as it did. -/
def fnExactSpanValidSpec : ChangeSpec := { name := "fnExactSpanValid", fn := fun _ => fun
  | [d] => { results := [.lit (.bool true)], args := [d] }
  | _ => none }
def fnExactSpanValidRow : OpenClaim := { program := "ytjjglggfkbbhfaa", sum := "0f9f960b7af3d410db5b1970d6f355fa1e35723f52c649f45626da9ff0487699", func := "loop.example/flashfiles/laws.FnExactSpanValid", spec := "fnExactSpanValid", apart := false }
def FnExactSpanValidSaid : Prop := fnExactSpanValidRow.holds Try.pinned (OpenSpec.ofChange fnExactSpanValidSpec)

/-- ITS FALSE NEIGHBOUR: 'it returns false'. Refute it at one input. -/
def fnExactSpanValidWrong : ChangeSpec := { name := "fnExactSpanValid", fn := fun _ => fun
  | [d] => { results := [.lit (.bool false)], args := [d] }
  | _ => none }
def FnExactSpanValidWrongFalsely : Prop := fnExactSpanValidRow.holds Try.pinned (OpenSpec.ofChange fnExactSpanValidWrong)

/-- 'laws.FnSpanValid': WHATEVER THE INPUT: true; the input reads as it did. -/
def fnSpanValidSpec : ChangeSpec := { name := "fnSpanValid", fn := fun _ => fun
  | [d] => { results := [.lit (.bool true)], args := [d] }
  | _ => none }
def fnSpanValidRow : OpenClaim := { program := "ytjjglggfkbbhfaa", sum := "0f9f960b7af3d410db5b1970d6f355fa1e35723f52c649f45626da9ff0487699", func := "loop.example/flashfiles/laws.FnSpanValid", spec := "fnSpanValid", apart := false }
def FnSpanValidSaid : Prop := fnSpanValidRow.holds Try.pinned (OpenSpec.ofChange fnSpanValidSpec)

/-- ITS FALSE NEIGHBOUR: 'it returns false'. Refute it at one input. -/
def fnSpanValidWrong : ChangeSpec := { name := "fnSpanValid", fn := fun _ => fun
  | [d] => { results := [.lit (.bool false)], args := [d] }
  | _ => none }
def FnSpanValidWrongFalsely : Prop := fnSpanValidRow.holds Try.pinned (OpenSpec.ofChange fnSpanValidWrong)

/-- 'laws.FnExactSpansValid': WHATEVER THE INPUT: true; the input reads as it did. -/
def fnExactSpansValidSpec : ChangeSpec := { name := "fnExactSpansValid", fn := fun _ => fun
  | [d] => { results := [.lit (.bool true)], args := [d] }
  | _ => none }
def fnExactSpansValidRow : OpenClaim := { program := "ytjjglggfkbbhfaa", sum := "0f9f960b7af3d410db5b1970d6f355fa1e35723f52c649f45626da9ff0487699", func := "loop.example/flashfiles/laws.FnExactSpansValid", spec := "fnExactSpansValid", apart := false }
def FnExactSpansValidSaid : Prop := fnExactSpansValidRow.holds Try.pinned (OpenSpec.ofChange fnExactSpansValidSpec)

/-- ITS FALSE NEIGHBOUR: 'it returns false'. Refute it at one input. -/
def fnExactSpansValidWrong : ChangeSpec := { name := "fnExactSpansValid", fn := fun _ => fun
  | [d] => { results := [.lit (.bool false)], args := [d] }
  | _ => none }
def FnExactSpansValidWrongFalsely : Prop := fnExactSpansValidRow.holds Try.pinned (OpenSpec.ofChange fnExactSpansValidWrong)

/-- 'laws.FnSpansValid': WHATEVER THE INPUT: true; the input reads as it did. -/
def fnSpansValidSpec : ChangeSpec := { name := "fnSpansValid", fn := fun _ => fun
  | [d] => { results := [.lit (.bool true)], args := [d] }
  | _ => none }
def fnSpansValidRow : OpenClaim := { program := "ytjjglggfkbbhfaa", sum := "0f9f960b7af3d410db5b1970d6f355fa1e35723f52c649f45626da9ff0487699", func := "loop.example/flashfiles/laws.FnSpansValid", spec := "fnSpansValid", apart := false }
def FnSpansValidSaid : Prop := fnSpansValidRow.holds Try.pinned (OpenSpec.ofChange fnSpansValidSpec)

/-- ITS FALSE NEIGHBOUR: 'it returns false'. Refute it at one input. -/
def fnSpansValidWrong : ChangeSpec := { name := "fnSpansValid", fn := fun _ => fun
  | [d] => { results := [.lit (.bool false)], args := [d] }
  | _ => none }
def FnSpansValidWrongFalsely : Prop := fnSpansValidRow.holds Try.pinned (OpenSpec.ofChange fnSpansValidWrong)

/-- 'laws.FnExactTrimHas': WHATEVER THE INPUT: true; the input reads as it did. -/
def fnExactTrimHasSpec : ChangeSpec := { name := "fnExactTrimHas", fn := fun _ => fun
  | [d1, d2] => { results := [.lit (.bool true)], args := [d1, d2] }
  | _ => none }
def fnExactTrimHasRow : OpenClaim := { program := "ytjjglggfkbbhfaa", sum := "0f9f960b7af3d410db5b1970d6f355fa1e35723f52c649f45626da9ff0487699", func := "loop.example/flashfiles/laws.FnExactTrimHas", spec := "fnExactTrimHas", apart := false }
def FnExactTrimHasSaid : Prop := fnExactTrimHasRow.holds Try.pinned (OpenSpec.ofChange fnExactTrimHasSpec)

/-- ITS FALSE NEIGHBOUR: 'it returns false'. Refute it at one input. -/
def fnExactTrimHasWrong : ChangeSpec := { name := "fnExactTrimHas", fn := fun _ => fun
  | [d1, d2] => { results := [.lit (.bool false)], args := [d1, d2] }
  | _ => none }
def FnExactTrimHasWrongFalsely : Prop := fnExactTrimHasRow.holds Try.pinned (OpenSpec.ofChange fnExactTrimHasWrong)

/-- 'laws.FnTrimHas': WHATEVER THE INPUT: true; the input reads as it did. -/
def fnTrimHasSpec : ChangeSpec := { name := "fnTrimHas", fn := fun _ => fun
  | [d] => { results := [.lit (.bool true)], args := [d] }
  | _ => none }
def fnTrimHasRow : OpenClaim := { program := "ytjjglggfkbbhfaa", sum := "0f9f960b7af3d410db5b1970d6f355fa1e35723f52c649f45626da9ff0487699", func := "loop.example/flashfiles/laws.FnTrimHas", spec := "fnTrimHas", apart := false }
def FnTrimHasSaid : Prop := fnTrimHasRow.holds Try.pinned (OpenSpec.ofChange fnTrimHasSpec)

/-- ITS FALSE NEIGHBOUR: 'it returns false'. Refute it at one input. -/
def fnTrimHasWrong : ChangeSpec := { name := "fnTrimHas", fn := fun _ => fun
  | [d] => { results := [.lit (.bool false)], args := [d] }
  | _ => none }
def FnTrimHasWrongFalsely : Prop := fnTrimHasRow.holds Try.pinned (OpenSpec.ofChange fnTrimHasWrong)

/-- 'laws.FnExactTrimCount': WHATEVER THE INPUT: true; the input reads as it did. -/
def fnExactTrimCountSpec : ChangeSpec := { name := "fnExactTrimCount", fn := fun _ => fun
  | [d] => { results := [.lit (.bool true)], args := [d] }
  | _ => none }
def fnExactTrimCountRow : OpenClaim := { program := "ytjjglggfkbbhfaa", sum := "0f9f960b7af3d410db5b1970d6f355fa1e35723f52c649f45626da9ff0487699", func := "loop.example/flashfiles/laws.FnExactTrimCount", spec := "fnExactTrimCount", apart := false }
def FnExactTrimCountSaid : Prop := fnExactTrimCountRow.holds Try.pinned (OpenSpec.ofChange fnExactTrimCountSpec)

/-- ITS FALSE NEIGHBOUR: 'it returns false'. Refute it at one input. -/
def fnExactTrimCountWrong : ChangeSpec := { name := "fnExactTrimCount", fn := fun _ => fun
  | [d] => { results := [.lit (.bool false)], args := [d] }
  | _ => none }
def FnExactTrimCountWrongFalsely : Prop := fnExactTrimCountRow.holds Try.pinned (OpenSpec.ofChange fnExactTrimCountWrong)

/-- 'laws.FnTrimCount': WHATEVER THE INPUT: true; the input reads as it did. -/
def fnTrimCountSpec : ChangeSpec := { name := "fnTrimCount", fn := fun _ => fun
  | [d] => { results := [.lit (.bool true)], args := [d] }
  | _ => none }
def fnTrimCountRow : OpenClaim := { program := "ytjjglggfkbbhfaa", sum := "0f9f960b7af3d410db5b1970d6f355fa1e35723f52c649f45626da9ff0487699", func := "loop.example/flashfiles/laws.FnTrimCount", spec := "fnTrimCount", apart := false }
def FnTrimCountSaid : Prop := fnTrimCountRow.holds Try.pinned (OpenSpec.ofChange fnTrimCountSpec)

/-- ITS FALSE NEIGHBOUR: 'it returns false'. Refute it at one input. -/
def fnTrimCountWrong : ChangeSpec := { name := "fnTrimCount", fn := fun _ => fun
  | [d] => { results := [.lit (.bool false)], args := [d] }
  | _ => none }
def FnTrimCountWrongFalsely : Prop := fnTrimCountRow.holds Try.pinned (OpenSpec.ofChange fnTrimCountWrong)

/-- 'laws.FnExactTrimAdd': WHATEVER THE INPUT: true; the input reads as it did. -/
def fnExactTrimAddSpec : ChangeSpec := { name := "fnExactTrimAdd", fn := fun _ => fun
  | [d1, d2] => { results := [.lit (.bool true)], args := [d1, d2] }
  | _ => none }
def fnExactTrimAddRow : OpenClaim := { program := "ytjjglggfkbbhfaa", sum := "0f9f960b7af3d410db5b1970d6f355fa1e35723f52c649f45626da9ff0487699", func := "loop.example/flashfiles/laws.FnExactTrimAdd", spec := "fnExactTrimAdd", apart := false }
def FnExactTrimAddSaid : Prop := fnExactTrimAddRow.holds Try.pinned (OpenSpec.ofChange fnExactTrimAddSpec)

/-- ITS FALSE NEIGHBOUR: 'it returns false'. Refute it at one input. -/
def fnExactTrimAddWrong : ChangeSpec := { name := "fnExactTrimAdd", fn := fun _ => fun
  | [d1, d2] => { results := [.lit (.bool false)], args := [d1, d2] }
  | _ => none }
def FnExactTrimAddWrongFalsely : Prop := fnExactTrimAddRow.holds Try.pinned (OpenSpec.ofChange fnExactTrimAddWrong)

/-- 'laws.FnTrimAdd': WHATEVER THE INPUT: true; the input reads as it did. -/
def fnTrimAddSpec : ChangeSpec := { name := "fnTrimAdd", fn := fun _ => fun
  | [d] => { results := [.lit (.bool true)], args := [d] }
  | _ => none }
def fnTrimAddRow : OpenClaim := { program := "ytjjglggfkbbhfaa", sum := "0f9f960b7af3d410db5b1970d6f355fa1e35723f52c649f45626da9ff0487699", func := "loop.example/flashfiles/laws.FnTrimAdd", spec := "fnTrimAdd", apart := false }
def FnTrimAddSaid : Prop := fnTrimAddRow.holds Try.pinned (OpenSpec.ofChange fnTrimAddSpec)

/-- ITS FALSE NEIGHBOUR: 'it returns false'. Refute it at one input. -/
def fnTrimAddWrong : ChangeSpec := { name := "fnTrimAdd", fn := fun _ => fun
  | [d] => { results := [.lit (.bool false)], args := [d] }
  | _ => none }
def FnTrimAddWrongFalsely : Prop := fnTrimAddRow.holds Try.pinned (OpenSpec.ofChange fnTrimAddWrong)

/-- 'laws.FnExactTrimCut': WHATEVER THE INPUT: true; the input reads as it did. -/
def fnExactTrimCutSpec : ChangeSpec := { name := "fnExactTrimCut", fn := fun _ => fun
  | [d1, d2] => { results := [.lit (.bool true)], args := [d1, d2] }
  | _ => none }
def fnExactTrimCutRow : OpenClaim := { program := "ytjjglggfkbbhfaa", sum := "0f9f960b7af3d410db5b1970d6f355fa1e35723f52c649f45626da9ff0487699", func := "loop.example/flashfiles/laws.FnExactTrimCut", spec := "fnExactTrimCut", apart := false }
def FnExactTrimCutSaid : Prop := fnExactTrimCutRow.holds Try.pinned (OpenSpec.ofChange fnExactTrimCutSpec)

/-- ITS FALSE NEIGHBOUR: 'it returns false'. Refute it at one input. -/
def fnExactTrimCutWrong : ChangeSpec := { name := "fnExactTrimCut", fn := fun _ => fun
  | [d1, d2] => { results := [.lit (.bool false)], args := [d1, d2] }
  | _ => none }
def FnExactTrimCutWrongFalsely : Prop := fnExactTrimCutRow.holds Try.pinned (OpenSpec.ofChange fnExactTrimCutWrong)

/-- 'laws.FnTrimCut': WHATEVER THE INPUT: true; the input reads as it did. -/
def fnTrimCutSpec : ChangeSpec := { name := "fnTrimCut", fn := fun _ => fun
  | [d] => { results := [.lit (.bool true)], args := [d] }
  | _ => none }
def fnTrimCutRow : OpenClaim := { program := "ytjjglggfkbbhfaa", sum := "0f9f960b7af3d410db5b1970d6f355fa1e35723f52c649f45626da9ff0487699", func := "loop.example/flashfiles/laws.FnTrimCut", spec := "fnTrimCut", apart := false }
def FnTrimCutSaid : Prop := fnTrimCutRow.holds Try.pinned (OpenSpec.ofChange fnTrimCutSpec)

/-- ITS FALSE NEIGHBOUR: 'it returns false'. Refute it at one input. -/
def fnTrimCutWrong : ChangeSpec := { name := "fnTrimCut", fn := fun _ => fun
  | [d] => { results := [.lit (.bool false)], args := [d] }
  | _ => none }
def FnTrimCutWrongFalsely : Prop := fnTrimCutRow.holds Try.pinned (OpenSpec.ofChange fnTrimCutWrong)

/- THE SECOND FORM. 'bulk': how many values and letters a reading holds, each counted each time it is reached (what is shared counts as often as it is met; a slice's spare places count too). A statement '..UptoSaid' is the law's where the arguments, and the package variables that the reading takes, are together of bulk at most 1048576: NARROWER than '..Said'. Prove '..Said' where nothing that the law and all that it calls make is longer than what came in: it says more and counts as full. Else prove '..UptoSaid'. A law counts once. -/
mutual
def uptoBulk {H : Type} : DataW H → Nat
  | .lit (.string bytes) => bytes.length + 1
  | .lit _ => 1
  | .nil => 1
  | .ptr d => uptoBulk d + 1
  | .slice elems spare => uptoBulkAll elems + uptoBulkAll spare + 1
  | .agg parts => uptoBulkAll parts + 1
  | .iface _ d => uptoBulk d + 1
  | .map entries => uptoBulkEntries entries + 1
  | .held _ => 1
def uptoBulkAll {H : Type} : List (DataW H) → Nat
  | [] => 0
  | d :: r => uptoBulk d + uptoBulkAll r
def uptoBulkEntries {H : Type} : List (Lit × DataW H) → Nat
  | [] => 0
  | x :: r => uptoBulkEntry x + uptoBulkEntries r
def uptoBulkEntry {H : Type} : Lit × DataW H → Nat
  | (.string bytes, d) => bytes.length + uptoBulk d + 1
  | (_, d) => uptoBulk d + 1
 end
def uptoSmall : (H : Type) → List (DataW H) → Bool := fun _ ds => decide (uptoBulkAll ds ≤ 1048576)
def OpenSpec.upto (s : _root_.Go.ChangeSpec) : _root_.Go.OpenSpec := { _root_.Go.OpenSpec.ofChange s with cond := some uptoSmall }

/-- 'laws.FnExactSpanValid', WHERE WHAT IT READS IS OF BULK AT MOST 1048576: true; the input reads as it did. -/
def fnExactSpanValidUptoRow : OpenClaim := { program := "ytjjglggfkbbhfaa", sum := "0f9f960b7af3d410db5b1970d6f355fa1e35723f52c649f45626da9ff0487699", func := "loop.example/flashfiles/laws.FnExactSpanValid", spec := "fnExactSpanValid", apart := false, narrowed := true }
def FnExactSpanValidUptoSaid : Prop := fnExactSpanValidUptoRow.holds Try.pinned (OpenSpec.upto fnExactSpanValidSpec)

/-- 'laws.FnSpanValid', WHERE WHAT IT READS IS OF BULK AT MOST 1048576: true; the input reads as it did. -/
def fnSpanValidUptoRow : OpenClaim := { program := "ytjjglggfkbbhfaa", sum := "0f9f960b7af3d410db5b1970d6f355fa1e35723f52c649f45626da9ff0487699", func := "loop.example/flashfiles/laws.FnSpanValid", spec := "fnSpanValid", apart := false, narrowed := true }
def FnSpanValidUptoSaid : Prop := fnSpanValidUptoRow.holds Try.pinned (OpenSpec.upto fnSpanValidSpec)

/-- 'laws.FnExactSpansValid', WHERE WHAT IT READS IS OF BULK AT MOST 1048576: true; the input reads as it did. -/
def fnExactSpansValidUptoRow : OpenClaim := { program := "ytjjglggfkbbhfaa", sum := "0f9f960b7af3d410db5b1970d6f355fa1e35723f52c649f45626da9ff0487699", func := "loop.example/flashfiles/laws.FnExactSpansValid", spec := "fnExactSpansValid", apart := false, narrowed := true }
def FnExactSpansValidUptoSaid : Prop := fnExactSpansValidUptoRow.holds Try.pinned (OpenSpec.upto fnExactSpansValidSpec)

/-- 'laws.FnSpansValid', WHERE WHAT IT READS IS OF BULK AT MOST 1048576: true; the input reads as it did. -/
def fnSpansValidUptoRow : OpenClaim := { program := "ytjjglggfkbbhfaa", sum := "0f9f960b7af3d410db5b1970d6f355fa1e35723f52c649f45626da9ff0487699", func := "loop.example/flashfiles/laws.FnSpansValid", spec := "fnSpansValid", apart := false, narrowed := true }
def FnSpansValidUptoSaid : Prop := fnSpansValidUptoRow.holds Try.pinned (OpenSpec.upto fnSpansValidSpec)

/-- 'laws.FnExactTrimHas', WHERE WHAT IT READS IS OF BULK AT MOST 1048576: true; the input reads as it did. -/
def fnExactTrimHasUptoRow : OpenClaim := { program := "ytjjglggfkbbhfaa", sum := "0f9f960b7af3d410db5b1970d6f355fa1e35723f52c649f45626da9ff0487699", func := "loop.example/flashfiles/laws.FnExactTrimHas", spec := "fnExactTrimHas", apart := false, narrowed := true }
def FnExactTrimHasUptoSaid : Prop := fnExactTrimHasUptoRow.holds Try.pinned (OpenSpec.upto fnExactTrimHasSpec)

/-- 'laws.FnTrimHas', WHERE WHAT IT READS IS OF BULK AT MOST 1048576: true; the input reads as it did. -/
def fnTrimHasUptoRow : OpenClaim := { program := "ytjjglggfkbbhfaa", sum := "0f9f960b7af3d410db5b1970d6f355fa1e35723f52c649f45626da9ff0487699", func := "loop.example/flashfiles/laws.FnTrimHas", spec := "fnTrimHas", apart := false, narrowed := true }
def FnTrimHasUptoSaid : Prop := fnTrimHasUptoRow.holds Try.pinned (OpenSpec.upto fnTrimHasSpec)

/-- 'laws.FnExactTrimCount', WHERE WHAT IT READS IS OF BULK AT MOST 1048576: true; the input reads as it did. -/
def fnExactTrimCountUptoRow : OpenClaim := { program := "ytjjglggfkbbhfaa", sum := "0f9f960b7af3d410db5b1970d6f355fa1e35723f52c649f45626da9ff0487699", func := "loop.example/flashfiles/laws.FnExactTrimCount", spec := "fnExactTrimCount", apart := false, narrowed := true }
def FnExactTrimCountUptoSaid : Prop := fnExactTrimCountUptoRow.holds Try.pinned (OpenSpec.upto fnExactTrimCountSpec)

/-- 'laws.FnTrimCount', WHERE WHAT IT READS IS OF BULK AT MOST 1048576: true; the input reads as it did. -/
def fnTrimCountUptoRow : OpenClaim := { program := "ytjjglggfkbbhfaa", sum := "0f9f960b7af3d410db5b1970d6f355fa1e35723f52c649f45626da9ff0487699", func := "loop.example/flashfiles/laws.FnTrimCount", spec := "fnTrimCount", apart := false, narrowed := true }
def FnTrimCountUptoSaid : Prop := fnTrimCountUptoRow.holds Try.pinned (OpenSpec.upto fnTrimCountSpec)

/-- 'laws.FnExactTrimAdd', WHERE WHAT IT READS IS OF BULK AT MOST 1048576: true; the input reads as it did. -/
def fnExactTrimAddUptoRow : OpenClaim := { program := "ytjjglggfkbbhfaa", sum := "0f9f960b7af3d410db5b1970d6f355fa1e35723f52c649f45626da9ff0487699", func := "loop.example/flashfiles/laws.FnExactTrimAdd", spec := "fnExactTrimAdd", apart := false, narrowed := true }
def FnExactTrimAddUptoSaid : Prop := fnExactTrimAddUptoRow.holds Try.pinned (OpenSpec.upto fnExactTrimAddSpec)

/-- 'laws.FnTrimAdd', WHERE WHAT IT READS IS OF BULK AT MOST 1048576: true; the input reads as it did. -/
def fnTrimAddUptoRow : OpenClaim := { program := "ytjjglggfkbbhfaa", sum := "0f9f960b7af3d410db5b1970d6f355fa1e35723f52c649f45626da9ff0487699", func := "loop.example/flashfiles/laws.FnTrimAdd", spec := "fnTrimAdd", apart := false, narrowed := true }
def FnTrimAddUptoSaid : Prop := fnTrimAddUptoRow.holds Try.pinned (OpenSpec.upto fnTrimAddSpec)

/-- 'laws.FnExactTrimCut', WHERE WHAT IT READS IS OF BULK AT MOST 1048576: true; the input reads as it did. -/
def fnExactTrimCutUptoRow : OpenClaim := { program := "ytjjglggfkbbhfaa", sum := "0f9f960b7af3d410db5b1970d6f355fa1e35723f52c649f45626da9ff0487699", func := "loop.example/flashfiles/laws.FnExactTrimCut", spec := "fnExactTrimCut", apart := false, narrowed := true }
def FnExactTrimCutUptoSaid : Prop := fnExactTrimCutUptoRow.holds Try.pinned (OpenSpec.upto fnExactTrimCutSpec)

/-- 'laws.FnTrimCut', WHERE WHAT IT READS IS OF BULK AT MOST 1048576: true; the input reads as it did. -/
def fnTrimCutUptoRow : OpenClaim := { program := "ytjjglggfkbbhfaa", sum := "0f9f960b7af3d410db5b1970d6f355fa1e35723f52c649f45626da9ff0487699", func := "loop.example/flashfiles/laws.FnTrimCut", spec := "fnTrimCut", apart := false, narrowed := true }
def FnTrimCutUptoSaid : Prop := fnTrimCutUptoRow.holds Try.pinned (OpenSpec.upto fnTrimCutSpec)

end Rows
end Go.Proofs.Ytjjglggfkbbhfaa
