/-
  No cell of these rows narrows 'for every input' (looked for: loops, veiled, ifaces, maps, wideKeys, modest, calm, conditions, laid).
  DERIVED. THE GIVEN ROWS OF THIS SEAT. 8 by the template 'for every input the law returns true; each argument reads behind the call as it read before'; 0 by the template 'total and deterministic' (their statements: YteabpdnlkncbpaaTotals.lean).
  GIVEN WITH THE SEED: the statements are not yours to turn. If you find one false, say at which input.
  Laid BY PROGRAM, IN A SANDBOX (cutbox-rows.mjs): the forced cells as the released guide's own fill.sh prints them over the translation 5dcc74296e7734f1… (all of the seat's roots in one cut). By AI agents, Wed Nov 11 2026. No macro, syntax, notation, axiom, sorry.
-/
import Derived.Test.YteabpdnlkncbpaaChecked
import GoSem.Claim
import GoSem.ClaimJoined
import GoSem.ClaimMapViews
import Derived.JoinedTies
import Derived.KernelRfl
namespace Go.Proofs.Yteabpdnlkncbpaa
/- THE CELL 'sum', in the pinned program and in every row, IS THE sha256 OF THE DUMP (.gsa) THAT YteabpdnlkncbpaaProg.lean LOADS. Nothing in Lean hashes anything: it is a label: what it is worth is what the hold of that sum in a sandbox is worth. -/
noncomputable def Try.pinned : Pinned := { name := "yteabpdnlkncbpaa", sum := "5dcc74296e7734f18c65cb2d275aa997bf17d9f2dcddcde7818cd06dca51d40c", checked := Try.checked }
namespace Rows
def none {H : Type} : Left H := { results := [], args := [] }

/-- 'laws.FnExactKeptValid': WHATEVER THE INPUT: true; the input reads as it did. -/
def fnExactKeptValidSpec : ChangeSpec := { name := "fnExactKeptValid", fn := fun _ => fun
  | [d] => { results := [.lit (.bool true)], args := [d] }
  | _ => none }
def fnExactKeptValidRow : OpenClaim := { program := "yteabpdnlkncbpaa", sum := "5dcc74296e7734f18c65cb2d275aa997bf17d9f2dcddcde7818cd06dca51d40c", func := "loop.example/flashfiles/laws.FnExactKeptValid", spec := "fnExactKeptValid", apart := false }
def FnExactKeptValidSaid : Prop := fnExactKeptValidRow.holds Try.pinned (OpenSpec.ofChange fnExactKeptValidSpec)

/-- ITS FALSE NEIGHBOUR: 'it returns false'. Refute it at one input. -/
def fnExactKeptValidWrong : ChangeSpec := { name := "fnExactKeptValid", fn := fun _ => fun
  | [d] => { results := [.lit (.bool false)], args := [d] }
  | _ => none }
def FnExactKeptValidWrongFalsely : Prop := fnExactKeptValidRow.holds Try.pinned (OpenSpec.ofChange fnExactKeptValidWrong)

/-- 'laws.FnKeptValid': WHATEVER THE INPUT: true; the input reads as it did. -/
def fnKeptValidSpec : ChangeSpec := { name := "fnKeptValid", fn := fun _ => fun
  | [d] => { results := [.lit (.bool true)], args := [d] }
  | _ => none }
def fnKeptValidRow : OpenClaim := { program := "yteabpdnlkncbpaa", sum := "5dcc74296e7734f18c65cb2d275aa997bf17d9f2dcddcde7818cd06dca51d40c", func := "loop.example/flashfiles/laws.FnKeptValid", spec := "fnKeptValid", apart := false }
def FnKeptValidSaid : Prop := fnKeptValidRow.holds Try.pinned (OpenSpec.ofChange fnKeptValidSpec)

/-- ITS FALSE NEIGHBOUR: 'it returns false'. Refute it at one input. -/
def fnKeptValidWrong : ChangeSpec := { name := "fnKeptValid", fn := fun _ => fun
  | [d] => { results := [.lit (.bool false)], args := [d] }
  | _ => none }
def FnKeptValidWrongFalsely : Prop := fnKeptValidRow.holds Try.pinned (OpenSpec.ofChange fnKeptValidWrong)

/-- 'laws.FnExactKeptUsers': WHATEVER THE INPUT: true; the input reads as it did. -/
def fnExactKeptUsersSpec : ChangeSpec := { name := "fnExactKeptUsers", fn := fun _ => fun
  | [d] => { results := [.lit (.bool true)], args := [d] }
  | _ => none }
def fnExactKeptUsersRow : OpenClaim := { program := "yteabpdnlkncbpaa", sum := "5dcc74296e7734f18c65cb2d275aa997bf17d9f2dcddcde7818cd06dca51d40c", func := "loop.example/flashfiles/laws.FnExactKeptUsers", spec := "fnExactKeptUsers", apart := false }
def FnExactKeptUsersSaid : Prop := fnExactKeptUsersRow.holds Try.pinned (OpenSpec.ofChange fnExactKeptUsersSpec)

/-- ITS FALSE NEIGHBOUR: 'it returns false'. Refute it at one input. -/
def fnExactKeptUsersWrong : ChangeSpec := { name := "fnExactKeptUsers", fn := fun _ => fun
  | [d] => { results := [.lit (.bool false)], args := [d] }
  | _ => none }
def FnExactKeptUsersWrongFalsely : Prop := fnExactKeptUsersRow.holds Try.pinned (OpenSpec.ofChange fnExactKeptUsersWrong)

/-- 'laws.FnKeptUsers': WHATEVER THE INPUT: true; the input reads as it did. -/
def fnKeptUsersSpec : ChangeSpec := { name := "fnKeptUsers", fn := fun _ => fun
  | [d] => { results := [.lit (.bool true)], args := [d] }
  | _ => none }
def fnKeptUsersRow : OpenClaim := { program := "yteabpdnlkncbpaa", sum := "5dcc74296e7734f18c65cb2d275aa997bf17d9f2dcddcde7818cd06dca51d40c", func := "loop.example/flashfiles/laws.FnKeptUsers", spec := "fnKeptUsers", apart := false }
def FnKeptUsersSaid : Prop := fnKeptUsersRow.holds Try.pinned (OpenSpec.ofChange fnKeptUsersSpec)

/-- ITS FALSE NEIGHBOUR: 'it returns false'. Refute it at one input. -/
def fnKeptUsersWrong : ChangeSpec := { name := "fnKeptUsers", fn := fun _ => fun
  | [d] => { results := [.lit (.bool false)], args := [d] }
  | _ => none }
def FnKeptUsersWrongFalsely : Prop := fnKeptUsersRow.holds Try.pinned (OpenSpec.ofChange fnKeptUsersWrong)

/-- 'laws.FnExactFreeValue': WHATEVER THE INPUT: true; the input reads as it did. -/
def fnExactFreeValueSpec : ChangeSpec := { name := "fnExactFreeValue", fn := fun _ => fun
  | [d1, d2] => { results := [.lit (.bool true)], args := [d1, d2] }
  | _ => none }
def fnExactFreeValueRow : OpenClaim := { program := "yteabpdnlkncbpaa", sum := "5dcc74296e7734f18c65cb2d275aa997bf17d9f2dcddcde7818cd06dca51d40c", func := "loop.example/flashfiles/laws.FnExactFreeValue", spec := "fnExactFreeValue", apart := false }
def FnExactFreeValueSaid : Prop := fnExactFreeValueRow.holds Try.pinned (OpenSpec.ofChange fnExactFreeValueSpec)

/-- ITS FALSE NEIGHBOUR: 'it returns false'. Refute it at one input. -/
def fnExactFreeValueWrong : ChangeSpec := { name := "fnExactFreeValue", fn := fun _ => fun
  | [d1, d2] => { results := [.lit (.bool false)], args := [d1, d2] }
  | _ => none }
def FnExactFreeValueWrongFalsely : Prop := fnExactFreeValueRow.holds Try.pinned (OpenSpec.ofChange fnExactFreeValueWrong)

/-- 'laws.FnFreeValue': WHATEVER THE INPUT: true; the input reads as it did. -/
def fnFreeValueSpec : ChangeSpec := { name := "fnFreeValue", fn := fun _ => fun
  | [d] => { results := [.lit (.bool true)], args := [d] }
  | _ => none }
def fnFreeValueRow : OpenClaim := { program := "yteabpdnlkncbpaa", sum := "5dcc74296e7734f18c65cb2d275aa997bf17d9f2dcddcde7818cd06dca51d40c", func := "loop.example/flashfiles/laws.FnFreeValue", spec := "fnFreeValue", inPlace := ["slices.overlaps[loop.example/flashfiles/impl.Kept]"], apart := false }
def FnFreeValueSaid : Prop := fnFreeValueRow.holds Try.pinned (OpenSpec.ofChange fnFreeValueSpec)

/-- ITS FALSE NEIGHBOUR: 'it returns false'. Refute it at one input. -/
def fnFreeValueWrong : ChangeSpec := { name := "fnFreeValue", fn := fun _ => fun
  | [d] => { results := [.lit (.bool false)], args := [d] }
  | _ => none }
def FnFreeValueWrongFalsely : Prop := fnFreeValueRow.holds Try.pinned (OpenSpec.ofChange fnFreeValueWrong)

/-- 'laws.FnExactKeepValue': WHATEVER THE INPUT: true; the input reads as it did. -/
def fnExactKeepValueSpec : ChangeSpec := { name := "fnExactKeepValue", fn := fun _ => fun
  | [d1, d2] => { results := [.lit (.bool true)], args := [d1, d2] }
  | _ => none }
def fnExactKeepValueRow : OpenClaim := { program := "yteabpdnlkncbpaa", sum := "5dcc74296e7734f18c65cb2d275aa997bf17d9f2dcddcde7818cd06dca51d40c", func := "loop.example/flashfiles/laws.FnExactKeepValue", spec := "fnExactKeepValue", inPlace := ["slices.overlaps[loop.example/flashfiles/impl.Kept]"], apart := false }
def FnExactKeepValueSaid : Prop := fnExactKeepValueRow.holds Try.pinned (OpenSpec.ofChange fnExactKeepValueSpec)

/-- ITS FALSE NEIGHBOUR: 'it returns false'. Refute it at one input. -/
def fnExactKeepValueWrong : ChangeSpec := { name := "fnExactKeepValue", fn := fun _ => fun
  | [d1, d2] => { results := [.lit (.bool false)], args := [d1, d2] }
  | _ => none }
def FnExactKeepValueWrongFalsely : Prop := fnExactKeepValueRow.holds Try.pinned (OpenSpec.ofChange fnExactKeepValueWrong)

/-- 'laws.FnKeepValue': WHATEVER THE INPUT: true; the input reads as it did. -/
def fnKeepValueSpec : ChangeSpec := { name := "fnKeepValue", fn := fun _ => fun
  | [d] => { results := [.lit (.bool true)], args := [d] }
  | _ => none }
def fnKeepValueRow : OpenClaim := { program := "yteabpdnlkncbpaa", sum := "5dcc74296e7734f18c65cb2d275aa997bf17d9f2dcddcde7818cd06dca51d40c", func := "loop.example/flashfiles/laws.FnKeepValue", spec := "fnKeepValue", inPlace := ["slices.overlaps[loop.example/flashfiles/impl.Kept]"], apart := false }
def FnKeepValueSaid : Prop := fnKeepValueRow.holds Try.pinned (OpenSpec.ofChange fnKeepValueSpec)

/-- ITS FALSE NEIGHBOUR: 'it returns false'. Refute it at one input. -/
def fnKeepValueWrong : ChangeSpec := { name := "fnKeepValue", fn := fun _ => fun
  | [d] => { results := [.lit (.bool false)], args := [d] }
  | _ => none }
def FnKeepValueWrongFalsely : Prop := fnKeepValueRow.holds Try.pinned (OpenSpec.ofChange fnKeepValueWrong)

/- THE SECOND FORM. 'bulk': how many values and letters a reading holds, each counted each time it is reached (what is shared counts as often as it is met; a slice's spare places count too). A statement '..UptoSaid' is the law's where the arguments, and the package variables that the reading takes, are together of bulk at most 1048576: NARROWER than '..Said'. Prove '..Said' where nothing that the law and all that it calls make is longer than what came in: it says more and counts as full. Else prove '..UptoSaid'. A law counts once. -/
mutual
def uptoBulk {H : Type} : DataW H → Nat
  | .lit (.string bytes) => bytes.length + 1
  | .lit _ => 1
  | .nil => 1
  | .ptr d => uptoBulk d + 1
  | .slice elems spare => uptoBulkAll elems + uptoBulkAll spare + 1
  | .agg parts => uptoBulkAll parts + 1
  | .iface _ d => uptoBulk d + 1
  | .map entries => uptoBulkEntries entries + 1
  | .held _ => 1
def uptoBulkAll {H : Type} : List (DataW H) → Nat
  | [] => 0
  | d :: r => uptoBulk d + uptoBulkAll r
def uptoBulkEntries {H : Type} : List (Lit × DataW H) → Nat
  | [] => 0
  | x :: r => uptoBulkEntry x + uptoBulkEntries r
def uptoBulkEntry {H : Type} : Lit × DataW H → Nat
  | (.string bytes, d) => bytes.length + uptoBulk d + 1
  | (_, d) => uptoBulk d + 1
 end
def uptoSmall : (H : Type) → List (DataW H) → Bool := fun _ ds => decide (uptoBulkAll ds ≤ 1048576)
def OpenSpec.upto (s : _root_.Go.ChangeSpec) : _root_.Go.OpenSpec := { _root_.Go.OpenSpec.ofChange s with cond := some uptoSmall }

/-- 'laws.FnExactKeptValid', WHERE WHAT IT READS IS OF BULK AT MOST 1048576: true; the input reads as it did. -/
def fnExactKeptValidUptoRow : OpenClaim := { program := "yteabpdnlkncbpaa", sum := "5dcc74296e7734f18c65cb2d275aa997bf17d9f2dcddcde7818cd06dca51d40c", func := "loop.example/flashfiles/laws.FnExactKeptValid", spec := "fnExactKeptValid", apart := false, narrowed := true }
def FnExactKeptValidUptoSaid : Prop := fnExactKeptValidUptoRow.holds Try.pinned (OpenSpec.upto fnExactKeptValidSpec)

/-- 'laws.FnKeptValid', WHERE WHAT IT READS IS OF BULK AT MOST 1048576: true; the input reads as it did. -/
def fnKeptValidUptoRow : OpenClaim := { program := "yteabpdnlkncbpaa", sum := "5dcc74296e7734f18c65cb2d275aa997bf17d9f2dcddcde7818cd06dca51d40c", func := "loop.example/flashfiles/laws.FnKeptValid", spec := "fnKeptValid", apart := false, narrowed := true }
def FnKeptValidUptoSaid : Prop := fnKeptValidUptoRow.holds Try.pinned (OpenSpec.upto fnKeptValidSpec)

/-- 'laws.FnExactKeptUsers', WHERE WHAT IT READS IS OF BULK AT MOST 1048576: true; the input reads as it did. -/
def fnExactKeptUsersUptoRow : OpenClaim := { program := "yteabpdnlkncbpaa", sum := "5dcc74296e7734f18c65cb2d275aa997bf17d9f2dcddcde7818cd06dca51d40c", func := "loop.example/flashfiles/laws.FnExactKeptUsers", spec := "fnExactKeptUsers", apart := false, narrowed := true }
def FnExactKeptUsersUptoSaid : Prop := fnExactKeptUsersUptoRow.holds Try.pinned (OpenSpec.upto fnExactKeptUsersSpec)

/-- 'laws.FnKeptUsers', WHERE WHAT IT READS IS OF BULK AT MOST 1048576: true; the input reads as it did. -/
def fnKeptUsersUptoRow : OpenClaim := { program := "yteabpdnlkncbpaa", sum := "5dcc74296e7734f18c65cb2d275aa997bf17d9f2dcddcde7818cd06dca51d40c", func := "loop.example/flashfiles/laws.FnKeptUsers", spec := "fnKeptUsers", apart := false, narrowed := true }
def FnKeptUsersUptoSaid : Prop := fnKeptUsersUptoRow.holds Try.pinned (OpenSpec.upto fnKeptUsersSpec)

/-- 'laws.FnExactFreeValue', WHERE WHAT IT READS IS OF BULK AT MOST 1048576: true; the input reads as it did. -/
def fnExactFreeValueUptoRow : OpenClaim := { program := "yteabpdnlkncbpaa", sum := "5dcc74296e7734f18c65cb2d275aa997bf17d9f2dcddcde7818cd06dca51d40c", func := "loop.example/flashfiles/laws.FnExactFreeValue", spec := "fnExactFreeValue", apart := false, narrowed := true }
def FnExactFreeValueUptoSaid : Prop := fnExactFreeValueUptoRow.holds Try.pinned (OpenSpec.upto fnExactFreeValueSpec)

/-- 'laws.FnFreeValue', WHERE WHAT IT READS IS OF BULK AT MOST 1048576: true; the input reads as it did. -/
def fnFreeValueUptoRow : OpenClaim := { program := "yteabpdnlkncbpaa", sum := "5dcc74296e7734f18c65cb2d275aa997bf17d9f2dcddcde7818cd06dca51d40c", func := "loop.example/flashfiles/laws.FnFreeValue", spec := "fnFreeValue", inPlace := ["slices.overlaps[loop.example/flashfiles/impl.Kept]"], apart := false, narrowed := true }
def FnFreeValueUptoSaid : Prop := fnFreeValueUptoRow.holds Try.pinned (OpenSpec.upto fnFreeValueSpec)

/-- 'laws.FnExactKeepValue', WHERE WHAT IT READS IS OF BULK AT MOST 1048576: true; the input reads as it did. -/
def fnExactKeepValueUptoRow : OpenClaim := { program := "yteabpdnlkncbpaa", sum := "5dcc74296e7734f18c65cb2d275aa997bf17d9f2dcddcde7818cd06dca51d40c", func := "loop.example/flashfiles/laws.FnExactKeepValue", spec := "fnExactKeepValue", inPlace := ["slices.overlaps[loop.example/flashfiles/impl.Kept]"], apart := false, narrowed := true }
def FnExactKeepValueUptoSaid : Prop := fnExactKeepValueUptoRow.holds Try.pinned (OpenSpec.upto fnExactKeepValueSpec)

/-- 'laws.FnKeepValue', WHERE WHAT IT READS IS OF BULK AT MOST 1048576: true; the input reads as it did. -/
def fnKeepValueUptoRow : OpenClaim := { program := "yteabpdnlkncbpaa", sum := "5dcc74296e7734f18c65cb2d275aa997bf17d9f2dcddcde7818cd06dca51d40c", func := "loop.example/flashfiles/laws.FnKeepValue", spec := "fnKeepValue", inPlace := ["slices.overlaps[loop.example/flashfiles/impl.Kept]"], apart := false, narrowed := true }
def FnKeepValueUptoSaid : Prop := fnKeepValueUptoRow.holds Try.pinned (OpenSpec.upto fnKeepValueSpec)

end Rows
end Go.Proofs.Yteabpdnlkncbpaa
