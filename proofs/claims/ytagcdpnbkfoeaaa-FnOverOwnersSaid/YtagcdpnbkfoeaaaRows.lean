/-
  No cell of these rows narrows 'for every input' (looked for: loops, veiled, ifaces, maps, wideKeys, modest, calm, conditions, laid).
  DERIVED. THE GIVEN ROWS OF THIS SEAT. 6 by the template 'for every input the law returns true; each argument reads behind the call as it read before'; 0 by the template 'total and deterministic' (their statements: YtagcdpnbkfoeaaaTotals.lean).
  GIVEN WITH THE SEED: the statements are not yours to turn. If you find one false, say at which input.
  Laid BY PROGRAM, IN A SANDBOX (cutbox-rows.mjs): the forced cells as the released guide's own fill.sh prints them over the translation d8ee1f1ffa4d6bb5… (all of the seat's roots in one cut). By AI agents, Wed Nov 11 2026. No macro, syntax, notation, axiom, sorry.
-/
import Derived.Test.YtagcdpnbkfoeaaaChecked
import GoSem.Claim
import GoSem.ClaimJoined
import GoSem.ClaimMapViews
import Derived.JoinedTies
import Derived.KernelRfl
namespace Go.Proofs.Ytagcdpnbkfoeaaa
/- THE CELL 'sum', in the pinned program and in every row, IS THE sha256 OF THE DUMP (.gsa) THAT YtagcdpnbkfoeaaaProg.lean LOADS. Nothing in Lean hashes anything: it is a label: what it is worth is what the hold of that sum in a sandbox is worth. -/
noncomputable def Try.pinned : Pinned := { name := "ytagcdpnbkfoeaaa", sum := "d8ee1f1ffa4d6bb53816503708daba875ee67da82dce8443c3ef951687cb6814", checked := Try.checked }
namespace Rows
def none {H : Type} : Left H := { results := [], args := [] }

/-- 'laws.FnExactOwnersValid': WHATEVER THE INPUT: true; the input reads as it did. -/
def fnExactOwnersValidSpec : ChangeSpec := { name := "fnExactOwnersValid", fn := fun _ => fun
  | [d] => { results := [.lit (.bool true)], args := [d] }
  | _ => none }
def fnExactOwnersValidRow : OpenClaim := { program := "ytagcdpnbkfoeaaa", sum := "d8ee1f1ffa4d6bb53816503708daba875ee67da82dce8443c3ef951687cb6814", func := "loop.example/flashfiles/laws.FnExactOwnersValid", spec := "fnExactOwnersValid", apart := false }
def FnExactOwnersValidSaid : Prop := fnExactOwnersValidRow.holds Try.pinned (OpenSpec.ofChange fnExactOwnersValidSpec)

/-- ITS FALSE NEIGHBOUR: 'it returns false'. Refute it at one input. -/
def fnExactOwnersValidWrong : ChangeSpec := { name := "fnExactOwnersValid", fn := fun _ => fun
  | [d] => { results := [.lit (.bool false)], args := [d] }
  | _ => none }
def FnExactOwnersValidWrongFalsely : Prop := fnExactOwnersValidRow.holds Try.pinned (OpenSpec.ofChange fnExactOwnersValidWrong)

/-- 'laws.FnOwnersValid': WHATEVER THE INPUT: true; the input reads as it did. -/
def fnOwnersValidSpec : ChangeSpec := { name := "fnOwnersValid", fn := fun _ => fun
  | [d] => { results := [.lit (.bool true)], args := [d] }
  | _ => none }
def fnOwnersValidRow : OpenClaim := { program := "ytagcdpnbkfoeaaa", sum := "d8ee1f1ffa4d6bb53816503708daba875ee67da82dce8443c3ef951687cb6814", func := "loop.example/flashfiles/laws.FnOwnersValid", spec := "fnOwnersValid", apart := false }
def FnOwnersValidSaid : Prop := fnOwnersValidRow.holds Try.pinned (OpenSpec.ofChange fnOwnersValidSpec)

/-- ITS FALSE NEIGHBOUR: 'it returns false'. Refute it at one input. -/
def fnOwnersValidWrong : ChangeSpec := { name := "fnOwnersValid", fn := fun _ => fun
  | [d] => { results := [.lit (.bool false)], args := [d] }
  | _ => none }
def FnOwnersValidWrongFalsely : Prop := fnOwnersValidRow.holds Try.pinned (OpenSpec.ofChange fnOwnersValidWrong)

/-- 'laws.FnOwnerPages': WHATEVER THE INPUT: true; the input reads as it did. -/
def fnOwnerPagesSpec : ChangeSpec := { name := "fnOwnerPages", fn := fun _ => fun
  | [d] => { results := [.lit (.bool true)], args := [d] }
  | _ => none }
def fnOwnerPagesRow : OpenClaim := { program := "ytagcdpnbkfoeaaa", sum := "d8ee1f1ffa4d6bb53816503708daba875ee67da82dce8443c3ef951687cb6814", func := "loop.example/flashfiles/laws.FnOwnerPages", spec := "fnOwnerPages", recurses := true, apart := false }
def FnOwnerPagesSaid : Prop := fnOwnerPagesRow.holds Try.pinned (OpenSpec.ofChange fnOwnerPagesSpec)

/-- ITS FALSE NEIGHBOUR: 'it returns false'. Refute it at one input. -/
def fnOwnerPagesWrong : ChangeSpec := { name := "fnOwnerPages", fn := fun _ => fun
  | [d] => { results := [.lit (.bool false)], args := [d] }
  | _ => none }
def FnOwnerPagesWrongFalsely : Prop := fnOwnerPagesRow.holds Try.pinned (OpenSpec.ofChange fnOwnerPagesWrong)

/-- 'laws.FnExactOwnerPages': WHATEVER THE INPUT: true; the input reads as it did. -/
def fnExactOwnerPagesSpec : ChangeSpec := { name := "fnExactOwnerPages", fn := fun _ => fun
  | [d1, d2] => { results := [.lit (.bool true)], args := [d1, d2] }
  | _ => none }
def fnExactOwnerPagesRow : OpenClaim := { program := "ytagcdpnbkfoeaaa", sum := "d8ee1f1ffa4d6bb53816503708daba875ee67da82dce8443c3ef951687cb6814", func := "loop.example/flashfiles/laws.FnExactOwnerPages", spec := "fnExactOwnerPages", apart := false }
def FnExactOwnerPagesSaid : Prop := fnExactOwnerPagesRow.holds Try.pinned (OpenSpec.ofChange fnExactOwnerPagesSpec)

/-- ITS FALSE NEIGHBOUR: 'it returns false'. Refute it at one input. -/
def fnExactOwnerPagesWrong : ChangeSpec := { name := "fnExactOwnerPages", fn := fun _ => fun
  | [d1, d2] => { results := [.lit (.bool false)], args := [d1, d2] }
  | _ => none }
def FnExactOwnerPagesWrongFalsely : Prop := fnExactOwnerPagesRow.holds Try.pinned (OpenSpec.ofChange fnExactOwnerPagesWrong)

/-- 'laws.FnOverOwners': WHATEVER THE INPUT: true; the input reads as it did. -/
def fnOverOwnersSpec : ChangeSpec := { name := "fnOverOwners", fn := fun _ => fun
  | [d] => { results := [.lit (.bool true)], args := [d] }
  | _ => none }
def fnOverOwnersRow : OpenClaim := { program := "ytagcdpnbkfoeaaa", sum := "d8ee1f1ffa4d6bb53816503708daba875ee67da82dce8443c3ef951687cb6814", func := "loop.example/flashfiles/laws.FnOverOwners", spec := "fnOverOwners", apart := false }
def FnOverOwnersSaid : Prop := fnOverOwnersRow.holds Try.pinned (OpenSpec.ofChange fnOverOwnersSpec)

/-- ITS FALSE NEIGHBOUR: 'it returns false'. Refute it at one input. -/
def fnOverOwnersWrong : ChangeSpec := { name := "fnOverOwners", fn := fun _ => fun
  | [d] => { results := [.lit (.bool false)], args := [d] }
  | _ => none }
def FnOverOwnersWrongFalsely : Prop := fnOverOwnersRow.holds Try.pinned (OpenSpec.ofChange fnOverOwnersWrong)

/-- 'laws.FnExactOverOwners': WHATEVER THE INPUT: true; the input reads as it did. -/
def fnExactOverOwnersSpec : ChangeSpec := { name := "fnExactOverOwners", fn := fun _ => fun
  | [d1, d2, d3] => { results := [.lit (.bool true)], args := [d1, d2, d3] }
  | _ => none }
def fnExactOverOwnersRow : OpenClaim := { program := "ytagcdpnbkfoeaaa", sum := "d8ee1f1ffa4d6bb53816503708daba875ee67da82dce8443c3ef951687cb6814", func := "loop.example/flashfiles/laws.FnExactOverOwners", spec := "fnExactOverOwners", apart := false }
def FnExactOverOwnersSaid : Prop := fnExactOverOwnersRow.holds Try.pinned (OpenSpec.ofChange fnExactOverOwnersSpec)

/-- ITS FALSE NEIGHBOUR: 'it returns false'. Refute it at one input. -/
def fnExactOverOwnersWrong : ChangeSpec := { name := "fnExactOverOwners", fn := fun _ => fun
  | [d1, d2, d3] => { results := [.lit (.bool false)], args := [d1, d2, d3] }
  | _ => none }
def FnExactOverOwnersWrongFalsely : Prop := fnExactOverOwnersRow.holds Try.pinned (OpenSpec.ofChange fnExactOverOwnersWrong)

/- THE SECOND FORM. 'bulk': how many values and letters a reading holds, each counted each time it is reached (what is shared counts as often as it is met; a slice's spare places count too). A statement '..UptoSaid' is the law's where the arguments, and the package variables that the reading takes, are together of bulk at most 1048576: NARROWER than '..Said'. Prove '..Said' where nothing that the law and all that it calls make is longer than what came in: it says more and counts as full. Else prove '..UptoSaid'. A law counts once. -/
mutual
def uptoBulk {H : Type} : DataW H → Nat
  | .lit (.string bytes) => bytes.length + 1
  | .lit _ => 1
  | .nil => 1
  | .ptr d => uptoBulk d + 1
  | .slice elems spare => uptoBulkAll elems + uptoBulkAll spare + 1
  | .agg parts => uptoBulkAll parts + 1
  | .iface _ d => uptoBulk d + 1
  | .map entries => uptoBulkEntries entries + 1
  | .held _ => 1
def uptoBulkAll {H : Type} : List (DataW H) → Nat
  | [] => 0
  | d :: r => uptoBulk d + uptoBulkAll r
def uptoBulkEntries {H : Type} : List (Lit × DataW H) → Nat
  | [] => 0
  | x :: r => uptoBulkEntry x + uptoBulkEntries r
def uptoBulkEntry {H : Type} : Lit × DataW H → Nat
  | (.string bytes, d) => bytes.length + uptoBulk d + 1
  | (_, d) => uptoBulk d + 1
 end
def uptoSmall : (H : Type) → List (DataW H) → Bool := fun _ ds => decide (uptoBulkAll ds ≤ 1048576)
def OpenSpec.upto (s : _root_.Go.ChangeSpec) : _root_.Go.OpenSpec := { _root_.Go.OpenSpec.ofChange s with cond := some uptoSmall }

/-- 'laws.FnExactOwnersValid', WHERE WHAT IT READS IS OF BULK AT MOST 1048576: true; the input reads as it did. -/
def fnExactOwnersValidUptoRow : OpenClaim := { program := "ytagcdpnbkfoeaaa", sum := "d8ee1f1ffa4d6bb53816503708daba875ee67da82dce8443c3ef951687cb6814", func := "loop.example/flashfiles/laws.FnExactOwnersValid", spec := "fnExactOwnersValid", apart := false, narrowed := true }
def FnExactOwnersValidUptoSaid : Prop := fnExactOwnersValidUptoRow.holds Try.pinned (OpenSpec.upto fnExactOwnersValidSpec)

/-- 'laws.FnOwnersValid', WHERE WHAT IT READS IS OF BULK AT MOST 1048576: true; the input reads as it did. -/
def fnOwnersValidUptoRow : OpenClaim := { program := "ytagcdpnbkfoeaaa", sum := "d8ee1f1ffa4d6bb53816503708daba875ee67da82dce8443c3ef951687cb6814", func := "loop.example/flashfiles/laws.FnOwnersValid", spec := "fnOwnersValid", apart := false, narrowed := true }
def FnOwnersValidUptoSaid : Prop := fnOwnersValidUptoRow.holds Try.pinned (OpenSpec.upto fnOwnersValidSpec)

/-- 'laws.FnOwnerPages', WHERE WHAT IT READS IS OF BULK AT MOST 1048576: true; the input reads as it did. -/
def fnOwnerPagesUptoRow : OpenClaim := { program := "ytagcdpnbkfoeaaa", sum := "d8ee1f1ffa4d6bb53816503708daba875ee67da82dce8443c3ef951687cb6814", func := "loop.example/flashfiles/laws.FnOwnerPages", spec := "fnOwnerPages", recurses := true, apart := false, narrowed := true }
def FnOwnerPagesUptoSaid : Prop := fnOwnerPagesUptoRow.holds Try.pinned (OpenSpec.upto fnOwnerPagesSpec)

/-- 'laws.FnExactOwnerPages', WHERE WHAT IT READS IS OF BULK AT MOST 1048576: true; the input reads as it did. -/
def fnExactOwnerPagesUptoRow : OpenClaim := { program := "ytagcdpnbkfoeaaa", sum := "d8ee1f1ffa4d6bb53816503708daba875ee67da82dce8443c3ef951687cb6814", func := "loop.example/flashfiles/laws.FnExactOwnerPages", spec := "fnExactOwnerPages", apart := false, narrowed := true }
def FnExactOwnerPagesUptoSaid : Prop := fnExactOwnerPagesUptoRow.holds Try.pinned (OpenSpec.upto fnExactOwnerPagesSpec)

/-- 'laws.FnOverOwners', WHERE WHAT IT READS IS OF BULK AT MOST 1048576: true; the input reads as it did. -/
def fnOverOwnersUptoRow : OpenClaim := { program := "ytagcdpnbkfoeaaa", sum := "d8ee1f1ffa4d6bb53816503708daba875ee67da82dce8443c3ef951687cb6814", func := "loop.example/flashfiles/laws.FnOverOwners", spec := "fnOverOwners", apart := false, narrowed := true }
def FnOverOwnersUptoSaid : Prop := fnOverOwnersUptoRow.holds Try.pinned (OpenSpec.upto fnOverOwnersSpec)

/-- 'laws.FnExactOverOwners', WHERE WHAT IT READS IS OF BULK AT MOST 1048576: true; the input reads as it did. -/
def fnExactOverOwnersUptoRow : OpenClaim := { program := "ytagcdpnbkfoeaaa", sum := "d8ee1f1ffa4d6bb53816503708daba875ee67da82dce8443c3ef951687cb6814", func := "loop.example/flashfiles/laws.FnExactOverOwners", spec := "fnExactOverOwners", apart := false, narrowed := true }
def FnExactOverOwnersUptoSaid : Prop := fnExactOverOwnersUptoRow.holds Try.pinned (OpenSpec.upto fnExactOverOwnersSpec)

end Rows
end Go.Proofs.Ytagcdpnbkfoeaaa
