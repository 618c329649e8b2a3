/-
  No cell of these rows narrows 'for every input' (looked for: loops, veiled, ifaces, maps, wideKeys, modest, calm, conditions, laid).
  DERIVED. THE GIVEN ROWS OF THIS SEAT. 3 by the template 'for every input the law returns true; each argument reads behind the call as it read before'; 0 by the template 'total and deterministic' (their statements: YtffhddibgfaopaaTotals.lean).
  GIVEN WITH THE SEED: the statements are not yours to turn. If you find one false, say at which input.
  Laid BY PROGRAM, IN A SANDBOX (cutbox-rows.mjs): the forced cells as the released guide's own fill.sh prints them over the translation 2af0ff508951a565… (all of the seat's roots in one cut). By AI agents, Wed Nov 11 2026. No macro, syntax, notation, axiom, sorry.
-/
import Derived.Test.YtffhddibgfaopaaChecked
import GoSem.Claim
import GoSem.ClaimJoined
import GoSem.ClaimMapViews
import Derived.JoinedTies
import Derived.KernelRfl
namespace Go.Proofs.Ytffhddibgfaopaa
/- THE CELL 'sum', in the pinned program and in every row, IS THE sha256 OF THE DUMP (.gsa) THAT YtffhddibgfaopaaProg.lean LOADS. Nothing in Lean hashes anything: it is a label: what it is worth is what the hold of that sum in a sandbox is worth. -/
noncomputable def Try.pinned : Pinned := { name := "ytffhddibgfaopaa", sum := "2af0ff508951a56532c9de9f05f989cc7a4ac7806d1b993a0721b08bc71f940f", checked := Try.checked }
namespace Rows
def none {H : Type} : Left H := { results := [], args := [] }

/-- 'laws.FnExactDivFloats': WHATEVER THE INPUT: true; the input reads as it did. -/
def fnExactDivFloatsSpec : ChangeSpec := { name := "fnExactDivFloats", fn := fun _ => fun
  | [d1, d2] => { results := [.lit (.bool true)], args := [d1, d2] }
  | _ => none }
def fnExactDivFloatsRow : OpenClaim := { program := "ytffhddibgfaopaa", sum := "2af0ff508951a56532c9de9f05f989cc7a4ac7806d1b993a0721b08bc71f940f", func := "loop.example/g03225/laws.FnExactDivFloats", spec := "fnExactDivFloats", apart := false }
def FnExactDivFloatsSaid : Prop := fnExactDivFloatsRow.holds Try.pinned (OpenSpec.ofChange fnExactDivFloatsSpec)

/-- ITS FALSE NEIGHBOUR: 'it returns false'. Refute it at one input. -/
def fnExactDivFloatsWrong : ChangeSpec := { name := "fnExactDivFloats", fn := fun _ => fun
  | [d1, d2] => { results := [.lit (.bool false)], args := [d1, d2] }
  | _ => none }
def FnExactDivFloatsWrongFalsely : Prop := fnExactDivFloatsRow.holds Try.pinned (OpenSpec.ofChange fnExactDivFloatsWrong)

/-- 'laws.FnExactSingleOf': WHATEVER THE INPUT: true; the input reads as it did. -/
def fnExactSingleOfSpec : ChangeSpec := { name := "fnExactSingleOf", fn := fun _ => fun
  | [d] => { results := [.lit (.bool true)], args := [d] }
  | _ => none }
def fnExactSingleOfRow : OpenClaim := { program := "ytffhddibgfaopaa", sum := "2af0ff508951a56532c9de9f05f989cc7a4ac7806d1b993a0721b08bc71f940f", func := "loop.example/g03225/laws.FnExactSingleOf", spec := "fnExactSingleOf", apart := false }
def FnExactSingleOfSaid : Prop := fnExactSingleOfRow.holds Try.pinned (OpenSpec.ofChange fnExactSingleOfSpec)

/-- ITS FALSE NEIGHBOUR: 'it returns false'. Refute it at one input. -/
def fnExactSingleOfWrong : ChangeSpec := { name := "fnExactSingleOf", fn := fun _ => fun
  | [d] => { results := [.lit (.bool false)], args := [d] }
  | _ => none }
def FnExactSingleOfWrongFalsely : Prop := fnExactSingleOfRow.holds Try.pinned (OpenSpec.ofChange fnExactSingleOfWrong)

/-- 'laws.FnSingles': WHATEVER THE INPUT: true; the input reads as it did. -/
def fnSinglesSpec : ChangeSpec := { name := "fnSingles", fn := fun _ => fun
  | [d] => { results := [.lit (.bool true)], args := [d] }
  | _ => none }
def fnSinglesRow : OpenClaim := { program := "ytffhddibgfaopaa", sum := "2af0ff508951a56532c9de9f05f989cc7a4ac7806d1b993a0721b08bc71f940f", func := "loop.example/g03225/laws.FnSingles", spec := "fnSingles", apart := false }
def FnSinglesSaid : Prop := fnSinglesRow.holds Try.pinned (OpenSpec.ofChange fnSinglesSpec)

/-- ITS FALSE NEIGHBOUR: 'it returns false'. Refute it at one input. -/
def fnSinglesWrong : ChangeSpec := { name := "fnSingles", fn := fun _ => fun
  | [d] => { results := [.lit (.bool false)], args := [d] }
  | _ => none }
def FnSinglesWrongFalsely : Prop := fnSinglesRow.holds Try.pinned (OpenSpec.ofChange fnSinglesWrong)

/- THE SECOND FORM. 'bulk': how many values and letters a reading holds, each counted each time it is reached (what is shared counts as often as it is met; a slice's spare places count too). A statement '..UptoSaid' is the law's where the arguments, and the package variables that the reading takes, are together of bulk at most 1048576: NARROWER than '..Said'. Prove '..Said' where nothing that the law and all that it calls make is longer than what came in: it says more and counts as full. Else prove '..UptoSaid'. A law counts once. -/
mutual
def uptoBulk {H : Type} : DataW H → Nat
  | .lit (.string bytes) => bytes.length + 1
  | .lit _ => 1
  | .nil => 1
  | .ptr d => uptoBulk d + 1
  | .slice elems spare => uptoBulkAll elems + uptoBulkAll spare + 1
  | .agg parts => uptoBulkAll parts + 1
  | .iface _ d => uptoBulk d + 1
  | .map entries => uptoBulkEntries entries + 1
  | .held _ => 1
def uptoBulkAll {H : Type} : List (DataW H) → Nat
  | [] => 0
  | d :: r => uptoBulk d + uptoBulkAll r
def uptoBulkEntries {H : Type} : List (Lit × DataW H) → Nat
  | [] => 0
  | x :: r => uptoBulkEntry x + uptoBulkEntries r
def uptoBulkEntry {H : Type} : Lit × DataW H → Nat
  | (.string bytes, d) => bytes.length + uptoBulk d + 1
  | (_, d) => uptoBulk d + 1
 end
def uptoSmall : (H : Type) → List (DataW H) → Bool := fun _ ds => decide (uptoBulkAll ds ≤ 1048576)
def OpenSpec.upto (s : _root_.Go.ChangeSpec) : _root_.Go.OpenSpec := { _root_.Go.OpenSpec.ofChange s with cond := some uptoSmall }

/-- 'laws.FnExactDivFloats', WHERE WHAT IT READS IS OF BULK AT MOST 1048576: true; the input reads as it did. -/
def fnExactDivFloatsUptoRow : OpenClaim := { program := "ytffhddibgfaopaa", sum := "2af0ff508951a56532c9de9f05f989cc7a4ac7806d1b993a0721b08bc71f940f", func := "loop.example/g03225/laws.FnExactDivFloats", spec := "fnExactDivFloats", apart := false, narrowed := true }
def FnExactDivFloatsUptoSaid : Prop := fnExactDivFloatsUptoRow.holds Try.pinned (OpenSpec.upto fnExactDivFloatsSpec)

/-- 'laws.FnExactSingleOf', WHERE WHAT IT READS IS OF BULK AT MOST 1048576: true; the input reads as it did. -/
def fnExactSingleOfUptoRow : OpenClaim := { program := "ytffhddibgfaopaa", sum := "2af0ff508951a56532c9de9f05f989cc7a4ac7806d1b993a0721b08bc71f940f", func := "loop.example/g03225/laws.FnExactSingleOf", spec := "fnExactSingleOf", apart := false, narrowed := true }
def FnExactSingleOfUptoSaid : Prop := fnExactSingleOfUptoRow.holds Try.pinned (OpenSpec.upto fnExactSingleOfSpec)

/-- 'laws.FnSingles', WHERE WHAT IT READS IS OF BULK AT MOST 1048576: true; the input reads as it did. -/
def fnSinglesUptoRow : OpenClaim := { program := "ytffhddibgfaopaa", sum := "2af0ff508951a56532c9de9f05f989cc7a4ac7806d1b993a0721b08bc71f940f", func := "loop.example/g03225/laws.FnSingles", spec := "fnSingles", apart := false, narrowed := true }
def FnSinglesUptoSaid : Prop := fnSinglesUptoRow.holds Try.pinned (OpenSpec.upto fnSinglesSpec)

end Rows
end Go.Proofs.Ytffhddibgfaopaa
