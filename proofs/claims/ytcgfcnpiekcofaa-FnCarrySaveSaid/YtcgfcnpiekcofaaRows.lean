/-
  No cell of these rows narrows 'for every input' (looked for: loops, veiled, ifaces, maps, wideKeys, modest, calm, conditions, laid).
  DERIVED. THE GIVEN ROWS OF THIS SEAT. 11 by the template 'for every input the law returns true; each argument reads behind the call as it read before'; 0 by the template 'total and deterministic' (their statements: YtcgfcnpiekcofaaTotals.lean).
  GIVEN WITH THE SEED: the statements are not yours to turn. If you find one false, say at which input.
  Laid BY PROGRAM, IN A SANDBOX (cutbox-rows.mjs): the forced cells as the released guide's own fill.sh prints them over the translation f98c20bbdced2b35… (all of the seat's roots in one cut). By AI agents, Wed Nov 11 2026. No macro, syntax, notation, axiom, sorry.
-/
import Derived.Test.YtcgfcnpiekcofaaChecked
import GoSem.Claim
import GoSem.ClaimJoined
import GoSem.ClaimMapViews
import Derived.JoinedTies
import Derived.KernelRfl
namespace Go.Proofs.Ytcgfcnpiekcofaa
/- THE CELL 'sum', in the pinned program and in every row, IS THE sha256 OF THE DUMP (.gsa) THAT YtcgfcnpiekcofaaProg.lean LOADS. Nothing in Lean hashes anything: it is a label: what it is worth is what the hold of that sum in a sandbox is worth. -/
noncomputable def Try.pinned : Pinned := { name := "ytcgfcnpiekcofaa", sum := "f98c20bbdced2b35714f642b92d4858f51a06ad814abb9f1f6cd2139ac0a588c", checked := Try.checked }
namespace Rows
def none {H : Type} : Left H := { results := [], args := [] }

/-- 'laws.FnExactCarriesOf': WHATEVER THE INPUT: true; the input reads as it did. -/
def fnExactCarriesOfSpec : ChangeSpec := { name := "fnExactCarriesOf", fn := fun _ => fun
  | [d1, d2, d3] => { results := [.lit (.bool true)], args := [d1, d2, d3] }
  | _ => none }
def fnExactCarriesOfRow : OpenClaim := { program := "ytcgfcnpiekcofaa", sum := "f98c20bbdced2b35714f642b92d4858f51a06ad814abb9f1f6cd2139ac0a588c", func := "loop.example/g03225/laws.FnExactCarriesOf", spec := "fnExactCarriesOf", unfollowed := true, recurses := true, apart := false }
def FnExactCarriesOfSaid : Prop := fnExactCarriesOfRow.holds Try.pinned (OpenSpec.ofChange fnExactCarriesOfSpec)

/-- ITS FALSE NEIGHBOUR: 'it returns false'. Refute it at one input. -/
def fnExactCarriesOfWrong : ChangeSpec := { name := "fnExactCarriesOf", fn := fun _ => fun
  | [d1, d2, d3] => { results := [.lit (.bool false)], args := [d1, d2, d3] }
  | _ => none }
def FnExactCarriesOfWrongFalsely : Prop := fnExactCarriesOfRow.holds Try.pinned (OpenSpec.ofChange fnExactCarriesOfWrong)

/-- 'laws.FnExactAddAhead': WHATEVER THE INPUT: true; the input reads as it did. -/
def fnExactAddAheadSpec : ChangeSpec := { name := "fnExactAddAhead", fn := fun _ => fun
  | [d1, d2, d3] => { results := [.lit (.bool true)], args := [d1, d2, d3] }
  | _ => none }
def fnExactAddAheadRow : OpenClaim := { program := "ytcgfcnpiekcofaa", sum := "f98c20bbdced2b35714f642b92d4858f51a06ad814abb9f1f6cd2139ac0a588c", func := "loop.example/g03225/laws.FnExactAddAhead", spec := "fnExactAddAhead", unfollowed := true, recurses := true, apart := false }
def FnExactAddAheadSaid : Prop := fnExactAddAheadRow.holds Try.pinned (OpenSpec.ofChange fnExactAddAheadSpec)

/-- ITS FALSE NEIGHBOUR: 'it returns false'. Refute it at one input. -/
def fnExactAddAheadWrong : ChangeSpec := { name := "fnExactAddAhead", fn := fun _ => fun
  | [d1, d2, d3] => { results := [.lit (.bool false)], args := [d1, d2, d3] }
  | _ => none }
def FnExactAddAheadWrongFalsely : Prop := fnExactAddAheadRow.holds Try.pinned (OpenSpec.ofChange fnExactAddAheadWrong)

/-- 'laws.FnExactNormalRedundant': WHATEVER THE INPUT: true; the input reads as it did. -/
def fnExactNormalRedundantSpec : ChangeSpec := { name := "fnExactNormalRedundant", fn := fun _ => fun
  | [d] => { results := [.lit (.bool true)], args := [d] }
  | _ => none }
def fnExactNormalRedundantRow : OpenClaim := { program := "ytcgfcnpiekcofaa", sum := "f98c20bbdced2b35714f642b92d4858f51a06ad814abb9f1f6cd2139ac0a588c", func := "loop.example/g03225/laws.FnExactNormalRedundant", spec := "fnExactNormalRedundant", unfollowed := true, recurses := true, apart := false }
def FnExactNormalRedundantSaid : Prop := fnExactNormalRedundantRow.holds Try.pinned (OpenSpec.ofChange fnExactNormalRedundantSpec)

/-- ITS FALSE NEIGHBOUR: 'it returns false'. Refute it at one input. -/
def fnExactNormalRedundantWrong : ChangeSpec := { name := "fnExactNormalRedundant", fn := fun _ => fun
  | [d] => { results := [.lit (.bool false)], args := [d] }
  | _ => none }
def FnExactNormalRedundantWrongFalsely : Prop := fnExactNormalRedundantRow.holds Try.pinned (OpenSpec.ofChange fnExactNormalRedundantWrong)

/-- 'laws.FnProducts': WHATEVER THE INPUT: true; the input reads as it did. -/
def fnProductsSpec : ChangeSpec := { name := "fnProducts", fn := fun _ => fun
  | [d] => { results := [.lit (.bool true)], args := [d] }
  | _ => none }
def fnProductsRow : OpenClaim := { program := "ytcgfcnpiekcofaa", sum := "f98c20bbdced2b35714f642b92d4858f51a06ad814abb9f1f6cd2139ac0a588c", func := "loop.example/g03225/laws.FnProducts", spec := "fnProducts", unfollowed := true, recurses := true, apart := false }
def FnProductsSaid : Prop := fnProductsRow.holds Try.pinned (OpenSpec.ofChange fnProductsSpec)

/-- ITS FALSE NEIGHBOUR: 'it returns false'. Refute it at one input. -/
def fnProductsWrong : ChangeSpec := { name := "fnProducts", fn := fun _ => fun
  | [d] => { results := [.lit (.bool false)], args := [d] }
  | _ => none }
def FnProductsWrongFalsely : Prop := fnProductsRow.holds Try.pinned (OpenSpec.ofChange fnProductsWrong)

/-- 'laws.FnAdders': WHATEVER THE INPUT: true; the input reads as it did. -/
def fnAddersSpec : ChangeSpec := { name := "fnAdders", fn := fun _ => fun
  | [d] => { results := [.lit (.bool true)], args := [d] }
  | _ => none }
def fnAddersRow : OpenClaim := { program := "ytcgfcnpiekcofaa", sum := "f98c20bbdced2b35714f642b92d4858f51a06ad814abb9f1f6cd2139ac0a588c", func := "loop.example/g03225/laws.FnAdders", spec := "fnAdders", unfollowed := true, recurses := true, apart := false }
def FnAddersSaid : Prop := fnAddersRow.holds Try.pinned (OpenSpec.ofChange fnAddersSpec)

/-- ITS FALSE NEIGHBOUR: 'it returns false'. Refute it at one input. -/
def fnAddersWrong : ChangeSpec := { name := "fnAdders", fn := fun _ => fun
  | [d] => { results := [.lit (.bool false)], args := [d] }
  | _ => none }
def FnAddersWrongFalsely : Prop := fnAddersRow.holds Try.pinned (OpenSpec.ofChange fnAddersWrong)

/-- 'laws.FnExactSubWords': WHATEVER THE INPUT: true; the input reads as it did. -/
def fnExactSubWordsSpec : ChangeSpec := { name := "fnExactSubWords", fn := fun _ => fun
  | [d1, d2] => { results := [.lit (.bool true)], args := [d1, d2] }
  | _ => none }
def fnExactSubWordsRow : OpenClaim := { program := "ytcgfcnpiekcofaa", sum := "f98c20bbdced2b35714f642b92d4858f51a06ad814abb9f1f6cd2139ac0a588c", func := "loop.example/g03225/laws.FnExactSubWords", spec := "fnExactSubWords", unfollowed := true, recurses := true, apart := false }
def FnExactSubWordsSaid : Prop := fnExactSubWordsRow.holds Try.pinned (OpenSpec.ofChange fnExactSubWordsSpec)

/-- ITS FALSE NEIGHBOUR: 'it returns false'. Refute it at one input. -/
def fnExactSubWordsWrong : ChangeSpec := { name := "fnExactSubWords", fn := fun _ => fun
  | [d1, d2] => { results := [.lit (.bool false)], args := [d1, d2] }
  | _ => none }
def FnExactSubWordsWrongFalsely : Prop := fnExactSubWordsRow.holds Try.pinned (OpenSpec.ofChange fnExactSubWordsWrong)

/-- 'laws.FnCarrySave': WHATEVER THE INPUT: true; the input reads as it did. -/
def fnCarrySaveSpec : ChangeSpec := { name := "fnCarrySave", fn := fun _ => fun
  | [d] => { results := [.lit (.bool true)], args := [d] }
  | _ => none }
def fnCarrySaveRow : OpenClaim := { program := "ytcgfcnpiekcofaa", sum := "f98c20bbdced2b35714f642b92d4858f51a06ad814abb9f1f6cd2139ac0a588c", func := "loop.example/g03225/laws.FnCarrySave", spec := "fnCarrySave", unfollowed := true, recurses := true, apart := false }
def FnCarrySaveSaid : Prop := fnCarrySaveRow.holds Try.pinned (OpenSpec.ofChange fnCarrySaveSpec)

/-- ITS FALSE NEIGHBOUR: 'it returns false'. Refute it at one input. -/
def fnCarrySaveWrong : ChangeSpec := { name := "fnCarrySave", fn := fun _ => fun
  | [d] => { results := [.lit (.bool false)], args := [d] }
  | _ => none }
def FnCarrySaveWrongFalsely : Prop := fnCarrySaveRow.holds Try.pinned (OpenSpec.ofChange fnCarrySaveWrong)

/-- 'laws.FnPowers': WHATEVER THE INPUT: true; the input reads as it did. -/
def fnPowersSpec : ChangeSpec := { name := "fnPowers", fn := fun _ => fun
  | [d] => { results := [.lit (.bool true)], args := [d] }
  | _ => none }
def fnPowersRow : OpenClaim := { program := "ytcgfcnpiekcofaa", sum := "f98c20bbdced2b35714f642b92d4858f51a06ad814abb9f1f6cd2139ac0a588c", func := "loop.example/g03225/laws.FnPowers", spec := "fnPowers", apart := false }
def FnPowersSaid : Prop := fnPowersRow.holds Try.pinned (OpenSpec.ofChange fnPowersSpec)

/-- ITS FALSE NEIGHBOUR: 'it returns false'. Refute it at one input. -/
def fnPowersWrong : ChangeSpec := { name := "fnPowers", fn := fun _ => fun
  | [d] => { results := [.lit (.bool false)], args := [d] }
  | _ => none }
def FnPowersWrongFalsely : Prop := fnPowersRow.holds Try.pinned (OpenSpec.ofChange fnPowersWrong)

/-- 'laws.FnExactPowerWord': WHATEVER THE INPUT: true; the input reads as it did. -/
def fnExactPowerWordSpec : ChangeSpec := { name := "fnExactPowerWord", fn := fun _ => fun
  | [d1, d2] => { results := [.lit (.bool true)], args := [d1, d2] }
  | _ => none }
def fnExactPowerWordRow : OpenClaim := { program := "ytcgfcnpiekcofaa", sum := "f98c20bbdced2b35714f642b92d4858f51a06ad814abb9f1f6cd2139ac0a588c", func := "loop.example/g03225/laws.FnExactPowerWord", spec := "fnExactPowerWord", apart := false }
def FnExactPowerWordSaid : Prop := fnExactPowerWordRow.holds Try.pinned (OpenSpec.ofChange fnExactPowerWordSpec)

/-- ITS FALSE NEIGHBOUR: 'it returns false'. Refute it at one input. -/
def fnExactPowerWordWrong : ChangeSpec := { name := "fnExactPowerWord", fn := fun _ => fun
  | [d1, d2] => { results := [.lit (.bool false)], args := [d1, d2] }
  | _ => none }
def FnExactPowerWordWrongFalsely : Prop := fnExactPowerWordRow.holds Try.pinned (OpenSpec.ofChange fnExactPowerWordWrong)

/-- 'laws.FnRedundant': WHATEVER THE INPUT: true; the input reads as it did. -/
def fnRedundantSpec : ChangeSpec := { name := "fnRedundant", fn := fun _ => fun
  | [d] => { results := [.lit (.bool true)], args := [d] }
  | _ => none }
def fnRedundantRow : OpenClaim := { program := "ytcgfcnpiekcofaa", sum := "f98c20bbdced2b35714f642b92d4858f51a06ad814abb9f1f6cd2139ac0a588c", func := "loop.example/g03225/laws.FnRedundant", spec := "fnRedundant", unfollowed := true, recurses := true, apart := false }
def FnRedundantSaid : Prop := fnRedundantRow.holds Try.pinned (OpenSpec.ofChange fnRedundantSpec)

/-- ITS FALSE NEIGHBOUR: 'it returns false'. Refute it at one input. -/
def fnRedundantWrong : ChangeSpec := { name := "fnRedundant", fn := fun _ => fun
  | [d] => { results := [.lit (.bool false)], args := [d] }
  | _ => none }
def FnRedundantWrongFalsely : Prop := fnRedundantRow.holds Try.pinned (OpenSpec.ofChange fnRedundantWrong)

/-- 'laws.FnExactTreeSum': WHATEVER THE INPUT: true; the input reads as it did. -/
def fnExactTreeSumSpec : ChangeSpec := { name := "fnExactTreeSum", fn := fun _ => fun
  | [d] => { results := [.lit (.bool true)], args := [d] }
  | _ => none }
def fnExactTreeSumRow : OpenClaim := { program := "ytcgfcnpiekcofaa", sum := "f98c20bbdced2b35714f642b92d4858f51a06ad814abb9f1f6cd2139ac0a588c", func := "loop.example/g03225/laws.FnExactTreeSum", spec := "fnExactTreeSum", unfollowed := true, recurses := true, apart := false }
def FnExactTreeSumSaid : Prop := fnExactTreeSumRow.holds Try.pinned (OpenSpec.ofChange fnExactTreeSumSpec)

/-- ITS FALSE NEIGHBOUR: 'it returns false'. Refute it at one input. -/
def fnExactTreeSumWrong : ChangeSpec := { name := "fnExactTreeSum", fn := fun _ => fun
  | [d] => { results := [.lit (.bool false)], args := [d] }
  | _ => none }
def FnExactTreeSumWrongFalsely : Prop := fnExactTreeSumRow.holds Try.pinned (OpenSpec.ofChange fnExactTreeSumWrong)

/- THE SECOND FORM. 'bulk': how many values and letters a reading holds, each counted each time it is reached (what is shared counts as often as it is met; a slice's spare places count too). A statement '..UptoSaid' is the law's where the arguments, and the package variables that the reading takes, are together of bulk at most 1048576: NARROWER than '..Said'. Prove '..Said' where nothing that the law and all that it calls make is longer than what came in: it says more and counts as full. Else prove '..UptoSaid'. A law counts once. -/
mutual
def uptoBulk {H : Type} : DataW H → Nat
  | .lit (.string bytes) => bytes.length + 1
  | .lit _ => 1
  | .nil => 1
  | .ptr d => uptoBulk d + 1
  | .slice elems spare => uptoBulkAll elems + uptoBulkAll spare + 1
  | .agg parts => uptoBulkAll parts + 1
  | .iface _ d => uptoBulk d + 1
  | .map entries => uptoBulkEntries entries + 1
  | .held _ => 1
def uptoBulkAll {H : Type} : List (DataW H) → Nat
  | [] => 0
  | d :: r => uptoBulk d + uptoBulkAll r
def uptoBulkEntries {H : Type} : List (Lit × DataW H) → Nat
  | [] => 0
  | x :: r => uptoBulkEntry x + uptoBulkEntries r
def uptoBulkEntry {H : Type} : Lit × DataW H → Nat
  | (.string bytes, d) => bytes.length + uptoBulk d + 1
  | (_, d) => uptoBulk d + 1
 end
def uptoSmall : (H : Type) → List (DataW H) → Bool := fun _ ds => decide (uptoBulkAll ds ≤ 1048576)
def OpenSpec.upto (s : _root_.Go.ChangeSpec) : _root_.Go.OpenSpec := { _root_.Go.OpenSpec.ofChange s with cond := some uptoSmall }

/-- 'laws.FnExactCarriesOf', WHERE WHAT IT READS IS OF BULK AT MOST 1048576: true; the input reads as it did. -/
def fnExactCarriesOfUptoRow : OpenClaim := { program := "ytcgfcnpiekcofaa", sum := "f98c20bbdced2b35714f642b92d4858f51a06ad814abb9f1f6cd2139ac0a588c", func := "loop.example/g03225/laws.FnExactCarriesOf", spec := "fnExactCarriesOf", unfollowed := true, recurses := true, apart := false, narrowed := true }
def FnExactCarriesOfUptoSaid : Prop := fnExactCarriesOfUptoRow.holds Try.pinned (OpenSpec.upto fnExactCarriesOfSpec)

/-- 'laws.FnExactAddAhead', WHERE WHAT IT READS IS OF BULK AT MOST 1048576: true; the input reads as it did. -/
def fnExactAddAheadUptoRow : OpenClaim := { program := "ytcgfcnpiekcofaa", sum := "f98c20bbdced2b35714f642b92d4858f51a06ad814abb9f1f6cd2139ac0a588c", func := "loop.example/g03225/laws.FnExactAddAhead", spec := "fnExactAddAhead", unfollowed := true, recurses := true, apart := false, narrowed := true }
def FnExactAddAheadUptoSaid : Prop := fnExactAddAheadUptoRow.holds Try.pinned (OpenSpec.upto fnExactAddAheadSpec)

/-- 'laws.FnExactNormalRedundant', WHERE WHAT IT READS IS OF BULK AT MOST 1048576: true; the input reads as it did. -/
def fnExactNormalRedundantUptoRow : OpenClaim := { program := "ytcgfcnpiekcofaa", sum := "f98c20bbdced2b35714f642b92d4858f51a06ad814abb9f1f6cd2139ac0a588c", func := "loop.example/g03225/laws.FnExactNormalRedundant", spec := "fnExactNormalRedundant", unfollowed := true, recurses := true, apart := false, narrowed := true }
def FnExactNormalRedundantUptoSaid : Prop := fnExactNormalRedundantUptoRow.holds Try.pinned (OpenSpec.upto fnExactNormalRedundantSpec)

/-- 'laws.FnProducts', WHERE WHAT IT READS IS OF BULK AT MOST 1048576: true; the input reads as it did. -/
def fnProductsUptoRow : OpenClaim := { program := "ytcgfcnpiekcofaa", sum := "f98c20bbdced2b35714f642b92d4858f51a06ad814abb9f1f6cd2139ac0a588c", func := "loop.example/g03225/laws.FnProducts", spec := "fnProducts", unfollowed := true, recurses := true, apart := false, narrowed := true }
def FnProductsUptoSaid : Prop := fnProductsUptoRow.holds Try.pinned (OpenSpec.upto fnProductsSpec)

/-- 'laws.FnAdders', WHERE WHAT IT READS IS OF BULK AT MOST 1048576: true; the input reads as it did. -/
def fnAddersUptoRow : OpenClaim := { program := "ytcgfcnpiekcofaa", sum := "f98c20bbdced2b35714f642b92d4858f51a06ad814abb9f1f6cd2139ac0a588c", func := "loop.example/g03225/laws.FnAdders", spec := "fnAdders", unfollowed := true, recurses := true, apart := false, narrowed := true }
def FnAddersUptoSaid : Prop := fnAddersUptoRow.holds Try.pinned (OpenSpec.upto fnAddersSpec)

/-- 'laws.FnExactSubWords', WHERE WHAT IT READS IS OF BULK AT MOST 1048576: true; the input reads as it did. -/
def fnExactSubWordsUptoRow : OpenClaim := { program := "ytcgfcnpiekcofaa", sum := "f98c20bbdced2b35714f642b92d4858f51a06ad814abb9f1f6cd2139ac0a588c", func := "loop.example/g03225/laws.FnExactSubWords", spec := "fnExactSubWords", unfollowed := true, recurses := true, apart := false, narrowed := true }
def FnExactSubWordsUptoSaid : Prop := fnExactSubWordsUptoRow.holds Try.pinned (OpenSpec.upto fnExactSubWordsSpec)

/-- 'laws.FnCarrySave', WHERE WHAT IT READS IS OF BULK AT MOST 1048576: true; the input reads as it did. -/
def fnCarrySaveUptoRow : OpenClaim := { program := "ytcgfcnpiekcofaa", sum := "f98c20bbdced2b35714f642b92d4858f51a06ad814abb9f1f6cd2139ac0a588c", func := "loop.example/g03225/laws.FnCarrySave", spec := "fnCarrySave", unfollowed := true, recurses := true, apart := false, narrowed := true }
def FnCarrySaveUptoSaid : Prop := fnCarrySaveUptoRow.holds Try.pinned (OpenSpec.upto fnCarrySaveSpec)

/-- 'laws.FnPowers', WHERE WHAT IT READS IS OF BULK AT MOST 1048576: true; the input reads as it did. -/
def fnPowersUptoRow : OpenClaim := { program := "ytcgfcnpiekcofaa", sum := "f98c20bbdced2b35714f642b92d4858f51a06ad814abb9f1f6cd2139ac0a588c", func := "loop.example/g03225/laws.FnPowers", spec := "fnPowers", apart := false, narrowed := true }
def FnPowersUptoSaid : Prop := fnPowersUptoRow.holds Try.pinned (OpenSpec.upto fnPowersSpec)

/-- 'laws.FnExactPowerWord', WHERE WHAT IT READS IS OF BULK AT MOST 1048576: true; the input reads as it did. -/
def fnExactPowerWordUptoRow : OpenClaim := { program := "ytcgfcnpiekcofaa", sum := "f98c20bbdced2b35714f642b92d4858f51a06ad814abb9f1f6cd2139ac0a588c", func := "loop.example/g03225/laws.FnExactPowerWord", spec := "fnExactPowerWord", apart := false, narrowed := true }
def FnExactPowerWordUptoSaid : Prop := fnExactPowerWordUptoRow.holds Try.pinned (OpenSpec.upto fnExactPowerWordSpec)

/-- 'laws.FnRedundant', WHERE WHAT IT READS IS OF BULK AT MOST 1048576: true; the input reads as it did. -/
def fnRedundantUptoRow : OpenClaim := { program := "ytcgfcnpiekcofaa", sum := "f98c20bbdced2b35714f642b92d4858f51a06ad814abb9f1f6cd2139ac0a588c", func := "loop.example/g03225/laws.FnRedundant", spec := "fnRedundant", unfollowed := true, recurses := true, apart := false, narrowed := true }
def FnRedundantUptoSaid : Prop := fnRedundantUptoRow.holds Try.pinned (OpenSpec.upto fnRedundantSpec)

/-- 'laws.FnExactTreeSum', WHERE WHAT IT READS IS OF BULK AT MOST 1048576: true; the input reads as it did. -/
def fnExactTreeSumUptoRow : OpenClaim := { program := "ytcgfcnpiekcofaa", sum := "f98c20bbdced2b35714f642b92d4858f51a06ad814abb9f1f6cd2139ac0a588c", func := "loop.example/g03225/laws.FnExactTreeSum", spec := "fnExactTreeSum", unfollowed := true, recurses := true, apart := false, narrowed := true }
def FnExactTreeSumUptoSaid : Prop := fnExactTreeSumUptoRow.holds Try.pinned (OpenSpec.upto fnExactTreeSumSpec)

end Rows
end Go.Proofs.Ytcgfcnpiekcofaa
