/-
  No cell of these rows narrows 'for every input' (looked for: loops, veiled, ifaces, maps, wideKeys, modest, calm, conditions, laid).
  DERIVED. THE GIVEN ROWS OF THIS SEAT. 6 by the template 'for every input the law returns true; each argument reads behind the call as it read before'; 0 by the template 'total and deterministic' (their statements: YthaaockbapbooaaTotals.lean).
  GIVEN WITH THE SEED: the statements are not yours to turn. If you find one false, say at which input.
  Laid BY PROGRAM, IN A SANDBOX (cutbox-rows.mjs): the forced cells as the released guide's own fill.sh prints them over the translation c68c38bdf519da1e… (all of the seat's roots in one cut). By AI agents, Wed Nov 11 2026. No macro, syntax, notation, axiom, sorry.
-/
import Derived.Test.YthaaockbapbooaaChecked
import GoSem.Claim
import GoSem.ClaimJoined
import GoSem.ClaimMapViews
import Derived.JoinedTies
import Derived.KernelRfl
namespace Go.Proofs.Ythaaockbapbooaa
/- THE CELL 'sum', in the pinned program and in every row, IS THE sha256 OF THE DUMP (.gsa) THAT YthaaockbapbooaaProg.lean LOADS. Nothing in Lean hashes anything: it is a label: what it is worth is what the hold of that sum in a sandbox is worth. -/
noncomputable def Try.pinned : Pinned := { name := "ythaaockbapbooaa", sum := "c68c38bdf519da1ec10d3d798f3960855b44605ea61e0ee21699cae2984e6741", checked := Try.checked }
namespace Rows
def none {H : Type} : Left H := { results := [], args := [] }

/-- 'semblancelaw51.RelabelOf': WHATEVER THE INPUT: true; the input reads as it did. -/
def relabelOfSpec : ChangeSpec := { name := "relabelOf", fn := fun _ => fun
  | [d1, d2, d3] => { results := [.lit (.bool true)], args := [d1, d2, d3] }
  | _ => none }
def relabelOfRow : OpenClaim := { program := "ythaaockbapbooaa", sum := "c68c38bdf519da1ec10d3d798f3960855b44605ea61e0ee21699cae2984e6741", func := "semblance/semblancelaw51.RelabelOf", spec := "relabelOf", unfollowed := true, recurses := true, apart := false }
def RelabelOfSaid : Prop := relabelOfRow.holds Try.pinned (OpenSpec.ofChange relabelOfSpec)

/-- ITS FALSE NEIGHBOUR: 'it returns false'. Refute it at one input. -/
def relabelOfWrong : ChangeSpec := { name := "relabelOf", fn := fun _ => fun
  | [d1, d2, d3] => { results := [.lit (.bool false)], args := [d1, d2, d3] }
  | _ => none }
def RelabelOfWrongFalsely : Prop := relabelOfRow.holds Try.pinned (OpenSpec.ofChange relabelOfWrong)

/-- 'semblancelaw50.ProductOf': WHATEVER THE INPUT: true; the input reads as it did. -/
def productOfSpec : ChangeSpec := { name := "productOf", fn := fun _ => fun
  | [d1, d2, d3] => { results := [.lit (.bool true)], args := [d1, d2, d3] }
  | _ => none }
def productOfRow : OpenClaim := { program := "ythaaockbapbooaa", sum := "c68c38bdf519da1ec10d3d798f3960855b44605ea61e0ee21699cae2984e6741", func := "semblance/semblancelaw50.ProductOf", spec := "productOf", unfollowed := true, recurses := true, apart := false }
def ProductOfSaid : Prop := productOfRow.holds Try.pinned (OpenSpec.ofChange productOfSpec)

/-- ITS FALSE NEIGHBOUR: 'it returns false'. Refute it at one input. -/
def productOfWrong : ChangeSpec := { name := "productOf", fn := fun _ => fun
  | [d1, d2, d3] => { results := [.lit (.bool false)], args := [d1, d2, d3] }
  | _ => none }
def ProductOfWrongFalsely : Prop := productOfRow.holds Try.pinned (OpenSpec.ofChange productOfWrong)

/-- 'semblancelaw50.ProductFull': WHATEVER THE INPUT: true; the input reads as it did. -/
def productFullSpec : ChangeSpec := { name := "productFull", fn := fun _ => fun
  | [d1, d2] => { results := [.lit (.bool true)], args := [d1, d2] }
  | _ => none }
def productFullRow : OpenClaim := { program := "ythaaockbapbooaa", sum := "c68c38bdf519da1ec10d3d798f3960855b44605ea61e0ee21699cae2984e6741", func := "semblance/semblancelaw50.ProductFull", spec := "productFull", unfollowed := true, recurses := true, apart := false }
def ProductFullSaid : Prop := productFullRow.holds Try.pinned (OpenSpec.ofChange productFullSpec)

/-- ITS FALSE NEIGHBOUR: 'it returns false'. Refute it at one input. -/
def productFullWrong : ChangeSpec := { name := "productFull", fn := fun _ => fun
  | [d1, d2] => { results := [.lit (.bool false)], args := [d1, d2] }
  | _ => none }
def ProductFullWrongFalsely : Prop := productFullRow.holds Try.pinned (OpenSpec.ofChange productFullWrong)

/-- 'semblancelaw26.LtsChecks': WHATEVER THE INPUT: true; the input reads as it did. -/
def ltsChecksSpec : ChangeSpec := { name := "ltsChecks", fn := fun _ => fun
  | [d] => { results := [.lit (.bool true)], args := [d] }
  | _ => none }
def ltsChecksRow : OpenClaim := { program := "ythaaockbapbooaa", sum := "c68c38bdf519da1ec10d3d798f3960855b44605ea61e0ee21699cae2984e6741", func := "semblance/semblancelaw26.LtsChecks", spec := "ltsChecks", unfollowed := true, recurses := true, apart := false }
def LtsChecksSaid : Prop := ltsChecksRow.holds Try.pinned (OpenSpec.ofChange ltsChecksSpec)

/-- ITS FALSE NEIGHBOUR: 'it returns false'. Refute it at one input. -/
def ltsChecksWrong : ChangeSpec := { name := "ltsChecks", fn := fun _ => fun
  | [d] => { results := [.lit (.bool false)], args := [d] }
  | _ => none }
def LtsChecksWrongFalsely : Prop := ltsChecksRow.holds Try.pinned (OpenSpec.ofChange ltsChecksWrong)

/-- 'semblancelaw26.LtsTells': WHATEVER THE INPUT: true; the input reads as it did. -/
def ltsTellsSpec : ChangeSpec := { name := "ltsTells", fn := fun _ => fun
  | [d1, d2, d3] => { results := [.lit (.bool true)], args := [d1, d2, d3] }
  | _ => none }
def ltsTellsRow : OpenClaim := { program := "ythaaockbapbooaa", sum := "c68c38bdf519da1ec10d3d798f3960855b44605ea61e0ee21699cae2984e6741", func := "semblance/semblancelaw26.LtsTells", spec := "ltsTells", unfollowed := true, recurses := true, apart := false }
def LtsTellsSaid : Prop := ltsTellsRow.holds Try.pinned (OpenSpec.ofChange ltsTellsSpec)

/-- ITS FALSE NEIGHBOUR: 'it returns false'. Refute it at one input. -/
def ltsTellsWrong : ChangeSpec := { name := "ltsTells", fn := fun _ => fun
  | [d1, d2, d3] => { results := [.lit (.bool false)], args := [d1, d2, d3] }
  | _ => none }
def LtsTellsWrongFalsely : Prop := ltsTellsRow.holds Try.pinned (OpenSpec.ofChange ltsTellsWrong)

/-- 'semblancelaw26.LtsReached': WHATEVER THE INPUT: true; the input reads as it did. -/
def ltsReachedSpec : ChangeSpec := { name := "ltsReached", fn := fun _ => fun
  | [d1, d2] => { results := [.lit (.bool true)], args := [d1, d2] }
  | _ => none }
def ltsReachedRow : OpenClaim := { program := "ythaaockbapbooaa", sum := "c68c38bdf519da1ec10d3d798f3960855b44605ea61e0ee21699cae2984e6741", func := "semblance/semblancelaw26.LtsReached", spec := "ltsReached", unfollowed := true, recurses := true, apart := false }
def LtsReachedSaid : Prop := ltsReachedRow.holds Try.pinned (OpenSpec.ofChange ltsReachedSpec)

/-- ITS FALSE NEIGHBOUR: 'it returns false'. Refute it at one input. -/
def ltsReachedWrong : ChangeSpec := { name := "ltsReached", fn := fun _ => fun
  | [d1, d2] => { results := [.lit (.bool false)], args := [d1, d2] }
  | _ => none }
def LtsReachedWrongFalsely : Prop := ltsReachedRow.holds Try.pinned (OpenSpec.ofChange ltsReachedWrong)

/- THE SECOND FORM. 'bulk': how many values and letters a reading holds, each counted each time it is reached (what is shared counts as often as it is met; a slice's spare places count too). A statement '..UptoSaid' is the law's where the arguments, and the package variables that the reading takes, are together of bulk at most 1048576: NARROWER than '..Said'. Prove '..Said' where nothing that the law and all that it calls make is longer than what came in: it says more and counts as full. Else prove '..UptoSaid'. A law counts once. -/
mutual
def uptoBulk {H : Type} : DataW H → Nat
  | .lit (.string bytes) => bytes.length + 1
  | .lit _ => 1
  | .nil => 1
  | .ptr d => uptoBulk d + 1
  | .slice elems spare => uptoBulkAll elems + uptoBulkAll spare + 1
  | .agg parts => uptoBulkAll parts + 1
  | .iface _ d => uptoBulk d + 1
  | .map entries => uptoBulkEntries entries + 1
  | .held _ => 1
def uptoBulkAll {H : Type} : List (DataW H) → Nat
  | [] => 0
  | d :: r => uptoBulk d + uptoBulkAll r
def uptoBulkEntries {H : Type} : List (Lit × DataW H) → Nat
  | [] => 0
  | x :: r => uptoBulkEntry x + uptoBulkEntries r
def uptoBulkEntry {H : Type} : Lit × DataW H → Nat
  | (.string bytes, d) => bytes.length + uptoBulk d + 1
  | (_, d) => uptoBulk d + 1
 end
def uptoSmall : (H : Type) → List (DataW H) → Bool := fun _ ds => decide (uptoBulkAll ds ≤ 1048576)
def OpenSpec.upto (s : _root_.Go.ChangeSpec) : _root_.Go.OpenSpec := { _root_.Go.OpenSpec.ofChange s with cond := some uptoSmall }

/-- 'semblancelaw51.RelabelOf', WHERE WHAT IT READS IS OF BULK AT MOST 1048576: true; the input reads as it did. -/
def relabelOfUptoRow : OpenClaim := { program := "ythaaockbapbooaa", sum := "c68c38bdf519da1ec10d3d798f3960855b44605ea61e0ee21699cae2984e6741", func := "semblance/semblancelaw51.RelabelOf", spec := "relabelOf", unfollowed := true, recurses := true, apart := false, narrowed := true }
def RelabelOfUptoSaid : Prop := relabelOfUptoRow.holds Try.pinned (OpenSpec.upto relabelOfSpec)

/-- 'semblancelaw50.ProductOf', WHERE WHAT IT READS IS OF BULK AT MOST 1048576: true; the input reads as it did. -/
def productOfUptoRow : OpenClaim := { program := "ythaaockbapbooaa", sum := "c68c38bdf519da1ec10d3d798f3960855b44605ea61e0ee21699cae2984e6741", func := "semblance/semblancelaw50.ProductOf", spec := "productOf", unfollowed := true, recurses := true, apart := false, narrowed := true }
def ProductOfUptoSaid : Prop := productOfUptoRow.holds Try.pinned (OpenSpec.upto productOfSpec)

/-- 'semblancelaw50.ProductFull', WHERE WHAT IT READS IS OF BULK AT MOST 1048576: true; the input reads as it did. -/
def productFullUptoRow : OpenClaim := { program := "ythaaockbapbooaa", sum := "c68c38bdf519da1ec10d3d798f3960855b44605ea61e0ee21699cae2984e6741", func := "semblance/semblancelaw50.ProductFull", spec := "productFull", unfollowed := true, recurses := true, apart := false, narrowed := true }
def ProductFullUptoSaid : Prop := productFullUptoRow.holds Try.pinned (OpenSpec.upto productFullSpec)

/-- 'semblancelaw26.LtsChecks', WHERE WHAT IT READS IS OF BULK AT MOST 1048576: true; the input reads as it did. -/
def ltsChecksUptoRow : OpenClaim := { program := "ythaaockbapbooaa", sum := "c68c38bdf519da1ec10d3d798f3960855b44605ea61e0ee21699cae2984e6741", func := "semblance/semblancelaw26.LtsChecks", spec := "ltsChecks", unfollowed := true, recurses := true, apart := false, narrowed := true }
def LtsChecksUptoSaid : Prop := ltsChecksUptoRow.holds Try.pinned (OpenSpec.upto ltsChecksSpec)

/-- 'semblancelaw26.LtsTells', WHERE WHAT IT READS IS OF BULK AT MOST 1048576: true; the input reads as it did. -/
def ltsTellsUptoRow : OpenClaim := { program := "ythaaockbapbooaa", sum := "c68c38bdf519da1ec10d3d798f3960855b44605ea61e0ee21699cae2984e6741", func := "semblance/semblancelaw26.LtsTells", spec := "ltsTells", unfollowed := true, recurses := true, apart := false, narrowed := true }
def LtsTellsUptoSaid : Prop := ltsTellsUptoRow.holds Try.pinned (OpenSpec.upto ltsTellsSpec)

/-- 'semblancelaw26.LtsReached', WHERE WHAT IT READS IS OF BULK AT MOST 1048576: true; the input reads as it did. -/
def ltsReachedUptoRow : OpenClaim := { program := "ythaaockbapbooaa", sum := "c68c38bdf519da1ec10d3d798f3960855b44605ea61e0ee21699cae2984e6741", func := "semblance/semblancelaw26.LtsReached", spec := "ltsReached", unfollowed := true, recurses := true, apart := false, narrowed := true }
def LtsReachedUptoSaid : Prop := ltsReachedUptoRow.holds Try.pinned (OpenSpec.upto ltsReachedSpec)

end Rows
end Go.Proofs.Ythaaockbapbooaa
