/-
  No cell of these rows narrows 'for every input' (looked for: loops, veiled, ifaces, maps, wideKeys, modest, calm, conditions, laid).
  DERIVED. THE GIVEN ROWS OF THIS SEAT. 12 by the template 'for every input the law returns true; each argument reads behind the call as it read before'; 0 by the template 'total and deterministic' (their statements: YtmcbkmfpmcbdpaaTotals.lean).
  GIVEN WITH THE SEED: the statements are not yours to turn. If you find one false, say at which input.
  Laid BY PROGRAM, IN A SANDBOX (cutbox-rows.mjs): the forced cells as the released guide's own fill.sh prints them over the translation db7208012e974afe… (all of the seat's roots in one cut). By AI agents, Wed Nov 11 2026. No macro, syntax, notation, axiom, sorry.
-/
import Derived.Test.YtmcbkmfpmcbdpaaChecked
import GoSem.Claim
import GoSem.ClaimJoined
import GoSem.ClaimMapViews
import Derived.JoinedTies
import Derived.KernelRfl
namespace Go.Proofs.Ytmcbkmfpmcbdpaa
/- THE CELL 'sum', in the pinned program and in every row, IS THE sha256 OF THE DUMP (.gsa) THAT YtmcbkmfpmcbdpaaProg.lean LOADS. Nothing in Lean hashes anything: it is a label: what it is worth is what the hold of that sum in a sandbox is worth. -/
noncomputable def Try.pinned : Pinned := { name := "ytmcbkmfpmcbdpaa", sum := "db7208012e974afe917542b9fc0a91cd75bc866e9135efe90cf6f51ec495d77b", checked := Try.checked }
namespace Rows
def none {H : Type} : Left H := { results := [], args := [] }

/-- 'semblancelaw34.RefineOf': WHATEVER THE INPUT: true; the input reads as it did. -/
def refineOfSpec : ChangeSpec := { name := "refineOf", fn := fun _ => fun
  | [d1, d2, d3] => { results := [.lit (.bool true)], args := [d1, d2, d3] }
  | _ => none }
def refineOfRow : OpenClaim := { program := "ytmcbkmfpmcbdpaa", sum := "db7208012e974afe917542b9fc0a91cd75bc866e9135efe90cf6f51ec495d77b", func := "semblance/semblancelaw34.RefineOf", spec := "refineOf", unfollowed := true, recurses := true, plainKeys := false, apart := false }
def RefineOfSaid : Prop := refineOfRow.holds Try.pinned (OpenSpec.ofChange refineOfSpec)

/-- ITS FALSE NEIGHBOUR: 'it returns false'. Refute it at one input. -/
def refineOfWrong : ChangeSpec := { name := "refineOf", fn := fun _ => fun
  | [d1, d2, d3] => { results := [.lit (.bool false)], args := [d1, d2, d3] }
  | _ => none }
def RefineOfWrongFalsely : Prop := refineOfRow.holds Try.pinned (OpenSpec.ofChange refineOfWrong)

/-- 'semblancelaw49.CoverOf': WHATEVER THE INPUT: true; the input reads as it did. -/
def coverOfSpec : ChangeSpec := { name := "coverOf", fn := fun _ => fun
  | [d1, d2] => { results := [.lit (.bool true)], args := [d1, d2] }
  | _ => none }
def coverOfRow : OpenClaim := { program := "ytmcbkmfpmcbdpaa", sum := "db7208012e974afe917542b9fc0a91cd75bc866e9135efe90cf6f51ec495d77b", func := "semblance/semblancelaw49.CoverOf", spec := "coverOf", unfollowed := true, recurses := true, plainKeys := false, apart := false }
def CoverOfSaid : Prop := coverOfRow.holds Try.pinned (OpenSpec.ofChange coverOfSpec)

/-- ITS FALSE NEIGHBOUR: 'it returns false'. Refute it at one input. -/
def coverOfWrong : ChangeSpec := { name := "coverOf", fn := fun _ => fun
  | [d1, d2] => { results := [.lit (.bool false)], args := [d1, d2] }
  | _ => none }
def CoverOfWrongFalsely : Prop := coverOfRow.holds Try.pinned (OpenSpec.ofChange coverOfWrong)

/-- 'semblancelaw35.BisimBlocks': WHATEVER THE INPUT: true; the input reads as it did. -/
def bisimBlocksSpec : ChangeSpec := { name := "bisimBlocks", fn := fun _ => fun
  | [d] => { results := [.lit (.bool true)], args := [d] }
  | _ => none }
def bisimBlocksRow : OpenClaim := { program := "ytmcbkmfpmcbdpaa", sum := "db7208012e974afe917542b9fc0a91cd75bc866e9135efe90cf6f51ec495d77b", func := "semblance/semblancelaw35.BisimBlocks", spec := "bisimBlocks", unfollowed := true, recurses := true, plainKeys := false, apart := false }
def BisimBlocksSaid : Prop := bisimBlocksRow.holds Try.pinned (OpenSpec.ofChange bisimBlocksSpec)

/-- ITS FALSE NEIGHBOUR: 'it returns false'. Refute it at one input. -/
def bisimBlocksWrong : ChangeSpec := { name := "bisimBlocks", fn := fun _ => fun
  | [d] => { results := [.lit (.bool false)], args := [d] }
  | _ => none }
def BisimBlocksWrongFalsely : Prop := bisimBlocksRow.holds Try.pinned (OpenSpec.ofChange bisimBlocksWrong)

/-- 'semblancelaw52.DeadOf': WHATEVER THE INPUT: true; the input reads as it did. -/
def deadOfSpec : ChangeSpec := { name := "deadOf", fn := fun _ => fun
  | [d] => { results := [.lit (.bool true)], args := [d] }
  | _ => none }
def deadOfRow : OpenClaim := { program := "ytmcbkmfpmcbdpaa", sum := "db7208012e974afe917542b9fc0a91cd75bc866e9135efe90cf6f51ec495d77b", func := "semblance/semblancelaw52.DeadOf", spec := "deadOf", unfollowed := true, recurses := true, plainKeys := false, apart := false }
def DeadOfSaid : Prop := deadOfRow.holds Try.pinned (OpenSpec.ofChange deadOfSpec)

/-- ITS FALSE NEIGHBOUR: 'it returns false'. Refute it at one input. -/
def deadOfWrong : ChangeSpec := { name := "deadOf", fn := fun _ => fun
  | [d] => { results := [.lit (.bool false)], args := [d] }
  | _ => none }
def DeadOfWrongFalsely : Prop := deadOfRow.holds Try.pinned (OpenSpec.ofChange deadOfWrong)

/-- 'semblancelaw51.RelabelOf': WHATEVER THE INPUT: true; the input reads as it did. -/
def relabelOfSpec : ChangeSpec := { name := "relabelOf", fn := fun _ => fun
  | [d1, d2, d3] => { results := [.lit (.bool true)], args := [d1, d2, d3] }
  | _ => none }
def relabelOfRow : OpenClaim := { program := "ytmcbkmfpmcbdpaa", sum := "db7208012e974afe917542b9fc0a91cd75bc866e9135efe90cf6f51ec495d77b", func := "semblance/semblancelaw51.RelabelOf", spec := "relabelOf", unfollowed := true, recurses := true, plainKeys := false, apart := false }
def RelabelOfSaid : Prop := relabelOfRow.holds Try.pinned (OpenSpec.ofChange relabelOfSpec)

/-- ITS FALSE NEIGHBOUR: 'it returns false'. Refute it at one input. -/
def relabelOfWrong : ChangeSpec := { name := "relabelOf", fn := fun _ => fun
  | [d1, d2, d3] => { results := [.lit (.bool false)], args := [d1, d2, d3] }
  | _ => none }
def RelabelOfWrongFalsely : Prop := relabelOfRow.holds Try.pinned (OpenSpec.ofChange relabelOfWrong)

/-- 'semblancelaw36.QuotOf': WHATEVER THE INPUT: true; the input reads as it did. -/
def quotOfSpec : ChangeSpec := { name := "quotOf", fn := fun _ => fun
  | [d1, d2] => { results := [.lit (.bool true)], args := [d1, d2] }
  | _ => none }
def quotOfRow : OpenClaim := { program := "ytmcbkmfpmcbdpaa", sum := "db7208012e974afe917542b9fc0a91cd75bc866e9135efe90cf6f51ec495d77b", func := "semblance/semblancelaw36.QuotOf", spec := "quotOf", unfollowed := true, recurses := true, plainKeys := false, apart := false }
def QuotOfSaid : Prop := quotOfRow.holds Try.pinned (OpenSpec.ofChange quotOfSpec)

/-- ITS FALSE NEIGHBOUR: 'it returns false'. Refute it at one input. -/
def quotOfWrong : ChangeSpec := { name := "quotOf", fn := fun _ => fun
  | [d1, d2] => { results := [.lit (.bool false)], args := [d1, d2] }
  | _ => none }
def QuotOfWrongFalsely : Prop := quotOfRow.holds Try.pinned (OpenSpec.ofChange quotOfWrong)

/-- 'semblancelaw36.QuotLeast': WHATEVER THE INPUT: true; the input reads as it did. -/
def quotLeastSpec : ChangeSpec := { name := "quotLeast", fn := fun _ => fun
  | [d] => { results := [.lit (.bool true)], args := [d] }
  | _ => none }
def quotLeastRow : OpenClaim := { program := "ytmcbkmfpmcbdpaa", sum := "db7208012e974afe917542b9fc0a91cd75bc866e9135efe90cf6f51ec495d77b", func := "semblance/semblancelaw36.QuotLeast", spec := "quotLeast", unfollowed := true, recurses := true, plainKeys := false, apart := false }
def QuotLeastSaid : Prop := quotLeastRow.holds Try.pinned (OpenSpec.ofChange quotLeastSpec)

/-- ITS FALSE NEIGHBOUR: 'it returns false'. Refute it at one input. -/
def quotLeastWrong : ChangeSpec := { name := "quotLeast", fn := fun _ => fun
  | [d] => { results := [.lit (.bool false)], args := [d] }
  | _ => none }
def QuotLeastWrongFalsely : Prop := quotLeastRow.holds Try.pinned (OpenSpec.ofChange quotLeastWrong)

/-- 'semblancelaw52.DeadTogether': WHATEVER THE INPUT: true; the input reads as it did. -/
def deadTogetherSpec : ChangeSpec := { name := "deadTogether", fn := fun _ => fun
  | [d] => { results := [.lit (.bool true)], args := [d] }
  | _ => none }
def deadTogetherRow : OpenClaim := { program := "ytmcbkmfpmcbdpaa", sum := "db7208012e974afe917542b9fc0a91cd75bc866e9135efe90cf6f51ec495d77b", func := "semblance/semblancelaw52.DeadTogether", spec := "deadTogether", unfollowed := true, recurses := true, plainKeys := false, apart := false }
def DeadTogetherSaid : Prop := deadTogetherRow.holds Try.pinned (OpenSpec.ofChange deadTogetherSpec)

/-- ITS FALSE NEIGHBOUR: 'it returns false'. Refute it at one input. -/
def deadTogetherWrong : ChangeSpec := { name := "deadTogether", fn := fun _ => fun
  | [d] => { results := [.lit (.bool false)], args := [d] }
  | _ => none }
def DeadTogetherWrongFalsely : Prop := deadTogetherRow.holds Try.pinned (OpenSpec.ofChange deadTogetherWrong)

/-- 'semblancelaw51.RelabelKeeps': WHATEVER THE INPUT: true; the input reads as it did. -/
def relabelKeepsSpec : ChangeSpec := { name := "relabelKeeps", fn := fun _ => fun
  | [d1, d2, d3] => { results := [.lit (.bool true)], args := [d1, d2, d3] }
  | _ => none }
def relabelKeepsRow : OpenClaim := { program := "ytmcbkmfpmcbdpaa", sum := "db7208012e974afe917542b9fc0a91cd75bc866e9135efe90cf6f51ec495d77b", func := "semblance/semblancelaw51.RelabelKeeps", spec := "relabelKeeps", unfollowed := true, recurses := true, plainKeys := false, apart := false }
def RelabelKeepsSaid : Prop := relabelKeepsRow.holds Try.pinned (OpenSpec.ofChange relabelKeepsSpec)

/-- ITS FALSE NEIGHBOUR: 'it returns false'. Refute it at one input. -/
def relabelKeepsWrong : ChangeSpec := { name := "relabelKeeps", fn := fun _ => fun
  | [d1, d2, d3] => { results := [.lit (.bool false)], args := [d1, d2, d3] }
  | _ => none }
def RelabelKeepsWrongFalsely : Prop := relabelKeepsRow.holds Try.pinned (OpenSpec.ofChange relabelKeepsWrong)

/-- 'semblancelaw50.ProductKeeps': WHATEVER THE INPUT: true; the input reads as it did. -/
def productKeepsSpec : ChangeSpec := { name := "productKeeps", fn := fun _ => fun
  | [d1, d2] => { results := [.lit (.bool true)], args := [d1, d2] }
  | _ => none }
def productKeepsRow : OpenClaim := { program := "ytmcbkmfpmcbdpaa", sum := "db7208012e974afe917542b9fc0a91cd75bc866e9135efe90cf6f51ec495d77b", func := "semblance/semblancelaw50.ProductKeeps", spec := "productKeeps", unfollowed := true, recurses := true, plainKeys := false, apart := false }
def ProductKeepsSaid : Prop := productKeepsRow.holds Try.pinned (OpenSpec.ofChange productKeepsSpec)

/-- ITS FALSE NEIGHBOUR: 'it returns false'. Refute it at one input. -/
def productKeepsWrong : ChangeSpec := { name := "productKeeps", fn := fun _ => fun
  | [d1, d2] => { results := [.lit (.bool false)], args := [d1, d2] }
  | _ => none }
def ProductKeepsWrongFalsely : Prop := productKeepsRow.holds Try.pinned (OpenSpec.ofChange productKeepsWrong)

/-- 'semblancelaw57.WeakOf': WHATEVER THE INPUT: true; the input reads as it did. -/
def weakOfSpec : ChangeSpec := { name := "weakOf", fn := fun _ => fun
  | [d1, d2, d3] => { results := [.lit (.bool true)], args := [d1, d2, d3] }
  | _ => none }
def weakOfRow : OpenClaim := { program := "ytmcbkmfpmcbdpaa", sum := "db7208012e974afe917542b9fc0a91cd75bc866e9135efe90cf6f51ec495d77b", func := "semblance/semblancelaw57.WeakOf", spec := "weakOf", unfollowed := true, recurses := true, plainKeys := false, apart := false }
def WeakOfSaid : Prop := weakOfRow.holds Try.pinned (OpenSpec.ofChange weakOfSpec)

/-- ITS FALSE NEIGHBOUR: 'it returns false'. Refute it at one input. -/
def weakOfWrong : ChangeSpec := { name := "weakOf", fn := fun _ => fun
  | [d1, d2, d3] => { results := [.lit (.bool false)], args := [d1, d2, d3] }
  | _ => none }
def WeakOfWrongFalsely : Prop := weakOfRow.holds Try.pinned (OpenSpec.ofChange weakOfWrong)

/-- 'semblancelaw36.QuotFollows': WHATEVER THE INPUT: true; the input reads as it did. -/
def quotFollowsSpec : ChangeSpec := { name := "quotFollows", fn := fun _ => fun
  | [d1, d2] => { results := [.lit (.bool true)], args := [d1, d2] }
  | _ => none }
def quotFollowsRow : OpenClaim := { program := "ytmcbkmfpmcbdpaa", sum := "db7208012e974afe917542b9fc0a91cd75bc866e9135efe90cf6f51ec495d77b", func := "semblance/semblancelaw36.QuotFollows", spec := "quotFollows", unfollowed := true, recurses := true, plainKeys := false, apart := false }
def QuotFollowsSaid : Prop := quotFollowsRow.holds Try.pinned (OpenSpec.ofChange quotFollowsSpec)

/-- ITS FALSE NEIGHBOUR: 'it returns false'. Refute it at one input. -/
def quotFollowsWrong : ChangeSpec := { name := "quotFollows", fn := fun _ => fun
  | [d1, d2] => { results := [.lit (.bool false)], args := [d1, d2] }
  | _ => none }
def QuotFollowsWrongFalsely : Prop := quotFollowsRow.holds Try.pinned (OpenSpec.ofChange quotFollowsWrong)

/- THE SECOND FORM. 'bulk': how many values and letters a reading holds, each counted each time it is reached (what is shared counts as often as it is met; a slice's spare places count too). A statement '..UptoSaid' is the law's where the arguments, and the package variables that the reading takes, are together of bulk at most 1048576: NARROWER than '..Said'. Prove '..Said' where nothing that the law and all that it calls make is longer than what came in: it says more and counts as full. Else prove '..UptoSaid'. A law counts once. -/
mutual
def uptoBulk {H : Type} : DataW H → Nat
  | .lit (.string bytes) => bytes.length + 1
  | .lit _ => 1
  | .nil => 1
  | .ptr d => uptoBulk d + 1
  | .slice elems spare => uptoBulkAll elems + uptoBulkAll spare + 1
  | .agg parts => uptoBulkAll parts + 1
  | .iface _ d => uptoBulk d + 1
  | .map entries => uptoBulkEntries entries + 1
  | .held _ => 1
def uptoBulkAll {H : Type} : List (DataW H) → Nat
  | [] => 0
  | d :: r => uptoBulk d + uptoBulkAll r
def uptoBulkEntries {H : Type} : List (Lit × DataW H) → Nat
  | [] => 0
  | x :: r => uptoBulkEntry x + uptoBulkEntries r
def uptoBulkEntry {H : Type} : Lit × DataW H → Nat
  | (.string bytes, d) => bytes.length + uptoBulk d + 1
  | (_, d) => uptoBulk d + 1
 end
def uptoSmall : (H : Type) → List (DataW H) → Bool := fun _ ds => decide (uptoBulkAll ds ≤ 1048576)
def OpenSpec.upto (s : _root_.Go.ChangeSpec) : _root_.Go.OpenSpec := { _root_.Go.OpenSpec.ofChange s with cond := some uptoSmall }

/-- 'semblancelaw34.RefineOf', WHERE WHAT IT READS IS OF BULK AT MOST 1048576: true; the input reads as it did. -/
def refineOfUptoRow : OpenClaim := { program := "ytmcbkmfpmcbdpaa", sum := "db7208012e974afe917542b9fc0a91cd75bc866e9135efe90cf6f51ec495d77b", func := "semblance/semblancelaw34.RefineOf", spec := "refineOf", unfollowed := true, recurses := true, plainKeys := false, apart := false, narrowed := true }
def RefineOfUptoSaid : Prop := refineOfUptoRow.holds Try.pinned (OpenSpec.upto refineOfSpec)

/-- 'semblancelaw49.CoverOf', WHERE WHAT IT READS IS OF BULK AT MOST 1048576: true; the input reads as it did. -/
def coverOfUptoRow : OpenClaim := { program := "ytmcbkmfpmcbdpaa", sum := "db7208012e974afe917542b9fc0a91cd75bc866e9135efe90cf6f51ec495d77b", func := "semblance/semblancelaw49.CoverOf", spec := "coverOf", unfollowed := true, recurses := true, plainKeys := false, apart := false, narrowed := true }
def CoverOfUptoSaid : Prop := coverOfUptoRow.holds Try.pinned (OpenSpec.upto coverOfSpec)

/-- 'semblancelaw35.BisimBlocks', WHERE WHAT IT READS IS OF BULK AT MOST 1048576: true; the input reads as it did. -/
def bisimBlocksUptoRow : OpenClaim := { program := "ytmcbkmfpmcbdpaa", sum := "db7208012e974afe917542b9fc0a91cd75bc866e9135efe90cf6f51ec495d77b", func := "semblance/semblancelaw35.BisimBlocks", spec := "bisimBlocks", unfollowed := true, recurses := true, plainKeys := false, apart := false, narrowed := true }
def BisimBlocksUptoSaid : Prop := bisimBlocksUptoRow.holds Try.pinned (OpenSpec.upto bisimBlocksSpec)

/-- 'semblancelaw52.DeadOf', WHERE WHAT IT READS IS OF BULK AT MOST 1048576: true; the input reads as it did. -/
def deadOfUptoRow : OpenClaim := { program := "ytmcbkmfpmcbdpaa", sum := "db7208012e974afe917542b9fc0a91cd75bc866e9135efe90cf6f51ec495d77b", func := "semblance/semblancelaw52.DeadOf", spec := "deadOf", unfollowed := true, recurses := true, plainKeys := false, apart := false, narrowed := true }
def DeadOfUptoSaid : Prop := deadOfUptoRow.holds Try.pinned (OpenSpec.upto deadOfSpec)

/-- 'semblancelaw51.RelabelOf', WHERE WHAT IT READS IS OF BULK AT MOST 1048576: true; the input reads as it did. -/
def relabelOfUptoRow : OpenClaim := { program := "ytmcbkmfpmcbdpaa", sum := "db7208012e974afe917542b9fc0a91cd75bc866e9135efe90cf6f51ec495d77b", func := "semblance/semblancelaw51.RelabelOf", spec := "relabelOf", unfollowed := true, recurses := true, plainKeys := false, apart := false, narrowed := true }
def RelabelOfUptoSaid : Prop := relabelOfUptoRow.holds Try.pinned (OpenSpec.upto relabelOfSpec)

/-- 'semblancelaw36.QuotOf', WHERE WHAT IT READS IS OF BULK AT MOST 1048576: true; the input reads as it did. -/
def quotOfUptoRow : OpenClaim := { program := "ytmcbkmfpmcbdpaa", sum := "db7208012e974afe917542b9fc0a91cd75bc866e9135efe90cf6f51ec495d77b", func := "semblance/semblancelaw36.QuotOf", spec := "quotOf", unfollowed := true, recurses := true, plainKeys := false, apart := false, narrowed := true }
def QuotOfUptoSaid : Prop := quotOfUptoRow.holds Try.pinned (OpenSpec.upto quotOfSpec)

/-- 'semblancelaw36.QuotLeast', WHERE WHAT IT READS IS OF BULK AT MOST 1048576: true; the input reads as it did. -/
def quotLeastUptoRow : OpenClaim := { program := "ytmcbkmfpmcbdpaa", sum := "db7208012e974afe917542b9fc0a91cd75bc866e9135efe90cf6f51ec495d77b", func := "semblance/semblancelaw36.QuotLeast", spec := "quotLeast", unfollowed := true, recurses := true, plainKeys := false, apart := false, narrowed := true }
def QuotLeastUptoSaid : Prop := quotLeastUptoRow.holds Try.pinned (OpenSpec.upto quotLeastSpec)

/-- 'semblancelaw52.DeadTogether', WHERE WHAT IT READS IS OF BULK AT MOST 1048576: true; the input reads as it did. -/
def deadTogetherUptoRow : OpenClaim := { program := "ytmcbkmfpmcbdpaa", sum := "db7208012e974afe917542b9fc0a91cd75bc866e9135efe90cf6f51ec495d77b", func := "semblance/semblancelaw52.DeadTogether", spec := "deadTogether", unfollowed := true, recurses := true, plainKeys := false, apart := false, narrowed := true }
def DeadTogetherUptoSaid : Prop := deadTogetherUptoRow.holds Try.pinned (OpenSpec.upto deadTogetherSpec)

/-- 'semblancelaw51.RelabelKeeps', WHERE WHAT IT READS IS OF BULK AT MOST 1048576: true; the input reads as it did. -/
def relabelKeepsUptoRow : OpenClaim := { program := "ytmcbkmfpmcbdpaa", sum := "db7208012e974afe917542b9fc0a91cd75bc866e9135efe90cf6f51ec495d77b", func := "semblance/semblancelaw51.RelabelKeeps", spec := "relabelKeeps", unfollowed := true, recurses := true, plainKeys := false, apart := false, narrowed := true }
def RelabelKeepsUptoSaid : Prop := relabelKeepsUptoRow.holds Try.pinned (OpenSpec.upto relabelKeepsSpec)

/-- 'semblancelaw50.ProductKeeps', WHERE WHAT IT READS IS OF BULK AT MOST 1048576: true; the input reads as it did. -/
def productKeepsUptoRow : OpenClaim := { program := "ytmcbkmfpmcbdpaa", sum := "db7208012e974afe917542b9fc0a91cd75bc866e9135efe90cf6f51ec495d77b", func := "semblance/semblancelaw50.ProductKeeps", spec := "productKeeps", unfollowed := true, recurses := true, plainKeys := false, apart := false, narrowed := true }
def ProductKeepsUptoSaid : Prop := productKeepsUptoRow.holds Try.pinned (OpenSpec.upto productKeepsSpec)

/-- 'semblancelaw57.WeakOf', WHERE WHAT IT READS IS OF BULK AT MOST 1048576: true; the input reads as it did. -/
def weakOfUptoRow : OpenClaim := { program := "ytmcbkmfpmcbdpaa", sum := "db7208012e974afe917542b9fc0a91cd75bc866e9135efe90cf6f51ec495d77b", func := "semblance/semblancelaw57.WeakOf", spec := "weakOf", unfollowed := true, recurses := true, plainKeys := false, apart := false, narrowed := true }
def WeakOfUptoSaid : Prop := weakOfUptoRow.holds Try.pinned (OpenSpec.upto weakOfSpec)

/-- 'semblancelaw36.QuotFollows', WHERE WHAT IT READS IS OF BULK AT MOST 1048576: true; the input reads as it did. -/
def quotFollowsUptoRow : OpenClaim := { program := "ytmcbkmfpmcbdpaa", sum := "db7208012e974afe917542b9fc0a91cd75bc866e9135efe90cf6f51ec495d77b", func := "semblance/semblancelaw36.QuotFollows", spec := "quotFollows", unfollowed := true, recurses := true, plainKeys := false, apart := false, narrowed := true }
def QuotFollowsUptoSaid : Prop := quotFollowsUptoRow.holds Try.pinned (OpenSpec.upto quotFollowsSpec)

end Rows
end Go.Proofs.Ytmcbkmfpmcbdpaa
