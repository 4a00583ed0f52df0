/-
  No cell of these rows narrows 'for every input' (looked for: loops, veiled, ifaces, maps, wideKeys, modest, calm, conditions, laid).
  DERIVED. THE GIVEN ROWS OF THIS SEAT. 12 by the template 'for every input the law returns true; each argument reads behind the call as it read before'; 0 by the template 'total and deterministic' (their statements: YtmpiokdomjchiaaTotals.lean).
  GIVEN WITH THE SEED: the statements are not yours to turn. If you find one false, say at which input.
  Laid BY PROGRAM, IN A SANDBOX (cutbox-rows.mjs): the forced cells as the released guide's own fill.sh prints them over the translation 04f712b41f7d8758… (all of the seat's roots in one cut). By AI agents, Wed Nov 11 2026. No macro, syntax, notation, axiom, sorry.
-/
import Derived.Test.YtmpiokdomjchiaaChecked
import GoSem.Claim
import GoSem.ClaimJoined
import GoSem.ClaimMapViews
import Derived.JoinedTies
import Derived.KernelRfl
namespace Go.Proofs.Ytmpiokdomjchiaa
/- THE CELL 'sum', in the pinned program and in every row, IS THE sha256 OF THE DUMP (.gsa) THAT YtmpiokdomjchiaaProg.lean LOADS. Nothing in Lean hashes anything: it is a label: what it is worth is what the hold of that sum in a sandbox is worth. -/
noncomputable def Try.pinned : Pinned := { name := "ytmpiokdomjchiaa", sum := "04f712b41f7d87586db59788d1fcac9ba950f3faf92eee072c5e2d8a46e13ef4", checked := Try.checked }
namespace Rows
def none {H : Type} : Left H := { results := [], args := [] }

/-- 'semblancelaw35.BisimIs': WHATEVER THE INPUT: true; the input reads as it did. -/
def bisimIsSpec : ChangeSpec := { name := "bisimIs", fn := fun _ => fun
  | [d1, d2] => { results := [.lit (.bool true)], args := [d1, d2] }
  | _ => none }
def bisimIsRow : OpenClaim := { program := "ytmpiokdomjchiaa", sum := "04f712b41f7d87586db59788d1fcac9ba950f3faf92eee072c5e2d8a46e13ef4", func := "semblance/semblancelaw35.BisimIs", spec := "bisimIs", unfollowed := true, recurses := true, plainKeys := false, apart := false }
def BisimIsSaid : Prop := bisimIsRow.holds Try.pinned (OpenSpec.ofChange bisimIsSpec)

/-- ITS FALSE NEIGHBOUR: 'it returns false'. Refute it at one input. -/
def bisimIsWrong : ChangeSpec := { name := "bisimIs", fn := fun _ => fun
  | [d1, d2] => { results := [.lit (.bool false)], args := [d1, d2] }
  | _ => none }
def BisimIsWrongFalsely : Prop := bisimIsRow.holds Try.pinned (OpenSpec.ofChange bisimIsWrong)

/-- 'semblancelaw35.BisimGreatest': WHATEVER THE INPUT: true; the input reads as it did. -/
def bisimGreatestSpec : ChangeSpec := { name := "bisimGreatest", fn := fun _ => fun
  | [d1, d2, d3] => { results := [.lit (.bool true)], args := [d1, d2, d3] }
  | _ => none }
def bisimGreatestRow : OpenClaim := { program := "ytmpiokdomjchiaa", sum := "04f712b41f7d87586db59788d1fcac9ba950f3faf92eee072c5e2d8a46e13ef4", func := "semblance/semblancelaw35.BisimGreatest", spec := "bisimGreatest", unfollowed := true, recurses := true, plainKeys := false, apart := false }
def BisimGreatestSaid : Prop := bisimGreatestRow.holds Try.pinned (OpenSpec.ofChange bisimGreatestSpec)

/-- ITS FALSE NEIGHBOUR: 'it returns false'. Refute it at one input. -/
def bisimGreatestWrong : ChangeSpec := { name := "bisimGreatest", fn := fun _ => fun
  | [d1, d2, d3] => { results := [.lit (.bool false)], args := [d1, d2, d3] }
  | _ => none }
def BisimGreatestWrongFalsely : Prop := bisimGreatestRow.holds Try.pinned (OpenSpec.ofChange bisimGreatestWrong)

/-- 'semblancelaw38.HoldAt': WHATEVER THE INPUT: true; the input reads as it did. -/
def holdAtSpec : ChangeSpec := { name := "holdAt", fn := fun _ => fun
  | [d1, d2, d3] => { results := [.lit (.bool true)], args := [d1, d2, d3] }
  | _ => none }
def holdAtRow : OpenClaim := { program := "ytmpiokdomjchiaa", sum := "04f712b41f7d87586db59788d1fcac9ba950f3faf92eee072c5e2d8a46e13ef4", func := "semblance/semblancelaw38.HoldAt", spec := "holdAt", unfollowed := true, recurses := true, plainKeys := false, apart := false }
def HoldAtSaid : Prop := holdAtRow.holds Try.pinned (OpenSpec.ofChange holdAtSpec)

/-- ITS FALSE NEIGHBOUR: 'it returns false'. Refute it at one input. -/
def holdAtWrong : ChangeSpec := { name := "holdAt", fn := fun _ => fun
  | [d1, d2, d3] => { results := [.lit (.bool false)], args := [d1, d2, d3] }
  | _ => none }
def HoldAtWrongFalsely : Prop := holdAtRow.holds Try.pinned (OpenSpec.ofChange holdAtWrong)

/-- 'semblancelaw40.TraceBehind': WHATEVER THE INPUT: true; the input reads as it did. -/
def traceBehindSpec : ChangeSpec := { name := "traceBehind", fn := fun _ => fun
  | [d1, d2, d3] => { results := [.lit (.bool true)], args := [d1, d2, d3] }
  | _ => none }
def traceBehindRow : OpenClaim := { program := "ytmpiokdomjchiaa", sum := "04f712b41f7d87586db59788d1fcac9ba950f3faf92eee072c5e2d8a46e13ef4", func := "semblance/semblancelaw40.TraceBehind", spec := "traceBehind", unfollowed := true, recurses := true, plainKeys := false, apart := false }
def TraceBehindSaid : Prop := traceBehindRow.holds Try.pinned (OpenSpec.ofChange traceBehindSpec)

/-- ITS FALSE NEIGHBOUR: 'it returns false'. Refute it at one input. -/
def traceBehindWrong : ChangeSpec := { name := "traceBehind", fn := fun _ => fun
  | [d1, d2, d3] => { results := [.lit (.bool false)], args := [d1, d2, d3] }
  | _ => none }
def TraceBehindWrongFalsely : Prop := traceBehindRow.holds Try.pinned (OpenSpec.ofChange traceBehindWrong)

/-- 'semblancelaw40.TraceOf': WHATEVER THE INPUT: true; the input reads as it did. -/
def traceOfSpec : ChangeSpec := { name := "traceOf", fn := fun _ => fun
  | [d1, d2, d3] => { results := [.lit (.bool true)], args := [d1, d2, d3] }
  | _ => none }
def traceOfRow : OpenClaim := { program := "ytmpiokdomjchiaa", sum := "04f712b41f7d87586db59788d1fcac9ba950f3faf92eee072c5e2d8a46e13ef4", func := "semblance/semblancelaw40.TraceOf", spec := "traceOf", unfollowed := true, recurses := true, plainKeys := false, apart := false }
def TraceOfSaid : Prop := traceOfRow.holds Try.pinned (OpenSpec.ofChange traceOfSpec)

/-- ITS FALSE NEIGHBOUR: 'it returns false'. Refute it at one input. -/
def traceOfWrong : ChangeSpec := { name := "traceOf", fn := fun _ => fun
  | [d1, d2, d3] => { results := [.lit (.bool false)], args := [d1, d2, d3] }
  | _ => none }
def TraceOfWrongFalsely : Prop := traceOfRow.holds Try.pinned (OpenSpec.ofChange traceOfWrong)

/-- 'semblancelaw40.TraceTells': WHATEVER THE INPUT: true; the input reads as it did. -/
def traceTellsSpec : ChangeSpec := { name := "traceTells", fn := fun _ => fun
  | [d1, d2, d3] => { results := [.lit (.bool true)], args := [d1, d2, d3] }
  | _ => none }
def traceTellsRow : OpenClaim := { program := "ytmpiokdomjchiaa", sum := "04f712b41f7d87586db59788d1fcac9ba950f3faf92eee072c5e2d8a46e13ef4", func := "semblance/semblancelaw40.TraceTells", spec := "traceTells", unfollowed := true, recurses := true, plainKeys := false, apart := false }
def TraceTellsSaid : Prop := traceTellsRow.holds Try.pinned (OpenSpec.ofChange traceTellsSpec)

/-- ITS FALSE NEIGHBOUR: 'it returns false'. Refute it at one input. -/
def traceTellsWrong : ChangeSpec := { name := "traceTells", fn := fun _ => fun
  | [d1, d2, d3] => { results := [.lit (.bool false)], args := [d1, d2, d3] }
  | _ => none }
def TraceTellsWrongFalsely : Prop := traceTellsRow.holds Try.pinned (OpenSpec.ofChange traceTellsWrong)

/-- 'semblancelaw34.RefineOf': WHATEVER THE INPUT: true; the input reads as it did. -/
def refineOfSpec : ChangeSpec := { name := "refineOf", fn := fun _ => fun
  | [d1, d2, d3] => { results := [.lit (.bool true)], args := [d1, d2, d3] }
  | _ => none }
def refineOfRow : OpenClaim := { program := "ytmpiokdomjchiaa", sum := "04f712b41f7d87586db59788d1fcac9ba950f3faf92eee072c5e2d8a46e13ef4", func := "semblance/semblancelaw34.RefineOf", spec := "refineOf", unfollowed := true, recurses := true, plainKeys := false, apart := false }
def RefineOfSaid : Prop := refineOfRow.holds Try.pinned (OpenSpec.ofChange refineOfSpec)

/-- ITS FALSE NEIGHBOUR: 'it returns false'. Refute it at one input. -/
def refineOfWrong : ChangeSpec := { name := "refineOf", fn := fun _ => fun
  | [d1, d2, d3] => { results := [.lit (.bool false)], args := [d1, d2, d3] }
  | _ => none }
def RefineOfWrongFalsely : Prop := refineOfRow.holds Try.pinned (OpenSpec.ofChange refineOfWrong)

/-- 'semblancelaw41.SimGreatest': WHATEVER THE INPUT: true; the input reads as it did. -/
def simGreatestSpec : ChangeSpec := { name := "simGreatest", fn := fun _ => fun
  | [d1, d2, d3] => { results := [.lit (.bool true)], args := [d1, d2, d3] }
  | _ => none }
def simGreatestRow : OpenClaim := { program := "ytmpiokdomjchiaa", sum := "04f712b41f7d87586db59788d1fcac9ba950f3faf92eee072c5e2d8a46e13ef4", func := "semblance/semblancelaw41.SimGreatest", spec := "simGreatest", unfollowed := true, recurses := true, plainKeys := false, apart := false }
def SimGreatestSaid : Prop := simGreatestRow.holds Try.pinned (OpenSpec.ofChange simGreatestSpec)

/-- ITS FALSE NEIGHBOUR: 'it returns false'. Refute it at one input. -/
def simGreatestWrong : ChangeSpec := { name := "simGreatest", fn := fun _ => fun
  | [d1, d2, d3] => { results := [.lit (.bool false)], args := [d1, d2, d3] }
  | _ => none }
def SimGreatestWrongFalsely : Prop := simGreatestRow.holds Try.pinned (OpenSpec.ofChange simGreatestWrong)

/-- 'semblancelaw40.TraceBisims': WHATEVER THE INPUT: true; the input reads as it did. -/
def traceBisimsSpec : ChangeSpec := { name := "traceBisims", fn := fun _ => fun
  | [d1, d2, d3] => { results := [.lit (.bool true)], args := [d1, d2, d3] }
  | _ => none }
def traceBisimsRow : OpenClaim := { program := "ytmpiokdomjchiaa", sum := "04f712b41f7d87586db59788d1fcac9ba950f3faf92eee072c5e2d8a46e13ef4", func := "semblance/semblancelaw40.TraceBisims", spec := "traceBisims", unfollowed := true, recurses := true, plainKeys := false, apart := false }
def TraceBisimsSaid : Prop := traceBisimsRow.holds Try.pinned (OpenSpec.ofChange traceBisimsSpec)

/-- ITS FALSE NEIGHBOUR: 'it returns false'. Refute it at one input. -/
def traceBisimsWrong : ChangeSpec := { name := "traceBisims", fn := fun _ => fun
  | [d1, d2, d3] => { results := [.lit (.bool false)], args := [d1, d2, d3] }
  | _ => none }
def TraceBisimsWrongFalsely : Prop := traceBisimsRow.holds Try.pinned (OpenSpec.ofChange traceBisimsWrong)

/-- 'semblancelaw49.CoverOf': WHATEVER THE INPUT: true; the input reads as it did. -/
def coverOfSpec : ChangeSpec := { name := "coverOf", fn := fun _ => fun
  | [d1, d2] => { results := [.lit (.bool true)], args := [d1, d2] }
  | _ => none }
def coverOfRow : OpenClaim := { program := "ytmpiokdomjchiaa", sum := "04f712b41f7d87586db59788d1fcac9ba950f3faf92eee072c5e2d8a46e13ef4", func := "semblance/semblancelaw49.CoverOf", spec := "coverOf", unfollowed := true, recurses := true, plainKeys := false, apart := false }
def CoverOfSaid : Prop := coverOfRow.holds Try.pinned (OpenSpec.ofChange coverOfSpec)

/-- ITS FALSE NEIGHBOUR: 'it returns false'. Refute it at one input. -/
def coverOfWrong : ChangeSpec := { name := "coverOf", fn := fun _ => fun
  | [d1, d2] => { results := [.lit (.bool false)], args := [d1, d2] }
  | _ => none }
def CoverOfWrongFalsely : Prop := coverOfRow.holds Try.pinned (OpenSpec.ofChange coverOfWrong)

/-- 'semblancelaw35.BisimBlocks': WHATEVER THE INPUT: true; the input reads as it did. -/
def bisimBlocksSpec : ChangeSpec := { name := "bisimBlocks", fn := fun _ => fun
  | [d] => { results := [.lit (.bool true)], args := [d] }
  | _ => none }
def bisimBlocksRow : OpenClaim := { program := "ytmpiokdomjchiaa", sum := "04f712b41f7d87586db59788d1fcac9ba950f3faf92eee072c5e2d8a46e13ef4", func := "semblance/semblancelaw35.BisimBlocks", spec := "bisimBlocks", unfollowed := true, recurses := true, plainKeys := false, apart := false }
def BisimBlocksSaid : Prop := bisimBlocksRow.holds Try.pinned (OpenSpec.ofChange bisimBlocksSpec)

/-- ITS FALSE NEIGHBOUR: 'it returns false'. Refute it at one input. -/
def bisimBlocksWrong : ChangeSpec := { name := "bisimBlocks", fn := fun _ => fun
  | [d] => { results := [.lit (.bool false)], args := [d] }
  | _ => none }
def BisimBlocksWrongFalsely : Prop := bisimBlocksRow.holds Try.pinned (OpenSpec.ofChange bisimBlocksWrong)

/-- 'semblancelaw41.SimSays': WHATEVER THE INPUT: true; the input reads as it did. -/
def simSaysSpec : ChangeSpec := { name := "simSays", fn := fun _ => fun
  | [d1, d2, d3] => { results := [.lit (.bool true)], args := [d1, d2, d3] }
  | _ => none }
def simSaysRow : OpenClaim := { program := "ytmpiokdomjchiaa", sum := "04f712b41f7d87586db59788d1fcac9ba950f3faf92eee072c5e2d8a46e13ef4", func := "semblance/semblancelaw41.SimSays", spec := "simSays", unfollowed := true, recurses := true, plainKeys := false, apart := false }
def SimSaysSaid : Prop := simSaysRow.holds Try.pinned (OpenSpec.ofChange simSaysSpec)

/-- ITS FALSE NEIGHBOUR: 'it returns false'. Refute it at one input. -/
def simSaysWrong : ChangeSpec := { name := "simSays", fn := fun _ => fun
  | [d1, d2, d3] => { results := [.lit (.bool false)], args := [d1, d2, d3] }
  | _ => none }
def SimSaysWrongFalsely : Prop := simSaysRow.holds Try.pinned (OpenSpec.ofChange simSaysWrong)

/- THE SECOND FORM. 'bulk': how many values and letters a reading holds, each counted each time it is reached (what is shared counts as often as it is met; a slice's spare places count too). A statement '..UptoSaid' is the law's where the arguments, and the package variables that the reading takes, are together of bulk at most 1048576: NARROWER than '..Said'. Prove '..Said' where nothing that the law and all that it calls make is longer than what came in: it says more and counts as full. Else prove '..UptoSaid'. A law counts once. -/
mutual
def uptoBulk {H : Type} : DataW H → Nat
  | .lit (.string bytes) => bytes.length + 1
  | .lit _ => 1
  | .nil => 1
  | .ptr d => uptoBulk d + 1
  | .slice elems spare => uptoBulkAll elems + uptoBulkAll spare + 1
  | .agg parts => uptoBulkAll parts + 1
  | .iface _ d => uptoBulk d + 1
  | .map entries => uptoBulkEntries entries + 1
  | .held _ => 1
def uptoBulkAll {H : Type} : List (DataW H) → Nat
  | [] => 0
  | d :: r => uptoBulk d + uptoBulkAll r
def uptoBulkEntries {H : Type} : List (Lit × DataW H) → Nat
  | [] => 0
  | x :: r => uptoBulkEntry x + uptoBulkEntries r
def uptoBulkEntry {H : Type} : Lit × DataW H → Nat
  | (.string bytes, d) => bytes.length + uptoBulk d + 1
  | (_, d) => uptoBulk d + 1
 end
def uptoSmall : (H : Type) → List (DataW H) → Bool := fun _ ds => decide (uptoBulkAll ds ≤ 1048576)
def OpenSpec.upto (s : _root_.Go.ChangeSpec) : _root_.Go.OpenSpec := { _root_.Go.OpenSpec.ofChange s with cond := some uptoSmall }

/-- 'semblancelaw35.BisimIs', WHERE WHAT IT READS IS OF BULK AT MOST 1048576: true; the input reads as it did. -/
def bisimIsUptoRow : OpenClaim := { program := "ytmpiokdomjchiaa", sum := "04f712b41f7d87586db59788d1fcac9ba950f3faf92eee072c5e2d8a46e13ef4", func := "semblance/semblancelaw35.BisimIs", spec := "bisimIs", unfollowed := true, recurses := true, plainKeys := false, apart := false, narrowed := true }
def BisimIsUptoSaid : Prop := bisimIsUptoRow.holds Try.pinned (OpenSpec.upto bisimIsSpec)

/-- 'semblancelaw35.BisimGreatest', WHERE WHAT IT READS IS OF BULK AT MOST 1048576: true; the input reads as it did. -/
def bisimGreatestUptoRow : OpenClaim := { program := "ytmpiokdomjchiaa", sum := "04f712b41f7d87586db59788d1fcac9ba950f3faf92eee072c5e2d8a46e13ef4", func := "semblance/semblancelaw35.BisimGreatest", spec := "bisimGreatest", unfollowed := true, recurses := true, plainKeys := false, apart := false, narrowed := true }
def BisimGreatestUptoSaid : Prop := bisimGreatestUptoRow.holds Try.pinned (OpenSpec.upto bisimGreatestSpec)

/-- 'semblancelaw38.HoldAt', WHERE WHAT IT READS IS OF BULK AT MOST 1048576: true; the input reads as it did. -/
def holdAtUptoRow : OpenClaim := { program := "ytmpiokdomjchiaa", sum := "04f712b41f7d87586db59788d1fcac9ba950f3faf92eee072c5e2d8a46e13ef4", func := "semblance/semblancelaw38.HoldAt", spec := "holdAt", unfollowed := true, recurses := true, plainKeys := false, apart := false, narrowed := true }
def HoldAtUptoSaid : Prop := holdAtUptoRow.holds Try.pinned (OpenSpec.upto holdAtSpec)

/-- 'semblancelaw40.TraceBehind', WHERE WHAT IT READS IS OF BULK AT MOST 1048576: true; the input reads as it did. -/
def traceBehindUptoRow : OpenClaim := { program := "ytmpiokdomjchiaa", sum := "04f712b41f7d87586db59788d1fcac9ba950f3faf92eee072c5e2d8a46e13ef4", func := "semblance/semblancelaw40.TraceBehind", spec := "traceBehind", unfollowed := true, recurses := true, plainKeys := false, apart := false, narrowed := true }
def TraceBehindUptoSaid : Prop := traceBehindUptoRow.holds Try.pinned (OpenSpec.upto traceBehindSpec)

/-- 'semblancelaw40.TraceOf', WHERE WHAT IT READS IS OF BULK AT MOST 1048576: true; the input reads as it did. -/
def traceOfUptoRow : OpenClaim := { program := "ytmpiokdomjchiaa", sum := "04f712b41f7d87586db59788d1fcac9ba950f3faf92eee072c5e2d8a46e13ef4", func := "semblance/semblancelaw40.TraceOf", spec := "traceOf", unfollowed := true, recurses := true, plainKeys := false, apart := false, narrowed := true }
def TraceOfUptoSaid : Prop := traceOfUptoRow.holds Try.pinned (OpenSpec.upto traceOfSpec)

/-- 'semblancelaw40.TraceTells', WHERE WHAT IT READS IS OF BULK AT MOST 1048576: true; the input reads as it did. -/
def traceTellsUptoRow : OpenClaim := { program := "ytmpiokdomjchiaa", sum := "04f712b41f7d87586db59788d1fcac9ba950f3faf92eee072c5e2d8a46e13ef4", func := "semblance/semblancelaw40.TraceTells", spec := "traceTells", unfollowed := true, recurses := true, plainKeys := false, apart := false, narrowed := true }
def TraceTellsUptoSaid : Prop := traceTellsUptoRow.holds Try.pinned (OpenSpec.upto traceTellsSpec)

/-- 'semblancelaw34.RefineOf', WHERE WHAT IT READS IS OF BULK AT MOST 1048576: true; the input reads as it did. -/
def refineOfUptoRow : OpenClaim := { program := "ytmpiokdomjchiaa", sum := "04f712b41f7d87586db59788d1fcac9ba950f3faf92eee072c5e2d8a46e13ef4", func := "semblance/semblancelaw34.RefineOf", spec := "refineOf", unfollowed := true, recurses := true, plainKeys := false, apart := false, narrowed := true }
def RefineOfUptoSaid : Prop := refineOfUptoRow.holds Try.pinned (OpenSpec.upto refineOfSpec)

/-- 'semblancelaw41.SimGreatest', WHERE WHAT IT READS IS OF BULK AT MOST 1048576: true; the input reads as it did. -/
def simGreatestUptoRow : OpenClaim := { program := "ytmpiokdomjchiaa", sum := "04f712b41f7d87586db59788d1fcac9ba950f3faf92eee072c5e2d8a46e13ef4", func := "semblance/semblancelaw41.SimGreatest", spec := "simGreatest", unfollowed := true, recurses := true, plainKeys := false, apart := false, narrowed := true }
def SimGreatestUptoSaid : Prop := simGreatestUptoRow.holds Try.pinned (OpenSpec.upto simGreatestSpec)

/-- 'semblancelaw40.TraceBisims', WHERE WHAT IT READS IS OF BULK AT MOST 1048576: true; the input reads as it did. -/
def traceBisimsUptoRow : OpenClaim := { program := "ytmpiokdomjchiaa", sum := "04f712b41f7d87586db59788d1fcac9ba950f3faf92eee072c5e2d8a46e13ef4", func := "semblance/semblancelaw40.TraceBisims", spec := "traceBisims", unfollowed := true, recurses := true, plainKeys := false, apart := false, narrowed := true }
def TraceBisimsUptoSaid : Prop := traceBisimsUptoRow.holds Try.pinned (OpenSpec.upto traceBisimsSpec)

/-- 'semblancelaw49.CoverOf', WHERE WHAT IT READS IS OF BULK AT MOST 1048576: true; the input reads as it did. -/
def coverOfUptoRow : OpenClaim := { program := "ytmpiokdomjchiaa", sum := "04f712b41f7d87586db59788d1fcac9ba950f3faf92eee072c5e2d8a46e13ef4", func := "semblance/semblancelaw49.CoverOf", spec := "coverOf", unfollowed := true, recurses := true, plainKeys := false, apart := false, narrowed := true }
def CoverOfUptoSaid : Prop := coverOfUptoRow.holds Try.pinned (OpenSpec.upto coverOfSpec)

/-- 'semblancelaw35.BisimBlocks', WHERE WHAT IT READS IS OF BULK AT MOST 1048576: true; the input reads as it did. -/
def bisimBlocksUptoRow : OpenClaim := { program := "ytmpiokdomjchiaa", sum := "04f712b41f7d87586db59788d1fcac9ba950f3faf92eee072c5e2d8a46e13ef4", func := "semblance/semblancelaw35.BisimBlocks", spec := "bisimBlocks", unfollowed := true, recurses := true, plainKeys := false, apart := false, narrowed := true }
def BisimBlocksUptoSaid : Prop := bisimBlocksUptoRow.holds Try.pinned (OpenSpec.upto bisimBlocksSpec)

/-- 'semblancelaw41.SimSays', WHERE WHAT IT READS IS OF BULK AT MOST 1048576: true; the input reads as it did. -/
def simSaysUptoRow : OpenClaim := { program := "ytmpiokdomjchiaa", sum := "04f712b41f7d87586db59788d1fcac9ba950f3faf92eee072c5e2d8a46e13ef4", func := "semblance/semblancelaw41.SimSays", spec := "simSays", unfollowed := true, recurses := true, plainKeys := false, apart := false, narrowed := true }
def SimSaysUptoSaid : Prop := simSaysUptoRow.holds Try.pinned (OpenSpec.upto simSaysSpec)

end Rows
end Go.Proofs.Ytmpiokdomjchiaa
