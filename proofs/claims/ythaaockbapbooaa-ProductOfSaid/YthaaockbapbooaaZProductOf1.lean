/-
  Parts of the proof of ProductOf (joined by wip/tools/bundle.py), part 1: plain words and walks of the functions that the law reaches.
-/
import Derived.Test.YthaaockbapbooaaProg
import Derived.Below
import Derived.Deep.Draws
import Derived.Deep.AppendLies
import Derived.Maps.AppendAt
import Derived.OwnWalk
import Derived.Laws.BytesArg
import Derived.Laws.MakeOwn
import Derived.Laws.OwnMore
import Derived.Deep.OwnRows
import Derived.Tactics
import Derived.Lib.ConvBytes
import Derived.Laws.Slices
import Derived.WalkKit
import Derived.KernelRfl
import Derived.RowKit3
import Derived.Deep.LoopGhost
import Derived.Deep.QuietTactic
import Derived.BigQuiet
import Derived.WideLaws
import Derived.Deep.DeepCutAuto
import Derived.Deep.CutBlock
import Derived.Deep.RegionHeld3
import Derived.Laws.Rows
import Derived.Lib.AppendStr
import Derived.ArgAppend
import Derived.Laws.IdiomCopy
import Derived.OrdersHeld
import Derived.Laws.BitsLemmas
import Derived.RowKit
import Derived.Test.YthaaockbapbooaaWWords
import Derived.Test.YthaaockbapbooaaWLast
import Derived.Test.YthaaockbapbooaaWTab
import Derived.Test.YthaaockbapbooaaWApart
import Derived.Test.YthaaockbapbooaaWZeros
import Derived.Test.YthaaockbapbooaaWShare
import Derived.Test.YthaaockbapbooaaWN
import Derived.Test.YthaaockbapbooaaWEqStruct
import Derived.Test.YthaaockbapbooaaWRepsOne
import Derived.Test.YthaaockbapbooaaWGuard
import Derived.Test.YthaaockbapbooaaWMore
import Derived.WalkSpells
import Derived.Lib.Hide
import Derived.DeepKeys4
import Derived.Lib.SmallJoins
import Derived.OpenShut
import Derived.ProofKit
import Derived.Shelf.Small.Bits
import Derived.Shelf.Small.Wraps
import Derived.Shelf.Strconv.Itoa0
import Derived.Shelf.Sort.Plain
import Derived.Shelf.Slices.Turned
import Derived.Shelf.Slices.Equal
import Derived.Shelf.Slices.CompactS
import Derived.Shelf.Slices.Cells
import Derived.Shelf.Slices.In.SortNone
import Derived.Shelf.Slices.Empties2
import Derived.Shelf.SlSortCmp.NoneTotal
import Derived.Ground.SlsfProg
import Derived.Sort.OwnSorted
import Derived.Lib.OwnBridge
import Derived.Outline
import Derived.WalkLawsBesides
import Derived.Lib.SliceRun
import Derived.Lib.SlicesCompact
import Derived.Test.YthaaockbapbooaaRows
import Derived.ShutString
import Derived.ChangeOld
import Derived.SizedLaws
namespace Go.Proofs.Ythaaockbapbooaa.Pr
open Go.RowKit Go.Proofs.YthaaockbapbooaaW.PrintWords Go.Proofs.YthaaockbapbooaaW.PrintLast Go.Proofs.YthaaockbapbooaaW.PrintMore
attribute [local go_sem] max2_int min2_int max_two min_two max_three min_three max_four min_four
set_option linter.unusedVariables false
set_option linter.unusedSimpArgs false
def errW : Option Int → Value
 | none => .nilIface
 | some c => .iface 0 (.int .i64 c)
theorem errW_none : errW none = .nilIface := rfl
theorem errW_some (c : Int) : errW (some c) = .iface 0 (.int .i64 c) := rfl
theorem info9 : (Try.prog.info? 9).map (fun i => (i.zero, i.size, i.bytes)) = some (some (.string ⟨#[]⟩), 1, 16) := by kernel_rfl
theorem info51 : (Try.prog.info? 51).map (fun i => (i.zero, i.size, i.bytes)) = some (some (.agg #[(.int .i64 0), (.int .i64 0), (.int .i64 0)]), 3, 24) := by kernel_rfl
structure S51 where
  f0 : Int
  f1 : Int
  f2 : Int
def z51 : S51 := ⟨(0 : Int), (0 : Int), (0 : Int)⟩
def k51 : Kd S51 := Kd.iso (Kd.pair (Kd.int .i64) (Kd.pair (Kd.int .i64) (Kd.int .i64))) (fun x : S51 => (x.f0, x.f1, x.f2))
theorem k51_open {w : World} {x : S51} {cs : List Value} (h : k51.K w x cs) : cs = [.int .i64 x.f0, .int .i64 x.f1, .int .i64 x.f2] := by
 obtain ⟨_, _, rfl, rfl, ⟨_, _, rfl, rfl, rfl⟩⟩ := h
 exact rfl
theorem k51_openM {w : World} {base : Nat} {ok : Nat → Prop} {x : S51} {cs : List Value} (h : k51.M w base ok x cs) : cs = [.int .i64 x.f0, .int .i64 x.f1, .int .i64 x.f2] := by
 obtain ⟨_, _, rfl, rfl, ⟨_, _, rfl, rfl, rfl⟩⟩ := h
 exact rfl
theorem k51_mk (w : World) (x : S51)  : k51.K w x [.int .i64 x.f0, .int .i64 x.f1, .int .i64 x.f2] := ⟨[.int .i64 x.f0], [.int .i64 x.f1, .int .i64 x.f2], rfl, rfl, ⟨[.int .i64 x.f1], [.int .i64 x.f2], rfl, rfl, rfl⟩⟩
theorem k51_mkM (w : World) (base : Nat) (ok : Nat → Prop) (x : S51)  : k51.M w base ok x [.int .i64 x.f0, .int .i64 x.f1, .int .i64 x.f2] := ⟨[.int .i64 x.f0], [.int .i64 x.f1, .int .i64 x.f2], rfl, rfl, ⟨[.int .i64 x.f1], [.int .i64 x.f2], rfl, rfl, rfl⟩⟩
def rd_T51 (xs : List S51) (i : Int) : S51 := xs.getD i.toNat z51
theorem at_T51 {w : World} {A : Option Addr} {n : Nat} {xs : List S51} (h : Kd.C k51 w A n xs) (i : Int) (h0 : 0 ≤ i) (h1 : i < n) : ∃ ad , A = some ad ∧ w.cell? (ad.add (i.toNat * 3)) = some (.int .i64 (rd_T51 xs i).f0) ∧ w.cell? ⟨(ad.add (i.toNat * 3)).block, (ad.add (i.toNat * 3)).off + 1, none⟩ = some (.int .i64 (rd_T51 xs i).f1) ∧ w.cell? ⟨(ad.add (i.toNat * 3)).block, (ad.add (i.toNat * 3)).off + 2, none⟩ = some (.int .i64 (rd_T51 xs i).f2) := by
 obtain ⟨ad, c, e, _, hK, hc0⟩ := Kd.C_get h z51 i h0 h1
 have hc : ∀ j u, c[j]? = some u → w.cell? (ad.add (i.toNat * 3 + j)) = some u := hc0
 obtain rfl := k51_open hK
 exact ⟨ad, e, hc 0 _ rfl, by rw [← add_field _ _ 1 (by omega)]; exact hc 1 _ rfl, by rw [← add_field _ _ 2 (by omega)]; exact hc 2 _ rfl⟩
end Go.Proofs.Ythaaockbapbooaa.Pr
set_option linter.unusedVariables false
set_option linter.unusedSimpArgs false
namespace Go.Proofs.Ythaaockbapbooaa.Sem
open Go.Proofs.Ythaaockbapbooaa.Pr
abbrev Ed := S51
def cmpI (x y : Int) : Int := if x < y then -1 else if y < x then 1 else 0
def orL : List Int → Int
 | [] => 0
 | x :: r => if x != 0 then x else orL r
theorem orL_zero : ∀ (xs : List Int), (∀ j, j < xs.length → (xs.getD j 0 != 0) = false) → orL xs = 0
 | [], _ => rfl
 | x :: r, h => by
  have h0 := h 0 (by simp)
  simp only [List.getD_cons_zero] at h0
  simp only [orL, h0, Bool.false_eq_true, if_false]
  exact orL_zero r (fun j hj => by have := h (j + 1) (by simp; omega); simpa using this)
theorem orL_at : ∀ (xs : List Int) (k : Nat), (∀ j, j < k → (xs.getD j 0 != 0) = false) → k < xs.length → (xs.getD k 0 != 0) = true → orL xs = xs.getD k 0
 | [], k, _, h, _ => by simp at h
 | x :: r, 0, _, _, h => by simp only [List.getD_cons_zero] at h; simp [orL, h]
 | x :: r, k + 1, h, hl, hk => by
  have h0 := h 0 (by omega)
  simp only [List.getD_cons_zero] at h0
  simp only [orL, h0, Bool.false_eq_true, if_false]
  rw [orL_at r k (fun j hj => by have := h (j + 1) (by omega); simpa using this) (by simpa using hl) (by simpa using hk)]
  simp
def cmpE (a b : Ed) : Int := orL [cmpI a.f0 b.f0, cmpI a.f1 b.f1, cmpI a.f2 b.f2]
def elt (a b : Ed) : Prop := a.f0 < b.f0 ∨ a.f0 = b.f0 ∧ (a.f1 < b.f1 ∨ a.f1 = b.f1 ∧ a.f2 < b.f2)
instance (a b : Ed) : Decidable (elt a b) := by unfold elt; infer_instance
theorem cmpE_neg (a b : Ed) : cmpE a b < 0 ↔ elt a b := by
 unfold cmpE orL orL orL orL cmpI elt
 repeat' split
 all_goals simp_all
 all_goals omega
theorem cmpE_zero (a b : Ed) : cmpE a b = 0 ↔ a = b := by
 obtain ⟨a0, a1, a2⟩ := a
 obtain ⟨b0, b1, b2⟩ := b
 unfold cmpE orL orL orL orL cmpI
 simp only [S51.mk.injEq]
 repeat' split
 all_goals simp_all
 all_goals omega
def idxP {α : Type} (p : α → Bool) : List α → Int
 | [] => -1
 | x :: r => if p x then 0 else if idxP p r < 0 then -1 else idxP p r + 1
theorem idxP_none {α : Type} (p : α → Bool) (d : α) : ∀ (xs : List α), (∀ j, j < xs.length → p (xs.getD j d) = false) → idxP p xs = -1
 | [], _ => rfl
 | x :: r, h => by
  have h0 := h 0 (by simp)
  simp only [List.getD_cons_zero] at h0
  have ih := idxP_none p d r (fun j hj => by have := h (j + 1) (by simp; omega); simpa using this)
  simp [idxP, h0, ih]
theorem idxP_at {α : Type} (p : α → Bool) (d : α) : ∀ (xs : List α) (k : Nat), (∀ j, j < k → p (xs.getD j d) = false) → k < xs.length → p (xs.getD k d) = true → idxP p xs = (k : Int)
 | [], k, _, h, _ => by simp at h
 | x :: r, 0, _, _, h => by simp only [List.getD_cons_zero] at h; simp [idxP, h]
 | x :: r, k + 1, h, hl, hk => by
  have h0 := h 0 (by omega)
  simp only [List.getD_cons_zero] at h0
  have ih := idxP_at p d r k (fun j hj => by have := h (j + 1) (by omega); simpa using this) (by simpa using hl) (by simpa using hk)
  simp only [idxP, h0, ih]
  rw [if_neg (by simp), if_neg (by omega)]
  omega
theorem idxP_nonneg {α : Type} (p : α → Bool) : ∀ (xs : List α), decide (0 ≤ idxP p xs) = xs.any p
 | [] => rfl
 | x :: r => by
  have ih := idxP_nonneg p r
  cases hx : p x with
  | true => simp [idxP, hx]
  | false =>
   simp only [idxP, hx, List.any_cons, Bool.false_or]
   rw [← ih]
   simp only [Bool.false_eq_true, if_false]
   split
   ·rename_i h; rw [decide_eq_false (by omega), decide_eq_false (by omega)]
   ·rename_i h; rw [decide_eq_true (by omega), decide_eq_true (by omega)]
def tooLong (s : ByteArray) : Bool := decide (200 < s.size)
def okAt (n nl : Int) (es : List Ed) (k : Nat) : Bool :=
 decide (0 ≤ (es.getD k z51).f0 ∧ (es.getD k z51).f0 < n) && (decide (0 ≤ (es.getD k z51).f2 ∧ (es.getD k z51).f2 < n) &&
  (decide (0 ≤ (es.getD k z51).f1) && (decide ((es.getD k z51).f1 < nl) && (decide (k = 0) || decide (cmpE (es.getD (k - 1) z51) (es.getD k z51) < 0)))))
end Go.Proofs.Ythaaockbapbooaa.Sem
set_option linter.unusedVariables false
set_option linter.unusedSimpArgs false
namespace Go.Proofs.Ythaaockbapbooaa.H
open Go.RowKit Go.Proofs.Ythaaockbapbooaa.Pr Go.Proofs.YthaaockbapbooaaW.PrintWords Go.Proofs.Ythaaockbapbooaa.Sem
theorem ret_int {k : IntKind} {a b : Int} (h : a = b) : Ending.returned (.int k a) = .returned (.int k b) := by rw [h]
theorem ret_bool {a b : Bool} (h : a = b) : Ending.returned (.bool a) = .returned (.bool b) := by rw [h]
theorem atE {w : World} {A : Option Addr} {n : Nat} {xs : List Ed} (h : Kd.C k51 w A n xs) (k : Nat) (hk : k < n) : ∃ ad, A = some ad ∧ w.cell? (ad.add (k * 3)) = some (.int .i64 (xs.getD k z51).f0) ∧ w.cell? ⟨(ad.add (k * 3)).block, (ad.add (k * 3)).off + 1, none⟩ = some (.int .i64 (xs.getD k z51).f1) ∧ w.cell? ⟨(ad.add (k * 3)).block, (ad.add (k * 3)).off + 2, none⟩ = some (.int .i64 (xs.getD k z51).f2) :=
 at_T51 h (k : Int) (by omega) (by omega)
theorem atS {w : World} {A : Option Addr} {n : Nat} {xs : List ByteArray} (h : Kd.C Kd.string w A n xs) (k : Nat) (hk : k < n) : ∃ ad, A = some ad ∧ w.cell? (ad.add k) = some (.string (xs.getD k ByteArray.empty)) := by
 obtain ⟨ad, e, hc⟩ := Kd.at_string h (k : Int) (by omega) (by omega)
 exact ⟨ad, e, by simpa [rdOf] using hc⟩
theorem later {w w1 : World} (hb : Below w.heap.size w w1) {a : Addr} {v : Value} (h : w.cell? a = some v) : w1.cell? a = some v := (hb.cell (World.block_lt_of_cell? w a h)).trans h
theorem C_len {α : Type} {d : Kd α} {w : World} {A : Option Addr} {n : Nat} {xs : List α} (h : d.C w A n xs) : n ≤ 9223372036854775807 := h.2.1
end Go.Proofs.Ythaaockbapbooaa.H
namespace Go.Proofs.Ythaaockbapbooaa.H
theorem laid_out : laidOutB Try.prog = true := by kernel_rfl
end Go.Proofs.Ythaaockbapbooaa.H
set_option linter.unusedVariables false
set_option linter.unusedSimpArgs false
set_option maxRecDepth 100000
namespace Go.Proofs.Ythaaockbapbooaa.H
open Go.RowKit Go.Proofs.Ythaaockbapbooaa.Pr Go.Proofs.YthaaockbapbooaaW.PrintWords Go.Proofs.Ythaaockbapbooaa.Sem
open Go.ChangeShapes Go.WideShapes Go.Deep Go.Joins
instance : Inhabited Ed := ⟨z51⟩
section
variable {H : Type} {enc : TypeId × Value → H} {w : World} {base : Nat} {spare : Nat → Bool} {held : Bool}
theorem C_of_trod {α : Type} [Inhabited α] {d : Kd α} {t e : TypeId} {fuel : Nat} {v : Value} {x : DataW H × List MemPlace} (ht : Try.prog.underlying t = some (.slice e)) (hc : Try.prog.cellsOf e = d.sz)
  (hel : ∀ n cs y, DataW.trod enc Try.prog w base spare held n e cs = some y → cs.length = d.sz → ∃ a : α, d.K w a cs) (h : DataW.trod enc Try.prog w base spare held fuel t [v] = some x) :
  ∃ A xs c, v = .slice A xs.length c ∧ d.C w A xs.length xs := by
 rcases open_slice ht h with ⟨hcs, _⟩ | ⟨a, len, cap, m, n, D, Pl, hcs, hb, hl, hm, hmm, _, hx⟩
 ·have hv : v = .slice none 0 0 := by simpa using hcs
  exact ⟨none, [], 0, hv, Kd.C_nil _ _⟩
 ·have hv : v = .slice (some a) len cap := by simpa using hcs
  have hlm : len ≤ m := by rw [hmm]; split <;> omega
  have each : ∀ i, i < len → ∃ y : α × List Value, y.2.length = d.sz ∧ d.K w y.1 y.2 ∧ ∀ j u, y.2[j]? = some u → w.cell? (a.add (i * d.sz + j)) = some u := by
   intro i hi
   obtain ⟨cs', h1, h2⟩ := hx i (by omega)
   obtain ⟨_, hlen, hcell⟩ := World.cells?_some h1
   rw [hc] at hlen hcell
   obtain ⟨z, hz⟩ := hel n cs' _ h2 hlen
   refine ⟨(z, cs'), hlen, hz, fun j u hj => ?_⟩
   have hjl := (List.getElem?_eq_some_iff.1 hj).1
   have := hcell j (by rw [← hlen]; exact hjl)
   rw [Go.Deep.add_add] at this
   rw [this]
   exact hj
  obtain ⟨q, hq⟩ := choose_lt each
  refine ⟨some a, (List.range len).map fun i => (q i).1, cap, by rw [hv]; simp, rfl, by simp; unfold maxLen at hm; omega, fun _ => ⟨a, rfl, fun j p hj => ?_⟩⟩
  have hjl : j < len := by simpa using (List.getElem?_eq_some_iff.1 hj).1
  have hp : p = (q j).1 := by simpa [hjl, eq_comm] using hj
  subst hp
  exact ⟨(q j).2, (hq j hjl).1, (hq j hjl).2.1, (hq j hjl).2.2⟩
theorem el_string : ∀ n cs y, DataW.trod enc Try.prog w base spare held n 9 cs = some y → cs.length = 1 → ∃ a : ByteArray, Kd.string.K w a cs := by
 intro n cs y h hl
 match cs, hl with
 | [c], _ =>
  obtain ⟨s, h1, _, _⟩ := DataW.trod_string Try.underlying9 h
  have : c = .string s := by simpa using h1
  subst this
  exact ⟨s, rfl⟩
theorem el_edge : ∀ n cs y, DataW.trod enc Try.prog w base spare held n 51 cs = some y → cs.length = 3 → ∃ a : Ed, k51.K w a cs := by
 intro n cs y h hl
 obtain ⟨y0, y1, y2, m, _, _, h0, h1, h2⟩ := trod_struct3 Try.underlying51 h
 match cs, hl with
 | [c0, c1, c2], _ =>
  rw [show Try.prog.cellsOf 3 = 1 by kernel_rfl] at h0 h1 h2
  obtain ⟨a0, e0, _, _⟩ := DataW.trod_int Try.underlying3 h0
  obtain ⟨a1, e1, _, _⟩ := DataW.trod_int Try.underlying3 h1
  obtain ⟨a2, e2, _, _⟩ := DataW.trod_int Try.underlying3 h2
  have e0' : c0 = .int .i64 a0 := by simpa using e0
  have e1' : c1 = .int .i64 a1 := by simpa using e1
  have e2' : c2 = .int .i64 a2 := by simpa using e2
  subst e0' e1' e2'
  exact ⟨⟨a0, a1, a2⟩, k51_mk w ⟨a0, a1, a2⟩⟩
end
end Go.Proofs.Ythaaockbapbooaa.H
set_option linter.unusedVariables false
set_option linter.unusedSimpArgs false
set_option maxRecDepth 100000
namespace Go.Proofs.Ythaaockbapbooaa.H
open Go.ChangeShapes Go.WideShapes Go.Deep Go.Joins Go.RowKit Go.Proofs.Ythaaockbapbooaa.Pr Go.Proofs.YthaaockbapbooaaW.PrintWords Go.Proofs.Ythaaockbapbooaa.Sem
section
variable {H : Type} {enc : TypeId × Value → H} {w : World} {base : Nat} {spare : Nat → Bool} {held : Bool}
theorem len_cap {t e : TypeId} {fuel : Nat} {A : Option Addr} {n c : Nat} {x : DataW H × List MemPlace} (ht : Try.prog.underlying t = some (.slice e)) (h : DataW.trod enc Try.prog w base spare held fuel t [.slice A n c] = some x) : n ≤ c := by
 rcases open_slice ht h with ⟨hcs, _⟩ | ⟨a, len, cap, m, k, D, Pl, hcs, hb, hl, hm, hmm, _, hx⟩
 ·have hv : Value.slice A n c = .slice none 0 0 := by simpa using hcs
  cases hv
  exact Nat.le_refl _
 ·have hv : Value.slice A n c = .slice (some a) len cap := by simpa using hcs
  cases hv
  exact hl
theorem open_lts2 {r : Reach} {b0 : Nat} {v : Value} {d : DataW H} {p : List MemPlace} (hv : Value.okWide Try.prog w r b0 25 v) (h : DataW.Trod enc Try.prog w base spare held 25 v d p) :
  ∃ (n : Int) (ls : List ByteArray) (es : List Ed) (A1 A2 : Option Addr) (c1 c2 : Nat), v = .agg #[.int .i64 n, .slice A1 ls.length c1, .slice A2 es.length c2] ∧ (Lit.int .i64 n).wf = true ∧ Kd.C Kd.string w A1 ls.length ls ∧ ls.length ≤ c1 ∧ Kd.C k51 w A2 es.length es ∧ es.length ≤ c2 := by
 obtain ⟨v0, v1, v2, y0, y1, y2, m, rfl, _, _, h0, h1, h2⟩ := open_agg3 Try.underlying25 (by kernel_rfl) (by kernel_rfl) hv h
 obtain ⟨n, e0, _, wn⟩ := DataW.trod_int Try.underlying3 h0
 have e0' : v0 = .int .i64 n := by simpa using e0
 subst e0'
 obtain ⟨A1, ls, c1, rfl, hC1⟩ := C_of_trod (d := Kd.string) Try.underlying22 (by kernel_rfl) el_string h1
 obtain ⟨A2, es, c2, rfl, hC2⟩ := C_of_trod (d := k51) Try.underlying23 (by kernel_rfl) el_edge h2
 exact ⟨n, ls, es, A1, A2, c1, c2, rfl, wn, hC1, len_cap Try.underlying22 h1, hC2, len_cap Try.underlying23 h2⟩
end
end Go.Proofs.Ythaaockbapbooaa.H
namespace Go.Proofs.Ythaaockbapbooaa.Pr
open Go.RowKit Go.Proofs.YthaaockbapbooaaW.PrintWords Go.Proofs.YthaaockbapbooaaW.PrintLast Go.Proofs.YthaaockbapbooaaW.PrintMore
attribute [local go_sem] max2_int min2_int max_two min_two max_three min_three max_four min_four
set_option linter.unusedVariables false
set_option linter.unusedSimpArgs false
structure S25 where
  f0 : Int
  f1 : (List ByteArray)
  f2 : (List S51)
def z25 : S25 := ⟨(0 : Int), ([] : List ByteArray), ([] : List S51)⟩
end Go.Proofs.Ythaaockbapbooaa.Pr
namespace Go.Proofs.Ythaaockbapbooaa.Pr
open Go.RowKit Go.Proofs.YthaaockbapbooaaW.PrintWords Go.Proofs.YthaaockbapbooaaW.PrintLast Go.Proofs.YthaaockbapbooaaW.PrintMore
attribute [local go_sem] max2_int min2_int max_two min_two max_three min_three max_four min_four
set_option linter.unusedVariables false
set_option linter.unusedSimpArgs false
theorem eqA51 (d : Nat) (w : World) (x0 y0 : Int) (x1 y1 : Int) (x2 y2 : Int) :
  (Op.equalIn (d + 2) 51 (.agg #[.int .i64 x0, .int .i64 x1, .int .i64 x2]) (.agg #[.int .i64 y0, .int .i64 y1, .int .i64 y2])).run Try.prog w = .ok (x0 == y0 && (x1 == y1 && (x2 == y2))) w := by
 refine eqA_of Try.underlying51 (by kernel_rfl) ?_
 refine eqf_cons (by rfl) (by go_simp; rfl) (by go_simp; rfl) (by go_simp) ?_
 refine eqf_cons (by rfl) (by go_simp; rfl) (by go_simp; rfl) (by go_simp) ?_
 exact eqf_last (by rfl) (by go_simp; rfl) (by go_simp; rfl) (by go_simp)
def Pxa.l0 : Nat → List ByteArray → ByteArray → Int → Int → Option (Int)
 | 0, _, _, _, _ => none
 | k + 1, x0, x1, x7, x8 => if x8 < x7 then (if 0 ≤ x8 then (if x8 < (x0.length : Int) then (if x1.toList = (rdOf ByteArray.empty x0 x8).toList then (some x8) else (Pxa.l0 k x0 x1 x7 (wrap64 (x8 + 1)))) else (none)) else (none)) else (some (-1))
def Pxa.f (k : Nat) (l0 : List ByteArray) (a1 : ByteArray) : Option (Int) := Pxa.l0 k l0 a1 (l0.length : Int) 0
theorem Pxa.mono_l : ∀ k, (∀ y0 y1 y2 y3, LeO (Pxa.l0 k y0 y1 y2 y3) (Pxa.l0 (k + 1) y0 y1 y2 y3))
 | 0 => fun _ _ _ _ r h => by simp [Pxa.l0] at h
 | k + 1 => by
  have ih0 := Pxa.mono_l k
  ·intro y0 y1 y2 y3
   unfold Pxa.l0
   repeat' first
   | (with_reducible exact ih0 _ _ _ _)
   | (with_reducible exact LeO.refl _)
   | (with_reducible exact LeO.none _)
   | (with_reducible refine LeO.ite ?_ ?_)
   | (with_reducible refine LeO.bind ?_ (fun _ => ?_))
   | exact ih0 _ _ _ _
   | exact LeO.none _
   | refine LeO.ite ?_ ?_
   | refine LeO.bind ?_ (fun _ => ?_)
theorem Pxa.mono : ∀ a0 a1 k, LeO (Pxa.f k a0 a1) (Pxa.f (k + 1) a0 a1) := by
 intro a0 a1 k
 have ih0 := Pxa.mono_l k
 unfold Pxa.f
 repeat' first
   | (with_reducible exact ih0 _ _ _ _)
   | (with_reducible exact LeO.refl _)
   | (with_reducible exact LeO.none _)
   | (with_reducible refine LeO.ite ?_ ?_)
   | (with_reducible refine LeO.bind ?_ (fun _ => ?_))
   | exact ih0 _ _ _ _
   | exact LeO.none _
   | refine LeO.ite ?_ ?_
   | refine LeO.bind ?_ (fun _ => ?_)
set_option maxHeartbeats 8000000 in
set_option maxRecDepth 100000 in
theorem Pxa.calls (k : Nat) (A0 : Option Addr) (c0 : Nat) (l0 : List ByteArray) (a1 : ByteArray) (r : Int) (w : World) (hr0 : Kd.C Kd.string w A0 l0.length l0) (hc0 : l0.length ≤ c0) (h : Pxa.f k l0 a1 = some r) :
  Calls Try.prog 57 #[.slice A0 l0.length c0, .string a1] w fun e w' => e = .returned (.int .i64 r) ∧ Drawn0 w w' := by
 have a7 := Aside0.mk hr0
 have a9 := Aside0.mk hc0
 clear hr0 hc0
 have H : (Pxa.l0 k l0 a1 (l0.length : Int) 0) = some r := h
 clear h
 have H' := Aside0.mk H
 clear H
 go_enter Try.func57, Try.ntmps57
 go_wp2
 go_loopg [8] k (fun kq v8 w' => ∃ (a0 : Int), v8 = .int .i64 a0 ∧ Aside0 (Pxa.l0 kq l0 a1 (l0.length : Int) a0 = some r) ∧ Aside0 (kq ≤ k) ∧ Drawn0 w w')
 case atStart => exact ⟨(0), (by first | rfl | (simp; done) | (simp [*]; done)), H', ⟨Nat.le_refl _⟩, by repeat (first | exact Drawn0.refl _ | apply Drawn0.step)⟩
 case round =>
  clear H'
  try clear p2
  obtain ⟨a0, rfl, HA, a8, ⟨m1, rfl⟩⟩ := hrel
  cases gk with
  | zero => exact absurd HA.out (by simp [Pxa.l0])
  | succ k1 =>
   have H := HA.out
   clear HA
   simp only [Pxa.l0] at H
   by_cases c3 : a0 < (l0.length : Int)
   ·rw [if_pos c3] at H
    have c3b0 : decide (a0 < (l0.length : Int)) = true := decide_eq_true c3
    clear c3
    by_cases c4 : 0 ≤ a0
    ·rw [if_pos c4] at H
     have c4b0 : decide (0 ≤ a0) = true := decide_eq_true c4
     clear c4
     by_cases c5 : a0 < (l0.length : Int)
     ·rw [if_pos c5] at H
      have c5b0 : decide (a0 < (l0.length : Int)) = true := decide_eq_true c5
      clear c5
      by_cases c6 : a1.toList = (rdOf ByteArray.empty l0 a0).toList
      ·rw [if_pos c6] at H
       have c6b0 : (a1.toList == (rdOf ByteArray.empty l0 a0).toList) = true := beq_iff_eq.mpr c6
       have c6b1 : (a1.toList != (rdOf ByteArray.empty l0 a0).toList) = false := bne_eq_false_iff_eq.mpr c6
       clear c6
       obtain rfl := Option.some.inj H
       have a2 : 0 ≤ (a0 : Int) := of_decide_eq_true (by first | (with_reducible assumption) | assumption)
       have a3 : a0 < (l0.length : Int) := of_decide_eq_true (by first | (with_reducible assumption) | assumption)
       obtain ⟨a6, a4, a5⟩ := Kd.at_string a7.out a0 a2 a3
       cases a4
       replace a2 := eq_true a2
       replace a3 := eq_true a3
       go_wp2
       go_ret
       exact ⟨by first | rfl | (simp; done) | (simp [*]; done), by repeat (first | exact Drawn0.refl _ | apply Drawn0.step)⟩
      ·rw [if_neg c6] at H
       have c6b0 : (a1.toList == (rdOf ByteArray.empty l0 a0).toList) = false := beq_eq_false_iff_ne.mpr c6
       have c6b1 : (a1.toList != (rdOf ByteArray.empty l0 a0).toList) = true := bne_iff_ne.mpr c6
       have H' := Aside0.mk H
       clear H
       have a2 : 0 ≤ (a0 : Int) := of_decide_eq_true (by first | (with_reducible assumption) | assumption)
       have a3 : a0 < (l0.length : Int) := of_decide_eq_true (by first | (with_reducible assumption) | assumption)
       obtain ⟨a6, a4, a5⟩ := Kd.at_string a7.out a0 a2 a3
       cases a4
       replace a2 := eq_true a2
       replace a3 := eq_true a3
       go_wp2
       go_roundg k1
       case measure => have := a8.out; omega
       case rel => exact ⟨(wrap64 (a0 + 1)), (by first | rfl | (simp; done) | (simp [*]; done)), H', ⟨by have := a8.out; omega⟩, by repeat (first | exact Drawn0.refl _ | apply Drawn0.step)⟩
     ·rw [if_neg c5] at H
      exact absurd H (by simp)
    ·rw [if_neg c4] at H
     exact absurd H (by simp)
   ·rw [if_neg c3] at H
    have c3b0 : decide (a0 < (l0.length : Int)) = false := decide_eq_false c3
    clear c3
    obtain rfl := Option.some.inj H
    go_wp2
    go_ret
    exact ⟨by first | rfl | (simp; done) | (simp [*]; done), by repeat (first | exact Drawn0.refl _ | apply Drawn0.step)⟩
def Pxe.f (k : Nat) (l0 : List ByteArray) (a1 : ByteArray) : Option (Int) := (Pxa.f k l0 a1).bind fun t102 => (some t102)
theorem Pxe.mono : ∀ a0 a1 k, LeO (Pxe.f k a0 a1) (Pxe.f (k + 1) a0 a1) := by
 intro a0 a1 k
 unfold Pxe.f
 repeat' first
   | (with_reducible exact Pxa.mono _ _ _)
   | (with_reducible exact LeO.refl _)
   | (with_reducible exact LeO.none _)
   | (with_reducible refine LeO.ite ?_ ?_)
   | (with_reducible refine LeO.bind ?_ (fun _ => ?_))
   | exact Pxa.mono _ _ _
   | exact LeO.none _
   | refine LeO.ite ?_ ?_
   | refine LeO.bind ?_ (fun _ => ?_)
set_option maxHeartbeats 8000000 in
set_option maxRecDepth 100000 in
theorem Pxe.calls (k : Nat) (A0 : Option Addr) (c0 : Nat) (l0 : List ByteArray) (a1 : ByteArray) (r : Int) (w : World) (hr0 : Kd.C Kd.string w A0 l0.length l0) (hc0 : l0.length ≤ c0) (h : Pxe.f k l0 a1 = some r) :
  Calls Try.prog 40 #[.slice A0 l0.length c0, .string a1] w fun e w' => e = .returned (.int .i64 r) ∧ Drawn0 w w' := by
 have HR0 := Aside0.mk hr0
 have HC0 := Aside0.mk hc0
 clear hr0 hc0
 have H : ((Pxa.f k l0 a1).bind fun t102 => (some t102)) = some r := h
 clear h
 replace H := Option.bind_eq_some_iff.mp H
 obtain ⟨t102, A30, H⟩ := H
 replace H : (some t102) = some r := H
 have A3 := Aside0.mk A30
 clear A30
 obtain rfl := Option.some.inj H
 go_enter Try.func40, Try.ntmps40
 go_wp2_with (first | ((with_reducible refine gate_callee (f := 57) rfl ?_); refine goesL_ (some 7) rfl rfl Try.func57 (by kernel_rfl) rfl #[.slice A0 l0.length c0, .string a1] rfl (by (try simp only [List.map_toArray, List.map_cons, List.map_nil]); first | done | rfl | (simp only [List.length_drop, List.length_take]; rfl)) ?_; (with_reducible refine (Pxa.calls k _ _ l0 a1 t102 _ ?side1 ?side2 A3.out).mono ?_); (case side1 => repeat (first | exact HR0.out | (with_reducible refine Kd.C_alloc ?_ _) | (with_reducible refine Kd.C_drewN ?_ _) | (with_reducible refine Kd.C_drew ?_))); (case side2 => exact HC0.out); rintro e w' ⟨rfl, ⟨nd, rfl⟩⟩; refine ⟨_, rfl, ?_⟩))
 go_ret
 exact ⟨by first | rfl | (simp; done) | (simp [*]; done), by repeat (first | exact Drawn0.refl _ | apply Drawn0.step)⟩
def Pxg.l0 : Nat → Int → List (S51) → List (S51) → Int → Int → Option ((List (S51)) × Bool)
 | 0, _, _, _, _, _ => none
 | k + 1, x6, x7, x15, x16, x17 => if x17 < x16 then (if 0 ≤ x17 then (if x17 < (x15.length : Int) then (if ((rd_T51 x15 x17).f1) = x6 then (if x7.length < 5864062014805 then (Pxg.l0 k x6 (x7 ++ [(⟨(rd_T51 x15 x17).f0, (rd_T51 x15 x17).f1, (rd_T51 x15 x17).f2⟩ : S51)]) x15 x16 (wrap64 (x17 + 1))) else (none)) else (Pxg.l0 k x6 x7 x15 x16 (wrap64 (x17 + 1)))) else (none)) else (none)) else (some (x7, decide (x6 ≥ 0)))
def Pxg.f (k : Nat) (a0_0 : Int) (l0_1 : List ByteArray) (l0_2 : List (S51)) (a1 : ByteArray) : Option ((List (S51)) × Bool) := (Pxe.f k l0_1 a1).bind fun t104 => (Pxg.l0 k t104 ([] : List (S51)) l0_2 (l0_2.length : Int) 0)
theorem Pxg.mono_l : ∀ k, (∀ y0 y1 y2 y3 y4, LeO (Pxg.l0 k y0 y1 y2 y3 y4) (Pxg.l0 (k + 1) y0 y1 y2 y3 y4))
 | 0 => fun _ _ _ _ _ r h => by simp [Pxg.l0] at h
 | k + 1 => by
  have ih0 := Pxg.mono_l k
  ·intro y0 y1 y2 y3 y4
   unfold Pxg.l0
   repeat' first
   | (with_reducible exact ih0 _ _ _ _ _)
   | (with_reducible exact Pxe.mono _ _ _)
   | (with_reducible exact LeO.refl _)
   | (with_reducible exact LeO.none _)
   | (with_reducible refine LeO.ite ?_ ?_)
   | (with_reducible refine LeO.bind ?_ (fun _ => ?_))
   | exact ih0 _ _ _ _ _
   | exact Pxe.mono _ _ _
   | exact LeO.none _
   | refine LeO.ite ?_ ?_
   | refine LeO.bind ?_ (fun _ => ?_)
theorem Pxg.mono : ∀ a0 a1 a2 a3 k, LeO (Pxg.f k a0 a1 a2 a3) (Pxg.f (k + 1) a0 a1 a2 a3) := by
 intro a0 a1 a2 a3 k
 have ih0 := Pxg.mono_l k
 unfold Pxg.f
 repeat' first
   | (with_reducible exact ih0 _ _ _ _ _)
   | (with_reducible exact Pxe.mono _ _ _)
   | (with_reducible exact LeO.refl _)
   | (with_reducible exact LeO.none _)
   | (with_reducible refine LeO.ite ?_ ?_)
   | (with_reducible refine LeO.bind ?_ (fun _ => ?_))
   | exact ih0 _ _ _ _ _
   | exact Pxe.mono _ _ _
   | exact LeO.none _
   | refine LeO.ite ?_ ?_
   | refine LeO.bind ?_ (fun _ => ?_)
set_option maxHeartbeats 8000000 in
set_option maxRecDepth 100000 in
theorem Pxg.calls (k : Nat) (a0_0 : Int) (A0_1 : Option Addr) (c0_1 : Nat) (l0_1 : List ByteArray) (A0_2 : Option Addr) (c0_2 : Nat) (l0_2 : List (S51)) (a1 : ByteArray) (r1 : List (S51)) (r2 : Bool) (w : World) (hr0_1 : Kd.C Kd.string w A0_1 l0_1.length l0_1) (hc0_1 : l0_1.length ≤ c0_1) (hr0_2 : Kd.C k51 w A0_2 l0_2.length l0_2) (hc0_2 : l0_2.length ≤ c0_2) (h : Pxg.f k a0_0 l0_1 l0_2 a1 = some (r1, r2)) :
  Calls Try.prog 61 #[.agg #[.int .i64 a0_0, .slice A0_1 l0_1.length c0_1, .slice A0_2 l0_2.length c0_2], .string a1] w fun e w' => ∃ v0_ : Value, e = .returned (.tuple #[v0_, .bool r2]) ∧ Kd.R k51 51 w' w.heap.size (fun _ => True) v0_ r1 ∧ Below w.heap.size w w' := by
 have i2 := Try.underlying25
 have i3 := Try.underlying51
 have f9 := Aside0.mk hr0_1
 have f5 := Aside0.mk hc0_1
 clear hr0_1 hc0_1
 have e0 := Aside0.mk hr0_2
 have h9 := Aside0.mk hc0_2
 clear hr0_2 hc0_2
 have HB := Aside0.mk (Below.refl w.heap.size w)
 have H : ((Pxe.f k l0_1 a1).bind fun b2 => (Pxg.l0 k b2 ([] : List (S51)) l0_2 (l0_2.length : Int) 0)) = some (r1, r2) := h
 clear h
 replace H := Option.bind_eq_some_iff.mp H
 obtain ⟨b2, g0, H⟩ := H
 replace H : (Pxg.l0 k b2 ([] : List (S51)) l0_2 (l0_2.length : Int) 0) = some (r1, r2) := H
 have A3 := Aside0.mk g0
 clear g0
 have H' := Aside0.mk H
 clear H
 go_enter Try.func61, Try.ntmps61
 go_wp2_with (first | ((with_reducible refine gate_dst (N := 2) rfl ?_); refine box_event ?hg (N := 2) ?hd (cs := #[.int .i64 a0_0, .slice A0_1 l0_1.length c0_1, .slice A0_2 l0_2.length c0_2]) (t := 25) ?hr ?_; (case hd => rfl); (case hg => rfl); (case hr => first | (go_simp; done) | (go_simp; rfl)); intro a4 hg w4 hbox hb; have b5 := Aside0.mk (below_step (by repeat (first | (with_reducible first | exact HB.out | apply below_alloc | apply pw_below_drewN | apply below_drew1) | exact HB.out)) hb); have b6 := Aside0.mk (hbox); have b4 := Aside0.mk ((by rw [hg]; exact (below_size (by repeat (first | (with_reducible first | exact HB.out | apply below_alloc | apply pw_below_drewN | apply below_drew1) | exact HB.out))) : w.heap.size ≤ a4)); have b8 := Aside0.mk ((by rw [hg]; exact (below_size (by repeat (first | (with_reducible first | exact HB.out | apply below_alloc | apply pw_below_drewN | apply below_drew1) | exact HB.out))) : w.heap.size ≤ a4)); clear HB; have HB := b5; have a3 := b6; have i0 := b4; have a7 := b8; clear b5 b6 b4 b8; clear hb hbox hg; have e7 : w4.cell? ⟨a4, 0, none⟩ = some (.int .i64 a0_0) := (blk_cell a3.out 0).trans rfl; have e5 : w4.cell? ⟨a4, 1, none⟩ = some (.slice A0_1 l0_1.length c0_1) := (blk_cell a3.out 1).trans rfl; have e6 : w4.cell? ⟨a4, 2, none⟩ = some (.slice A0_2 l0_2.length c0_2) := (blk_cell a3.out 2).trans rfl; have e3 := blk_frozen a3.out 0; have e2 := blk_frozen a3.out 1; have f3 := blk_frozen a3.out 2) | ((with_reducible refine gate_callee (f := 40) rfl ?_); refine goesL_ (some 13) rfl rfl Try.func40 (by kernel_rfl) rfl #[.slice A0_1 l0_1.length c0_1, .string a1] rfl (by (try simp only [List.map_toArray, List.map_cons, List.map_nil]); first | done | rfl | (simp only [List.length_drop, List.length_take]; rfl)) ?_; (with_reducible refine (Pxe.calls k _ _ l0_1 a1 b2 _ ?h7 ?h4 A3.out).mono ?_); (case h7 => repeat (first | exact (Kd.C_below f9.out HB.out) | (with_reducible refine Kd.C_alloc ?_ _) | (with_reducible refine Kd.C_drewN ?_ _) | (with_reducible refine Kd.C_drew ?_))); (case h4 => exact f5.out); rintro e w' ⟨rfl, ⟨nd, rfl⟩⟩; refine ⟨_, rfl, ?_⟩))
 go_loopg [7, 17] k (fun kq v7 h3 w' => ∃ (b9 : List (S51)) (a0 : Int), h3 = .int .i64 a0 ∧ Aside0 (Pxg.l0 kq b2 b9 l0_2 (l0_2.length : Int) a0 = some (r1, r2)) ∧ Aside0 (kq ≤ k) ∧ Aside0 (Kd.R k51 51 w' w.heap.size (fun _ => True) v7 b9) ∧ Aside0 (w'.heap[a4]? = some (.cells #[.int .i64 a0_0, (.slice A0_1 l0_1.length c0_1), (.slice A0_2 l0_2.length c0_2)] 25 (0, 0))) ∧ Aside0 (Below w.heap.size w w'))
 case atStart => exact ⟨(([] : List (S51))), (0), (by first | rfl | (simp; done) | (simp [*]; done)), H', ⟨Nat.le_refl _⟩, ⟨by first | exact Kd.R_nil _ _ _ _ _ | exact Kd.N_nil _ _ _ _ _ | exact Kd.V_nil _ _ _ _ _ | exact Kd.Q_nil _ _ _ _ _ | exact Kd.S_nil _ _ _ _ _⟩, ⟨by (with_reducible repeat (first | refine blk_drewN ?_ _ | refine blk_drew ?_ | refine blk_alloc ?_ _)); exact a3.out⟩, ⟨by repeat (first | (with_reducible first | exact HB.out | apply below_alloc | apply pw_below_drewN | apply below_drew1 | refine below_set ?_ a7.out) | exact HB.out)⟩⟩
 case round =>
  clear H'
  try clear p2
  try clear c4
  try clear e7
  try clear e5
  try clear e6
  try clear e3
  try clear e2
  try clear f3
  obtain ⟨b9, a0, rfl, HA, d9, b1, a3, HB⟩ := hrel
  cases gk with
  | zero => exact absurd HA.out (by simp [Pxg.l0])
  | succ k1 =>
   have H := HA.out
   clear HA
   simp only [Pxg.l0] at H
   by_cases c6 : a0 < (l0_2.length : Int)
   ·rw [if_pos c6] at H
    have c6b0 : decide (a0 < (l0_2.length : Int)) = true := decide_eq_true c6
    clear c6
    by_cases c7 : 0 ≤ a0
    ·rw [if_pos c7] at H
     have c7b0 : decide (0 ≤ a0) = true := decide_eq_true c7
     clear c7
     by_cases c8 : a0 < (l0_2.length : Int)
     ·rw [if_pos c8] at H
      have c8b0 : decide (a0 < (l0_2.length : Int)) = true := decide_eq_true c8
      clear c8
      by_cases c9 : ((rd_T51 l0_2 a0).f1) = b2
      ·rw [if_pos c9] at H
       have c9b0 : (((rd_T51 l0_2 a0).f1) == b2) = true := beq_iff_eq.mpr c9
       have c9b1 : (((rd_T51 l0_2 a0).f1) != b2) = false := bne_eq_false_iff_eq.mpr c9
       clear c9
       by_cases c10 : b9.length < 5864062014805
       ·rw [if_pos c10] at H
        have f4 := Aside0.mk c10
        clear c10
        obtain ⟨e8, d2⟩ : ∃ y_ : List (S51), y_ = (b9 ++ [(⟨(rd_T51 l0_2 a0).f0, (rd_T51 l0_2 a0).f1, (rd_T51 l0_2 a0).f2⟩ : S51)]) := ⟨_, rfl⟩
        replace H : (Pxg.l0 k1 b2 e8 l0_2 (l0_2.length : Int) (wrap64 (a0 + 1))) = some (r1, r2) := by first | (rw [d2]; with_reducible exact H) | (have e9 := (Option.bind_some _ _).symm.trans H; rw [d2]; with_reducible exact e9) | (have e9 := (Option.bind_some _ _).symm.trans H; with_reducible exact e9) | with_reducible exact H | (rw [d2]; exact H) | exact H
        have f6 := Aside0.mk d2
        clear d2
        have H' := Aside0.mk H
        clear H
        have d0 : 0 ≤ (a0 : Int) := of_decide_eq_true (by first | (with_reducible assumption) | assumption)
        have d1 : a0 < (l0_2.length : Int) := of_decide_eq_true (by first | (with_reducible assumption) | assumption)
        obtain ⟨b3, d8, a8, b0, a9⟩ := at_T51 e0.out a0 d0 d1
        cases d8
        replace a8 := (HB.out.cell (World.block_lt_of_cell? w _ a8)).trans a8
        replace b0 := (HB.out.cell (World.block_lt_of_cell? w _ b0)).trans b0
        replace a9 := (HB.out.cell (World.block_lt_of_cell? w _ a9)).trans a9
        replace d0 := eq_true d0
        replace d1 := eq_true d1
        go_wp2_with (first | ((with_reducible refine gate_dst (N := 9) rfl ?_); refine box_event ?hg (N := 9) ?hd (cs := #[.int .i64 0, .int .i64 0, .int .i64 0]) (t := 51) ?hr ?_; (case hd => rfl); (case hg => rfl); (case hr => first | (go_simp; done) | (go_simp; rfl)); intro a2 hg e1 hbox hb; have b5 := Aside0.mk (Kd.R_below (Kd.R_elderB (by (with_reducible repeat (first | apply Kd.R_alloc | apply Kd.R_drewN | apply Kd.R_drew)); exact b1.out) a2 (Nat.le_of_eq hg.symm)) hb); have b6 := Aside0.mk (blk_below (g := a4) (o := .cells #[.int .i64 a0_0, .slice A0_1 l0_1.length c0_1, .slice (some b3) l0_2.length c0_2] 25 (0, 0)) (by (with_reducible repeat (first | refine blk_drewN ?_ _ | refine blk_drew ?_ | refine blk_alloc ?_ _)); exact a3.out) hb); have b4 := Aside0.mk (below_step (by repeat (first | (with_reducible first | exact HB.out | apply below_alloc | apply pw_below_drewN | apply below_drew1 | refine below_set ?_ a7.out) | exact HB.out)) hb); have b8 := Aside0.mk (hbox); have d5 := Aside0.mk ((by rw [hg]; exact (below_size (by repeat (first | (with_reducible first | exact HB.out | apply below_alloc | apply pw_below_drewN | apply below_drew1 | refine below_set ?_ a7.out) | exact HB.out))) : w.heap.size ≤ a2)); have d7 := Aside0.mk ((by rw [hg]; exact (below_size (by repeat (first | (with_reducible first | exact HB.out | apply below_alloc | apply pw_below_drewN | apply below_drew1 | refine below_set ?_ a7.out) | exact HB.out))) : w.heap.size ≤ a2)); have d4 := Aside0.mk ((by rw [hg]; exact Nat.ne_of_lt (blk_lt (g := a4) (o := .cells #[.int .i64 a0_0, .slice A0_1 l0_1.length c0_1, .slice (some b3) l0_2.length c0_2] 25 (0, 0)) (by (with_reducible repeat (first | refine blk_drewN ?_ _ | refine blk_drew ?_ | refine blk_alloc ?_ _)); exact a3.out)) : a4 ≠ a2)); have d6 := Aside0.mk ((by rw [hg]; exact Nat.ne_of_gt (blk_lt (g := a4) (o := .cells #[.int .i64 a0_0, .slice A0_1 l0_1.length c0_1, .slice (some b3) l0_2.length c0_2] 25 (0, 0)) (by (with_reducible repeat (first | refine blk_drewN ?_ _ | refine blk_drew ?_ | refine blk_alloc ?_ _)); exact a3.out)) : a2 ≠ a4)); clear b1; clear a3; clear HB; have b1 := b5; have a3 := b6; have HB := b4; have a6 := b8; have f7 := d5; have d3 := d7; have a5 := d4; have b7 := d6; clear b5 b6 b4 b8 d5 d7 d4 d6; clear hb hbox hg; have h8 := b7.out; have h6 := a5.out; have h2 : e1.cell? ⟨a2, 0, none⟩ = some (.int .i64 0) := (blk_cell a6.out 0).trans rfl; have g1 : e1.cell? ⟨a2, 1, none⟩ = some (.int .i64 0) := (blk_cell a6.out 1).trans rfl; have h0 : e1.cell? ⟨a2, 2, none⟩ = some (.int .i64 0) := (blk_cell a6.out 2).trans rfl; have g2 := blk_frozen a6.out 0; have h1 := blk_frozen a6.out 1; have g9 := blk_frozen a6.out 2) | ((with_reducible refine gate_builtin (b := .append) (xs := #[.tmp 25, .tmp 27]) rfl ?_); at_builtin; refine Kd.R_append k51 (w0 := w) w.heap.size rfl (.tmp 25) (.tmp 27) 23 51 (.agg #[(.int .i64 0), (.int .i64 0), (.int .i64 0)]) 24 rfl Try.underlying23 info51 rfl (by decide) (by omega) u7 b9 (⟨(rd_T51 l0_2 a0).f0, (rd_T51 l0_2 a0).f1, (rd_T51 l0_2 a0).f2⟩ : S51) [.int .i64 ((rd_T51 l0_2 a0).f0), .int .i64 ((rd_T51 l0_2 a0).f1), .int .i64 ((rd_T51 l0_2 a0).f2)] (fun k_ => k_ ≠ a2) (fun _ => False) rfl (by first | (go_simp; done) | (go_simp; rfl)) ?aP (fun _ hk => hk.elim) ?aF ?aO ?aB ?aS ?aL ?_; (case aP => exact k51_mkM _ _ _ (⟨(rd_T51 l0_2 a0).f0, (rd_T51 l0_2 a0).f1, (rd_T51 l0_2 a0).f2⟩ : S51)); (case aB => exact (by repeat (first | (with_reducible first | exact HB.out | apply below_alloc | apply pw_below_drewN | apply below_drew1 | refine below_set ?_ a7.out | refine below_set ?_ d3.out) | exact HB.out))); (case aF => exact (fun k_ hk => Kd.freshB (g := a2) (o := .cells #[.int .i64 ((rd_T51 l0_2 a0).f0), .int .i64 ((rd_T51 l0_2 a0).f1), .int .i64 ((rd_T51 l0_2 a0).f2)] 51 (0, 0)) (by (with_reducible repeat (first | refine blk_drewN ?_ _ | refine blk_drew ?_ | refine blk_alloc ?_ _)); refine blk_put (cs := #[.int .i64 ((rd_T51 l0_2 a0).f0), .int .i64 ((rd_T51 l0_2 a0).f1), .int .i64 0]) ?_ 2 _ rfl; (with_reducible repeat (first | refine blk_drewN ?_ _ | refine blk_drew ?_ | refine blk_alloc ?_ _)); refine blk_put (cs := #[.int .i64 ((rd_T51 l0_2 a0).f0), .int .i64 0, .int .i64 0]) ?_ 1 _ rfl; (with_reducible repeat (first | refine blk_drewN ?_ _ | refine blk_drew ?_ | refine blk_alloc ?_ _)); refine blk_put (cs := #[.int .i64 0, .int .i64 0, .int .i64 0]) ?_ 0 _ rfl; (with_reducible repeat (first | refine blk_drewN ?_ _ | refine blk_drew ?_ | refine blk_alloc ?_ _)); exact a6.out) k_ hk)); (case aO => exact (by (with_reducible repeat (first | apply Kd.R_alloc | apply Kd.R_drewN | apply Kd.R_drew)); exact Kd.R_mono (Kd.R_far (p := ⟨a2, 2, none⟩) (Kd.R_far (p := ⟨a2, 1, none⟩) (Kd.R_far (p := ⟨a2, 0, none⟩) (Kd.R_mono b1.out (fun k_ hk => (⟨hk, hk.2⟩ : _ ∧ k_ ≠ a2))) (fun _ hk => hk.2) (.int .i64 ((rd_T51 l0_2 a0).f0))) (fun _ hk => hk.2) (.int .i64 ((rd_T51 l0_2 a0).f1))) (fun _ hk => hk.2) (.int .i64 ((rd_T51 l0_2 a0).f2))) (fun _ hk => hk.1.2))); (case aS => exact (below_size (by repeat (first | (with_reducible first | exact HB.out | apply below_alloc | apply pw_below_drewN | apply below_drew1 | refine below_set ?_ a7.out | refine below_set ?_ d3.out) | exact HB.out)))); (case aL => have := f4.out; omega); intro i4 i5 ho hb hg hat; rw [← f6.out] at ho; have b5 := Aside0.mk (blk_grown (g := a4) (o := .cells #[.int .i64 a0_0, .slice A0_1 l0_1.length c0_1, .slice (some b3) l0_2.length c0_2] 25 (0, 0)) (by (with_reducible repeat (first | refine blk_drewN ?_ _ | refine blk_drew ?_ | refine blk_alloc ?_ _)); refine blk_far ?_ a5.out _; (with_reducible repeat (first | refine blk_drewN ?_ _ | refine blk_drew ?_ | refine blk_alloc ?_ _)); refine blk_far ?_ a5.out _; (with_reducible repeat (first | refine blk_drewN ?_ _ | refine blk_drew ?_ | refine blk_alloc ?_ _)); refine blk_far ?_ a5.out _; (with_reducible repeat (first | refine blk_drewN ?_ _ | refine blk_drew ?_ | refine blk_alloc ?_ _)); exact a3.out) hg (Kd.R_ne b1.out a3.out (by decide))); have b6 := Aside0.mk (blk_grown (g := a2) (o := .cells #[.int .i64 ((rd_T51 l0_2 a0).f0), .int .i64 ((rd_T51 l0_2 a0).f1), .int .i64 ((rd_T51 l0_2 a0).f2)] 51 (0, 0)) (by (with_reducible repeat (first | refine blk_drewN ?_ _ | refine blk_drew ?_ | refine blk_alloc ?_ _)); refine blk_put (cs := #[.int .i64 ((rd_T51 l0_2 a0).f0), .int .i64 ((rd_T51 l0_2 a0).f1), .int .i64 0]) ?_ 2 _ rfl; (with_reducible repeat (first | refine blk_drewN ?_ _ | refine blk_drew ?_ | refine blk_alloc ?_ _)); refine blk_put (cs := #[.int .i64 ((rd_T51 l0_2 a0).f0), .int .i64 0, .int .i64 0]) ?_ 1 _ rfl; (with_reducible repeat (first | refine blk_drewN ?_ _ | refine blk_drew ?_ | refine blk_alloc ?_ _)); refine blk_put (cs := #[.int .i64 0, .int .i64 0, .int .i64 0]) ?_ 0 _ rfl; (with_reducible repeat (first | refine blk_drewN ?_ _ | refine blk_drew ?_ | refine blk_alloc ?_ _)); exact a6.out) hg (Kd.R_away b1.out (fun _ hk => hk.2))); have b4 := Aside0.mk (hb); have b8 := Aside0.mk (ho); clear a3; clear a6; clear HB; clear b1; have a3 := b5; have a6 := b6; have HB := b4; have f8 := b8; clear b5 b6 b4 b8; clear ho hb hg hat))
        go_roundg k1
        case measure => have := d9.out; omega
        case rel => exact ⟨(e8), (wrap64 (a0 + 1)), (by first | rfl | (simp; done) | (simp [*]; done)), H', ⟨by have := d9.out; omega⟩, ⟨by (with_reducible repeat (first | apply Kd.R_alloc | apply Kd.R_drewN | apply Kd.R_drew)); exact Kd.R_mono f8.out (fun _ hk => trivial)⟩, ⟨by (with_reducible repeat (first | refine blk_drewN ?_ _ | refine blk_drew ?_ | refine blk_alloc ?_ _)); exact a3.out⟩, ⟨by repeat (first | (with_reducible first | exact HB.out | apply below_alloc | apply pw_below_drewN | apply below_drew1 | refine below_set ?_ a7.out | refine below_set ?_ d3.out) | exact HB.out)⟩⟩
       ·rw [if_neg c10] at H
        exact absurd H (by simp)
      ·rw [if_neg c9] at H
       have c9b0 : (((rd_T51 l0_2 a0).f1) == b2) = false := beq_eq_false_iff_ne.mpr c9
       have c9b1 : (((rd_T51 l0_2 a0).f1) != b2) = true := bne_iff_ne.mpr c9
       have H' := Aside0.mk H
       clear H
       have d0 : 0 ≤ (a0 : Int) := of_decide_eq_true (by first | (with_reducible assumption) | assumption)
       have d1 : a0 < (l0_2.length : Int) := of_decide_eq_true (by first | (with_reducible assumption) | assumption)
       obtain ⟨b3, d8, a8, b0, a9⟩ := at_T51 e0.out a0 d0 d1
       cases d8
       replace a8 := (HB.out.cell (World.block_lt_of_cell? w _ a8)).trans a8
       replace b0 := (HB.out.cell (World.block_lt_of_cell? w _ b0)).trans b0
       replace a9 := (HB.out.cell (World.block_lt_of_cell? w _ a9)).trans a9
       replace d0 := eq_true d0
       replace d1 := eq_true d1
       go_wp2_with (first | ((with_reducible refine gate_dst (N := 9) rfl ?_); refine box_event ?hg (N := 9) ?hd (cs := #[.int .i64 0, .int .i64 0, .int .i64 0]) (t := 51) ?hr ?_; (case hd => rfl); (case hg => rfl); (case hr => first | (go_simp; done) | (go_simp; rfl)); intro a2 hg e4 hbox hb; have b5 := Aside0.mk (Kd.R_below (Kd.R_elderB (by (with_reducible repeat (first | apply Kd.R_alloc | apply Kd.R_drewN | apply Kd.R_drew)); exact b1.out) a2 (Nat.le_of_eq hg.symm)) hb); have b6 := Aside0.mk (blk_below (g := a4) (o := .cells #[.int .i64 a0_0, .slice A0_1 l0_1.length c0_1, .slice (some b3) l0_2.length c0_2] 25 (0, 0)) (by (with_reducible repeat (first | refine blk_drewN ?_ _ | refine blk_drew ?_ | refine blk_alloc ?_ _)); exact a3.out) hb); have b4 := Aside0.mk (below_step (by repeat (first | (with_reducible first | exact HB.out | apply below_alloc | apply pw_below_drewN | apply below_drew1 | refine below_set ?_ a7.out) | exact HB.out)) hb); have b8 := Aside0.mk (hbox); have d5 := Aside0.mk ((by rw [hg]; exact (below_size (by repeat (first | (with_reducible first | exact HB.out | apply below_alloc | apply pw_below_drewN | apply below_drew1 | refine below_set ?_ a7.out) | exact HB.out))) : w.heap.size ≤ a2)); have d7 := Aside0.mk ((by rw [hg]; exact (below_size (by repeat (first | (with_reducible first | exact HB.out | apply below_alloc | apply pw_below_drewN | apply below_drew1 | refine below_set ?_ a7.out) | exact HB.out))) : w.heap.size ≤ a2)); have d4 := Aside0.mk ((by rw [hg]; exact Nat.ne_of_lt (blk_lt (g := a4) (o := .cells #[.int .i64 a0_0, .slice A0_1 l0_1.length c0_1, .slice (some b3) l0_2.length c0_2] 25 (0, 0)) (by (with_reducible repeat (first | refine blk_drewN ?_ _ | refine blk_drew ?_ | refine blk_alloc ?_ _)); exact a3.out)) : a4 ≠ a2)); have d6 := Aside0.mk ((by rw [hg]; exact Nat.ne_of_gt (blk_lt (g := a4) (o := .cells #[.int .i64 a0_0, .slice A0_1 l0_1.length c0_1, .slice (some b3) l0_2.length c0_2] 25 (0, 0)) (by (with_reducible repeat (first | refine blk_drewN ?_ _ | refine blk_drew ?_ | refine blk_alloc ?_ _)); exact a3.out)) : a2 ≠ a4)); clear b1; clear a3; clear HB; have b1 := b5; have a3 := b6; have HB := b4; have a6 := b8; have f7 := d5; have d3 := d7; have a5 := d4; have b7 := d6; clear b5 b6 b4 b8 d5 d7 d4 d6; clear hb hbox hg; have i1 := b7.out; have h5 := a5.out; have g6 : e4.cell? ⟨a2, 0, none⟩ = some (.int .i64 0) := (blk_cell a6.out 0).trans rfl; have g4 : e4.cell? ⟨a2, 1, none⟩ = some (.int .i64 0) := (blk_cell a6.out 1).trans rfl; have g5 : e4.cell? ⟨a2, 2, none⟩ = some (.int .i64 0) := (blk_cell a6.out 2).trans rfl; have g7 := blk_frozen a6.out 0; have g3 := blk_frozen a6.out 1; have g8 := blk_frozen a6.out 2))
       go_roundg k1
       case measure => have := d9.out; omega
       case rel => exact ⟨(b9), (wrap64 (a0 + 1)), (by first | rfl | (simp; done) | (simp [*]; done)), H', ⟨by have := d9.out; omega⟩, ⟨by (with_reducible repeat (first | apply Kd.R_alloc | apply Kd.R_drewN | apply Kd.R_drew)); exact Kd.R_mono (Kd.R_far (p := ⟨a2, 2, none⟩) (Kd.R_far (p := ⟨a2, 1, none⟩) (Kd.R_far (p := ⟨a2, 0, none⟩) (Kd.R_mono b1.out (fun k_ hk => (⟨hk, hk.2⟩ : _ ∧ k_ ≠ a2))) (fun _ hk => hk.2) (.int .i64 ((rd_T51 l0_2 a0).f0))) (fun _ hk => hk.2) (.int .i64 ((rd_T51 l0_2 a0).f1))) (fun _ hk => hk.2) (.int .i64 ((rd_T51 l0_2 a0).f2))) (fun _ hk => trivial)⟩, ⟨by (with_reducible repeat (first | refine blk_drewN ?_ _ | refine blk_drew ?_ | refine blk_alloc ?_ _)); refine blk_far ?_ a5.out _; (with_reducible repeat (first | refine blk_drewN ?_ _ | refine blk_drew ?_ | refine blk_alloc ?_ _)); refine blk_far ?_ a5.out _; (with_reducible repeat (first | refine blk_drewN ?_ _ | refine blk_drew ?_ | refine blk_alloc ?_ _)); refine blk_far ?_ a5.out _; (with_reducible repeat (first | refine blk_drewN ?_ _ | refine blk_drew ?_ | refine blk_alloc ?_ _)); exact a3.out⟩, ⟨by repeat (first | (with_reducible first | exact HB.out | apply below_alloc | apply pw_below_drewN | apply below_drew1 | refine below_set ?_ a7.out | refine below_set ?_ d3.out) | exact HB.out)⟩⟩
     ·rw [if_neg c8] at H
      exact absurd H (by simp)
    ·rw [if_neg c7] at H
     exact absurd H (by simp)
   ·rw [if_neg c6] at H
    have c6b0 : decide (a0 < (l0_2.length : Int)) = false := decide_eq_false c6
    clear c6
    simp only [Option.some.injEq, Prod.mk.injEq] at H
    obtain ⟨rfl, rfl⟩ := H
    go_wp2
    go_ret2
    exact ⟨_, by first | rfl | (simp [errW_none, errW_some] <;> rfl) | (simp [*, errW_none, errW_some] <;> rfl), by (with_reducible repeat (first | apply Kd.R_alloc | apply Kd.R_drewN | apply Kd.R_drew)); exact b1.out, by repeat (first | (with_reducible first | exact HB.out | apply below_alloc | apply pw_below_drewN | apply below_drew1 | refine below_set ?_ a7.out) | exact HB.out)⟩
def Pxb.l0 : Nat → List (S51) → Int → Int → Option ((List (S51)))
 | 0, _, _, _ => none
 | k + 1, x3, x5, x6 => if x6 < x5 then (if x3.length < 5864062014805 then (Pxb.l0 k (x3 ++ [(⟨x6, 0, x6⟩ : S51)]) x5 (wrap64 (x6 + 1))) else (none)) else (some x3)
def Pxb.f (k : Nat) (a0 : Int) : Option ((List (S51))) := Pxb.l0 k ([] : List (S51)) a0 0
theorem Pxb.mono_l : ∀ k, (∀ y0 y1 y2, LeO (Pxb.l0 k y0 y1 y2) (Pxb.l0 (k + 1) y0 y1 y2))
 | 0 => fun _ _ _ r h => by simp [Pxb.l0] at h
 | k + 1 => by
  have ih0 := Pxb.mono_l k
  ·intro y0 y1 y2
   unfold Pxb.l0
   repeat' first
   | (with_reducible exact ih0 _ _ _)
   | (with_reducible exact LeO.refl _)
   | (with_reducible exact LeO.none _)
   | (with_reducible refine LeO.ite ?_ ?_)
   | (with_reducible refine LeO.bind ?_ (fun _ => ?_))
   | exact ih0 _ _ _
   | exact LeO.none _
   | refine LeO.ite ?_ ?_
   | refine LeO.bind ?_ (fun _ => ?_)
theorem Pxb.mono : ∀ a0 k, LeO (Pxb.f k a0) (Pxb.f (k + 1) a0) := by
 intro a0 k
 have ih0 := Pxb.mono_l k
 unfold Pxb.f
 repeat' first
   | (with_reducible exact ih0 _ _ _)
   | (with_reducible exact LeO.refl _)
   | (with_reducible exact LeO.none _)
   | (with_reducible refine LeO.ite ?_ ?_)
   | (with_reducible refine LeO.bind ?_ (fun _ => ?_))
   | exact ih0 _ _ _
   | exact LeO.none _
   | refine LeO.ite ?_ ?_
   | refine LeO.bind ?_ (fun _ => ?_)
set_option maxHeartbeats 8000000 in
set_option maxRecDepth 100000 in
theorem Pxb.calls (k : Nat) (a0 : Int) (r : List (S51)) (w : World) (h : Pxb.f k a0 = some r) :
  Calls Try.prog 62 #[.int .i64 a0] w fun e w' => ∃ v0_ : Value, e = .returned (v0_) ∧ Kd.R k51 51 w' w.heap.size (fun _ => True) v0_ r ∧ Below w.heap.size w w' := by
 have b4 := Try.underlying51
 have HB := Aside0.mk (Below.refl w.heap.size w)
 have H : (Pxb.l0 k ([] : List (S51)) a0 0) = some r := h
 clear h
 have H' := Aside0.mk H
 clear H
 go_enter Try.func62, Try.ntmps62
 go_wp2
 go_loopg [3, 6] k (fun kq v3 v6 w' => ∃ (a3 : List (S51)) (a1 : Int), v6 = .int .i64 a1 ∧ Aside0 (Pxb.l0 kq a3 a0 a1 = some r) ∧ Aside0 (kq ≤ k) ∧ Aside0 (Kd.R k51 51 w' w.heap.size (fun _ => True) v3 a3) ∧ Aside0 (Below w.heap.size w w'))
 case atStart => exact ⟨(([] : List (S51))), (0), (by first | rfl | (simp; done) | (simp [*]; done)), H', ⟨Nat.le_refl _⟩, ⟨by first | exact Kd.R_nil _ _ _ _ _ | exact Kd.N_nil _ _ _ _ _ | exact Kd.V_nil _ _ _ _ _ | exact Kd.Q_nil _ _ _ _ _ | exact Kd.S_nil _ _ _ _ _⟩, ⟨by repeat (first | (with_reducible first | exact HB.out | apply below_alloc | apply pw_below_drewN | apply below_drew1) | exact HB.out)⟩⟩
 case round =>
  clear H'
  obtain ⟨a3, a1, rfl, HA, b0, a4, HB⟩ := hrel
  cases gk with
  | zero => exact absurd HA.out (by simp [Pxb.l0])
  | succ k1 =>
   have H := HA.out
   clear HA
   simp only [Pxb.l0] at H
   by_cases c2 : a1 < a0
   ·rw [if_pos c2] at H
    have c2b0 : decide (a1 < a0) = true := decide_eq_true c2
    clear c2
    by_cases c3 : a3.length < 5864062014805
    ·rw [if_pos c3] at H
     have b2 := Aside0.mk c3
     clear c3
     obtain ⟨a5, a2⟩ : ∃ y_ : List (S51), y_ = (a3 ++ [(⟨a1, 0, a1⟩ : S51)]) := ⟨_, rfl⟩
     replace H : (Pxb.l0 k1 a5 a0 (wrap64 (a1 + 1))) = some r := by first | (rw [a2]; with_reducible exact H) | (have a6 := (Option.bind_some _ _).symm.trans H; rw [a2]; with_reducible exact a6) | (have a6 := (Option.bind_some _ _).symm.trans H; with_reducible exact a6) | with_reducible exact H | (rw [a2]; exact H) | exact H
     have a8 := Aside0.mk a2
     clear a2
     have H' := Aside0.mk H
     clear H
     go_wp2_with (first | ((with_reducible refine gate_builtin (b := .append) (xs := #[.tmp 9, .tmp 13]) rfl ?_); at_builtin; refine Kd.R_append k51 (w0 := w) w.heap.size rfl (.tmp 9) (.tmp 13) 23 51 (.agg #[(.int .i64 0), (.int .i64 0), (.int .i64 0)]) 24 rfl Try.underlying23 info51 rfl (by decide) (by omega) u3 a3 (⟨a1, 0, a1⟩ : S51) [.int .i64 a1, .int .i64 0, .int .i64 a1] (fun _ => True) (fun _ => False) rfl rfl ?aP (fun _ hk => hk.elim) ?aF ?aO ?aB ?aS ?aL ?_; (case aP => exact k51_mkM _ _ _ (⟨a1, 0, a1⟩ : S51)); (case aB => exact (by repeat (first | (with_reducible first | exact HB.out | apply below_alloc | apply pw_below_drewN | apply below_drew1) | exact HB.out))); (case aF => exact (fun _ _ => trivial)); (case aO => exact (by (with_reducible repeat (first | apply Kd.R_alloc | apply Kd.R_drewN | apply Kd.R_drew)); exact a4.out)); (case aS => exact (below_size (by repeat (first | (with_reducible first | exact HB.out | apply below_alloc | apply pw_below_drewN | apply below_drew1) | exact HB.out)))); (case aL => have := b2.out; omega); intro b3 w4 ho hb hg hat; rw [← a8.out] at ho; have b1 := Aside0.mk (hb); have a9 := Aside0.mk (ho); clear HB; clear a4; have HB := b1; have a7 := a9; clear b1 a9; clear ho hb hg hat))
     go_roundg k1
     case measure => have := b0.out; omega
     case rel => exact ⟨(a5), (wrap64 (a1 + 1)), (by first | rfl | (simp; done) | (simp [*]; done)), H', ⟨by have := b0.out; omega⟩, ⟨by (with_reducible repeat (first | apply Kd.R_alloc | apply Kd.R_drewN | apply Kd.R_drew)); exact a7.out⟩, ⟨by repeat (first | (with_reducible first | exact HB.out | apply below_alloc | apply pw_below_drewN | apply below_drew1) | exact HB.out)⟩⟩
    ·rw [if_neg c3] at H
     exact absurd H (by simp)
   ·rw [if_neg c2] at H
    have c2b0 : decide (a1 < a0) = false := decide_eq_false c2
    clear c2
    obtain rfl := Option.some.inj H
    go_wp2
    go_ret
    exact ⟨_, by first | rfl | (simp [errW_none, errW_some] <;> rfl) | (simp [*, errW_none, errW_some] <;> rfl), by (with_reducible repeat (first | apply Kd.R_alloc | apply Kd.R_drewN | apply Kd.R_drew)); exact a4.out, by repeat (first | (with_reducible first | exact HB.out | apply below_alloc | apply pw_below_drewN | apply below_drew1) | exact HB.out)⟩
def Pxd.f (k : Nat) (a0_0 : Int) (l0_1 : List ByteArray) (l0_2 : List (S51)) (a1_0 : Int) (l1_1 : List ByteArray) (l1_2 : List (S51)) (a2 : ByteArray) : Option ((List (S51)) × (List (S51))) := (Pxg.f k a0_0 l0_1 l0_2 a2).bind fun bt115 => ((Pxg.f k a1_0 l1_1 l1_2 a2).bind fun bt119 => (if bt115.2 = true then (if bt119.2 = true then (some (bt115.1, bt119.1)) else ((Pxb.f k a1_0).bind fun t123 => (some (bt115.1, t123)))) else ((Pxb.f k a0_0).bind fun t126 => (if bt119.2 = true then (some (t126, bt119.1)) else ((Pxb.f k a1_0).bind fun t129 => (some (t126, t129)))))))
theorem Pxd.mono : ∀ a0 a1 a2 a3 a4 a5 a6 k, LeO (Pxd.f k a0 a1 a2 a3 a4 a5 a6) (Pxd.f (k + 1) a0 a1 a2 a3 a4 a5 a6) := by
 intro a0 a1 a2 a3 a4 a5 a6 k
 unfold Pxd.f
 repeat' first
   | (with_reducible exact Pxg.mono _ _ _ _ _)
   | (with_reducible exact Pxb.mono _ _)
   | (with_reducible exact LeO.refl _)
   | (with_reducible exact LeO.none _)
   | (with_reducible refine LeO.ite ?_ ?_)
   | (with_reducible refine LeO.bind ?_ (fun _ => ?_))
   | exact Pxg.mono _ _ _ _ _
   | exact Pxb.mono _ _
   | exact LeO.none _
   | refine LeO.ite ?_ ?_
   | refine LeO.bind ?_ (fun _ => ?_)
set_option maxHeartbeats 8000000 in
set_option maxRecDepth 100000 in
theorem Pxd.calls (k : Nat) (a0_0 : Int) (A0_1 : Option Addr) (c0_1 : Nat) (l0_1 : List ByteArray) (A0_2 : Option Addr) (c0_2 : Nat) (l0_2 : List (S51)) (a1_0 : Int) (A1_1 : Option Addr) (c1_1 : Nat) (l1_1 : List ByteArray) (A1_2 : Option Addr) (c1_2 : Nat) (l1_2 : List (S51)) (a2 : ByteArray) (r1 : List (S51)) (r2 : List (S51)) (w : World) (hr0_1 : Kd.C Kd.string w A0_1 l0_1.length l0_1) (hc0_1 : l0_1.length ≤ c0_1) (hr0_2 : Kd.C k51 w A0_2 l0_2.length l0_2) (hc0_2 : l0_2.length ≤ c0_2) (hr1_1 : Kd.C Kd.string w A1_1 l1_1.length l1_1) (hc1_1 : l1_1.length ≤ c1_1) (hr1_2 : Kd.C k51 w A1_2 l1_2.length l1_2) (hc1_2 : l1_2.length ≤ c1_2) (h : Pxd.f k a0_0 l0_1 l0_2 a1_0 l1_1 l1_2 a2 = some (r1, r2)) :
  Calls Try.prog 47 #[.agg #[.int .i64 a0_0, .slice A0_1 l0_1.length c0_1, .slice A0_2 l0_2.length c0_2], .agg #[.int .i64 a1_0, .slice A1_1 l1_1.length c1_1, .slice A1_2 l1_2.length c1_2], .string a2] w fun e w' => ∃ v0_ v1_ : Value, e = .returned (.tuple #[v0_, v1_]) ∧ Kd.R k51 51 w' w.heap.size (fun k_ => some k_ ≠ (v1_ : Value).ownBlock) v0_ r1 ∧ Kd.R k51 51 w' w.heap.size (fun k_ => some k_ ≠ (v0_ : Value).ownBlock) v1_ r2 ∧ Below w.heap.size w w' := by
 have q5 := Try.underlying25
 have e4 := Aside0.mk hr0_1
 have e9 := Aside0.mk hc0_1
 clear hr0_1 hc0_1
 have e2 := Aside0.mk hr0_2
 have e7 := Aside0.mk hc0_2
 clear hr0_2 hc0_2
 have e5 := Aside0.mk hr1_1
 have e3 := Aside0.mk hc1_1
 clear hr1_1 hc1_1
 have e6 := Aside0.mk hr1_2
 have e8 := Aside0.mk hc1_2
 clear hr1_2 hc1_2
 have HB := Aside0.mk (Below.refl w.heap.size w)
 have H : ((Pxg.f k a0_0 l0_1 l0_2 a2).bind fun f0 => ((Pxg.f k a1_0 l1_1 l1_2 a2).bind fun d2 => (if f0.2 = true then (if d2.2 = true then (some (f0.1, d2.1)) else ((Pxb.f k a1_0).bind fun d1 => (some (f0.1, d1)))) else ((Pxb.f k a0_0).bind fun b5 => (if d2.2 = true then (some (b5, d2.1)) else ((Pxb.f k a1_0).bind fun b9 => (some (b5, b9)))))))) = some (r1, r2) := h
 clear h
 replace H := Option.bind_eq_some_iff.mp H
 obtain ⟨⟨d0, f3⟩, h5, H⟩ := H
 replace H : ((Pxg.f k a1_0 l1_1 l1_2 a2).bind fun d2 => (if f3 = true then (if d2.2 = true then (some (d0, d2.1)) else ((Pxb.f k a1_0).bind fun d1 => (some (d0, d1)))) else ((Pxb.f k a0_0).bind fun b5 => (if d2.2 = true then (some (b5, d2.1)) else ((Pxb.f k a1_0).bind fun b9 => (some (b5, b9))))))) = some (r1, r2) := H
 have A4 := Aside0.mk h5
 clear h5
 replace H := Option.bind_eq_some_iff.mp H
 obtain ⟨⟨d3, e1⟩, h4, H⟩ := H
 replace H : (if f3 = true then (if e1 = true then (some (d0, d3)) else ((Pxb.f k a1_0).bind fun d1 => (some (d0, d1)))) else ((Pxb.f k a0_0).bind fun b5 => (if e1 = true then (some (b5, d3)) else ((Pxb.f k a1_0).bind fun b9 => (some (b5, b9)))))) = some (r1, r2) := H
 have A5 := Aside0.mk h4
 clear h4
 by_cases c6 : f3 = true
 ·subst c6
  have H1 : (if e1 = true then (some (d0, d3)) else ((Pxb.f k a1_0).bind fun d1 => (some (d0, d1)))) = some (r1, r2) := by rw [if_pos rfl] at H; exact H
  clear H
  have H := H1
  clear H1
  by_cases c7 : e1 = true
  ·subst c7
   have H1 : (some (d0, d3)) = some (r1, r2) := by rw [if_pos rfl] at H; exact H
   clear H
   have H := H1
   clear H1
   simp only [Option.some.injEq, Prod.mk.injEq] at H
   obtain ⟨rfl, rfl⟩ := H
   go_enter Try.func47, Try.ntmps47
   go_wp2_with (first | ((with_reducible refine gate_dst (N := 3) rfl ?_); refine box_event ?hg (N := 3) ?hd (cs := #[.int .i64 a0_0, .slice A0_1 l0_1.length c0_1, .slice A0_2 l0_2.length c0_2]) (t := 25) ?hr ?_; (case hd => rfl); (case hg => rfl); (case hr => first | (go_simp; done) | (go_simp; rfl)); intro a3 hg w8 hbox hb; have a8 := Aside0.mk (below_step (by repeat (first | (with_reducible first | exact HB.out | apply below_alloc | apply pw_below_drewN | apply below_drew1) | exact HB.out)) hb); have b0 := Aside0.mk (hbox); have a7 := Aside0.mk ((by rw [hg]; exact (below_size (by repeat (first | (with_reducible first | exact HB.out | apply below_alloc | apply pw_below_drewN | apply below_drew1) | exact HB.out))) : w.heap.size ≤ a3)); have a9 := Aside0.mk ((by rw [hg]; exact (below_size (by repeat (first | (with_reducible first | exact HB.out | apply below_alloc | apply pw_below_drewN | apply below_drew1) | exact HB.out))) : w.heap.size ≤ a3)); clear HB; have HB := a8; have a0 := b0; have f1 := a7; have a5 := a9; clear a8 b0 a7 a9; clear hb hbox hg) | ((with_reducible refine gate_dst (N := 4) rfl ?_); refine box_event ?hg (N := 4) ?hd (cs := #[.int .i64 a1_0, .slice A1_1 l1_1.length c1_1, .slice A1_2 l1_2.length c1_2]) (t := 25) ?hr ?_; (case hd => rfl); (case hg => rfl); (case hr => first | (go_simp; done) | (go_simp; rfl)); intro a4 hg w9 hbox hb; have a8 := Aside0.mk (blk_below (g := a3) (o := .cells #[.int .i64 a0_0, .slice A0_1 l0_1.length c0_1, .slice A0_2 l0_2.length c0_2] 25 (0, 0)) (by (with_reducible repeat (first | refine blk_drewN ?_ _ | refine blk_drew ?_ | refine blk_alloc ?_ _)); exact a0.out) hb); have b0 := Aside0.mk (below_step (by repeat (first | (with_reducible first | exact HB.out | apply below_alloc | apply pw_below_drewN | apply below_drew1 | refine below_set ?_ a5.out) | exact HB.out)) hb); have a7 := Aside0.mk (hbox); have a9 := Aside0.mk ((by rw [hg]; exact (below_size (by repeat (first | (with_reducible first | exact HB.out | apply below_alloc | apply pw_below_drewN | apply below_drew1 | refine below_set ?_ a5.out) | exact HB.out))) : w.heap.size ≤ a4)); have b4 := Aside0.mk ((by rw [hg]; exact (below_size (by repeat (first | (with_reducible first | exact HB.out | apply below_alloc | apply pw_below_drewN | apply below_drew1 | refine below_set ?_ a5.out) | exact HB.out))) : w.heap.size ≤ a4)); have b7 := Aside0.mk ((by rw [hg]; exact Nat.ne_of_lt (blk_lt (g := a3) (o := .cells #[.int .i64 a0_0, .slice A0_1 l0_1.length c0_1, .slice A0_2 l0_2.length c0_2] 25 (0, 0)) (by (with_reducible repeat (first | refine blk_drewN ?_ _ | refine blk_drew ?_ | refine blk_alloc ?_ _)); exact a0.out)) : a3 ≠ a4)); have d4 := Aside0.mk ((by rw [hg]; exact Nat.ne_of_gt (blk_lt (g := a3) (o := .cells #[.int .i64 a0_0, .slice A0_1 l0_1.length c0_1, .slice A0_2 l0_2.length c0_2] 25 (0, 0)) (by (with_reducible repeat (first | refine blk_drewN ?_ _ | refine blk_drew ?_ | refine blk_alloc ?_ _)); exact a0.out)) : a4 ≠ a3)); clear a0; clear HB; have a0 := a8; have HB := b0; have a1 := a7; have f2 := a9; have b1 := b4; have b6 := b7; have b8 := d4; clear a8 b0 a7 a9 b4 b7 d4; clear hb hbox hg; have q4 := b6.out; have q3 := b8.out; have k0 : w9.cell? ⟨a3, 0, none⟩ = some (.int .i64 a0_0) := (blk_cell a0.out 0).trans rfl; have j8 : w9.cell? ⟨a3, 1, none⟩ = some (.slice A0_1 l0_1.length c0_1) := (blk_cell a0.out 1).trans rfl; have n1 : w9.cell? ⟨a3, 2, none⟩ = some (.slice A0_2 l0_2.length c0_2) := (blk_cell a0.out 2).trans rfl; have m8 := blk_frozen a0.out 0; have l4 := blk_frozen a0.out 1; have i4 := blk_frozen a0.out 2) | ((with_reducible refine gate_callee (f := 61) rfl ?_); refine goesL_ (some 15) rfl rfl Try.func61 (by kernel_rfl) rfl #[.agg #[.int .i64 a0_0, .slice A0_1 l0_1.length c0_1, .slice A0_2 l0_2.length c0_2], .string a2] rfl (by (try simp only [List.map_toArray, List.map_cons, List.map_nil]); first | done | rfl | (simp only [List.length_drop, List.length_take]; rfl)) ?_; (with_reducible refine (Pxg.calls k a0_0 _ _ l0_1 _ _ l0_2 a2 d0 true _ ?d7 ?d5 ?d6 ?d9 A4.out).mono ?_); (case d7 => repeat (first | exact (Kd.C_below e4.out HB.out) | (with_reducible refine Kd.C_alloc ?_ _) | (with_reducible refine Kd.C_drewN ?_ _) | (with_reducible refine Kd.C_drew ?_))); (case d5 => exact e9.out); (case d6 => repeat (first | exact (Kd.C_below e2.out HB.out) | (with_reducible refine Kd.C_alloc ?_ _) | (with_reducible refine Kd.C_drewN ?_ _) | (with_reducible refine Kd.C_drew ?_))); (case d9 => exact e7.out); rintro e f8 ⟨f5, rfl, b2, hb⟩; refine ⟨_, rfl, ?_⟩; have a8 := Aside0.mk (Kd.R_lower b2 (below_size (by repeat (first | (with_reducible first | exact HB.out | apply below_alloc | apply pw_below_drewN | apply below_drew1 | refine below_set ?_ a5.out | refine below_set ?_ b1.out) | exact HB.out)))); have b0 := Aside0.mk (blk_below (g := a3) (o := .cells #[.int .i64 a0_0, .slice A0_1 l0_1.length c0_1, .slice A0_2 l0_2.length c0_2] 25 (0, 0)) (by (with_reducible repeat (first | refine blk_drewN ?_ _ | refine blk_drew ?_ | refine blk_alloc ?_ _)); exact a0.out) hb); have a7 := Aside0.mk (blk_below (g := a4) (o := .cells #[.int .i64 a1_0, .slice A1_1 l1_1.length c1_1, .slice A1_2 l1_2.length c1_2] 25 (0, 0)) (by (with_reducible repeat (first | refine blk_drewN ?_ _ | refine blk_drew ?_ | refine blk_alloc ?_ _)); exact a1.out) hb); have a9 := Aside0.mk (below_step (by repeat (first | (with_reducible first | exact HB.out | apply below_alloc | apply pw_below_drewN | apply below_drew1 | refine below_set ?_ a5.out | refine below_set ?_ b1.out) | exact HB.out)) hb); clear a0; clear a1; clear HB; have a6 := a8; have a0 := b0; have a1 := a7; have HB := a9; clear a8 b0 a7 a9; (try clear hb); (try clear e0); (try clear hk); (try clear hi); (try clear b2); have m3 : f8.cell? ⟨a4, 0, none⟩ = some (.int .i64 a1_0) := (blk_cell a1.out 0).trans rfl; have m5 : f8.cell? ⟨a4, 1, none⟩ = some (.slice A1_1 l1_1.length c1_1) := (blk_cell a1.out 1).trans rfl; have n7 : f8.cell? ⟨a4, 2, none⟩ = some (.slice A1_2 l1_2.length c1_2) := (blk_cell a1.out 2).trans rfl; have p3 := blk_frozen a1.out 0; have o1 := blk_frozen a1.out 1; have n5 := blk_frozen a1.out 2) | ((with_reducible refine gate_callee (f := 61) rfl ?_); refine goesL_ (some 21) rfl rfl Try.func61 (by kernel_rfl) rfl #[.agg #[.int .i64 a1_0, .slice A1_1 l1_1.length c1_1, .slice A1_2 l1_2.length c1_2], .string a2] rfl (by (try simp only [List.map_toArray, List.map_cons, List.map_nil]); first | done | rfl | (simp only [List.length_drop, List.length_take]; rfl)) ?_; (with_reducible refine (Pxg.calls k a1_0 _ _ l1_1 _ _ l1_2 a2 d3 true _ ?d7 ?d5 ?d6 ?d9 A5.out).mono ?_); (case d7 => repeat (first | exact (Kd.C_below e5.out HB.out) | (with_reducible refine Kd.C_alloc ?_ _) | (with_reducible refine Kd.C_drewN ?_ _) | (with_reducible refine Kd.C_drew ?_))); (case d5 => exact e3.out); (case d6 => repeat (first | exact (Kd.C_below e6.out HB.out) | (with_reducible refine Kd.C_alloc ?_ _) | (with_reducible refine Kd.C_drewN ?_ _) | (with_reducible refine Kd.C_drew ?_))); (case d9 => exact e8.out); rintro e q8 ⟨f4, rfl, b2, hb⟩; refine ⟨_, rfl, ?_⟩; have a8 := Aside0.mk (Kd.R_elder' (by (with_reducible repeat (first | apply Kd.R_alloc | apply Kd.R_drewN | apply Kd.R_drew)); exact a6.out) (Kd.R_base b2) hb); have b0 := Aside0.mk (Kd.R_lower (Kd.R_new' b2 (Kd.R_lt (by (with_reducible repeat (first | apply Kd.R_alloc | apply Kd.R_drewN | apply Kd.R_drew)); exact a6.out))) (below_size (by repeat (first | (with_reducible first | exact HB.out | apply below_alloc | apply pw_below_drewN | apply below_drew1 | refine below_set ?_ a5.out | refine below_set ?_ b1.out) | exact HB.out)))); have a7 := Aside0.mk (blk_below (g := a3) (o := .cells #[.int .i64 a0_0, .slice A0_1 l0_1.length c0_1, .slice A0_2 l0_2.length c0_2] 25 (0, 0)) (by (with_reducible repeat (first | refine blk_drewN ?_ _ | refine blk_drew ?_ | refine blk_alloc ?_ _)); exact a0.out) hb); have a9 := Aside0.mk (blk_below (g := a4) (o := .cells #[.int .i64 a1_0, .slice A1_1 l1_1.length c1_1, .slice A1_2 l1_2.length c1_2] 25 (0, 0)) (by (with_reducible repeat (first | refine blk_drewN ?_ _ | refine blk_drew ?_ | refine blk_alloc ?_ _)); exact a1.out) hb); have b4 := Aside0.mk (below_step (by repeat (first | (with_reducible first | exact HB.out | apply below_alloc | apply pw_below_drewN | apply below_drew1 | refine below_set ?_ a5.out | refine below_set ?_ b1.out) | exact HB.out)) hb); clear a6; clear a0; clear a1; clear HB; have a6 := a8; have b3 := b0; have a0 := a7; have a1 := a9; have HB := b4; clear a8 b0 a7 a9 b4; (try clear hb); (try clear e0); (try clear hk); (try clear hi); (try clear b2)))
   go_ret2
   exact ⟨_, _, by first | rfl | (simp [errW_none, errW_some] <;> rfl) | (simp [*, errW_none, errW_some] <;> rfl), by (with_reducible repeat (first | apply Kd.R_alloc | apply Kd.R_drewN | apply Kd.R_drew)); exact Kd.R_mono a6.out (fun _ hk => hk.2), by (with_reducible repeat (first | apply Kd.R_alloc | apply Kd.R_drewN | apply Kd.R_drew)); exact Kd.R_mono b3.out (fun _ hk => hk.2), by repeat (first | (with_reducible first | exact HB.out | apply below_alloc | apply pw_below_drewN | apply below_drew1 | refine below_set ?_ a5.out | refine below_set ?_ b1.out) | exact HB.out)⟩
  ·replace c7 := Bool.eq_false_iff.mpr c7
   subst c7
   have H1 : ((Pxb.f k a1_0).bind fun d1 => (some (d0, d1))) = some (r1, r2) := by rw [if_neg (show ¬ (false = true) by decide)] at H; exact H
   clear H
   have H := H1
   clear H1
   replace H := Option.bind_eq_some_iff.mp H
   obtain ⟨d1, g4, H⟩ := H
   replace H : (some (d0, d1)) = some (r1, r2) := H
   have p6 := Aside0.mk g4
   clear g4
   simp only [Option.some.injEq, Prod.mk.injEq] at H
   obtain ⟨rfl, rfl⟩ := H
   go_enter Try.func47, Try.ntmps47
   go_wp2_with (first | ((with_reducible refine gate_dst (N := 3) rfl ?_); refine box_event ?hg (N := 3) ?hd (cs := #[.int .i64 a0_0, .slice A0_1 l0_1.length c0_1, .slice A0_2 l0_2.length c0_2]) (t := 25) ?hr ?_; (case hd => rfl); (case hg => rfl); (case hr => first | (go_simp; done) | (go_simp; rfl)); intro a3 hg q9 hbox hb; have a8 := Aside0.mk (below_step (by repeat (first | (with_reducible first | exact HB.out | apply below_alloc | apply pw_below_drewN | apply below_drew1) | exact HB.out)) hb); have b0 := Aside0.mk (hbox); have a7 := Aside0.mk ((by rw [hg]; exact (below_size (by repeat (first | (with_reducible first | exact HB.out | apply below_alloc | apply pw_below_drewN | apply below_drew1) | exact HB.out))) : w.heap.size ≤ a3)); have a9 := Aside0.mk ((by rw [hg]; exact (below_size (by repeat (first | (with_reducible first | exact HB.out | apply below_alloc | apply pw_below_drewN | apply below_drew1) | exact HB.out))) : w.heap.size ≤ a3)); clear HB; have HB := a8; have a0 := b0; have f1 := a7; have a5 := a9; clear a8 b0 a7 a9; clear hb hbox hg) | ((with_reducible refine gate_dst (N := 4) rfl ?_); refine box_event ?hg (N := 4) ?hd (cs := #[.int .i64 a1_0, .slice A1_1 l1_1.length c1_1, .slice A1_2 l1_2.length c1_2]) (t := 25) ?hr ?_; (case hd => rfl); (case hg => rfl); (case hr => first | (go_simp; done) | (go_simp; rfl)); intro a4 hg g9 hbox hb; have a8 := Aside0.mk (blk_below (g := a3) (o := .cells #[.int .i64 a0_0, .slice A0_1 l0_1.length c0_1, .slice A0_2 l0_2.length c0_2] 25 (0, 0)) (by (with_reducible repeat (first | refine blk_drewN ?_ _ | refine blk_drew ?_ | refine blk_alloc ?_ _)); exact a0.out) hb); have b0 := Aside0.mk (below_step (by repeat (first | (with_reducible first | exact HB.out | apply below_alloc | apply pw_below_drewN | apply below_drew1 | refine below_set ?_ a5.out) | exact HB.out)) hb); have a7 := Aside0.mk (hbox); have a9 := Aside0.mk ((by rw [hg]; exact (below_size (by repeat (first | (with_reducible first | exact HB.out | apply below_alloc | apply pw_below_drewN | apply below_drew1 | refine below_set ?_ a5.out) | exact HB.out))) : w.heap.size ≤ a4)); have b4 := Aside0.mk ((by rw [hg]; exact (below_size (by repeat (first | (with_reducible first | exact HB.out | apply below_alloc | apply pw_below_drewN | apply below_drew1 | refine below_set ?_ a5.out) | exact HB.out))) : w.heap.size ≤ a4)); have b7 := Aside0.mk ((by rw [hg]; exact Nat.ne_of_lt (blk_lt (g := a3) (o := .cells #[.int .i64 a0_0, .slice A0_1 l0_1.length c0_1, .slice A0_2 l0_2.length c0_2] 25 (0, 0)) (by (with_reducible repeat (first | refine blk_drewN ?_ _ | refine blk_drew ?_ | refine blk_alloc ?_ _)); exact a0.out)) : a3 ≠ a4)); have d4 := Aside0.mk ((by rw [hg]; exact Nat.ne_of_gt (blk_lt (g := a3) (o := .cells #[.int .i64 a0_0, .slice A0_1 l0_1.length c0_1, .slice A0_2 l0_2.length c0_2] 25 (0, 0)) (by (with_reducible repeat (first | refine blk_drewN ?_ _ | refine blk_drew ?_ | refine blk_alloc ?_ _)); exact a0.out)) : a4 ≠ a3)); clear a0; clear HB; have a0 := a8; have HB := b0; have a1 := a7; have f2 := a9; have b1 := b4; have b6 := b7; have b8 := d4; clear a8 b0 a7 a9 b4 b7 d4; clear hb hbox hg; have p7 := b6.out; have q2 := b8.out; have h9 : g9.cell? ⟨a3, 0, none⟩ = some (.int .i64 a0_0) := (blk_cell a0.out 0).trans rfl; have p4 : g9.cell? ⟨a3, 1, none⟩ = some (.slice A0_1 l0_1.length c0_1) := (blk_cell a0.out 1).trans rfl; have i0 : g9.cell? ⟨a3, 2, none⟩ = some (.slice A0_2 l0_2.length c0_2) := (blk_cell a0.out 2).trans rfl; have l6 := blk_frozen a0.out 0; have k8 := blk_frozen a0.out 1; have o6 := blk_frozen a0.out 2) | ((with_reducible refine gate_callee (f := 61) rfl ?_); refine goesL_ (some 15) rfl rfl Try.func61 (by kernel_rfl) rfl #[.agg #[.int .i64 a0_0, .slice A0_1 l0_1.length c0_1, .slice A0_2 l0_2.length c0_2], .string a2] rfl (by (try simp only [List.map_toArray, List.map_cons, List.map_nil]); first | done | rfl | (simp only [List.length_drop, List.length_take]; rfl)) ?_; (with_reducible refine (Pxg.calls k a0_0 _ _ l0_1 _ _ l0_2 a2 d0 true _ ?d7 ?d5 ?d6 ?d9 A4.out).mono ?_); (case d7 => repeat (first | exact (Kd.C_below e4.out HB.out) | (with_reducible refine Kd.C_alloc ?_ _) | (with_reducible refine Kd.C_drewN ?_ _) | (with_reducible refine Kd.C_drew ?_))); (case d5 => exact e9.out); (case d6 => repeat (first | exact (Kd.C_below e2.out HB.out) | (with_reducible refine Kd.C_alloc ?_ _) | (with_reducible refine Kd.C_drewN ?_ _) | (with_reducible refine Kd.C_drew ?_))); (case d9 => exact e7.out); rintro e g6 ⟨f5, rfl, b2, hb⟩; refine ⟨_, rfl, ?_⟩; have a8 := Aside0.mk (Kd.R_lower b2 (below_size (by repeat (first | (with_reducible first | exact HB.out | apply below_alloc | apply pw_below_drewN | apply below_drew1 | refine below_set ?_ a5.out | refine below_set ?_ b1.out) | exact HB.out)))); have b0 := Aside0.mk (blk_below (g := a3) (o := .cells #[.int .i64 a0_0, .slice A0_1 l0_1.length c0_1, .slice A0_2 l0_2.length c0_2] 25 (0, 0)) (by (with_reducible repeat (first | refine blk_drewN ?_ _ | refine blk_drew ?_ | refine blk_alloc ?_ _)); exact a0.out) hb); have a7 := Aside0.mk (blk_below (g := a4) (o := .cells #[.int .i64 a1_0, .slice A1_1 l1_1.length c1_1, .slice A1_2 l1_2.length c1_2] 25 (0, 0)) (by (with_reducible repeat (first | refine blk_drewN ?_ _ | refine blk_drew ?_ | refine blk_alloc ?_ _)); exact a1.out) hb); have a9 := Aside0.mk (below_step (by repeat (first | (with_reducible first | exact HB.out | apply below_alloc | apply pw_below_drewN | apply below_drew1 | refine below_set ?_ a5.out | refine below_set ?_ b1.out) | exact HB.out)) hb); clear a0; clear a1; clear HB; have a6 := a8; have a0 := b0; have a1 := a7; have HB := a9; clear a8 b0 a7 a9; (try clear hb); (try clear e0); (try clear hk); (try clear hi); (try clear b2); have k5 : g6.cell? ⟨a4, 0, none⟩ = some (.int .i64 a1_0) := (blk_cell a1.out 0).trans rfl; have p0 : g6.cell? ⟨a4, 1, none⟩ = some (.slice A1_1 l1_1.length c1_1) := (blk_cell a1.out 1).trans rfl; have k6 : g6.cell? ⟨a4, 2, none⟩ = some (.slice A1_2 l1_2.length c1_2) := (blk_cell a1.out 2).trans rfl; have j6 := blk_frozen a1.out 0; have k3 := blk_frozen a1.out 1; have p2 := blk_frozen a1.out 2) | ((with_reducible refine gate_callee (f := 61) rfl ?_); refine goesL_ (some 21) rfl rfl Try.func61 (by kernel_rfl) rfl #[.agg #[.int .i64 a1_0, .slice A1_1 l1_1.length c1_1, .slice A1_2 l1_2.length c1_2], .string a2] rfl (by (try simp only [List.map_toArray, List.map_cons, List.map_nil]); first | done | rfl | (simp only [List.length_drop, List.length_take]; rfl)) ?_; (with_reducible refine (Pxg.calls k a1_0 _ _ l1_1 _ _ l1_2 a2 d3 false _ ?d7 ?d5 ?d6 ?d9 A5.out).mono ?_); (case d7 => repeat (first | exact (Kd.C_below e5.out HB.out) | (with_reducible refine Kd.C_alloc ?_ _) | (with_reducible refine Kd.C_drewN ?_ _) | (with_reducible refine Kd.C_drew ?_))); (case d5 => exact e3.out); (case d6 => repeat (first | exact (Kd.C_below e6.out HB.out) | (with_reducible refine Kd.C_alloc ?_ _) | (with_reducible refine Kd.C_drewN ?_ _) | (with_reducible refine Kd.C_drew ?_))); (case d9 => exact e8.out); rintro e f9 ⟨f4, rfl, b2, hb⟩; refine ⟨_, rfl, ?_⟩; have a8 := Aside0.mk (Kd.R_elder' (by (with_reducible repeat (first | apply Kd.R_alloc | apply Kd.R_drewN | apply Kd.R_drew)); exact a6.out) (Kd.R_base b2) hb); have b0 := Aside0.mk (Kd.R_lower (Kd.R_new' b2 (Kd.R_lt (by (with_reducible repeat (first | apply Kd.R_alloc | apply Kd.R_drewN | apply Kd.R_drew)); exact a6.out))) (below_size (by repeat (first | (with_reducible first | exact HB.out | apply below_alloc | apply pw_below_drewN | apply below_drew1 | refine below_set ?_ a5.out | refine below_set ?_ b1.out) | exact HB.out)))); have a7 := Aside0.mk (blk_below (g := a3) (o := .cells #[.int .i64 a0_0, .slice A0_1 l0_1.length c0_1, .slice A0_2 l0_2.length c0_2] 25 (0, 0)) (by (with_reducible repeat (first | refine blk_drewN ?_ _ | refine blk_drew ?_ | refine blk_alloc ?_ _)); exact a0.out) hb); have a9 := Aside0.mk (blk_below (g := a4) (o := .cells #[.int .i64 a1_0, .slice A1_1 l1_1.length c1_1, .slice A1_2 l1_2.length c1_2] 25 (0, 0)) (by (with_reducible repeat (first | refine blk_drewN ?_ _ | refine blk_drew ?_ | refine blk_alloc ?_ _)); exact a1.out) hb); have b4 := Aside0.mk (below_step (by repeat (first | (with_reducible first | exact HB.out | apply below_alloc | apply pw_below_drewN | apply below_drew1 | refine below_set ?_ a5.out | refine below_set ?_ b1.out) | exact HB.out)) hb); clear a6; clear a0; clear a1; clear HB; have a6 := a8; have b3 := b0; have a0 := a7; have a1 := a9; have HB := b4; clear a8 b0 a7 a9 b4; (try clear hb); (try clear e0); (try clear hk); (try clear hi); (try clear b2); have k2 : f9.cell? ⟨a4, 0, none⟩ = some (.int .i64 a1_0) := (blk_cell a1.out 0).trans rfl; have o7 : f9.cell? ⟨a4, 1, none⟩ = some (.slice A1_1 l1_1.length c1_1) := (blk_cell a1.out 1).trans rfl; have j7 : f9.cell? ⟨a4, 2, none⟩ = some (.slice A1_2 l1_2.length c1_2) := (blk_cell a1.out 2).trans rfl; have l8 := blk_frozen a1.out 0; have m6 := blk_frozen a1.out 1; have m4 := blk_frozen a1.out 2) | ((with_reducible refine gate_callee (f := 62) rfl ?_); refine goesL_ (some 33) rfl rfl Try.func62 (by kernel_rfl) rfl #[.int .i64 a1_0] rfl (by (try simp only [List.map_toArray, List.map_cons, List.map_nil]); first | done | rfl | (simp only [List.length_drop, List.length_take]; rfl)) ?_; (with_reducible refine (Pxb.calls k a1_0 d1 _ p6.out).mono ?_); rintro e r0 ⟨q6, rfl, b2, hb⟩; refine ⟨_, rfl, ?_⟩; have a8 := Aside0.mk (Kd.R_elder' (by (with_reducible repeat (first | apply Kd.R_alloc | apply Kd.R_drewN | apply Kd.R_drew)); exact a6.out) (Kd.R_base b2) hb); have b0 := Aside0.mk (Kd.R_elder' (by (with_reducible repeat (first | apply Kd.R_alloc | apply Kd.R_drewN | apply Kd.R_drew)); exact b3.out) (Kd.R_base b2) hb); have a7 := Aside0.mk (Kd.R_lower (Kd.R_new' (Kd.R_new' b2 (Kd.R_lt (by (with_reducible repeat (first | apply Kd.R_alloc | apply Kd.R_drewN | apply Kd.R_drew)); exact a6.out))) (Kd.R_lt (by (with_reducible repeat (first | apply Kd.R_alloc | apply Kd.R_drewN | apply Kd.R_drew)); exact b3.out))) (below_size (by repeat (first | (with_reducible first | exact HB.out | apply below_alloc | apply pw_below_drewN | apply below_drew1 | refine below_set ?_ a5.out | refine below_set ?_ b1.out) | exact HB.out)))); have a9 := Aside0.mk (blk_below (g := a3) (o := .cells #[.int .i64 a0_0, .slice A0_1 l0_1.length c0_1, .slice A0_2 l0_2.length c0_2] 25 (0, 0)) (by (with_reducible repeat (first | refine blk_drewN ?_ _ | refine blk_drew ?_ | refine blk_alloc ?_ _)); exact a0.out) hb); have b4 := Aside0.mk (blk_below (g := a4) (o := .cells #[.int .i64 a1_0, .slice A1_1 l1_1.length c1_1, .slice A1_2 l1_2.length c1_2] 25 (0, 0)) (by (with_reducible repeat (first | refine blk_drewN ?_ _ | refine blk_drew ?_ | refine blk_alloc ?_ _)); exact a1.out) hb); have b7 := Aside0.mk (below_step (by repeat (first | (with_reducible first | exact HB.out | apply below_alloc | apply pw_below_drewN | apply below_drew1 | refine below_set ?_ a5.out | refine below_set ?_ b1.out) | exact HB.out)) hb); clear a6; clear b3; clear a0; clear a1; clear HB; have a6 := a8; have b3 := b0; have h2 := a7; have a0 := a9; have a1 := b4; have HB := b7; clear a8 b0 a7 a9 b4 b7; (try clear hb); (try clear e0); (try clear hk); (try clear hi); (try clear b2)))
   go_ret2
   exact ⟨_, _, by first | rfl | (simp [errW_none, errW_some] <;> rfl) | (simp [*, errW_none, errW_some] <;> rfl), by (with_reducible repeat (first | apply Kd.R_alloc | apply Kd.R_drewN | apply Kd.R_drew)); exact Kd.R_mono a6.out (fun _ hk => hk.2), by (with_reducible repeat (first | apply Kd.R_alloc | apply Kd.R_drewN | apply Kd.R_drew)); exact Kd.R_mono h2.out (fun _ hk => hk.1.2), by repeat (first | (with_reducible first | exact HB.out | apply below_alloc | apply pw_below_drewN | apply below_drew1 | refine below_set ?_ a5.out | refine below_set ?_ b1.out) | exact HB.out)⟩
 ·replace c6 := Bool.eq_false_iff.mpr c6
  subst c6
  have H1 : ((Pxb.f k a0_0).bind fun b5 => (if e1 = true then (some (b5, d3)) else ((Pxb.f k a1_0).bind fun b9 => (some (b5, b9))))) = some (r1, r2) := by rw [if_neg (show ¬ (false = true) by decide)] at H; exact H
  clear H
  have H := H1
  clear H1
  replace H := Option.bind_eq_some_iff.mp H
  obtain ⟨b5, g7, H⟩ := H
  replace H : (if e1 = true then (some (b5, d3)) else ((Pxb.f k a1_0).bind fun b9 => (some (b5, b9)))) = some (r1, r2) := H
  have h3 := Aside0.mk g7
  clear g7
  by_cases f6 : e1 = true
  ·subst f6
   have H1 : (some (b5, d3)) = some (r1, r2) := by rw [if_pos rfl] at H; exact H
   clear H
   have H := H1
   clear H1
   simp only [Option.some.injEq, Prod.mk.injEq] at H
   obtain ⟨rfl, rfl⟩ := H
   go_enter Try.func47, Try.ntmps47
   go_wp2_with (first | ((with_reducible refine gate_dst (N := 3) rfl ?_); refine box_event ?hg (N := 3) ?hd (cs := #[.int .i64 a0_0, .slice A0_1 l0_1.length c0_1, .slice A0_2 l0_2.length c0_2]) (t := 25) ?hr ?_; (case hd => rfl); (case hg => rfl); (case hr => first | (go_simp; done) | (go_simp; rfl)); intro a3 hg r4 hbox hb; have a8 := Aside0.mk (below_step (by repeat (first | (with_reducible first | exact HB.out | apply below_alloc | apply pw_below_drewN | apply below_drew1) | exact HB.out)) hb); have b0 := Aside0.mk (hbox); have a7 := Aside0.mk ((by rw [hg]; exact (below_size (by repeat (first | (with_reducible first | exact HB.out | apply below_alloc | apply pw_below_drewN | apply below_drew1) | exact HB.out))) : w.heap.size ≤ a3)); have a9 := Aside0.mk ((by rw [hg]; exact (below_size (by repeat (first | (with_reducible first | exact HB.out | apply below_alloc | apply pw_below_drewN | apply below_drew1) | exact HB.out))) : w.heap.size ≤ a3)); clear HB; have HB := a8; have a0 := b0; have f1 := a7; have a5 := a9; clear a8 b0 a7 a9; clear hb hbox hg) | ((with_reducible refine gate_dst (N := 4) rfl ?_); refine box_event ?hg (N := 4) ?hd (cs := #[.int .i64 a1_0, .slice A1_1 l1_1.length c1_1, .slice A1_2 l1_2.length c1_2]) (t := 25) ?hr ?_; (case hd => rfl); (case hg => rfl); (case hr => first | (go_simp; done) | (go_simp; rfl)); intro a4 hg f7 hbox hb; have a8 := Aside0.mk (blk_below (g := a3) (o := .cells #[.int .i64 a0_0, .slice A0_1 l0_1.length c0_1, .slice A0_2 l0_2.length c0_2] 25 (0, 0)) (by (with_reducible repeat (first | refine blk_drewN ?_ _ | refine blk_drew ?_ | refine blk_alloc ?_ _)); exact a0.out) hb); have b0 := Aside0.mk (below_step (by repeat (first | (with_reducible first | exact HB.out | apply below_alloc | apply pw_below_drewN | apply below_drew1 | refine below_set ?_ a5.out) | exact HB.out)) hb); have a7 := Aside0.mk (hbox); have a9 := Aside0.mk ((by rw [hg]; exact (below_size (by repeat (first | (with_reducible first | exact HB.out | apply below_alloc | apply pw_below_drewN | apply below_drew1 | refine below_set ?_ a5.out) | exact HB.out))) : w.heap.size ≤ a4)); have b4 := Aside0.mk ((by rw [hg]; exact (below_size (by repeat (first | (with_reducible first | exact HB.out | apply below_alloc | apply pw_below_drewN | apply below_drew1 | refine below_set ?_ a5.out) | exact HB.out))) : w.heap.size ≤ a4)); have b7 := Aside0.mk ((by rw [hg]; exact Nat.ne_of_lt (blk_lt (g := a3) (o := .cells #[.int .i64 a0_0, .slice A0_1 l0_1.length c0_1, .slice A0_2 l0_2.length c0_2] 25 (0, 0)) (by (with_reducible repeat (first | refine blk_drewN ?_ _ | refine blk_drew ?_ | refine blk_alloc ?_ _)); exact a0.out)) : a3 ≠ a4)); have d4 := Aside0.mk ((by rw [hg]; exact Nat.ne_of_gt (blk_lt (g := a3) (o := .cells #[.int .i64 a0_0, .slice A0_1 l0_1.length c0_1, .slice A0_2 l0_2.length c0_2] 25 (0, 0)) (by (with_reducible repeat (first | refine blk_drewN ?_ _ | refine blk_drew ?_ | refine blk_alloc ?_ _)); exact a0.out)) : a4 ≠ a3)); clear a0; clear HB; have a0 := a8; have HB := b0; have a1 := a7; have f2 := a9; have b1 := b4; have b6 := b7; have b8 := d4; clear a8 b0 a7 a9 b4 b7 d4; clear hb hbox hg; have q1 := b6.out; have p8 := b8.out; have n6 : f7.cell? ⟨a3, 0, none⟩ = some (.int .i64 a0_0) := (blk_cell a0.out 0).trans rfl; have n9 : f7.cell? ⟨a3, 1, none⟩ = some (.slice A0_1 l0_1.length c0_1) := (blk_cell a0.out 1).trans rfl; have j9 : f7.cell? ⟨a3, 2, none⟩ = some (.slice A0_2 l0_2.length c0_2) := (blk_cell a0.out 2).trans rfl; have o8 := blk_frozen a0.out 0; have i7 := blk_frozen a0.out 1; have p1 := blk_frozen a0.out 2) | ((with_reducible refine gate_callee (f := 61) rfl ?_); refine goesL_ (some 15) rfl rfl Try.func61 (by kernel_rfl) rfl #[.agg #[.int .i64 a0_0, .slice A0_1 l0_1.length c0_1, .slice A0_2 l0_2.length c0_2], .string a2] rfl (by (try simp only [List.map_toArray, List.map_cons, List.map_nil]); first | done | rfl | (simp only [List.length_drop, List.length_take]; rfl)) ?_; (with_reducible refine (Pxg.calls k a0_0 _ _ l0_1 _ _ l0_2 a2 d0 false _ ?d7 ?d5 ?d6 ?d9 A4.out).mono ?_); (case d7 => repeat (first | exact (Kd.C_below e4.out HB.out) | (with_reducible refine Kd.C_alloc ?_ _) | (with_reducible refine Kd.C_drewN ?_ _) | (with_reducible refine Kd.C_drew ?_))); (case d5 => exact e9.out); (case d6 => repeat (first | exact (Kd.C_below e2.out HB.out) | (with_reducible refine Kd.C_alloc ?_ _) | (with_reducible refine Kd.C_drewN ?_ _) | (with_reducible refine Kd.C_drew ?_))); (case d9 => exact e7.out); rintro e g0 ⟨f5, rfl, b2, hb⟩; refine ⟨_, rfl, ?_⟩; have a8 := Aside0.mk (Kd.R_lower b2 (below_size (by repeat (first | (with_reducible first | exact HB.out | apply below_alloc | apply pw_below_drewN | apply below_drew1 | refine below_set ?_ a5.out | refine below_set ?_ b1.out) | exact HB.out)))); have b0 := Aside0.mk (blk_below (g := a3) (o := .cells #[.int .i64 a0_0, .slice A0_1 l0_1.length c0_1, .slice A0_2 l0_2.length c0_2] 25 (0, 0)) (by (with_reducible repeat (first | refine blk_drewN ?_ _ | refine blk_drew ?_ | refine blk_alloc ?_ _)); exact a0.out) hb); have a7 := Aside0.mk (blk_below (g := a4) (o := .cells #[.int .i64 a1_0, .slice A1_1 l1_1.length c1_1, .slice A1_2 l1_2.length c1_2] 25 (0, 0)) (by (with_reducible repeat (first | refine blk_drewN ?_ _ | refine blk_drew ?_ | refine blk_alloc ?_ _)); exact a1.out) hb); have a9 := Aside0.mk (below_step (by repeat (first | (with_reducible first | exact HB.out | apply below_alloc | apply pw_below_drewN | apply below_drew1 | refine below_set ?_ a5.out | refine below_set ?_ b1.out) | exact HB.out)) hb); clear a0; clear a1; clear HB; have a6 := a8; have a0 := b0; have a1 := a7; have HB := a9; clear a8 b0 a7 a9; (try clear hb); (try clear e0); (try clear hk); (try clear hi); (try clear b2); have h7 : g0.cell? ⟨a4, 0, none⟩ = some (.int .i64 a1_0) := (blk_cell a1.out 0).trans rfl; have k1 : g0.cell? ⟨a4, 1, none⟩ = some (.slice A1_1 l1_1.length c1_1) := (blk_cell a1.out 1).trans rfl; have o5 : g0.cell? ⟨a4, 2, none⟩ = some (.slice A1_2 l1_2.length c1_2) := (blk_cell a1.out 2).trans rfl; have i6 := blk_frozen a1.out 0; have k9 := blk_frozen a1.out 1; have n2 := blk_frozen a1.out 2) | ((with_reducible refine gate_callee (f := 61) rfl ?_); refine goesL_ (some 21) rfl rfl Try.func61 (by kernel_rfl) rfl #[.agg #[.int .i64 a1_0, .slice A1_1 l1_1.length c1_1, .slice A1_2 l1_2.length c1_2], .string a2] rfl (by (try simp only [List.map_toArray, List.map_cons, List.map_nil]); first | done | rfl | (simp only [List.length_drop, List.length_take]; rfl)) ?_; (with_reducible refine (Pxg.calls k a1_0 _ _ l1_1 _ _ l1_2 a2 d3 true _ ?d7 ?d5 ?d6 ?d9 A5.out).mono ?_); (case d7 => repeat (first | exact (Kd.C_below e5.out HB.out) | (with_reducible refine Kd.C_alloc ?_ _) | (with_reducible refine Kd.C_drewN ?_ _) | (with_reducible refine Kd.C_drew ?_))); (case d5 => exact e3.out); (case d6 => repeat (first | exact (Kd.C_below e6.out HB.out) | (with_reducible refine Kd.C_alloc ?_ _) | (with_reducible refine Kd.C_drewN ?_ _) | (with_reducible refine Kd.C_drew ?_))); (case d9 => exact e8.out); rintro e g5 ⟨f4, rfl, b2, hb⟩; refine ⟨_, rfl, ?_⟩; have a8 := Aside0.mk (Kd.R_elder' (by (with_reducible repeat (first | apply Kd.R_alloc | apply Kd.R_drewN | apply Kd.R_drew)); exact a6.out) (Kd.R_base b2) hb); have b0 := Aside0.mk (Kd.R_lower (Kd.R_new' b2 (Kd.R_lt (by (with_reducible repeat (first | apply Kd.R_alloc | apply Kd.R_drewN | apply Kd.R_drew)); exact a6.out))) (below_size (by repeat (first | (with_reducible first | exact HB.out | apply below_alloc | apply pw_below_drewN | apply below_drew1 | refine below_set ?_ a5.out | refine below_set ?_ b1.out) | exact HB.out)))); have a7 := Aside0.mk (blk_below (g := a3) (o := .cells #[.int .i64 a0_0, .slice A0_1 l0_1.length c0_1, .slice A0_2 l0_2.length c0_2] 25 (0, 0)) (by (with_reducible repeat (first | refine blk_drewN ?_ _ | refine blk_drew ?_ | refine blk_alloc ?_ _)); exact a0.out) hb); have a9 := Aside0.mk (blk_below (g := a4) (o := .cells #[.int .i64 a1_0, .slice A1_1 l1_1.length c1_1, .slice A1_2 l1_2.length c1_2] 25 (0, 0)) (by (with_reducible repeat (first | refine blk_drewN ?_ _ | refine blk_drew ?_ | refine blk_alloc ?_ _)); exact a1.out) hb); have b4 := Aside0.mk (below_step (by repeat (first | (with_reducible first | exact HB.out | apply below_alloc | apply pw_below_drewN | apply below_drew1 | refine below_set ?_ a5.out | refine below_set ?_ b1.out) | exact HB.out)) hb); clear a6; clear a0; clear a1; clear HB; have a6 := a8; have b3 := b0; have a0 := a7; have a1 := a9; have HB := b4; clear a8 b0 a7 a9 b4; (try clear hb); (try clear e0); (try clear hk); (try clear hi); (try clear b2); have l9 : g5.cell? ⟨a3, 0, none⟩ = some (.int .i64 a0_0) := (blk_cell a0.out 0).trans rfl; have o0 : g5.cell? ⟨a3, 1, none⟩ = some (.slice A0_1 l0_1.length c0_1) := (blk_cell a0.out 1).trans rfl; have i2 : g5.cell? ⟨a3, 2, none⟩ = some (.slice A0_2 l0_2.length c0_2) := (blk_cell a0.out 2).trans rfl; have m7 := blk_frozen a0.out 0; have i3 := blk_frozen a0.out 1; have i5 := blk_frozen a0.out 2) | ((with_reducible refine gate_callee (f := 62) rfl ?_); refine goesL_ (some 28) rfl rfl Try.func62 (by kernel_rfl) rfl #[.int .i64 a0_0] rfl (by (try simp only [List.map_toArray, List.map_cons, List.map_nil]); first | done | rfl | (simp only [List.length_drop, List.length_take]; rfl)) ?_; (with_reducible refine (Pxb.calls k a0_0 b5 _ h3.out).mono ?_); rintro e r3 ⟨h6, rfl, b2, hb⟩; refine ⟨_, rfl, ?_⟩; have a8 := Aside0.mk (Kd.R_elder' (by (with_reducible repeat (first | apply Kd.R_alloc | apply Kd.R_drewN | apply Kd.R_drew)); exact a6.out) (Kd.R_base b2) hb); have b0 := Aside0.mk (Kd.R_elder' (by (with_reducible repeat (first | apply Kd.R_alloc | apply Kd.R_drewN | apply Kd.R_drew)); exact b3.out) (Kd.R_base b2) hb); have a7 := Aside0.mk (Kd.R_lower (Kd.R_new' (Kd.R_new' b2 (Kd.R_lt (by (with_reducible repeat (first | apply Kd.R_alloc | apply Kd.R_drewN | apply Kd.R_drew)); exact a6.out))) (Kd.R_lt (by (with_reducible repeat (first | apply Kd.R_alloc | apply Kd.R_drewN | apply Kd.R_drew)); exact b3.out))) (below_size (by repeat (first | (with_reducible first | exact HB.out | apply below_alloc | apply pw_below_drewN | apply below_drew1 | refine below_set ?_ a5.out | refine below_set ?_ b1.out) | exact HB.out)))); have a9 := Aside0.mk (blk_below (g := a3) (o := .cells #[.int .i64 a0_0, .slice A0_1 l0_1.length c0_1, .slice A0_2 l0_2.length c0_2] 25 (0, 0)) (by (with_reducible repeat (first | refine blk_drewN ?_ _ | refine blk_drew ?_ | refine blk_alloc ?_ _)); exact a0.out) hb); have b4 := Aside0.mk (blk_below (g := a4) (o := .cells #[.int .i64 a1_0, .slice A1_1 l1_1.length c1_1, .slice A1_2 l1_2.length c1_2] 25 (0, 0)) (by (with_reducible repeat (first | refine blk_drewN ?_ _ | refine blk_drew ?_ | refine blk_alloc ?_ _)); exact a1.out) hb); have b7 := Aside0.mk (below_step (by repeat (first | (with_reducible first | exact HB.out | apply below_alloc | apply pw_below_drewN | apply below_drew1 | refine below_set ?_ a5.out | refine below_set ?_ b1.out) | exact HB.out)) hb); clear a6; clear b3; clear a0; clear a1; clear HB; have a6 := a8; have b3 := b0; have d8 := a7; have a0 := a9; have a1 := b4; have HB := b7; clear a8 b0 a7 a9 b4 b7; (try clear hb); (try clear e0); (try clear hk); (try clear hi); (try clear b2)))
   go_ret2
   exact ⟨_, _, by first | rfl | (simp [errW_none, errW_some] <;> rfl) | (simp [*, errW_none, errW_some] <;> rfl), by (with_reducible repeat (first | apply Kd.R_alloc | apply Kd.R_drewN | apply Kd.R_drew)); exact Kd.R_mono d8.out (fun _ hk => hk.2), by (with_reducible repeat (first | apply Kd.R_alloc | apply Kd.R_drewN | apply Kd.R_drew)); exact Kd.R_mono b3.out (fun _ hk => hk.2), by repeat (first | (with_reducible first | exact HB.out | apply below_alloc | apply pw_below_drewN | apply below_drew1 | refine below_set ?_ a5.out | refine below_set ?_ b1.out) | exact HB.out)⟩
  ·replace f6 := Bool.eq_false_iff.mpr f6
   subst f6
   have H1 : ((Pxb.f k a1_0).bind fun b9 => (some (b5, b9))) = some (r1, r2) := by rw [if_neg (show ¬ (false = true) by decide)] at H; exact H
   clear H
   have H := H1
   clear H1
   replace H := Option.bind_eq_some_iff.mp H
   obtain ⟨b9, h0, H⟩ := H
   replace H : (some (b5, b9)) = some (r1, r2) := H
   have p5 := Aside0.mk h0
   clear h0
   simp only [Option.some.injEq, Prod.mk.injEq] at H
   obtain ⟨rfl, rfl⟩ := H
   go_enter Try.func47, Try.ntmps47
   go_wp2_with (first | ((with_reducible refine gate_dst (N := 3) rfl ?_); refine box_event ?hg (N := 3) ?hd (cs := #[.int .i64 a0_0, .slice A0_1 l0_1.length c0_1, .slice A0_2 l0_2.length c0_2]) (t := 25) ?hr ?_; (case hd => rfl); (case hg => rfl); (case hr => first | (go_simp; done) | (go_simp; rfl)); intro a3 hg r6 hbox hb; have a8 := Aside0.mk (below_step (by repeat (first | (with_reducible first | exact HB.out | apply below_alloc | apply pw_below_drewN | apply below_drew1) | exact HB.out)) hb); have b0 := Aside0.mk (hbox); have a7 := Aside0.mk ((by rw [hg]; exact (below_size (by repeat (first | (with_reducible first | exact HB.out | apply below_alloc | apply pw_below_drewN | apply below_drew1) | exact HB.out))) : w.heap.size ≤ a3)); have a9 := Aside0.mk ((by rw [hg]; exact (below_size (by repeat (first | (with_reducible first | exact HB.out | apply below_alloc | apply pw_below_drewN | apply below_drew1) | exact HB.out))) : w.heap.size ≤ a3)); clear HB; have HB := a8; have a0 := b0; have f1 := a7; have a5 := a9; clear a8 b0 a7 a9; clear hb hbox hg) | ((with_reducible refine gate_dst (N := 4) rfl ?_); refine box_event ?hg (N := 4) ?hd (cs := #[.int .i64 a1_0, .slice A1_1 l1_1.length c1_1, .slice A1_2 l1_2.length c1_2]) (t := 25) ?hr ?_; (case hd => rfl); (case hg => rfl); (case hr => first | (go_simp; done) | (go_simp; rfl)); intro a4 hg g8 hbox hb; have a8 := Aside0.mk (blk_below (g := a3) (o := .cells #[.int .i64 a0_0, .slice A0_1 l0_1.length c0_1, .slice A0_2 l0_2.length c0_2] 25 (0, 0)) (by (with_reducible repeat (first | refine blk_drewN ?_ _ | refine blk_drew ?_ | refine blk_alloc ?_ _)); exact a0.out) hb); have b0 := Aside0.mk (below_step (by repeat (first | (with_reducible first | exact HB.out | apply below_alloc | apply pw_below_drewN | apply below_drew1 | refine below_set ?_ a5.out) | exact HB.out)) hb); have a7 := Aside0.mk (hbox); have a9 := Aside0.mk ((by rw [hg]; exact (below_size (by repeat (first | (with_reducible first | exact HB.out | apply below_alloc | apply pw_below_drewN | apply below_drew1 | refine below_set ?_ a5.out) | exact HB.out))) : w.heap.size ≤ a4)); have b4 := Aside0.mk ((by rw [hg]; exact (below_size (by repeat (first | (with_reducible first | exact HB.out | apply below_alloc | apply pw_below_drewN | apply below_drew1 | refine below_set ?_ a5.out) | exact HB.out))) : w.heap.size ≤ a4)); have b7 := Aside0.mk ((by rw [hg]; exact Nat.ne_of_lt (blk_lt (g := a3) (o := .cells #[.int .i64 a0_0, .slice A0_1 l0_1.length c0_1, .slice A0_2 l0_2.length c0_2] 25 (0, 0)) (by (with_reducible repeat (first | refine blk_drewN ?_ _ | refine blk_drew ?_ | refine blk_alloc ?_ _)); exact a0.out)) : a3 ≠ a4)); have d4 := Aside0.mk ((by rw [hg]; exact Nat.ne_of_gt (blk_lt (g := a3) (o := .cells #[.int .i64 a0_0, .slice A0_1 l0_1.length c0_1, .slice A0_2 l0_2.length c0_2] 25 (0, 0)) (by (with_reducible repeat (first | refine blk_drewN ?_ _ | refine blk_drew ?_ | refine blk_alloc ?_ _)); exact a0.out)) : a4 ≠ a3)); clear a0; clear HB; have a0 := a8; have HB := b0; have a1 := a7; have f2 := a9; have b1 := b4; have b6 := b7; have b8 := d4; clear a8 b0 a7 a9 b4 b7 d4; clear hb hbox hg; have p9 := b6.out; have q0 := b8.out; have k7 : g8.cell? ⟨a3, 0, none⟩ = some (.int .i64 a0_0) := (blk_cell a0.out 0).trans rfl; have i9 : g8.cell? ⟨a3, 1, none⟩ = some (.slice A0_1 l0_1.length c0_1) := (blk_cell a0.out 1).trans rfl; have m9 : g8.cell? ⟨a3, 2, none⟩ = some (.slice A0_2 l0_2.length c0_2) := (blk_cell a0.out 2).trans rfl; have i8 := blk_frozen a0.out 0; have o9 := blk_frozen a0.out 1; have h8 := blk_frozen a0.out 2) | ((with_reducible refine gate_callee (f := 61) rfl ?_); refine goesL_ (some 15) rfl rfl Try.func61 (by kernel_rfl) rfl #[.agg #[.int .i64 a0_0, .slice A0_1 l0_1.length c0_1, .slice A0_2 l0_2.length c0_2], .string a2] rfl (by (try simp only [List.map_toArray, List.map_cons, List.map_nil]); first | done | rfl | (simp only [List.length_drop, List.length_take]; rfl)) ?_; (with_reducible refine (Pxg.calls k a0_0 _ _ l0_1 _ _ l0_2 a2 d0 false _ ?d7 ?d5 ?d6 ?d9 A4.out).mono ?_); (case d7 => repeat (first | exact (Kd.C_below e4.out HB.out) | (with_reducible refine Kd.C_alloc ?_ _) | (with_reducible refine Kd.C_drewN ?_ _) | (with_reducible refine Kd.C_drew ?_))); (case d5 => exact e9.out); (case d6 => repeat (first | exact (Kd.C_below e2.out HB.out) | (with_reducible refine Kd.C_alloc ?_ _) | (with_reducible refine Kd.C_drewN ?_ _) | (with_reducible refine Kd.C_drew ?_))); (case d9 => exact e7.out); rintro e g2 ⟨f5, rfl, b2, hb⟩; refine ⟨_, rfl, ?_⟩; have a8 := Aside0.mk (Kd.R_lower b2 (below_size (by repeat (first | (with_reducible first | exact HB.out | apply below_alloc | apply pw_below_drewN | apply below_drew1 | refine below_set ?_ a5.out | refine below_set ?_ b1.out) | exact HB.out)))); have b0 := Aside0.mk (blk_below (g := a3) (o := .cells #[.int .i64 a0_0, .slice A0_1 l0_1.length c0_1, .slice A0_2 l0_2.length c0_2] 25 (0, 0)) (by (with_reducible repeat (first | refine blk_drewN ?_ _ | refine blk_drew ?_ | refine blk_alloc ?_ _)); exact a0.out) hb); have a7 := Aside0.mk (blk_below (g := a4) (o := .cells #[.int .i64 a1_0, .slice A1_1 l1_1.length c1_1, .slice A1_2 l1_2.length c1_2] 25 (0, 0)) (by (with_reducible repeat (first | refine blk_drewN ?_ _ | refine blk_drew ?_ | refine blk_alloc ?_ _)); exact a1.out) hb); have a9 := Aside0.mk (below_step (by repeat (first | (with_reducible first | exact HB.out | apply below_alloc | apply pw_below_drewN | apply below_drew1 | refine below_set ?_ a5.out | refine below_set ?_ b1.out) | exact HB.out)) hb); clear a0; clear a1; clear HB; have a6 := a8; have a0 := b0; have a1 := a7; have HB := a9; clear a8 b0 a7 a9; (try clear hb); (try clear e0); (try clear hk); (try clear hi); (try clear b2); have m2 : g2.cell? ⟨a4, 0, none⟩ = some (.int .i64 a1_0) := (blk_cell a1.out 0).trans rfl; have o4 : g2.cell? ⟨a4, 1, none⟩ = some (.slice A1_1 l1_1.length c1_1) := (blk_cell a1.out 1).trans rfl; have k4 : g2.cell? ⟨a4, 2, none⟩ = some (.slice A1_2 l1_2.length c1_2) := (blk_cell a1.out 2).trans rfl; have o3 := blk_frozen a1.out 0; have o2 := blk_frozen a1.out 1; have l3 := blk_frozen a1.out 2) | ((with_reducible refine gate_callee (f := 61) rfl ?_); refine goesL_ (some 21) rfl rfl Try.func61 (by kernel_rfl) rfl #[.agg #[.int .i64 a1_0, .slice A1_1 l1_1.length c1_1, .slice A1_2 l1_2.length c1_2], .string a2] rfl (by (try simp only [List.map_toArray, List.map_cons, List.map_nil]); first | done | rfl | (simp only [List.length_drop, List.length_take]; rfl)) ?_; (with_reducible refine (Pxg.calls k a1_0 _ _ l1_1 _ _ l1_2 a2 d3 false _ ?d7 ?d5 ?d6 ?d9 A5.out).mono ?_); (case d7 => repeat (first | exact (Kd.C_below e5.out HB.out) | (with_reducible refine Kd.C_alloc ?_ _) | (with_reducible refine Kd.C_drewN ?_ _) | (with_reducible refine Kd.C_drew ?_))); (case d5 => exact e3.out); (case d6 => repeat (first | exact (Kd.C_below e6.out HB.out) | (with_reducible refine Kd.C_alloc ?_ _) | (with_reducible refine Kd.C_drewN ?_ _) | (with_reducible refine Kd.C_drew ?_))); (case d9 => exact e8.out); rintro e g3 ⟨f4, rfl, b2, hb⟩; refine ⟨_, rfl, ?_⟩; have a8 := Aside0.mk (Kd.R_elder' (by (with_reducible repeat (first | apply Kd.R_alloc | apply Kd.R_drewN | apply Kd.R_drew)); exact a6.out) (Kd.R_base b2) hb); have b0 := Aside0.mk (Kd.R_lower (Kd.R_new' b2 (Kd.R_lt (by (with_reducible repeat (first | apply Kd.R_alloc | apply Kd.R_drewN | apply Kd.R_drew)); exact a6.out))) (below_size (by repeat (first | (with_reducible first | exact HB.out | apply below_alloc | apply pw_below_drewN | apply below_drew1 | refine below_set ?_ a5.out | refine below_set ?_ b1.out) | exact HB.out)))); have a7 := Aside0.mk (blk_below (g := a3) (o := .cells #[.int .i64 a0_0, .slice A0_1 l0_1.length c0_1, .slice A0_2 l0_2.length c0_2] 25 (0, 0)) (by (with_reducible repeat (first | refine blk_drewN ?_ _ | refine blk_drew ?_ | refine blk_alloc ?_ _)); exact a0.out) hb); have a9 := Aside0.mk (blk_below (g := a4) (o := .cells #[.int .i64 a1_0, .slice A1_1 l1_1.length c1_1, .slice A1_2 l1_2.length c1_2] 25 (0, 0)) (by (with_reducible repeat (first | refine blk_drewN ?_ _ | refine blk_drew ?_ | refine blk_alloc ?_ _)); exact a1.out) hb); have b4 := Aside0.mk (below_step (by repeat (first | (with_reducible first | exact HB.out | apply below_alloc | apply pw_below_drewN | apply below_drew1 | refine below_set ?_ a5.out | refine below_set ?_ b1.out) | exact HB.out)) hb); clear a6; clear a0; clear a1; clear HB; have a6 := a8; have b3 := b0; have a0 := a7; have a1 := a9; have HB := b4; clear a8 b0 a7 a9 b4; (try clear hb); (try clear e0); (try clear hk); (try clear hi); (try clear b2); have n8 : g3.cell? ⟨a3, 0, none⟩ = some (.int .i64 a0_0) := (blk_cell a0.out 0).trans rfl; have l5 : g3.cell? ⟨a3, 1, none⟩ = some (.slice A0_1 l0_1.length c0_1) := (blk_cell a0.out 1).trans rfl; have n3 : g3.cell? ⟨a3, 2, none⟩ = some (.slice A0_2 l0_2.length c0_2) := (blk_cell a0.out 2).trans rfl; have j4 := blk_frozen a0.out 0; have j3 := blk_frozen a0.out 1; have m0 := blk_frozen a0.out 2) | ((with_reducible refine gate_callee (f := 62) rfl ?_); refine goesL_ (some 28) rfl rfl Try.func62 (by kernel_rfl) rfl #[.int .i64 a0_0] rfl (by (try simp only [List.map_toArray, List.map_cons, List.map_nil]); first | done | rfl | (simp only [List.length_drop, List.length_take]; rfl)) ?_; (with_reducible refine (Pxb.calls k a0_0 b5 _ h3.out).mono ?_); rintro e g1 ⟨h6, rfl, b2, hb⟩; refine ⟨_, rfl, ?_⟩; have a8 := Aside0.mk (Kd.R_elder' (by (with_reducible repeat (first | apply Kd.R_alloc | apply Kd.R_drewN | apply Kd.R_drew)); exact a6.out) (Kd.R_base b2) hb); have b0 := Aside0.mk (Kd.R_elder' (by (with_reducible repeat (first | apply Kd.R_alloc | apply Kd.R_drewN | apply Kd.R_drew)); exact b3.out) (Kd.R_base b2) hb); have a7 := Aside0.mk (Kd.R_lower (Kd.R_new' (Kd.R_new' b2 (Kd.R_lt (by (with_reducible repeat (first | apply Kd.R_alloc | apply Kd.R_drewN | apply Kd.R_drew)); exact a6.out))) (Kd.R_lt (by (with_reducible repeat (first | apply Kd.R_alloc | apply Kd.R_drewN | apply Kd.R_drew)); exact b3.out))) (below_size (by repeat (first | (with_reducible first | exact HB.out | apply below_alloc | apply pw_below_drewN | apply below_drew1 | refine below_set ?_ a5.out | refine below_set ?_ b1.out) | exact HB.out)))); have a9 := Aside0.mk (blk_below (g := a3) (o := .cells #[.int .i64 a0_0, .slice A0_1 l0_1.length c0_1, .slice A0_2 l0_2.length c0_2] 25 (0, 0)) (by (with_reducible repeat (first | refine blk_drewN ?_ _ | refine blk_drew ?_ | refine blk_alloc ?_ _)); exact a0.out) hb); have b4 := Aside0.mk (blk_below (g := a4) (o := .cells #[.int .i64 a1_0, .slice A1_1 l1_1.length c1_1, .slice A1_2 l1_2.length c1_2] 25 (0, 0)) (by (with_reducible repeat (first | refine blk_drewN ?_ _ | refine blk_drew ?_ | refine blk_alloc ?_ _)); exact a1.out) hb); have b7 := Aside0.mk (below_step (by repeat (first | (with_reducible first | exact HB.out | apply below_alloc | apply pw_below_drewN | apply below_drew1 | refine below_set ?_ a5.out | refine below_set ?_ b1.out) | exact HB.out)) hb); clear a6; clear b3; clear a0; clear a1; clear HB; have a6 := a8; have b3 := b0; have d8 := a7; have a0 := a9; have a1 := b4; have HB := b7; clear a8 b0 a7 a9 b4 b7; (try clear hb); (try clear e0); (try clear hk); (try clear hi); (try clear b2); have n0 : g1.cell? ⟨a4, 0, none⟩ = some (.int .i64 a1_0) := (blk_cell a1.out 0).trans rfl; have l7 : g1.cell? ⟨a4, 1, none⟩ = some (.slice A1_1 l1_1.length c1_1) := (blk_cell a1.out 1).trans rfl; have j5 : g1.cell? ⟨a4, 2, none⟩ = some (.slice A1_2 l1_2.length c1_2) := (blk_cell a1.out 2).trans rfl; have n4 := blk_frozen a1.out 0; have i1 := blk_frozen a1.out 1; have m1 := blk_frozen a1.out 2) | ((with_reducible refine gate_callee (f := 62) rfl ?_); refine goesL_ (some 33) rfl rfl Try.func62 (by kernel_rfl) rfl #[.int .i64 a1_0] rfl (by (try simp only [List.map_toArray, List.map_cons, List.map_nil]); first | done | rfl | (simp only [List.length_drop, List.length_take]; rfl)) ?_; (with_reducible refine (Pxb.calls k a1_0 b9 _ p5.out).mono ?_); rintro e r5 ⟨q7, rfl, b2, hb⟩; refine ⟨_, rfl, ?_⟩; have a8 := Aside0.mk (Kd.R_elder' (by (with_reducible repeat (first | apply Kd.R_alloc | apply Kd.R_drewN | apply Kd.R_drew)); exact a6.out) (Kd.R_base b2) hb); have b0 := Aside0.mk (Kd.R_elder' (by (with_reducible repeat (first | apply Kd.R_alloc | apply Kd.R_drewN | apply Kd.R_drew)); exact b3.out) (Kd.R_base b2) hb); have a7 := Aside0.mk (Kd.R_elder' (by (with_reducible repeat (first | apply Kd.R_alloc | apply Kd.R_drewN | apply Kd.R_drew)); exact d8.out) (Kd.R_base b2) hb); have a9 := Aside0.mk (Kd.R_lower (Kd.R_new' (Kd.R_new' (Kd.R_new' b2 (Kd.R_lt (by (with_reducible repeat (first | apply Kd.R_alloc | apply Kd.R_drewN | apply Kd.R_drew)); exact a6.out))) (Kd.R_lt (by (with_reducible repeat (first | apply Kd.R_alloc | apply Kd.R_drewN | apply Kd.R_drew)); exact b3.out))) (Kd.R_lt (by (with_reducible repeat (first | apply Kd.R_alloc | apply Kd.R_drewN | apply Kd.R_drew)); exact d8.out))) (below_size (by repeat (first | (with_reducible first | exact HB.out | apply below_alloc | apply pw_below_drewN | apply below_drew1 | refine below_set ?_ a5.out | refine below_set ?_ b1.out) | exact HB.out)))); have b4 := Aside0.mk (blk_below (g := a3) (o := .cells #[.int .i64 a0_0, .slice A0_1 l0_1.length c0_1, .slice A0_2 l0_2.length c0_2] 25 (0, 0)) (by (with_reducible repeat (first | refine blk_drewN ?_ _ | refine blk_drew ?_ | refine blk_alloc ?_ _)); exact a0.out) hb); have b7 := Aside0.mk (blk_below (g := a4) (o := .cells #[.int .i64 a1_0, .slice A1_1 l1_1.length c1_1, .slice A1_2 l1_2.length c1_2] 25 (0, 0)) (by (with_reducible repeat (first | refine blk_drewN ?_ _ | refine blk_drew ?_ | refine blk_alloc ?_ _)); exact a1.out) hb); have d4 := Aside0.mk (below_step (by repeat (first | (with_reducible first | exact HB.out | apply below_alloc | apply pw_below_drewN | apply below_drew1 | refine below_set ?_ a5.out | refine below_set ?_ b1.out) | exact HB.out)) hb); clear a6; clear b3; clear d8; clear a0; clear a1; clear HB; have a6 := a8; have b3 := b0; have d8 := a7; have h1 := a9; have a0 := b4; have a1 := b7; have HB := d4; clear a8 b0 a7 a9 b4 b7 d4; (try clear hb); (try clear e0); (try clear hk); (try clear hi); (try clear b2)))
   go_ret2
   exact ⟨_, _, by first | rfl | (simp [errW_none, errW_some] <;> rfl) | (simp [*, errW_none, errW_some] <;> rfl), by (with_reducible repeat (first | apply Kd.R_alloc | apply Kd.R_drewN | apply Kd.R_drew)); exact Kd.R_mono d8.out (fun _ hk => hk.2), by (with_reducible repeat (first | apply Kd.R_alloc | apply Kd.R_drewN | apply Kd.R_drew)); exact Kd.R_mono h1.out (fun _ hk => hk.2), by repeat (first | (with_reducible first | exact HB.out | apply below_alloc | apply pw_below_drewN | apply below_drew1 | refine below_set ?_ a5.out | refine below_set ?_ b1.out) | exact HB.out)⟩
end Go.Proofs.Ythaaockbapbooaa.Pr
set_option linter.unusedVariables false
set_option linter.unusedSimpArgs false
namespace Go.Proofs.Ythaaockbapbooaa.H
open Go.RowKit Go.Proofs.Ythaaockbapbooaa.Pr Go.Proofs.YthaaockbapbooaaW.PrintWords Go.Proofs.Ythaaockbapbooaa.Sem
theorem isNaN (x : Int) (w : World) : Calls Try.prog 85 #[.int .i64 x] w fun e w' => e = .returned (.bool false) ∧ w = w' := by
 have h : (x != x) = false := by simp
 go_enter Try.func85, Try.ntmps85
 go_wp2
 go_ret
 exact ⟨rfl, rfl⟩
theorem compare_lt (x y : Int) (w : World) (h : x < y) : Calls Try.prog 67 #[.int .i64 x, .int .i64 y] w fun e w' => e = .returned (.int .i64 (-1)) ∧ w = w' := by
 go_enter Try.func67, Try.ntmps67
 go_wp2_with (go_at_call 85; refine (isNaN _ _).mono ?_; rintro e w' ⟨rfl, rfl⟩)
 go_ret
 exact ⟨rfl, rfl⟩
theorem compare_gt (x y : Int) (w : World) (h : y < x) (h2 : ¬ x < y) : Calls Try.prog 67 #[.int .i64 x, .int .i64 y] w fun e w' => e = .returned (.int .i64 1) ∧ w = w' := by
 go_enter Try.func67, Try.ntmps67
 go_wp2_with (go_at_call 85; refine (isNaN _ _).mono ?_; rintro e w' ⟨rfl, rfl⟩)
 go_ret
 exact ⟨rfl, rfl⟩
theorem compare_eq (x y : Int) (w : World) (h : ¬ y < x) (h2 : ¬ x < y) : Calls Try.prog 67 #[.int .i64 x, .int .i64 y] w fun e w' => e = .returned (.int .i64 0) ∧ w = w' := by
 go_enter Try.func67, Try.ntmps67
 go_wp2_with (go_at_call 85; refine (isNaN _ _).mono ?_; rintro e w' ⟨rfl, rfl⟩)
 go_ret
 exact ⟨rfl, rfl⟩
theorem compare_any (x y : Int) (w : World) : Calls Try.prog 67 #[.int .i64 x, .int .i64 y] w fun e w' => e = .returned (.int .i64 (cmpI x y)) ∧ w = w' := by
 unfold cmpI
 by_cases h : x < y
 ·rw [if_pos h]; exact compare_lt x y w h
 ·rw [if_neg h]
  by_cases h' : y < x
  ·rw [if_pos h']; exact compare_gt x y w h' h
  ·rw [if_neg h']; exact compare_eq x y w h' h
theorem or_any (xs : List Int) (b c : Nat) (w : World) (hn : xs.length ≤ 1000) (hc : ∀ j, j < xs.length → w.cell? ⟨b, j, none⟩ = some (.int .i64 (xs.getD j 0))) :
  Calls Try.prog 66 #[.slice (some ⟨b, 0, none⟩) xs.length c] w fun e w' => e = .returned (.int .i64 (orL xs)) ∧ w = w' := by
 have HC := Lib.hid hc; clear hc
 go_enter Try.func66, Try.ntmps66
 go_wp2
 go_loop [8] (fun i => ∃ k : Nat, k ≤ xs.length ∧ i = .int .i64 k ∧ Aside0 (∀ j, j < k → (xs.getD j 0 != 0) = false)) (fun i => xs.length - (intOf i).toNat)
 case atStart => exact ⟨0, Nat.zero_le _, rfl, ⟨fun j hj => by omega⟩⟩
 case round =>
  obtain ⟨k, hk, rfl, hz⟩ := hrel
  by_cases hlt : k < xs.length
  ·have h1 := HC.out k hlt
   obtain ⟨y, hy⟩ : ∃ y, y = xs.getD k 0 := ⟨_, rfl⟩
   rw [← hy] at h1
   have HY := Lib.hid hy; clear hy
   cases hb : (y != 0) with
   | true =>
    go_wp2
    go_ret
    exact ⟨ret_int (by rw [HY.out]; exact (orL_at xs k hz.out hlt (by rw [← HY.out]; exact hb)).symm), rfl⟩
   | false =>
    go_wp2
    go_round
    case rel => exact ⟨k + 1, by omega, by go_num, ⟨fun j hj => by rcases Nat.lt_succ_iff_lt_or_eq.1 hj with h | rfl; exact hz.out j h; rw [← HY.out]; exact hb⟩⟩
    case measure => simp [intOf]; omega
  ·go_wp2
   go_ret
   exact ⟨ret_int (orL_zero xs (fun j hj => hz.out j (by omega))).symm, rfl⟩
set_option maxRecDepth 100000 in
theorem compareE (a b : Ed) (w : World) : Calls Try.prog 51 #[.agg #[.int .i64 a.f0, .int .i64 a.f1, .int .i64 a.f2], .agg #[.int .i64 b.f0, .int .i64 b.f1, .int .i64 b.f2]] w fun e w' => e = .returned (.int .i64 (cmpE a b)) ∧ Below w.heap.size w w' := by
 have HB := Aside0.mk (Below.refl w.heap.size w)
 go_enter Try.func51, Try.ntmps51
 go_wp2_with fail
 go_region_held3 (fun w' => w'.cell? ⟨w.heap.size, 0, none⟩ = some (.int .i64 a.f0) ∧ w'.cell? ⟨w.heap.size, 1, none⟩ = some (.int .i64 a.f1) ∧ w'.cell? ⟨w.heap.size, 2, none⟩ = some (.int .i64 a.f2) ∧ w'.cell? ⟨w.heap.size + 1, 0, none⟩ = some (.int .i64 b.f0) ∧ w'.cell? ⟨w.heap.size + 1, 1, none⟩ = some (.int .i64 b.f1) ∧ w'.cell? ⟨w.heap.size + 1, 2, none⟩ = some (.int .i64 b.f2))
  (first | go_keep)
  (first
   | (go_at_call 67; refine (compare_any _ _ _).mono ?_; rintro e w' ⟨rfl, rfl⟩)
   | (go_at_call 66; refine (or_any [cmpI a.f0 b.f0, cmpI a.f1 b.f1, cmpI a.f2 b.f2] _ _ _ (by simp) (by intro j hj; match j, hj with | 0, _ => go_simp | 1, _ => go_simp | 2, _ => go_simp)).mono ?_; rintro e w' ⟨rfl, rfl⟩))
 go_wp2
 go_ret
 exact ⟨rfl, by repeat (first | exact HB.out | apply below_alloc | apply pw_below_drewN | apply below_drew)⟩
theorem long_any (s : ByteArray) (b : Bool) (hb : tooLong s = b) (w : World) : Calls Try.prog 69 #[.string s] w fun e w' => e = .returned (.bool b) ∧ w = w' := by
 unfold tooLong at hb
 cases b with
 | true =>
  have h : (200 : Int) < (s.size : Int) := by have := of_decide_eq_true hb; omega
  clear hb
  go_enter Try.func69, Try.ntmps69
  go_wp2
  go_ret
  exact ⟨ret_bool (by simp), rfl⟩
 | false =>
  have h : ¬ (200 : Int) < (s.size : Int) := by have := of_decide_eq_false hb; omega
  clear hb
  go_enter Try.func69, Try.ntmps69
  go_wp2
  go_ret
  exact ⟨ret_bool (by simp), rfl⟩
theorem idxLong (ls : List ByteArray) (A : Option Addr) (c : Nat) (w : World) (hr : Kd.C Kd.string w A ls.length ls) :
  Calls Try.prog 86 #[.slice A ls.length c, .func (.func 69) #[] #[]] w fun e w' => e = .returned (.int .i64 (idxP tooLong ls)) ∧ w = w' := by
 have hl := C_len hr
 have HR := Lib.hid hr; clear hr
 go_enter Try.func86, Try.ntmps86
 go_wp2
 go_loop [8] (fun i => ∃ k : Nat, k ≤ ls.length ∧ i = .int .i64 k ∧ Aside0 (∀ j, j < k → tooLong (ls.getD j ByteArray.empty) = false)) (fun i => ls.length - (intOf i).toNat)
 case atStart => exact ⟨0, Nat.zero_le _, rfl, ⟨fun j hj => by omega⟩⟩
 case round =>
  obtain ⟨k, hk, rfl, hz⟩ := hrel
  by_cases hlt : k < ls.length
  ·obtain ⟨ad, hA, h1⟩ := atS HR.out k hlt
   subst hA
   obtain ⟨s, hs⟩ : ∃ s, s = ls.getD k ByteArray.empty := ⟨_, rfl⟩
   rw [← hs] at h1
   have HS := Lib.hid hs; clear hs
   cases hb : tooLong s with
   | true =>
    have HT := Lib.hid hb; clear hb
    go_wp2_with (go_at_call 69; refine (long_any _ _ HT.out _).mono ?_; rintro e w' ⟨rfl, rfl⟩)
    go_ret
    exact ⟨ret_int (idxP_at tooLong ByteArray.empty ls k hz.out hlt (by rw [← HS.out]; exact HT.out)).symm, rfl⟩
   | false =>
    have HT := Lib.hid hb; clear hb
    go_wp2_with (go_at_call 69; refine (long_any _ _ HT.out _).mono ?_; rintro e w' ⟨rfl, rfl⟩)
    go_round
    case rel => exact ⟨k + 1, by omega, by go_num, ⟨fun j hj => by rcases Nat.lt_succ_iff_lt_or_eq.1 hj with h | rfl; exact hz.out j h; rw [← HS.out]; exact HT.out⟩⟩
    case measure => simp [intOf]; omega
  ·go_wp2
   go_ret
   exact ⟨ret_int (idxP_none tooLong ByteArray.empty ls (fun j hj => hz.out j (by omega))).symm, rfl⟩
theorem anyLong (ls : List ByteArray) (A : Option Addr) (c : Nat) (w : World) (hr : Kd.C Kd.string w A ls.length ls) :
  Calls Try.prog 68 #[.slice A ls.length c, .func (.func 69) #[] #[]] w fun e w' => e = .returned (.bool (ls.any tooLong)) ∧ w = w' := by
 have HR := Lib.hid hr; clear hr
 have H := Lib.hid (idxP_nonneg tooLong ls)
 generalize idxP tooLong ls = n at H
 have H2 := Lib.hid (idxLong ls A c w HR.out)
 go_enter Try.func68, Try.ntmps68
 go_wp2_with (go_at_call 86; refine H2.out.mono ?_; rintro e w' ⟨rfl, rfl⟩)
 go_ret
 exact ⟨ret_bool (idxP_nonneg tooLong ls), rfl⟩
theorem node_any (i n : Int) (p : Addr) (w : World) (h0 : w.cell? p = some (.int .i64 n)) :
  Calls Try.prog 55 #[.int .i64 i, .pointer (some p)] w fun e w' => e = .returned (.bool (decide (0 ≤ i ∧ i < n))) ∧ w = w' := by
 by_cases a : 0 ≤ i
 ·by_cases b : i < n
  ·go_enter Try.func55, Try.ntmps55
   go_wp2
   go_ret
   exact ⟨ret_bool (by simp [a, b]), rfl⟩
  ·go_enter Try.func55, Try.ntmps55
   go_wp2
   go_ret
   exact ⟨ret_bool (by simp [b]), rfl⟩
 ·go_enter Try.func55, Try.ntmps55
  go_wp2
  go_ret
  exact ⟨ret_bool (by simp; omega), rfl⟩
end Go.Proofs.Ythaaockbapbooaa.H
set_option linter.unusedVariables false
set_option linter.unusedSimpArgs false
namespace Go.Proofs.Ythaaockbapbooaa.Sem
open Go.Proofs.Ythaaockbapbooaa.Pr
def insE (e : Ed) : List Ed → List Ed
 | [] => [e]
 | x :: r => if elt e x then e :: x :: r else if cmpE e x = 0 then x :: r else x :: insE e r
def sortE (es : List Ed) : List Ed := es.foldl (fun o e => insE e o) []
end Go.Proofs.Ythaaockbapbooaa.Sem
namespace Go.Proofs
open Go.Shelf
def Try.sortE_ren : Go.Shelf.Ren := ⟨fun | 6 => 50 | 15 => 65 | 14 => 64 | 28 => 83 | 29 => 84 | 20 => 75 | 21 => 76 | 22 => 77 | 23 => 78 | 24 => 79 | 25 => 80 | 26 => 81 | 27 => 82 | 46 => 96 | 47 => 97 | 48 => 98 | 49 => 99 | 50 => 100 | 57 => 105 | n => n, fun | 22 => 23 | 24 => 51 | 25 => 70 | 3 => 3 | 39 => 83 | 0 => 0 | 53 => 102 | 55 => 104 | 4 => 4 | 46 => 96 | 45 => 95 | 50 => 89 | 5 => 5 | 9 => 9 | 66 => 112 | 70 => 116 | 76 => 120 | 77 => 39 | n => n, fun | n => n⟩
theorem Try.sortE : Go.Proofs.SlLaysF0.n6 Try.prog Try.sortE_ren := {
 mixed := by kernel_rfl
 f6 := ⟨Try.f50.name, by decide, Try.func50.trans (congrArg some (by kernel_rfl))⟩
 f14 := ⟨Try.f64.name, by decide, Try.func64.trans (congrArg some (by kernel_rfl))⟩
 f15 := Try.func65.trans (congrArg some (by kernel_rfl))
 f20 := ⟨Try.f75.name, by decide, Try.func75.trans (congrArg some (by kernel_rfl))⟩
 f21 := ⟨Try.f76.name, by decide, Try.func76.trans (congrArg some (by kernel_rfl))⟩
 f22 := ⟨Try.f77.name, by decide, Try.func77.trans (congrArg some (by kernel_rfl))⟩
 f23 := ⟨Try.f78.name, by decide, Try.func78.trans (congrArg some (by kernel_rfl))⟩
 f24 := ⟨Try.f79.name, by decide, Try.func79.trans (congrArg some (by kernel_rfl))⟩
 f25 := ⟨Try.f80.name, by decide, Try.func80.trans (congrArg some (by kernel_rfl))⟩
 f26 := ⟨Try.f81.name, by decide, Try.func81.trans (congrArg some (by kernel_rfl))⟩
 f27 := ⟨Try.f82.name, by decide, Try.func82.trans (congrArg some (by kernel_rfl))⟩
 f28 := Try.func83.trans (congrArg some (by kernel_rfl))
 f29 := Try.func84.trans (congrArg some (by kernel_rfl))
 f46 := ⟨Try.f96.name, by decide, Try.func96.trans (congrArg some (by kernel_rfl))⟩
 f47 := Try.func97.trans (congrArg some (by kernel_rfl))
 f48 := Try.func98.trans (congrArg some (by kernel_rfl))
 f49 := ⟨Try.f99.name, by decide, Try.func99.trans (congrArg some (by kernel_rfl))⟩
 f50 := ⟨Try.f100.name, by decide, Try.func100.trans (congrArg some (by kernel_rfl))⟩
 f57 := ⟨Try.f105.name, by decide, Try.func105.trans (congrArg some (by kernel_rfl))⟩
 t0 := Try.underlying0
 a0 := Try.isAgg0
 z0 := Try.sizeOf0
 v0 := Try.zeroValue0
 t3 := Try.underlying3
 a3 := Try.isAgg3
 z3 := Try.sizeOf3
 v3 := Try.zeroValue3
 t4 := Try.underlying4
 a4 := Try.isAgg4
 z4 := Try.sizeOf4
 v4 := Try.zeroValue4
 t5 := Try.underlying5
 a5 := Try.isAgg5
 z5 := Try.sizeOf5
 v5 := Try.zeroValue5
 t9 := Try.underlying9
 a9 := Try.isAgg9
 z9 := Try.sizeOf9
 v9 := Try.zeroValue9
 t22 := Try.underlying23
 a22 := Try.isAgg23
 z22 := Try.sizeOf23
 v22 := Try.zeroValue23
 t25 := Try.underlying70
 a25 := Try.isAgg70
 z25 := Try.sizeOf70
 v25 := Try.zeroValue70
 t39 := Try.underlying83
 a39 := Try.isAgg83
 z39 := Try.sizeOf83
 v39 := Try.zeroValue83
 t45 := Try.underlying95
 a45 := Try.isAgg95
 z45 := Try.sizeOf95
 v45 := Try.zeroValue95
 t46 := Try.underlying96
 a46 := Try.isAgg96
 z46 := Try.sizeOf96
 v46 := Try.zeroValue96
 t50 := Try.underlying89
 a50 := Try.isAgg89
 z50 := Try.sizeOf89
 v50 := Try.zeroValue89
 t53 := Try.underlying102
 a53 := Try.isAgg102
 z53 := Try.sizeOf102
 v53 := Try.zeroValue102
 t55 := Try.underlying104
 a55 := Try.isAgg104
 z55 := Try.sizeOf104
 v55 := Try.zeroValue104
 t66 := Try.underlying112
 a66 := Try.isAgg112
 z66 := Try.sizeOf112
 v66 := Try.zeroValue112
 t70 := Try.underlying116
 a70 := Try.isAgg116
 z70 := Try.sizeOf116
 v70 := Try.zeroValue116
 t76 := Try.underlying120
 a76 := Try.isAgg120
 z76 := Try.sizeOf120
 v76 := Try.zeroValue120
 t77 := Try.underlying39
 a77 := Try.isAgg39
 z77 := Try.sizeOf39
 v77 := Try.zeroValue39 }
def Try.lays190_ren : Go.Shelf.Ren := ⟨fun | 190 => 59 | 125 => 65 | 258 => 74 | 128 => 83 | 129 => 84 | 302 => 87 | 303 => 88 | 304 => 89 | 305 => 90 | 306 => 91 | 307 => 92 | 308 => 93 | 309 => 94 | 310 => 95 | 333 => 101 | 329 => 97 | 330 => 98 | 334 => 102 | 335 => 103 | 336 => 104 | 344 => 106 | n => n, fun | 31 => 22 | 9 => 9 | 3 => 3 | 46 => 83 | 0 => 0 | 51 => 102 | 53 => 104 | 4 => 4 | 183 => 96 | 182 => 95 | 131 => 89 | 5 => 5 | 218 => 112 | 222 => 116 | 228 => 120 | 229 => 39 | n => n, fun | n => n⟩
theorem Try.lays190 : Go.Proofs.Lays.n190 Try.prog Try.lays190_ren := {
 mixed := by kernel_rfl
 f125 := Try.func65.trans (congrArg some (by kernel_rfl))
 f128 := Try.func83.trans (congrArg some (by kernel_rfl))
 f129 := Try.func84.trans (congrArg some (by kernel_rfl))
 f190 := Try.func59.trans (congrArg some (by kernel_rfl))
 f258 := Try.func74.trans (congrArg some (by kernel_rfl))
 f302 := Try.func87.trans (congrArg some (by kernel_rfl))
 f303 := Try.func88.trans (congrArg some (by kernel_rfl))
 f304 := Try.func89.trans (congrArg some (by kernel_rfl))
 f305 := Try.func90.trans (congrArg some (by kernel_rfl))
 f306 := Try.func91.trans (congrArg some (by kernel_rfl))
 f307 := Try.func92.trans (congrArg some (by kernel_rfl))
 f308 := Try.func93.trans (congrArg some (by kernel_rfl))
 f309 := Try.func94.trans (congrArg some (by kernel_rfl))
 f310 := Try.func95.trans (congrArg some (by kernel_rfl))
 f329 := Try.func97.trans (congrArg some (by kernel_rfl))
 f330 := Try.func98.trans (congrArg some (by kernel_rfl))
 f333 := Try.func101.trans (congrArg some (by kernel_rfl))
 f334 := Try.func102.trans (congrArg some (by kernel_rfl))
 f335 := Try.func103.trans (congrArg some (by kernel_rfl))
 f336 := Try.func104.trans (congrArg some (by kernel_rfl))
 f344 := Try.func106.trans (congrArg some (by kernel_rfl))
 t0 := Try.underlying0
 a0 := Try.isAgg0
 z0 := Try.sizeOf0
 v0 := Try.zeroValue0
 t3 := Try.underlying3
 a3 := Try.isAgg3
 z3 := Try.sizeOf3
 v3 := Try.zeroValue3
 t4 := Try.underlying4
 a4 := Try.isAgg4
 z4 := Try.sizeOf4
 v4 := Try.zeroValue4
 t5 := Try.underlying5
 a5 := Try.isAgg5
 z5 := Try.sizeOf5
 v5 := Try.zeroValue5
 t9 := Try.underlying9
 a9 := Try.isAgg9
 z9 := Try.sizeOf9
 v9 := Try.zeroValue9
 t31 := Try.underlying22
 a31 := Try.isAgg22
 z31 := Try.sizeOf22
 v31 := Try.zeroValue22
 t46 := Try.underlying83
 a46 := Try.isAgg83
 z46 := Try.sizeOf83
 v46 := Try.zeroValue83
 t51 := Try.underlying102
 a51 := Try.isAgg102
 z51 := Try.sizeOf102
 v51 := Try.zeroValue102
 t53 := Try.underlying104
 a53 := Try.isAgg104
 z53 := Try.sizeOf104
 v53 := Try.zeroValue104
 t131 := Try.underlying89
 a131 := Try.isAgg89
 z131 := Try.sizeOf89
 v131 := Try.zeroValue89
 t182 := Try.underlying95
 a182 := Try.isAgg95
 z182 := Try.sizeOf95
 v182 := Try.zeroValue95
 t183 := Try.underlying96
 a183 := Try.isAgg96
 z183 := Try.sizeOf96
 v183 := Try.zeroValue96
 t218 := Try.underlying112
 a218 := Try.isAgg112
 z218 := Try.sizeOf112
 v218 := Try.zeroValue112
 t222 := Try.underlying116
 a222 := Try.isAgg116
 z222 := Try.sizeOf116
 v222 := Try.zeroValue116
 t228 := Try.underlying120
 a228 := Try.isAgg120
 z228 := Try.sizeOf120
 v228 := Try.zeroValue120
 t229 := Try.underlying39
 a229 := Try.isAgg39
 z229 := Try.sizeOf39
 v229 := Try.zeroValue39 }
open Go.Sort Go.RowKit in
theorem Try.slices_Sort_string (blk off cap : Nat) (ss : List (List UInt8)) (w : World) (hH : Holds encStr w blk off ss.toArray) (hblk : blk < w.heap.size) (hsz : ss.length < 4611686018427387904) :
  Calls Try.prog 59 #[.slice (some ⟨blk, off, none⟩) ss.length cap] w fun e w' =>
   e = .returned (.tuple #[]) ∧ ∃ n os, w' = grow (putRow encStr (Sort.ahead w n) blk off (ss.mergeSort fun x y => decide (x ≤ y)).toArray) os := Any.slices_Sort_string Try.lays190 blk off cap ss w hH hblk hsz
def Try.lays194_ren : Go.Shelf.Ren := ⟨fun | 194 => 60 | n => n, fun | 31 => 22 | 9 => 9 | 3 => 3 | 4 => 4 | 0 => 0 | n => n, fun | n => n⟩
theorem Try.lays194 : Go.Proofs.Lays.n194 Try.prog Try.lays194_ren := {
 mixed := by kernel_rfl
 f194 := Try.func60.trans (congrArg some (by kernel_rfl))
 t0 := Try.underlying0
 a0 := Try.isAgg0
 z0 := Try.sizeOf0
 v0 := Try.zeroValue0
 t3 := Try.underlying3
 a3 := Try.isAgg3
 z3 := Try.sizeOf3
 v3 := Try.zeroValue3
 t4 := Try.underlying4
 a4 := Try.isAgg4
 z4 := Try.sizeOf4
 v4 := Try.zeroValue4
 t9 := Try.underlying9
 a9 := Try.isAgg9
 z9 := Try.sizeOf9
 v9 := Try.zeroValue9
 t31 := Try.underlying22
 a31 := Try.isAgg22
 z31 := Try.sizeOf22
 v31 := Try.zeroValue22 }
open Go.RowKit Go.Lib Go.Sort in
theorem Try.slices_Compact_string (blk off cap : Nat) (zs : List (List UInt8)) (w : World) (hH : Holds encStr w blk off zs.toArray) (hsz : zs.length ≤ 9223372036854775807) (hcap : zs.length ≤ cap) :
  Calls Try.prog 60 #[.slice (some ⟨blk, off, none⟩) zs.length cap] w fun e w' => e = .returned (.slice (some ⟨blk, off, none⟩) (Lib.compact zs).length cap) ∧ ∃ q, w' = putRow encStr (Sort.ahead w q) blk off (Lib.compact zs ++ List.replicate (zs.length - (Lib.compact zs).length) []).toArray := Any.slices_Compact_string Try.lays194 blk off cap zs w hH hsz hcap
open Go.RowKit Go.Lib Go.Sort in
theorem Try.slices_Compact_string_empty (a : Option Addr) (cap : Nat) (w : World) :
  Calls Try.prog 60 #[.slice a 0 cap] w fun e w' => e = .returned (.slice a 0 cap) ∧ w' = w := Any.slices_Compact_string_empty Try.lays194 a cap w
open Go.RowKit Go.Sort in
theorem Try.slices_Sort_string_none (p : Option Addr) (cap : Nat) (w : World) :
  Calls Try.prog 59 #[.slice p 0 cap] w fun e w' => e = .returned (.tuple #[]) ∧ w' = w := Any.slices_Sort_string_none Try.lays190 p cap w
end Go.Proofs
set_option linter.unusedVariables false
set_option linter.unusedSimpArgs false
namespace Go.Proofs.Ythaaockbapbooaa.H
open Go.RowKit Go.Proofs Go.Sort Go.Proofs.Ythaaockbapbooaa.Pr Go.Proofs.YthaaockbapbooaaW.PrintWords Go.Proofs.Ythaaockbapbooaa.Sem
def MadeS (w : World) (xs : List ByteArray) (e : Ending) (w' : World) : Prop := ∃ v : Value, e = .returned v ∧ Kd.R Kd.string 9 w' w.heap.size (fun _ => True) v xs ∧ Below w.heap.size w w'
theorem growNil0 (w : World) : Calls Try.prog 73 #[.slice none 0 0, .int .i64 0] w (MadeS w []) := by
 go_enter Try.func73, Try.ntmps73
 go_wp2
 go_ret
 exact ⟨_, rfl, Kd.R_nil _ _ _ _ _, Below.refl _ _⟩
set_option maxRecDepth 100000 in
theorem growNil1 (n : Int) (h0 : 0 < n) (hb : n ≤ 1000000000000) (w : World) : Calls Try.prog 73 #[.slice none 0 0, .int .i64 n] w (MadeS w []) := by
 have HB := Aside0.mk (Below.refl w.heap.size w)
 have h0' : 0 ≤ n := by omega
 obtain ⟨i9, hi9, hi90, hi91, hi92⟩ := info_parts info9
 go_enter Try.func73, Try.ntmps73
 go_wp2_with (at_builtin; refine Kd.R_append_zeros Kd.string (w0 := w) w.heap.size rfl (.tmp 20) (.tmp 21) 22 3 9 (.string ⟨#[]⟩) 16 rfl Try.underlying22 Try.underlying3 info9 rfl (by decide) (by omega) (.slice none 0 0) ([] : List ByteArray) (⟨#[]⟩ : ByteArray) n (fun _ => True) rfl rfl rfl (fun _ _ => trivial) (Kd.R_nil _ _ _ _ _) h0' HB.out (Nat.le_refl _) (by simp; omega) ?_; intro v1 w1 hR hB hG hat; obtain ⟨A1, c1, hv1, hle, _⟩ := Kd.R_reads hR; have H := Aside0.mk (And.intro hR hB); clear hR hB hG hat; subst hv1; have hcut := cut_to (P := Try.prog) 22 9 .i64 Try.underlying22 hi9 A1 ([] ++ List.replicate n.toNat (⟨#[]⟩ : ByteArray)).length c1 0 (by omega) (by omega) hle)
 go_ret
 exact ⟨_, rfl, by have := Kd.R_take (m := 0) H.out.1 (by simp); simpa using this, H.out.2⟩
theorem growNil (n : Int) (h0 : 0 ≤ n) (hb : n ≤ 1000000000000) (w : World) : Calls Try.prog 73 #[.slice none 0 0, .int .i64 n] w (MadeS w []) := by
 by_cases h : n = 0
 ·subst h; exact growNil0 w
 ·exact growNil1 n (by omega) hb w
theorem concat2 (xs ys : List ByteArray) (A1 A2 : Option Addr) (c1 c2 g : Nat) (w : World) (hx : Kd.C Kd.string w A1 xs.length xs) (hy : Kd.C Kd.string w A2 ys.length ys) (hb : xs.length + ys.length ≤ 1000000000000)
  (h0 : w.cell? ⟨g, 0, none⟩ = some (.slice A1 xs.length c1)) (h1 : w.cell? ⟨g, 1, none⟩ = some (.slice A2 ys.length c2)) :
  Calls Try.prog 58 #[.slice (some ⟨g, 0, none⟩) 2 2] w (MadeS w (xs ++ ys)) := by
 have HX := Lib.hid hx; clear hx
 have HY := Lib.hid hy; clear hy
 have HB := Aside0.mk (Below.refl w.heap.size w)
 go_enter Try.func58, Try.ntmps58
 go_wp2
 go_loop [3, 11] (fun s i => ∃ k : Nat, k ≤ 2 ∧ i = .int .i64 k ∧ s = .int .i64 (if k = 0 then 0 else if k = 1 then (xs.length : Int) else xs.length + ys.length)) (fun _ i => 2 - (intOf i).toNat)
 case atStart => exact ⟨0, by omega, rfl, rfl⟩
 case round =>
  obtain ⟨k, hk, rfl, rfl⟩ := hrel
  match k, hk with
  | 0, _ =>
   go_wp2
   go_round
   case rel => exact ⟨1, by omega, by go_num, by simp⟩
   case measure => simp [intOf]
  | 1, _ =>
   go_wp2
   go_round
   case rel => exact ⟨2, by omega, by go_num, by simp⟩
   case measure => simp [intOf]
  | 2, _ =>
   have hg : (0 : Int) ≤ (xs.length : Int) + (ys.length : Int) := by omega
   have hg2 : (xs.length : Int) + (ys.length : Int) ≤ 1000000000000 := by omega
   go_wp2_with (go_at_call 73; refine (growNil _ hg hg2 _).mono ?_; rintro e w1 ⟨v, rfl, hR, hB⟩; have HR := Aside0.mk hR; have HB1 := Aside0.mk hB; clear hR hB)
   go_loopw [6, 27] (fun v i wr => ∃ k : Nat, k ≤ 2 ∧ i = .int .i64 k ∧ Aside0 (Kd.R Kd.string 9 wr w.heap.size (fun _ => True) v (if k = 0 then [] else if k = 1 then xs else xs ++ ys)) ∧ Aside0 (Below w.heap.size w wr)) (fun _ i _ => 2 - (intOf i).toNat)
   case atStart => exact ⟨0, by omega, rfl, HR, HB1⟩
   case round =>
    obtain ⟨k, hk, rfl, HRr, HBr⟩ := hrel
    clear HR HB1
    have c0 := later HBr.out h0
    have c1' := later HBr.out h1
    match k, hk with
    | 0, _ =>
     have HR0 : Aside0 (Kd.R Kd.string 9 wr w.heap.size (fun _ => True) u6 []) := HRr
     clear HRr
     go_wp2_with (at_builtin; refine Kd.R_append_row Value.string ByteArray.empty (w0 := w) w.heap.size rfl (.tmp 31) (.tmp 32) 22 9 (.string ⟨#[]⟩) 16 rfl Try.underlying22 info9 rfl (by omega) _ [] xs A1 xs.length c1 (fun _ => True) rfl rfl (fun _ _ => trivial) HR0.out (Kd.C_below HX.out HBr.out) HBr.out (HBr.out.size) (by simp; omega) ?_; intro v1 w2 hR2 hB2 _ _; have HR2 := Aside0.mk hR2; have HB2 := Aside0.mk hB2; clear hR2 hB2)
     go_roundw
     case rel => exact ⟨1, by omega, by go_num, ⟨HR2.out⟩, HB2⟩
     case measure => simp [intOf]
    | 1, _ =>
     have HR0 : Aside0 (Kd.R Kd.string 9 wr w.heap.size (fun _ => True) u6 xs) := HRr
     clear HRr
     go_wp2_with (at_builtin; refine Kd.R_append_row Value.string ByteArray.empty (w0 := w) w.heap.size rfl (.tmp 31) (.tmp 32) 22 9 (.string ⟨#[]⟩) 16 rfl Try.underlying22 info9 rfl (by omega) _ xs ys A2 ys.length c2 (fun _ => True) rfl rfl (fun _ _ => trivial) HR0.out (Kd.C_below HY.out HBr.out) HBr.out (HBr.out.size) (by omega) ?_; intro v1 w2 hR2 hB2 _ _; have HR2 := Aside0.mk hR2; have HB2 := Aside0.mk hB2; clear hR2 hB2)
     go_roundw
     case rel => exact ⟨2, by omega, by go_num, ⟨HR2.out⟩, HB2⟩
     case measure => simp [intOf]
    | 2, _ =>
     have HR0 : Aside0 (Kd.R Kd.string 9 wr w.heap.size (fun _ => True) u6 (xs ++ ys)) := HRr
     clear HRr
     go_wp2
     go_ret
     exact ⟨_, rfl, HR0.out, HBr.out⟩
def srt (xs : List ByteArray) : List ByteArray := ((xs.map fun s => s.data.toList).mergeSort fun x y => decide (x ≤ y)).map fun l => ⟨l.toArray⟩
def cmpt (xs : List ByteArray) : List ByteArray := (Lib.compact (xs.map fun s => s.data.toList)).map fun l => ⟨l.toArray⟩
theorem srt_length (xs : List ByteArray) : (srt xs).length = xs.length := by simp [srt]
theorem enc_bytes (xs : List ByteArray) : (xs.map fun s => s.data.toList).map encStr = xs.map Value.string := by
 rw [List.map_map]
 apply List.map_congr_left
 intro s _
 simp [encStr]
theorem enc_back (ls : List (List UInt8)) : ls.map encStr = (ls.map fun l => (⟨l.toArray⟩ : ByteArray)).map Value.string := by
 rw [List.map_map]
 rfl
theorem own_of_RS {w : World} {base e : Nat} {ok : Nat → Prop} {v : Value} {xs : List ByteArray} (h : Kd.R Kd.string e w base ok v xs) : w.ownsRow base e 1 v (xs.map fun s => s.data.toList).length ((xs.map fun s => s.data.toList).map encStr) := by
 rw [enc_bytes, List.length_map]
 exact Kd.own_of_R h
theorem RS_of_own {w : World} {base e n : Nat} {v : Value} {ls : List (List UInt8)} (hn : n = ls.length) (h : w.ownsRow base e 1 v n (ls.map encStr)) : Kd.R Kd.string e w base (fun _ => True) v (ls.map fun l => ⟨l.toArray⟩) :=
 Kd.R_of_own (enc := Value.string) (by rw [enc_back, hn] at h; rw [List.length_map]; exact h) (fun _ _ => trivial)
theorem sortR (base e : Nat) (v : Value) (xs : List ByteArray) (w : World) (h : Kd.R Kd.string e w base (fun _ => True) v xs) (hl : xs.length < 1000000000000) :
  Calls Try.prog 59 #[v] w fun e' w' => e' = .returned (.tuple #[]) ∧ Kd.R Kd.string e w' base (fun _ => True) v (srt xs) ∧ w.grownBy w' v.ownBlock := by
 have ho := own_of_RS h
 rcases ho.2 with ⟨hv, h0⟩ | ⟨g, cap, cur, hv, hb, hg, h1, h2, h3, h4⟩
 ·subst hv
  have hx : xs = [] := by simpa using h0
  subst hx
  refine (Try.slices_Sort_string_none none 0 w).mono ?_
  rintro e' w' ⟨rfl, rfl⟩
  refine ⟨rfl, by simpa [srt] using h, ?_⟩
  exact grown_of_below (Below.refl _ _) _
 ·subst hv
  have hH := holds_of_block (ss := xs.map fun s => s.data.toList) hg (by rw [← h4, Nat.mul_one])
  refine (Try.slices_Sort_string g 0 cap _ w hH (Array.getElem?_eq_some_iff.1 hg).1 (by rw [List.length_map]; omega)).mono ?_
  rintro e' w' ⟨rfl, n, os, rfl⟩
  refine ⟨rfl, ?_, grownBy_sorted _⟩
  have hs := ownsRow_sorted (n := n) (os := os) (ts := (xs.map fun s => s.data.toList).mergeSort fun x y => decide (x ≤ y)) (List.length_mergeSort _) hb hg h1 h2 h3
  exact RS_of_own (List.length_mergeSort _).symm hs
theorem compactR (base e : Nat) (v : Value) (xs : List ByteArray) (w : World) (h : Kd.R Kd.string e w base (fun _ => True) v xs) (hl : xs.length < 1000000000000) :
  Calls Try.prog 60 #[v] w fun e' w' => ∃ v', e' = .returned v' ∧ Kd.R Kd.string e w' base (fun _ => True) v' (cmpt xs) ∧ w.grownBy w' v.ownBlock := by
 have ho := own_of_RS h
 rcases ho.2 with ⟨hv, h0⟩ | ⟨g, cap, cur, hv, hb, hg, h1, h2, h3, h4⟩
 ·subst hv
  have hx : xs = [] := by simpa using h0
  subst hx
  refine (Try.slices_Compact_string_empty none 0 w).mono ?_
  rintro e' w' ⟨rfl, rfl⟩
  refine ⟨_, rfl, h, grown_of_below (Below.refl _ _) _⟩
 ·subst hv
  have hH := holds_of_block (ss := xs.map fun s => s.data.toList) hg (by rw [← h4, Nat.mul_one])
  refine (Try.slices_Compact_string g 0 cap _ w hH (by rw [List.length_map]; omega) h1).mono ?_
  rintro e' w' ⟨rfl, q, rfl⟩
  have hle := Lib.compact_length_le (xs.map fun s => s.data.toList)
  have hc := Lib.ownsRow_putRow (q := q) (k := (Lib.compact (xs.map fun s => s.data.toList)).length) (ys := Lib.compact (xs.map fun s => s.data.toList) ++ List.replicate ((xs.map fun s => s.data.toList).length - (Lib.compact (xs.map fun s => s.data.toList)).length) []) ho (by simp at hle ⊢; omega) hle
  rw [List.take_left] at hc
  refine ⟨_, rfl, RS_of_own rfl hc, ?_⟩
  exact grownBy_sorted (os := #[]) _
def unionS (xs ys : List ByteArray) : List ByteArray := cmpt (srt (xs ++ ys))
theorem union_any (xs ys : List ByteArray) (A1 A2 : Option Addr) (c1 c2 : Nat) (w : World) (hx : Kd.C Kd.string w A1 xs.length xs) (hy : Kd.C Kd.string w A2 ys.length ys) (hb : xs.length + ys.length < 1000000000000) :
  Calls Try.prog 46 #[.slice A1 xs.length c1, .slice A2 ys.length c2] w (MadeS w (unionS xs ys)) := by
 have HX := Lib.hid hx; clear hx
 have HY := Lib.hid hy; clear hy
 have HB := Aside0.mk (Below.refl w.heap.size w)
 go_enter Try.func46, Try.ntmps46
 go_wp2_with fail
 refine (concat2 xs ys A1 A2 c1 c2 _ _ (Kd.C_below HX.out ?_) (Kd.C_below HY.out ?_) (by omega) ?_ ?_).mono ?_
 rotate_right
 ·rintro e w1 ⟨v, rfl, hR, hB⟩
  have hR0 := Kd.R_lower (base' := w.heap.size) hR (by simp)
  have HB1 := Aside0.mk (below_then (below_alloc HB.out _) (by simp) hB)
  have HR := Aside0.mk hR0
  clear hR hB hR0
  go_wp2_with fail
  refine (sortR _ _ _ _ _ HR.out (by simp; omega)).mono ?_
  rintro e w2 ⟨rfl, hR, hG⟩
  have HR2 := Aside0.mk hR
  have HB2 := Aside0.mk (HB1.out.grown hG HB1.out.size (own_base (Kd.own_of_R HR.out)))
  clear hR hG
  go_wp2_with fail
  refine (compactR _ _ _ _ _ HR2.out (by simp [srt_length]; omega)).mono ?_
  rintro e w3 ⟨v3, rfl, hR, hG⟩
  have HR3 := Aside0.mk hR
  have HB3 := Aside0.mk (HB2.out.grown hG HB2.out.size (own_base (Kd.own_of_R HR2.out)))
  clear hR hG
  go_wp2
  go_ret
  exact ⟨_, rfl, HR3.out, HB3.out⟩
 all_goals (first | exact below_alloc HB.out _ | go_simp)
theorem list_ext_getD {α : Type} (d : α) {xs ys : List α} (hl : xs.length = ys.length) (h : ∀ j, j < xs.length → xs.getD j d = ys.getD j d) : xs = ys := by
 apply List.ext_getElem hl
 intro j h1 h2
 have := h j h1
 simpa [List.getD_eq_getElem?_getD, List.getElem?_eq_getElem h1, List.getElem?_eq_getElem h2] using this
theorem equalS (xs ys : List ByteArray) (A1 A2 : Option Addr) (c1 c2 : Nat) (w : World) (hx : Kd.C Kd.string w A1 xs.length xs) (hy : Kd.C Kd.string w A2 ys.length ys) :
  Calls Try.prog 70 #[.slice A1 xs.length c1, .slice A2 ys.length c2] w fun e w' => e = .returned (.bool (decide (xs = ys))) ∧ Drawn0 w w' := by
 by_cases hl : xs.length = ys.length
 ·have hm := C_len hx
  have hq : ((xs.length : Int) != (ys.length : Int)) = false := by rw [hl]; simp
  have HX := Lib.hid hx; clear hx
  have HY := Lib.hid hy; clear hy
  have HLn := Aside0.mk hl; clear hl
  go_enter Try.func70, Try.ntmps70
  go_wp2
  go_loopw [13] (fun i wr => ∃ k : Nat, k ≤ xs.length ∧ i = .int .i64 k ∧ Aside0 (∀ j, j < k → xs.getD j ByteArray.empty = ys.getD j ByteArray.empty) ∧ Drawn0 w wr) (fun i _ => xs.length - (intOf i).toNat)
  case atStart => exact ⟨0, Nat.zero_le _, rfl, ⟨fun j hj => by omega⟩, Drawn0.refl _⟩
  case round =>
   obtain ⟨k, hk, rfl, hz, hD⟩ := hrel
   by_cases hlt : k < xs.length
   ·obtain ⟨a1, hA1, h1⟩ := atS HX.out k hlt
    obtain ⟨a2, hA2, h2⟩ := atS HY.out k (by rw [← HLn.out]; exact hlt)
    subst hA1 hA2
    have g1 := later hD.below h1
    have g2 := later hD.below h2
    clear h1 h2
    have hlt2 : k < ys.length := by rw [← HLn.out]; exact hlt
    obtain ⟨s, hs⟩ : ∃ s, s = xs.getD k ByteArray.empty := ⟨_, rfl⟩
    obtain ⟨t, ht⟩ : ∃ t, t = ys.getD k ByteArray.empty := ⟨_, rfl⟩
    rw [← hs] at g1
    rw [← ht] at g2
    have HS := Aside0.mk hs; clear hs
    have HT := Aside0.mk ht; clear ht
    have i1 : (k : Int) < (xs.length : Int) := by omega
    have i2 : (k : Int) < (ys.length : Int) := by omega
    have i0 : (0 : Int) ≤ (k : Int) := by omega
    cases hb : (s.toList == t.toList) with
    | false =>
     go_wp2_with fail
     go_quiet (fail)
     go_wp2
     go_ret
     refine ⟨ret_bool (decide_eq_false fun he => ?_).symm, hD.step _⟩
     rw [HS.out, HT.out, he] at hb
     simp at hb
    | true =>
     go_wp2_with fail
     go_quiet (fail)
     go_wp2
     go_roundw
     case rel => exact ⟨k + 1, by omega, by go_num, ⟨fun j hj => by
      rcases Nat.lt_succ_iff_lt_or_eq.1 hj with h | rfl
      ·exact hz.out j h
      ·rw [← HS.out, ← HT.out]
       exact ByteArray.ext (Array.toList_inj.1 (by simpa [ByteArray.toList_eq] using hb))⟩, hD.step _⟩
     case measure => simp [intOf]; omega
   ·go_wp2
    go_ret
    exact ⟨ret_bool (decide_eq_true (list_ext_getD ByteArray.empty HLn.out (fun j hj => hz.out j (by omega)))).symm, hD⟩
 ·have hq : ((xs.length : Int) != (ys.length : Int)) = true := by simp; omega
  have hn : decide (xs = ys) = false := decide_eq_false fun h => hl (by rw [h])
  rw [hn]
  clear hx hy hl hn
  go_enter Try.func70, Try.ntmps70
  go_wp2
  go_ret
  exact ⟨rfl, Drawn0.refl _⟩
def namedB (ls : List ByteArray) : Bool := decide (ls.length ≤ 64) && (!ls.any tooLong && decide (ls = unionS ls []))
theorem named_any (ls : List ByteArray) (A : Option Addr) (c : Nat) (w : World) (hr : Kd.C Kd.string w A ls.length ls) :
  Calls Try.prog 54 #[.slice A ls.length c] w fun e w' => e = .returned (.bool (namedB ls)) ∧ Below w.heap.size w w' := by
 have HB := Aside0.mk (Below.refl w.heap.size w)
 have hnil := Kd.C_nil Kd.string w
 by_cases h1 : (64 : Int) < (ls.length : Int)
 ·have e1 : namedB ls = false := by unfold namedB; rw [decide_eq_false (by omega)]; rfl
  rw [e1]
  clear hr hnil e1
  go_enter Try.func54, Try.ntmps54
  go_wp2
  go_ret
  exact ⟨rfl, HB.out⟩
 ·have e0 : namedB ls = (!ls.any tooLong && decide (ls = unionS ls [])) := by unfold namedB; rw [decide_eq_true (by omega)]; rfl
  have HR := Lib.hid hr; clear hr
  have HC := Lib.hid hnil; clear hnil
  have HL := Lib.hid (anyLong ls A c w HR.out)
  cases hb : ls.any tooLong with
  | true =>
   have e1 : namedB ls = false := by rw [e0, hb]; rfl
   rw [e1]
   clear e0 e1
   rw [hb] at HL
   clear hb
   go_enter Try.func54, Try.ntmps54
   go_wp2_with (go_at_call 68; refine HL.out.mono ?_; rintro e w' ⟨rfl, rfl⟩)
   go_ret
   exact ⟨rfl, HB.out⟩
  | false =>
   have e1 : namedB ls = decide (ls = unionS ls []) := by rw [e0, hb]; rfl
   rw [e1]
   clear e0 e1
   rw [hb] at HL
   clear hb
   go_enter Try.func54, Try.ntmps54
   go_wp2_with (go_at_call 68; refine HL.out.mono ?_; rintro e w' ⟨rfl, rfl⟩)
   refine (union_any ls [] A none c 0 _ HR.out HC.out (by simp; omega)).mono ?_
   rintro e w1 ⟨v, rfl, hR, hB⟩
   obtain ⟨B1, c1, hv, hle, hC⟩ := Kd.R_reads hR
   subst hv
   have HB1 := Aside0.mk hB
   have HC1 := Aside0.mk hC
   clear hR hB hC
   go_wp2_with fail
   refine (equalS ls (unionS ls []) A B1 c c1 _ (Kd.C_below HR.out HB1.out) HC1.out).mono ?_
   rintro e w2 ⟨rfl, hD⟩
   have HB2 := Aside0.mk (below_then HB1.out HB1.out.size hD.below)
   clear hD
   go_wp2
   go_ret
   exact ⟨rfl, HB2.out⟩
end Go.Proofs.Ythaaockbapbooaa.H
set_option linter.unusedVariables false
set_option linter.unusedSimpArgs false
namespace Go.Proofs.Ythaaockbapbooaa.H
open Go.RowKit Go.Proofs.Ythaaockbapbooaa.Pr Go.Proofs.YthaaockbapbooaaW.PrintWords Go.Proofs.Ythaaockbapbooaa.Sem
theorem node_is (i n : Int) (b : Bool) (hb : decide (0 ≤ i ∧ i < n) = b) (p : Addr) (w : World) (h0 : w.cell? p = some (.int .i64 n)) :
  Calls Try.prog 55 #[.int .i64 i, .pointer (some p)] w fun e w' => e = .returned (.bool b) ∧ w = w' := by
 subst hb
 exact node_any i n p w h0
theorem compare_is (a b : Ed) (r : Bool) (hr : decide (cmpE a b < 0) = r) (w : World) : Calls Try.prog 51 #[.agg #[.int .i64 a.f0, .int .i64 a.f1, .int .i64 a.f2], .agg #[.int .i64 b.f0, .int .i64 b.f1, .int .i64 b.f2]] w fun e w' => ∃ z : Int, e = .returned (.int .i64 z) ∧ Aside0 (decide (z < 0) = r) ∧ Below w.heap.size w w' :=
 (compareE a b w).mono fun e w' ⟨he, hb⟩ => ⟨_, he, ⟨hr⟩, hb⟩
def mayB (n : Int) (ls : List ByteArray) (es : List Ed) : Bool :=
 decide (1 ≤ n) && (decide (n ≤ 2048) && (namedB ls && (decide (es.length ≤ 1000000) && (List.range es.length).all (okAt n ls.length es))))
def errB (b : Bool) : Int := if b then 0 else 1
def BoxL (w : World) (b : Nat) (n : Int) (v1 v2 : Value) : Prop := w.heap[b]? = some (.cells #[.int .i64 n, v1, v2] 25 (0, 0))
theorem BoxL.c0 {w : World} {b : Nat} {n : Int} {v1 v2 : Value} (h : BoxL w b n v1 v2) : w.cell? ⟨b, 0, none⟩ = some (.int .i64 n) := (blk_cell h 0).trans rfl
theorem BoxL.c1 {w : World} {b : Nat} {n : Int} {v1 v2 : Value} (h : BoxL w b n v1 v2) : w.cell? ⟨b, 1, none⟩ = some v1 := (blk_cell h 1).trans rfl
theorem BoxL.c2 {w : World} {b : Nat} {n : Int} {v1 v2 : Value} (h : BoxL w b n v1 v2) : w.cell? ⟨b, 2, none⟩ = some v2 := (blk_cell h 2).trans rfl
theorem BoxL.below {w w1 : World} {b : Nat} {n : Int} {v1 v2 : Value} (h : BoxL w b n v1 v2) (hb : Below w.heap.size w w1) : BoxL w1 b n v1 v2 := blk_below h hb
theorem check_size (n : Int) (ls : List ByteArray) (es : List Ed) (A1 A2 : Option Addr) (c1 c2 : Nat) (w : World) (h : n < 1 ∨ 2048 < n) :
  Calls Try.prog 27 #[.agg #[.int .i64 n, .slice A1 ls.length c1, .slice A2 es.length c2]] w fun e w' => e = .returned (.int .i64 1) ∧ Below w.heap.size w w' := by
 have HB := Aside0.mk (Below.refl w.heap.size w)
 rcases h with h | h
 ·go_enter Try.func27, Try.ntmps27
  go_wp2
  go_ret
  exact ⟨rfl, below_alloc HB.out _⟩
 ·have h' : ¬ n < 1 := by omega
  go_enter Try.func27, Try.ntmps27
  go_wp2
  go_ret
  exact ⟨rfl, below_alloc HB.out _⟩
theorem check_named (n : Int) (ls : List ByteArray) (es : List Ed) (A1 A2 : Option Addr) (c1 c2 : Nat) (w : World) (h0 : ¬ n < 1) (h1 : ¬ 2048 < n) (hr1 : Kd.C Kd.string w A1 ls.length ls) (h : namedB ls = false) :
  Calls Try.prog 27 #[.agg #[.int .i64 n, .slice A1 ls.length c1, .slice A2 es.length c2]] w fun e w' => e = .returned (.int .i64 1) ∧ Below w.heap.size w w' := by
 have HB := Aside0.mk (Below.refl w.heap.size w)
 have HN : ∀ W, Below w.heap.size w W → Calls Try.prog 54 #[.slice A1 ls.length c1] W fun e w' => e = .returned (.bool false) ∧ Below W.heap.size W w' := fun W hW => by
  have := named_any ls A1 c1 W (Kd.C_below hr1 hW)
  rwa [h] at this
 have HN' := Lib.hid HN
 clear HN hr1 h
 go_enter Try.func27, Try.ntmps27
 go_wp2_with (go_at_call 54; refine (HN'.out _ (below_alloc HB.out _)).mono ?_; rintro e w1 ⟨rfl, hB⟩; have HB1 := Aside0.mk (below_then (below_alloc HB.out _) (by simp) hB); clear hB)
 go_ret
 exact ⟨rfl, HB1.out⟩
theorem bad_at {n nl : Int} {es : List Ed} {k : Nat} (hk : k < es.length) (h : okAt n nl es k = false) : 1 = errB ((List.range es.length).all (okAt n nl es)) := by
 have : (List.range es.length).all (okAt n nl es) = false := by
  rw [Bool.eq_false_iff]
  intro he
  have := List.all_eq_true.1 he k (List.mem_range.2 hk)
  rw [h] at this
  cases this
 rw [this]; rfl
theorem quiet_same {P : Program} {f : FuncId} {args : Array Value} {w : World} {n : Nat} {v : Value} (h : Calls P f args (w.drewN n) fun e w' => e = .returned v ∧ w.drewN n = w') : Calls P f args (w.drewN n) fun e w'' => e = .returned v ∧ ∃ m, w'' = w.drewN m :=
 h.mono fun _ _ ⟨he, hw⟩ => ⟨he, n, hw.symm⟩
set_option maxHeartbeats 8000000 in
set_option maxRecDepth 100000 in
theorem check_main (n : Int) (ls : List ByteArray) (es : List Ed) (A1 A2 : Option Addr) (c1 c2 : Nat) (w : World) (h0 : ¬ n < 1) (h1 : ¬ 2048 < n) (hr1 : Kd.C Kd.string w A1 ls.length ls) (hr2 : Kd.C k51 w A2 es.length es) (h : namedB ls = true) :
  Calls Try.prog 27 #[.agg #[.int .i64 n, .slice A1 ls.length c1, .slice A2 es.length c2]] w fun e w' => e = .returned (.int .i64 (errB (decide (es.length ≤ 1000000) && (List.range es.length).all (okAt n ls.length es)))) ∧ Below w.heap.size w w' := by
 have HB := Aside0.mk (Below.refl w.heap.size w)
 have HN : ∀ W, Below w.heap.size w W → Calls Try.prog 54 #[.slice A1 ls.length c1] W fun e w' => e = .returned (.bool true) ∧ Below W.heap.size W w' := fun W hW => by
  have := named_any ls A1 c1 W (Kd.C_below hr1 hW)
  rwa [h] at this
 have HN' := Lib.hid HN
 have hm := C_len hr2
 have HR := Aside0.mk hr2
 clear HN hr1 h hr2
 by_cases hl : (1000000 : Int) < (es.length : Int)
 ·have e1 : errB (decide (es.length ≤ 1000000) && (List.range es.length).all (okAt n ls.length es)) = 1 := by rw [decide_eq_false (by omega)]; rfl
  rw [e1]; clear e1
  go_enter Try.func27, Try.ntmps27
  go_wp2_with fail
  refine (HN'.out _ (below_alloc HB.out _)).mono ?_; rintro e w1 ⟨rfl, hB⟩
  have HX : BoxL w1 w.heap.size n (.slice A1 ls.length c1) (.slice A2 es.length c2) := blk_below (blk_new w _) hB
  have a0 := Aside0.mk (below_then (below_alloc HB.out _) (by simp) hB)
  have b2 := HX.c2
  clear hB HX
  go_wp2
  go_ret
  exact ⟨rfl, a0.out⟩
 ·have e1 : errB (decide (es.length ≤ 1000000) && (List.range es.length).all (okAt n ls.length es)) = errB ((List.range es.length).all (okAt n ls.length es)) := by rw [decide_eq_true (by omega)]; rfl
  rw [e1]; clear e1
  go_enter Try.func27, Try.ntmps27
  go_wp2_with fail
  refine (HN'.out _ (below_alloc HB.out _)).mono ?_; rintro e w1 ⟨rfl, hB⟩
  have HX := Aside0.mk (show BoxL w1 w.heap.size n (.slice A1 ls.length c1) (.slice A2 es.length c2) from blk_below (blk_new w _) hB)
  have a0 := Aside0.mk (below_then (below_alloc HB.out _) (by simp) hB)
  have b2 := HX.out.c2
  clear hB
  go_wp2
  clear b2
  go_loopw [30] (fun i wr => ∃ k : Nat, k ≤ es.length ∧ i = .int .i64 k ∧ Aside0 (∀ j, j < k → okAt n ls.length es j = true) ∧ Aside0 (BoxL wr w.heap.size n (.slice A1 ls.length c1) (.slice A2 es.length c2)) ∧ Aside0 (Below w.heap.size w wr)) (fun i _ => es.length - (intOf i).toNat)
  case atStart => exact ⟨0, Nat.zero_le _, rfl, ⟨fun j hj => by omega⟩, HX, a0⟩
  case round =>
   obtain ⟨k, hk, rfl, hz, HXr, HBr⟩ := hrel
   clear HX a0
   by_cases hlt : k < es.length
   ·obtain ⟨ad, hA, g0, g1, g2⟩ := atE HR.out k hlt
    subst hA
    replace g0 := later HBr.out g0
    replace g1 := later HBr.out g1
    replace g2 := later HBr.out g2
    obtain ⟨x, hx⟩ : ∃ x, x = es.getD k z51 := ⟨_, rfl⟩
    rw [← hx] at g0 g1 g2
    have hx' := Aside0.mk hx; clear hx
    go_wp2_with fail
    have b0 : ∀ o, (wr.alloc o).cell? ⟨w.heap.size, 0, none⟩ = some (.int .i64 n) := fun o => (HXr.out.below (below_alloc (Below.refl _ _) o)).c0
    have b1 : ∀ o, (wr.alloc o).cell? ⟨w.heap.size, 1, none⟩ = some (.slice A1 ls.length c1) := fun o => (HXr.out.below (below_alloc (Below.refl _ _) o)).c1
    cases hF : decide (0 ≤ x.f0 ∧ x.f0 < n) with
    | false =>
     have HF := Aside0.mk hF; clear hF
     go_quiet ((first | (go_at_call_of 55 (x.f0); exact quiet_same (node_is x.f0 n _ HF.out _ _ (by go_simp)))))
     go_wp2
     go_ret
     exact ⟨ret_int (bad_at hlt (by unfold okAt; rw [← hx'.out]; rw [HF.out]; rfl)), by repeat (first | exact HBr.out | apply below_alloc | apply pw_below_drewN | apply below_drew)⟩
    | true =>
     have HF := Aside0.mk hF; clear hF
     cases hT : decide (0 ≤ x.f2 ∧ x.f2 < n) with
     | false =>
      have HT := Aside0.mk hT; clear hT
      go_quiet ((first | (go_at_call_of 55 (x.f0); exact quiet_same (node_is x.f0 n _ HF.out _ _ (by go_simp))) | (go_at_call_of 55 (x.f2); exact quiet_same (node_is x.f2 n _ HT.out _ _ (by go_simp)))))
      go_wp2
      go_ret
      exact ⟨ret_int (bad_at hlt (by unfold okAt; rw [← hx'.out]; rw [HF.out, HT.out]; rfl)), by repeat (first | exact HBr.out | apply below_alloc | apply pw_below_drewN | apply below_drew)⟩
     | true =>
      have HT := Aside0.mk hT; clear hT
      by_cases hL : x.f1 < 0
      ·have HL := Aside0.mk (show decide (0 ≤ x.f1) = false by rw [decide_eq_false (by omega)])
       go_quiet ((first | (go_at_call_of 55 (x.f0); exact quiet_same (node_is x.f0 n _ HF.out _ _ (by go_simp))) | (go_at_call_of 55 (x.f2); exact quiet_same (node_is x.f2 n _ HT.out _ _ (by go_simp)))))
       go_wp2
       go_ret
       exact ⟨ret_int (bad_at hlt (by unfold okAt; rw [← hx'.out]; rw [HF.out, HT.out, HL.out]; rfl)), by repeat (first | exact HBr.out | apply below_alloc | apply pw_below_drewN | apply below_drew)⟩
      ·have HL := Aside0.mk (show decide (0 ≤ x.f1) = true by rw [decide_eq_true (by omega)])
       by_cases hM : (ls.length : Int) ≤ x.f1
       ·have HM := Aside0.mk (show decide (x.f1 < (ls.length : Int)) = false by rw [decide_eq_false (by omega)])
        go_quiet ((first | (go_at_call_of 55 (x.f0); exact quiet_same (node_is x.f0 n _ HF.out _ _ (by go_simp))) | (go_at_call_of 55 (x.f2); exact quiet_same (node_is x.f2 n _ HT.out _ _ (by go_simp)))))
        go_wp2
        go_ret
        exact ⟨ret_int (bad_at hlt (by unfold okAt; rw [← hx'.out]; rw [HF.out, HT.out, HL.out, HM.out]; rfl)), by repeat (first | exact HBr.out | apply below_alloc | apply pw_below_drewN | apply below_drew)⟩
       ·have HM := Aside0.mk (show decide (x.f1 < (ls.length : Int)) = true by rw [decide_eq_true (by omega)])
        by_cases hK : k = 0
        ·subst hK
         go_quiet ((first | (go_at_call_of 55 (x.f0); exact quiet_same (node_is x.f0 n _ HF.out _ _ (by go_simp))) | (go_at_call_of 55 (x.f2); exact quiet_same (node_is x.f2 n _ HT.out _ _ (by go_simp)))))
         go_wp2
         go_roundw
         case rel => exact ⟨1, by omega, by go_num, ⟨fun j hj => by obtain rfl : j = 0 := (by omega); unfold okAt; rw [← hx'.out, HF.out, HT.out, HL.out, HM.out]; rfl⟩, ⟨HXr.out.below (by repeat (first | exact Below.refl _ _ | apply below_alloc | apply pw_below_drewN | apply below_drew))⟩, ⟨by repeat (first | exact HBr.out | apply below_alloc | apply pw_below_drewN | apply below_drew)⟩⟩
         case measure => simp [intOf]; omega
        ·have hK' : (0 : Int) < (k : Int) := by omega
         obtain ⟨ad', hA', p0, p1, p2⟩ := atE HR.out (k - 1) (by omega)
         cases hA'
         replace p0 := later HBr.out p0
         replace p1 := later HBr.out p1
         replace p2 := later HBr.out p2
         obtain ⟨y, hy⟩ : ∃ y, y = es.getD (k - 1) z51 := ⟨_, rfl⟩
         rw [← hy] at p0 p1 p2
         have hy' := Aside0.mk hy
         clear hy
         have q0 := fun o => later (below_alloc (Below.refl wr.heap.size wr) o) p0
         have q1 := fun o => later (below_alloc (Below.refl wr.heap.size wr) o) p1
         have q2 := fun o => later (below_alloc (Below.refl wr.heap.size wr) o) p2
         clear p0 p1 p2
         have i0 : (0 : Int) ≤ (k : Int) - 1 := by omega
         have d1 : decide (x.f1 < 0) = false := decide_eq_false hL
         have d2 : decide ((ls.length : Int) ≤ x.f1) = false := decide_eq_false hM
         have a1 : IntKind.i64.wrap ((k : Int) - 1) = (k : Int) - 1 := by rw [IntKind.wrap_i64]; omega
         have a2 : ((k : Int) - 1).toNat = k - 1 := by omega
         have j0 : (1 : Int) ≤ (k : Int) := by omega
         have j1 : (k : Int) < (es.length : Int) + 1 := by omega
         have j2 : 1 ≤ k := by omega
         have j3 : k - 1 < es.length := by omega
         have j4 : (k : Int) ≤ (es.length : Int) := by omega
         have d4 : decide (0 < k) = true := decide_eq_true (by omega)
         have d3 : decide ((0 : Int) < (k : Int)) = true := decide_eq_true hK'
         have i1 : (k : Int) - 1 < (es.length : Int) := by omega
         have b2 : ∀ o, (wr.alloc o).cell? ⟨w.heap.size, 2, none⟩ = some (.slice (some ad) es.length c2) := fun o => (HXr.out.below (below_alloc (Below.refl _ _) o)).c2
         go_region_held3 (fun w' => w'.cell? ⟨w.heap.size, 0, none⟩ = some (.int .i64 n) ∧ w'.cell? ⟨w.heap.size, 1, none⟩ = some (.slice A1 ls.length c1) ∧ w'.cell? ⟨w.heap.size, 2, none⟩ = some (.slice (some ad) es.length c2) ∧ w'.cell? ⟨wr.heap.size, 0, none⟩ = some (.int .i64 x.f0) ∧ w'.cell? ⟨wr.heap.size, 1, none⟩ = some (.int .i64 x.f1) ∧ w'.cell? ⟨wr.heap.size, 2, none⟩ = some (.int .i64 x.f2) ∧ w'.cell? (ad.add ((k - 1) * 3)) = some (.int .i64 y.f0) ∧ w'.cell? ⟨(ad.add ((k - 1) * 3)).block, (ad.add ((k - 1) * 3)).off + 1, none⟩ = some (.int .i64 y.f1) ∧ w'.cell? ⟨(ad.add ((k - 1) * 3)).block, (ad.add ((k - 1) * 3)).off + 2, none⟩ = some (.int .i64 y.f2)) (first | go_keep | (refine ⟨later hB ?_, later hB ?_, later hB ?_, later hB ?_, later hB ?_, later hB ?_, later hB ?_, later hB ?_, later hB ?_⟩ <;> go_keep)) (first | (go_at_call_of 55 (x.f0); refine (node_is x.f0 n _ HF.out _ _ (by go_keep)).mono ?_; rintro e w' ⟨rfl, rfl⟩) | (go_at_call_of 55 (x.f2); refine (node_is x.f2 n _ HT.out _ _ (by go_keep)).mono ?_; rintro e w' ⟨rfl, rfl⟩) | (go_at_call 51; refine (compare_is y x _ rfl _).mono ?_; rintro e w' ⟨z, rfl, hz', hB⟩))
         clear a1 a2 j0 j1 j2 j3 j4 q0 q1 q2
         have HW := Aside0.mk (below_then (show Below w.heap.size w _ by repeat (first | exact HBr.out | apply below_alloc | apply pw_below_drewN | apply below_drew)) (below_size (by repeat (first | exact HBr.out | apply below_alloc | apply pw_below_drewN | apply below_drew))) hB)
         have HXw := Aside0.mk ((HXr.out.below (show Below wr.heap.size wr _ by repeat (first | exact Below.refl _ _ | apply below_alloc | apply pw_below_drewN | apply below_drew))).below hB)
         clear hB
         by_cases hneg : z < 0
         ·have HC := Aside0.mk (show decide (cmpE y x < 0) = true by rw [← hz'.out]; exact decide_eq_true hneg)
          go_wp2
          go_roundw
          case rel => exact ⟨k + 1, by omega, by go_num, ⟨fun j hj => by
           rcases Nat.lt_succ_iff_lt_or_eq.1 hj with h | rfl
           ·exact hz.out j h
           ·unfold okAt; rw [← hx'.out, ← hy'.out, HF.out, HT.out, HL.out, HM.out, HC.out]; simp⟩, HXw, HW⟩
          case measure => simp [intOf]; omega
         ·have HC := Aside0.mk (show decide (cmpE y x < 0) = false by rw [← hz'.out]; exact decide_eq_false hneg)
          go_wp2
          go_ret
          exact ⟨ret_int (bad_at hlt (by unfold okAt; rw [← hx'.out, ← hy'.out, HF.out, HT.out, HL.out, HM.out, HC.out, decide_eq_false hK]; rfl)), HW.out⟩
   ·go_wp2
    go_ret
    refine ⟨ret_int ?_, HBr.out⟩
    have : (List.range es.length).all (okAt n ls.length es) = true := List.all_eq_true.2 fun j hj => hz.out j (by have := List.mem_range.1 hj; omega)
    rw [this]; rfl
theorem check_any (n : Int) (ls : List ByteArray) (es : List Ed) (A1 A2 : Option Addr) (c1 c2 : Nat) (w : World) (hr1 : Kd.C Kd.string w A1 ls.length ls) (hr2 : Kd.C k51 w A2 es.length es) :
  Calls Try.prog 27 #[.agg #[.int .i64 n, .slice A1 ls.length c1, .slice A2 es.length c2]] w fun e w' => e = .returned (.int .i64 (errB (mayB n ls es))) ∧ Below w.heap.size w w' := by
 unfold mayB
 by_cases h0 : n < 1
 ·rw [decide_eq_false (by omega)]
  exact check_size n ls es A1 A2 c1 c2 w (.inl h0)
 ·rw [decide_eq_true (show 1 ≤ n by omega), Bool.true_and]
  by_cases h1 : 2048 < n
  ·rw [decide_eq_false (by omega)]
   exact check_size n ls es A1 A2 c1 c2 w (.inr h1)
  ·rw [decide_eq_true (show n ≤ 2048 by omega), Bool.true_and]
   cases h : namedB ls with
   | false => exact check_named n ls es A1 A2 c1 c2 w h0 h1 hr1 h
   | true =>
    rw [Bool.true_and]
    exact check_main n ls es A1 A2 c1 c2 w h0 h1 hr1 hr2 h
theorem check_yes (n : Int) (ls : List ByteArray) (es : List Ed) (A1 A2 : Option Addr) (c1 c2 : Nat) (w : World) (hr1 : Kd.C Kd.string w A1 ls.length ls) (hr2 : Kd.C k51 w A2 es.length es) (h : mayB n ls es = true) :
  Calls Try.prog 27 #[.agg #[.int .i64 n, .slice A1 ls.length c1, .slice A2 es.length c2]] w fun e w' => e = .returned (.int .i64 0) ∧ Below w.heap.size w w' := by
 have := check_any n ls es A1 A2 c1 c2 w hr1 hr2
 rwa [h] at this
theorem check_no (n : Int) (ls : List ByteArray) (es : List Ed) (A1 A2 : Option Addr) (c1 c2 : Nat) (w : World) (hr1 : Kd.C Kd.string w A1 ls.length ls) (hr2 : Kd.C k51 w A2 es.length es) (h : mayB n ls es = false) :
  Calls Try.prog 27 #[.agg #[.int .i64 n, .slice A1 ls.length c1, .slice A2 es.length c2]] w fun e w' => e = .returned (.int .i64 1) ∧ Below w.heap.size w w' := by
 have := check_any n ls es A1 A2 c1 c2 w hr1 hr2
 rwa [h] at this
end Go.Proofs.Ythaaockbapbooaa.H
set_option linter.unusedVariables false
set_option linter.unusedSimpArgs false
namespace Go.Proofs.Ythaaockbapbooaa.H
open Go.RowKit Go.Proofs.Ythaaockbapbooaa.Pr Go.Proofs.YthaaockbapbooaaW.PrintWords Go.Proofs.Ythaaockbapbooaa.Sem
theorem ahead_any (a b : Ed) (r : Bool) (hr : decide (elt a b) = r) (w : World) : Calls Try.prog 42 #[.agg #[.int .i64 a.f0, .int .i64 a.f1, .int .i64 a.f2], .agg #[.int .i64 b.f0, .int .i64 b.f1, .int .i64 b.f2]] w fun e w' => e = .returned (.bool r) ∧ Below w.heap.size w w' := by
 have HB := Aside0.mk (Below.refl w.heap.size w)
 by_cases h0 : a.f0 = b.f0
 ·by_cases h1 : a.f1 = b.f1
  ·have d0 : (a.f0 != b.f0) = false := by simp [h0]
   have d1 : (a.f1 != b.f1) = false := by simp [h1]
   have e : decide (a.f2 < b.f2) = r := by rw [← hr]; unfold elt; apply decide_eq_decide.2; omega
   have HE := Aside0.mk e
   clear h0 h1 hr e
   go_enter Try.func42, Try.ntmps42
   go_wp2
   go_ret
   exact ⟨ret_bool HE.out, by repeat (first | exact HB.out | apply below_alloc | apply pw_below_drewN | apply below_drew)⟩
  ·have d0 : (a.f0 != b.f0) = false := by simp [h0]
   have d1 : (a.f1 != b.f1) = true := by simp [h1]
   have e : decide (a.f1 < b.f1) = r := by rw [← hr]; unfold elt; apply decide_eq_decide.2; omega
   have HE := Aside0.mk e
   clear h0 h1 hr e
   go_enter Try.func42, Try.ntmps42
   go_wp2
   go_ret
   exact ⟨ret_bool HE.out, by repeat (first | exact HB.out | apply below_alloc | apply pw_below_drewN | apply below_drew)⟩
 ·have d0 : (a.f0 != b.f0) = true := by simp [h0]
  have e : decide (a.f0 < b.f0) = r := by rw [← hr]; unfold elt; apply decide_eq_decide.2; omega
  have HE := Aside0.mk e
  clear h0 hr e
  go_enter Try.func42, Try.ntmps42
  go_wp2
  go_ret
  exact ⟨ret_bool HE.out, by repeat (first | exact HB.out | apply below_alloc | apply pw_below_drewN | apply below_drew)⟩
def labAt (ls : List ByteArray) (i : Nat) : Bool := !tooLong (ls.getD i ByteArray.empty) && (decide (i = 0) || Op.bytesLess (ls.getD (i - 1) ByteArray.empty).toList (ls.getD i ByteArray.empty).toList)
def okAt' (n nl : Int) (es : List Ed) (k : Nat) : Bool :=
 decide (0 ≤ (es.getD k z51).f0 ∧ (es.getD k z51).f0 < n) && (decide (0 ≤ (es.getD k z51).f2 ∧ (es.getD k z51).f2 < n) &&
  (decide (0 ≤ (es.getD k z51).f1) && (decide ((es.getD k z51).f1 < nl) && (decide (k = 0) || decide (elt (es.getD (k - 1) z51) (es.getD k z51))))))
def mayR (n : Int) (ls : List ByteArray) (es : List Ed) : Bool :=
 decide (1 ≤ n) && (decide (n ≤ 2048) && (decide (ls.length ≤ 64) && (decide (es.length ≤ 1000000) && ((List.range ls.length).all (labAt ls) && (List.range es.length).all (okAt' n ls.length es)))))
theorem all_bad {p : Nat → Bool} {m k : Nat} (hk : k < m) (h : p k = false) : (List.range m).all p = false := by
 rw [Bool.eq_false_iff]
 intro he
 have := List.all_eq_true.1 he k (List.mem_range.2 hk)
 rw [h] at this
 cases this
theorem all_good {p : Nat → Bool} {m k : Nat} (hk : ¬ k < m) (h : ∀ j, j < k → p j = true) : (List.range m).all p = true :=
 List.all_eq_true.2 fun j hj => h j (by have := List.mem_range.1 hj; omega)
theorem may_size (n : Int) (ls : List ByteArray) (es : List Ed) (A1 A2 : Option Addr) (c1 c2 : Nat) (w : World) (h : n < 1 ∨ 2048 < n ∨ 64 < ls.length ∨ 1000000 < es.length) :
  Calls Try.prog 15 #[.agg #[.int .i64 n, .slice A1 ls.length c1, .slice A2 es.length c2]] w fun e w' => e = .returned (.bool false) ∧ Below w.heap.size w w' := by
 have HB := Aside0.mk (Below.refl w.heap.size w)
 by_cases h0 : n < 1
 ·clear h
  go_enter Try.func15, Try.ntmps15
  go_wp2
  go_ret
  exact ⟨rfl, below_alloc HB.out _⟩
 ·by_cases h1 : 2048 < n
  ·clear h
   go_enter Try.func15, Try.ntmps15
   go_wp2
   go_ret
   exact ⟨rfl, below_alloc HB.out _⟩
  ·by_cases h2 : (64 : Int) < (ls.length : Int)
   ·clear h
    go_enter Try.func15, Try.ntmps15
    go_wp2
    go_ret
    exact ⟨rfl, below_alloc HB.out _⟩
   ·have h3 : (1000000 : Int) < (es.length : Int) := by omega
    clear h
    go_enter Try.func15, Try.ntmps15
    go_wp2
    go_ret
    exact ⟨rfl, below_alloc HB.out _⟩
set_option maxHeartbeats 8000000 in
set_option maxRecDepth 100000 in
theorem may_main (n : Int) (ls : List ByteArray) (es : List Ed) (A1 A2 : Option Addr) (c1 c2 : Nat) (w : World) (h0 : ¬ n < 1) (h1 : ¬ 2048 < n) (h2 : ¬ (64 : Int) < (ls.length : Int)) (h3 : ¬ (1000000 : Int) < (es.length : Int)) (hr1 : Kd.C Kd.string w A1 ls.length ls) (hr2 : Kd.C k51 w A2 es.length es) :
  Calls Try.prog 15 #[.agg #[.int .i64 n, .slice A1 ls.length c1, .slice A2 es.length c2]] w fun e w' => e = .returned (.bool ((List.range ls.length).all (labAt ls) && (List.range es.length).all (okAt' n ls.length es))) ∧ Below w.heap.size w w' := by
 have a2 := Aside0.mk hr1
 have HR := Aside0.mk hr2
 clear hr1 hr2
 have a8 := Aside0.mk (Below.refl w.heap.size w)
 go_enter Try.func15, Try.ntmps15
 go_wp2
 go_loopw [3] (fun i wr => ∃ k : Nat, k ≤ ls.length ∧ i = .int .i64 k ∧ Aside0 (∀ j, j < k → labAt ls j = true) ∧ Aside0 (BoxL wr w.heap.size n (.slice A1 ls.length c1) (.slice A2 es.length c2)) ∧ Aside0 (Below w.heap.size w wr)) (fun i _ => ls.length - (intOf i).toNat)
 case atStart => exact ⟨0, Nat.zero_le _, rfl, ⟨fun j hj => by omega⟩, ⟨blk_new w _⟩, ⟨below_alloc a8.out _⟩⟩
 case round =>
  obtain ⟨k, hk, rfl, hz, HXr, HBr⟩ := hrel
  have b1 := HXr.out.c1
  by_cases hlt : k < ls.length
  ·obtain ⟨ad, hA, g0⟩ := atS a2.out k hlt
   subst hA
   replace g0 := later HBr.out g0
   obtain ⟨s, hs⟩ : ∃ s, s = ls.getD k ByteArray.empty := ⟨_, rfl⟩
   rw [← hs] at g0
   have hs' := Aside0.mk hs; clear hs
   by_cases hL : (200 : Int) < (s.size : Int)
   ·have hL' := Aside0.mk (show tooLong s = true from decide_eq_true (by omega))
    have d1 : decide ((200 : Int) < (s.size : Int)) = true := decide_eq_true hL
    have d2 : decide (200 < s.size) = true := decide_eq_true (by omega)
    go_wp2_with fail
    go_quiet (fail)
    go_wp2
    go_ret
    exact ⟨ret_bool (by rw [all_bad hlt (show labAt ls k = false by unfold labAt; rw [← hs'.out, hL'.out]; rfl)]; rfl), by repeat (first | exact HBr.out | apply below_alloc | apply pw_below_drewN | apply below_drew)⟩
   ·have hL' := Aside0.mk (show tooLong s = false from decide_eq_false (by omega))
    have d1 : decide ((200 : Int) < (s.size : Int)) = false := decide_eq_false hL
    have d2 : decide (200 < s.size) = false := decide_eq_false (by omega)
    by_cases hK : k = 0
    ·have hK' := Aside0.mk hK
     have d3 : decide ((0 : Int) < (k : Int)) = false := decide_eq_false (by omega)
     have d4 : decide (0 < k) = false := decide_eq_false (by omega)
     clear hK
     go_wp2_with fail
     go_quiet (fail)
     go_wp2
     go_roundw
     case rel => exact ⟨k + 1, by omega, by go_num, ⟨fun j hj => by
      rcases Nat.lt_succ_iff_lt_or_eq.1 hj with h | rfl
      ·exact hz.out j h
      ·unfold labAt; rw [← hs'.out, hL'.out, decide_eq_true hK'.out]; rfl⟩, ⟨HXr.out.below (by repeat (first | exact Below.refl _ _ | apply below_alloc | apply pw_below_drewN | apply below_drew))⟩, ⟨by repeat (first | exact HBr.out | apply below_alloc | apply pw_below_drewN | apply below_drew)⟩⟩
     case measure => simp [intOf]; omega
    ·obtain ⟨ad', hA', p0⟩ := atS a2.out (k - 1) (by omega)
     cases hA'
     replace p0 := later HBr.out p0
     obtain ⟨t, ht⟩ : ∃ t, t = ls.getD (k - 1) ByteArray.empty := ⟨_, rfl⟩
     rw [← ht] at p0
     have ht' := Aside0.mk ht; clear ht
     have d3 : decide ((0 : Int) < (k : Int)) = true := decide_eq_true (by omega)
     have d4 : decide (0 < k) = true := decide_eq_true (by omega)
     have i0 : (0 : Int) ≤ (k : Int) - 1 := by omega
     have i1 : (k : Int) - 1 < (ls.length : Int) := by omega
     have j0 : (1 : Int) ≤ (k : Int) := by omega
     have j1 : (k : Int) < (ls.length : Int) + 1 := by omega
     have j2 : 1 ≤ k := by omega
     have j3 : k - 1 < ls.length := by omega
     have j4 : (k : Int) ≤ (ls.length : Int) := by omega
     have i3 : (k : Int) < (ls.length : Int) := by omega
     have i4 : (0 : Int) ≤ (k : Int) := by omega
     have a0 : IntKind.i64.wrap ((k : Int) - 1) = (k : Int) - 1 := by rw [IntKind.wrap_i64]; omega
     have a1 : ((k : Int) - 1).toNat = k - 1 := by omega
     cases hb : Op.bytesLess t.toList s.toList with
     | true =>
      go_wp2_with fail
      go_quiet (fail)
      clear a0 a1 i0 i1 i3 i4 j0 j1 j2 j3 j4
      go_wp2
      go_roundw
      case rel => exact ⟨k + 1, by omega, by go_num, ⟨fun j hj => by
       rcases Nat.lt_succ_iff_lt_or_eq.1 hj with h | rfl
       ·exact hz.out j h
       ·unfold labAt; rw [← hs'.out, ← ht'.out, hL'.out, hb]; simp⟩, ⟨HXr.out.below (by repeat (first | exact Below.refl _ _ | apply below_alloc | apply pw_below_drewN | apply below_drew))⟩, ⟨by repeat (first | exact HBr.out | apply below_alloc | apply pw_below_drewN | apply below_drew)⟩⟩
      case measure => simp [intOf]; omega
     | false =>
      go_wp2_with fail
      go_quiet (fail)
      clear a0 a1 i0 i1 i3 i4 j0 j1 j2 j3 j4
      go_wp2
      go_ret
      exact ⟨ret_bool (by rw [all_bad hlt (show labAt ls k = false by unfold labAt; rw [← hs'.out, ← ht'.out, hL'.out, hb, decide_eq_false hK]; rfl)]; rfl), by repeat (first | exact HBr.out | apply below_alloc | apply pw_below_drewN | apply below_drew)⟩
  ·have HG := Aside0.mk (all_good hlt hz.out)
   clear hz
   go_wp2
   go_loopw [4] (fun i a3 => ∃ k : Nat, k ≤ es.length ∧ i = .int .i64 k ∧ Aside0 (∀ j, j < k → okAt' n ls.length es j = true) ∧ Aside0 (BoxL a3 w.heap.size n (.slice A1 ls.length c1) (.slice A2 es.length c2)) ∧ Aside0 (Below w.heap.size w a3)) (fun i _ => es.length - (intOf i).toNat)
   case atStart => exact ⟨0, Nat.zero_le _, rfl, ⟨fun j hj => by omega⟩, HXr, HBr⟩
   case round =>
    clear HXr HBr hlt hk b1
    obtain ⟨k, hk, rfl, hz, HXr, HBr⟩ := hrel
    have b2' := HXr.out.c2
    by_cases hlt : k < es.length
    ·obtain ⟨ad, hA, g0, g1, g2⟩ := atE HR.out k hlt
     subst hA
     replace g0 := later HBr.out g0
     replace g1 := later HBr.out g1
     replace g2 := later HBr.out g2
     obtain ⟨x, hx⟩ : ∃ x, x = es.getD k z51 := ⟨_, rfl⟩
     rw [← hx] at g0 g1 g2
     have hx' := Aside0.mk hx; clear hx
     go_wp2_with fail
     have b0 : ∀ o, (wr.alloc o).cell? ⟨w.heap.size, 0, none⟩ = some (.int .i64 n) := fun o => (HXr.out.below (below_alloc (Below.refl _ _) o)).c0
     have b1 : ∀ o, (wr.alloc o).cell? ⟨w.heap.size, 1, none⟩ = some (.slice A1 ls.length c1) := fun o => (HXr.out.below (below_alloc (Below.refl _ _) o)).c1
     have b2 : ∀ o, (wr.alloc o).cell? ⟨w.heap.size, 2, none⟩ = some (.slice (some ad) es.length c2) := fun o => (HXr.out.below (below_alloc (Below.refl _ _) o)).c2
     clear b2'
     by_cases h0_ : x.f0 < 0
     ·have b4 : decide (x.f0 < 0) = true := decide_eq_true h0_
      have P0 := Aside0.mk (show decide (0 ≤ x.f0 ∧ x.f0 < n) = false from decide_eq_false (by omega))
      go_quiet (fail)
      go_wp2
      go_ret
      exact ⟨ret_bool (by rw [all_bad hlt (show okAt' n ls.length es k = false by unfold okAt'; rw [← hx'.out, P0.out]; rfl)]; simp), by repeat (first | exact HBr.out | apply below_alloc | apply pw_below_drewN | apply below_drew)⟩
     ·have b4 : decide (x.f0 < 0) = false := decide_eq_false h0_
      by_cases h1_ : n ≤ x.f0
      ·have b3 : decide (n ≤ x.f0) = true := decide_eq_true h1_
       have P0 := Aside0.mk (show decide (0 ≤ x.f0 ∧ x.f0 < n) = false from decide_eq_false (by omega))
       go_quiet (fail)
       go_wp2
       go_ret
       exact ⟨ret_bool (by rw [all_bad hlt (show okAt' n ls.length es k = false by unfold okAt'; rw [← hx'.out, P0.out]; rfl)]; simp), by repeat (first | exact HBr.out | apply below_alloc | apply pw_below_drewN | apply below_drew)⟩
      ·have b3 : decide (n ≤ x.f0) = false := decide_eq_false h1_
       have P0 := Aside0.mk (show decide (0 ≤ x.f0 ∧ x.f0 < n) = true from decide_eq_true (by omega))
       by_cases h2_ : x.f2 < 0
       ·have a7 : decide (x.f2 < 0) = true := decide_eq_true h2_
        have P1 := Aside0.mk (show decide (0 ≤ x.f2 ∧ x.f2 < n) = false from decide_eq_false (by omega))
        go_quiet (fail)
        go_wp2
        go_ret
        exact ⟨ret_bool (by rw [all_bad hlt (show okAt' n ls.length es k = false by unfold okAt'; rw [← hx'.out, P0.out, P1.out]; rfl)]; simp), by repeat (first | exact HBr.out | apply below_alloc | apply pw_below_drewN | apply below_drew)⟩
       ·have a7 : decide (x.f2 < 0) = false := decide_eq_false h2_
        by_cases h3_ : n ≤ x.f2
        ·have a9 : decide (n ≤ x.f2) = true := decide_eq_true h3_
         have P1 := Aside0.mk (show decide (0 ≤ x.f2 ∧ x.f2 < n) = false from decide_eq_false (by omega))
         go_quiet (fail)
         go_wp2
         go_ret
         exact ⟨ret_bool (by rw [all_bad hlt (show okAt' n ls.length es k = false by unfold okAt'; rw [← hx'.out, P0.out, P1.out]; rfl)]; simp), by repeat (first | exact HBr.out | apply below_alloc | apply pw_below_drewN | apply below_drew)⟩
        ·have a9 : decide (n ≤ x.f2) = false := decide_eq_false h3_
         have P1 := Aside0.mk (show decide (0 ≤ x.f2 ∧ x.f2 < n) = true from decide_eq_true (by omega))
         by_cases h4_ : x.f1 < 0
         ·have a5 : decide (x.f1 < 0) = true := decide_eq_true h4_
          have P2 := Aside0.mk (show decide (0 ≤ x.f1) = false from decide_eq_false (by omega))
          go_quiet (fail)
          go_wp2
          go_ret
          exact ⟨ret_bool (by rw [all_bad hlt (show okAt' n ls.length es k = false by unfold okAt'; rw [← hx'.out, P0.out, P1.out, P2.out]; rfl)]; simp), by repeat (first | exact HBr.out | apply below_alloc | apply pw_below_drewN | apply below_drew)⟩
         ·have a5 : decide (x.f1 < 0) = false := decide_eq_false h4_
          have P2 := Aside0.mk (show decide (0 ≤ x.f1) = true from decide_eq_true (by omega))
          by_cases h5_ : (ls.length : Int) ≤ x.f1
          ·have a4 : decide ((ls.length : Int) ≤ x.f1) = true := decide_eq_true h5_
           have P3 := Aside0.mk (show decide (x.f1 < (ls.length : Int)) = false from decide_eq_false (by omega))
           go_quiet (fail)
           go_wp2
           go_ret
           exact ⟨ret_bool (by rw [all_bad hlt (show okAt' n ls.length es k = false by unfold okAt'; rw [← hx'.out, P0.out, P1.out, P2.out, P3.out]; rfl)]; simp), by repeat (first | exact HBr.out | apply below_alloc | apply pw_below_drewN | apply below_drew)⟩
          ·have a4 : decide ((ls.length : Int) ≤ x.f1) = false := decide_eq_false h5_
           have P3 := Aside0.mk (show decide (x.f1 < (ls.length : Int)) = true from decide_eq_true (by omega))
           by_cases hK : k = 0
           ·have hK' := Aside0.mk hK
            have d7 : decide ((0 : Int) < (k : Int)) = false := decide_eq_false (by omega)
            have d8 : decide (0 < k) = false := decide_eq_false (by omega)
            clear hK
            go_quiet (fail)
            go_wp2
            go_roundw
            case rel => exact ⟨k + 1, by omega, by go_num, ⟨fun j hj => by
             rcases Nat.lt_succ_iff_lt_or_eq.1 hj with h | rfl
             ·exact hz.out j h
             ·unfold okAt'; rw [← hx'.out, P0.out, P1.out, P2.out, P3.out, decide_eq_true hK'.out]; rfl⟩, ⟨HXr.out.below (by repeat (first | exact Below.refl _ _ | apply below_alloc | apply pw_below_drewN | apply below_drew))⟩, ⟨by repeat (first | exact HBr.out | apply below_alloc | apply pw_below_drewN | apply below_drew)⟩⟩
            case measure => simp [intOf]; omega
           ·obtain ⟨ad', hA', p0, p1, p2⟩ := atE HR.out (k - 1) (by omega)
            cases hA'
            replace p0 := later HBr.out p0
            replace p1 := later HBr.out p1
            replace p2 := later HBr.out p2
            obtain ⟨y, hy⟩ : ∃ y, y = es.getD (k - 1) z51 := ⟨_, rfl⟩
            rw [← hy] at p0 p1 p2
            have hy' := Aside0.mk hy
            clear hy
            have q0 := fun o => later (below_alloc (Below.refl wr.heap.size wr) o) p0
            have q1 := fun o => later (below_alloc (Below.refl wr.heap.size wr) o) p1
            have q2 := fun o => later (below_alloc (Below.refl wr.heap.size wr) o) p2
            clear p0 p1 p2
            have d7 : decide ((0 : Int) < (k : Int)) = true := decide_eq_true (by omega)
            have d8 : decide (0 < k) = true := decide_eq_true (by omega)
            have i0 : (0 : Int) ≤ (k : Int) - 1 := by omega
            have i1 : (k : Int) - 1 < (es.length : Int) := by omega
            have j0 : (1 : Int) ≤ (k : Int) := by omega
            have j1 : (k : Int) < (es.length : Int) + 1 := by omega
            have j2 : 1 ≤ k := by omega
            have j3 : k - 1 < es.length := by omega
            have j4 : (k : Int) ≤ (es.length : Int) := by omega
            have a0 : IntKind.i64.wrap ((k : Int) - 1) = (k : Int) - 1 := by rw [IntKind.wrap_i64]; omega
            have a1 : ((k : Int) - 1).toNat = k - 1 := by omega
            cases hC : decide (elt y x) with
            | true =>
             have HC := Aside0.mk hC; clear hC
             go_region_held3 (fun w' => w'.cell? ⟨w.heap.size, 0, none⟩ = some (.int .i64 n) ∧ w'.cell? ⟨w.heap.size, 1, none⟩ = some (.slice A1 ls.length c1) ∧ w'.cell? ⟨w.heap.size, 2, none⟩ = some (.slice (some ad) es.length c2) ∧ w'.cell? ⟨wr.heap.size, 0, none⟩ = some (.int .i64 x.f0) ∧ w'.cell? ⟨wr.heap.size, 1, none⟩ = some (.int .i64 x.f1) ∧ w'.cell? ⟨wr.heap.size, 2, none⟩ = some (.int .i64 x.f2) ∧ w'.cell? (ad.add ((k - 1) * 3)) = some (.int .i64 y.f0) ∧ w'.cell? ⟨(ad.add ((k - 1) * 3)).block, (ad.add ((k - 1) * 3)).off + 1, none⟩ = some (.int .i64 y.f1) ∧ w'.cell? ⟨(ad.add ((k - 1) * 3)).block, (ad.add ((k - 1) * 3)).off + 2, none⟩ = some (.int .i64 y.f2)) (first | go_keep | (refine ⟨later hB ?_, later hB ?_, later hB ?_, later hB ?_, later hB ?_, later hB ?_, later hB ?_, later hB ?_, later hB ?_⟩ <;> go_keep)) (first | (go_at_call 42; refine (ahead_any y x _ HC.out _).mono ?_; rintro e w' ⟨rfl, hB⟩))
             clear a0 a1 i0 i1 j0 j1 j2 j3 j4 q0 q1 q2 b0 b1 b2
             have HW := Aside0.mk (below_then (show Below w.heap.size w _ by repeat (first | exact HBr.out | apply below_alloc | apply pw_below_drewN | apply below_drew)) (below_size (by repeat (first | exact HBr.out | apply below_alloc | apply pw_below_drewN | apply below_drew))) hB)
             have HXw := Aside0.mk ((HXr.out.below (show Below wr.heap.size wr _ by repeat (first | exact Below.refl _ _ | apply below_alloc | apply pw_below_drewN | apply below_drew))).below hB)
             clear hB
             go_wp2
             go_roundw
             case rel => exact ⟨k + 1, by omega, by go_num, ⟨fun j hj => by
              rcases Nat.lt_succ_iff_lt_or_eq.1 hj with h | rfl
              ·exact hz.out j h
              ·unfold okAt'; rw [← hx'.out, ← hy'.out, P0.out, P1.out, P2.out, P3.out, HC.out]; simp⟩, HXw, HW⟩
             case measure => simp [intOf]; omega
            | false =>
             have HC := Aside0.mk hC; clear hC
             go_region_held3 (fun w' => w'.cell? ⟨w.heap.size, 0, none⟩ = some (.int .i64 n) ∧ w'.cell? ⟨w.heap.size, 1, none⟩ = some (.slice A1 ls.length c1) ∧ w'.cell? ⟨w.heap.size, 2, none⟩ = some (.slice (some ad) es.length c2) ∧ w'.cell? ⟨wr.heap.size, 0, none⟩ = some (.int .i64 x.f0) ∧ w'.cell? ⟨wr.heap.size, 1, none⟩ = some (.int .i64 x.f1) ∧ w'.cell? ⟨wr.heap.size, 2, none⟩ = some (.int .i64 x.f2) ∧ w'.cell? (ad.add ((k - 1) * 3)) = some (.int .i64 y.f0) ∧ w'.cell? ⟨(ad.add ((k - 1) * 3)).block, (ad.add ((k - 1) * 3)).off + 1, none⟩ = some (.int .i64 y.f1) ∧ w'.cell? ⟨(ad.add ((k - 1) * 3)).block, (ad.add ((k - 1) * 3)).off + 2, none⟩ = some (.int .i64 y.f2)) (first | go_keep | (refine ⟨later hB ?_, later hB ?_, later hB ?_, later hB ?_, later hB ?_, later hB ?_, later hB ?_, later hB ?_, later hB ?_⟩ <;> go_keep)) (first | (go_at_call 42; refine (ahead_any y x _ HC.out _).mono ?_; rintro e w' ⟨rfl, hB⟩))
             clear a0 a1 i0 i1 j0 j1 j2 j3 j4 q0 q1 q2 b0 b1 b2
             have HW := Aside0.mk (below_then (show Below w.heap.size w _ by repeat (first | exact HBr.out | apply below_alloc | apply pw_below_drewN | apply below_drew)) (below_size (by repeat (first | exact HBr.out | apply below_alloc | apply pw_below_drewN | apply below_drew))) hB)
             have HXw := Aside0.mk ((HXr.out.below (show Below wr.heap.size wr _ by repeat (first | exact Below.refl _ _ | apply below_alloc | apply pw_below_drewN | apply below_drew))).below hB)
             clear hB
             go_wp2
             go_ret
             exact ⟨ret_bool (by rw [all_bad hlt (show okAt' n ls.length es k = false by unfold okAt'; rw [← hx'.out, ← hy'.out, P0.out, P1.out, P2.out, P3.out, HC.out, decide_eq_false hK]; rfl)]; simp), HW.out⟩
    ·have a6 := Aside0.mk (all_good hlt hz.out)
     go_wp2
     go_ret
     exact ⟨ret_bool (by rw [HG.out, a6.out]; rfl), HBr.out⟩
theorem may_any (n : Int) (ls : List ByteArray) (es : List Ed) (A1 A2 : Option Addr) (c1 c2 : Nat) (w : World) (hr1 : Kd.C Kd.string w A1 ls.length ls) (hr2 : Kd.C k51 w A2 es.length es) :
  Calls Try.prog 15 #[.agg #[.int .i64 n, .slice A1 ls.length c1, .slice A2 es.length c2]] w fun e w' => e = .returned (.bool (mayR n ls es)) ∧ Below w.heap.size w w' := by
 unfold mayR
 by_cases h : n < 1 ∨ 2048 < n ∨ 64 < ls.length ∨ 1000000 < es.length
 ·have : (decide (1 ≤ n) && (decide (n ≤ 2048) && (decide (ls.length ≤ 64) && (decide (es.length ≤ 1000000) && ((List.range ls.length).all (labAt ls) && (List.range es.length).all (okAt' n ls.length es)))))) = false := by
   rcases h with h | h | h | h
   ·rw [decide_eq_false (show ¬ 1 ≤ n by omega)]; rfl
   ·rw [decide_eq_false (show ¬ n ≤ 2048 by omega)]; simp
   ·rw [decide_eq_false (show ¬ ls.length ≤ 64 by omega)]; simp
   ·rw [decide_eq_false (show ¬ es.length ≤ 1000000 by omega)]; simp
  rw [this]
  exact may_size n ls es A1 A2 c1 c2 w h
 ·rw [decide_eq_true (show 1 ≤ n by omega), decide_eq_true (show n ≤ 2048 by omega), decide_eq_true (show ls.length ≤ 64 by omega), decide_eq_true (show es.length ≤ 1000000 by omega)]
  exact may_main n ls es A1 A2 c1 c2 w (by omega) (by omega) (by omega) (by omega) hr1 hr2
end Go.Proofs.Ythaaockbapbooaa.H
set_option linter.unusedVariables false
set_option linter.unusedSimpArgs false
namespace Go.Proofs.Ythaaockbapbooaa.H
open Go.RowKit Go.Proofs.Ythaaockbapbooaa.Pr Go.Proofs.YthaaockbapbooaaW.PrintWords Go.Proofs.Ythaaockbapbooaa.Sem
theorem bytesLess_lt : ∀ (x y : List UInt8), Op.bytesLess x y = decide (x < y)
 | [], [] => by simp [Op.bytesLess]
 | _ :: _, [] => by simp [Op.bytesLess]
 | [], _ :: _ => by simp [Op.bytesLess]
 | a :: x, b :: y => by
  rw [Op.bytesLess, bytesLess_lt x y]
  simp only [List.cons_lt_cons_iff]
  by_cases h1 : a < b <;> by_cases h2 : a = b <;> by_cases h3 : x < y <;> simp [h1, h2, h3]
theorem okAt_same (n nl : Int) (es : List Ed) (k : Nat) : okAt n nl es k = okAt' n nl es k := by
 unfold okAt okAt'
 rw [decide_eq_decide.2 (cmpE_neg _ _)]
theorem compact_sub (zs : List (List UInt8)) : List.Sublist (Lib.compact zs) zs := by
 unfold Lib.compact Lib.compactUpTo
 have h := (List.filter_sublist (p := Lib.keeps zs.toArray) (l := List.range zs.length)).map (zs.toArray[·]!)
 have e := Lib.range_map_get zs.toArray
 simp only [List.size_toArray] at e
 rw [e] at h
 simpa using h
theorem back_inj {xs ys : List (List UInt8)} (h : (xs.map fun l => (⟨l.toArray⟩ : ByteArray)) = ys.map fun l => ⟨l.toArray⟩) : xs = ys := by
 have := congrArg (List.map fun s : ByteArray => s.data.toList) h
 simpa [List.map_map, Function.comp_def] using this
theorem back_fwd (ls : List ByteArray) : ((ls.map fun s => s.data.toList).map fun l => (⟨l.toArray⟩ : ByteArray)) = ls := by
 rw [List.map_map]
 simp [Function.comp_def]
theorem union_nil (ls : List ByteArray) : unionS ls [] = (Lib.compact ((ls.map fun s => s.data.toList).mergeSort fun x y => decide (x ≤ y))).map fun l => ⟨l.toArray⟩ := by
 unfold unionS cmpt srt
 rw [List.append_nil]
 congr 2
 rw [List.map_map]
 simp [Function.comp_def]
theorem rising_iff (L : List (List UInt8)) : L = Lib.compact (L.mergeSort fun x y => decide (x ≤ y)) ↔ ∀ k, 0 < k → k < L.length → L.getD (k - 1) [] < L.getD k [] := by
 have tr : ∀ a b c : List UInt8, decide (a ≤ b) = true → decide (b ≤ c) = true → decide (a ≤ c) = true := by
  intro a b c h1 h2
  simp only [decide_eq_true_eq] at h1 h2 ⊢
  exact List.le_trans h1 h2
 have tot : ∀ a b : List UInt8, (decide (a ≤ b) || decide (b ≤ a)) = true := by
  intro a b
  simp only [Bool.or_eq_true, decide_eq_true_eq]
  exact List.le_total a b
 constructor
 ·intro h
  have hlen : (L.mergeSort fun x y => decide (x ≤ y)).length ≤ (Lib.compact (L.mergeSort fun x y => decide (x ≤ y))).length := by
   rw [← h, List.length_mergeSort]
   exact Nat.le_refl _
  have he := (compact_sub (L.mergeSort fun x y => decide (x ≤ y))).eq_of_length_le hlen
  have hs : L = L.mergeSort fun x y => decide (x ≤ y) := h.trans he
  have hp : L.Pairwise fun x y => x ≤ y := by
   have := List.pairwise_mergeSort (le := fun x y : List UInt8 => decide (x ≤ y)) tr tot L
   rw [← hs] at this
   exact this.imp (by intro a b h; simpa using h)
  intro k h0 hk
  have hle : L.getD (k - 1) [] ≤ L.getD k [] := by
   rw [List.getD_eq_getElem?_getD, List.getD_eq_getElem?_getD, List.getElem?_eq_getElem hk, List.getElem?_eq_getElem (show k - 1 < L.length by omega)]
   exact List.pairwise_iff_getElem.1 hp (k - 1) k (by omega) hk (by omega)
  have hne : L.getD k [] ≠ L.getD (k - 1) [] := by
   intro e
   have hkeep : Lib.keeps L.toArray k = false := by
    apply Lib.keeps_neg h0
    rw [getElem!_pos _ _ (by simpa using hk), getElem!_pos _ _ (by simp; omega)]
    rw [List.getD_eq_getElem?_getD, List.getD_eq_getElem?_getD, List.getElem?_eq_getElem hk, List.getElem?_eq_getElem (show k - 1 < L.length by omega)] at e
    simpa using e
   have hl2 : (Lib.compact L).length < L.length := by
    unfold Lib.compact Lib.compactUpTo
    rw [List.length_map]
    have := List.length_filter_lt_length_iff_exists (p := Lib.keeps L.toArray) (l := List.range L.length)
    have h2 := this.2 ⟨k, List.mem_range.2 hk, by simp [hkeep]⟩
    simpa using h2
   rw [hs] at hl2
   rw [he] at hl2
   exact Nat.lt_irrefl _ hl2
  exact Std.lt_of_le_of_ne hle (fun e => hne e.symm)
 ·intro h
  have hp : L.Pairwise fun x y => x < y := by
   rw [List.pairwise_iff_getElem]
   intro i j hi hj hij
   induction j with
   | zero => omega
   | succ j ih =>
    have hs := h (j + 1) (by omega) hj
    rw [List.getD_eq_getElem?_getD, List.getD_eq_getElem?_getD, List.getElem?_eq_getElem hj, List.getElem?_eq_getElem (show j + 1 - 1 < L.length by omega)] at hs
    simp only [Nat.add_sub_cancel, Option.getD_some] at hs
    by_cases e : i = j
    ·subst e; exact hs
    ·exact List.lt_trans (ih (by omega) (by omega)) hs
  have hm : (L.mergeSort fun x y => decide (x ≤ y)) = L := by
   apply List.mergeSort_of_pairwise
   exact hp.imp (by intro a b h; simpa using List.le_of_lt h)
  rw [hm]
  refine (Lib.compact_all L fun j hj => ?_).symm
  by_cases h0 : j = 0
  ·subst h0; simp [Lib.keeps]
  ·apply Lib.keeps_pos
   rw [getElem!_pos _ _ (by simpa using hj), getElem!_pos _ _ (by simp; omega)]
   have := List.pairwise_iff_getElem.1 hp (j - 1) j (by omega) hj (by omega)
   intro e
   simp only [List.getElem_toArray] at e
   rw [← e] at this
   exact List.lt_irrefl _ this
theorem named_same (ls : List ByteArray) : namedB ls = (decide (ls.length ≤ 64) && (List.range ls.length).all (labAt ls)) := by
 unfold namedB
 congr 1
 rw [Bool.eq_iff_iff]
 simp only [Bool.and_eq_true, Bool.not_eq_true', decide_eq_true_eq, List.all_eq_true, List.mem_range, labAt, Bool.or_eq_true]
 have hu : ls = unionS ls [] ↔ ∀ k, 0 < k → k < ls.length → (ls.getD (k - 1) ByteArray.empty).data.toList < (ls.getD k ByteArray.empty).data.toList := by
  have hr := rising_iff (ls.map fun s => s.data.toList)
  rw [union_nil]
  have e1 : (ls = (Lib.compact ((ls.map fun s => s.data.toList).mergeSort fun x y => decide (x ≤ y))).map fun l => ⟨l.toArray⟩) ↔ ((ls.map fun s => s.data.toList) = Lib.compact ((ls.map fun s => s.data.toList).mergeSort fun x y => decide (x ≤ y))) := by
   constructor
   ·intro h
    apply back_inj
    rw [back_fwd]
    exact h
   ·intro h
    rw [← h, back_fwd]
  rw [e1, hr]
  have g : ∀ k, k < ls.length → (ls.map fun s => s.data.toList).getD k [] = (ls.getD k ByteArray.empty).data.toList := by
   intro k hk
   simp [List.getD_eq_getElem?_getD, List.getElem?_map, List.getElem?_eq_getElem hk]
  constructor
  ·intro h k h0 hk
   have := h k h0 (by simpa using hk)
   rwa [g k hk, g (k - 1) (by omega)] at this
  ·intro h k h0 hk
   rw [List.length_map] at hk
   rw [g k hk, g (k - 1) (by omega)]
   exact h k h0 hk
 rw [hu]
 constructor
 ·rintro ⟨h1, h2⟩ k hk
  refine ⟨?_, ?_⟩
  ·have : ls.getD k ByteArray.empty ∈ ls := by
    rw [List.getD_eq_getElem?_getD, List.getElem?_eq_getElem hk]
    exact List.getElem_mem hk
   rw [Bool.eq_false_iff]
   intro e
   have h3 : ls.any tooLong = true := List.any_eq_true.2 ⟨_, this, e⟩
   rw [h1] at h3
   cases h3
  ·by_cases h0 : k = 0
   ·exact Or.inl h0
   ·right
    rw [bytesLess_lt]
    simp only [ByteArray.toList_eq, decide_eq_true_eq]
    exact h2 k (by omega) hk
 ·intro h
  refine ⟨?_, ?_⟩
  ·rw [List.any_eq_false]
   intro s hs
   obtain ⟨k, hk, rfl⟩ := List.getElem_of_mem hs
   have := (h k hk).1
   rw [List.getD_eq_getElem?_getD, List.getElem?_eq_getElem hk] at this
   simpa using this
  ·intro k h0 hk
   rcases (h k hk).2 with h2 | h2
   ·omega
   ·rw [bytesLess_lt] at h2
    simp only [ByteArray.toList_eq, decide_eq_true_eq] at h2
    exact h2
theorem may_same (n : Int) (ls : List ByteArray) (es : List Ed) : mayB n ls es = mayR n ls es := by
 unfold mayB mayR
 rw [named_same, show (okAt n (ls.length : Int) es) = okAt' n (ls.length : Int) es from funext fun k => okAt_same n _ es k]
 cases decide (1 ≤ n) <;> cases decide (n ≤ 2048) <;> cases decide (ls.length ≤ 64) <;> cases (List.range ls.length).all (labAt ls) <;> simp
end Go.Proofs.Ythaaockbapbooaa.H
set_option linter.unusedVariables false
set_option linter.unusedSimpArgs false
namespace Go.Proofs.Ythaaockbapbooaa.H
open Go.RowKit Go.Proofs.Ythaaockbapbooaa.Pr Go.Proofs.YthaaockbapbooaaW.PrintWords Go.Proofs.Ythaaockbapbooaa.Sem
theorem getD_get {α : Type} {xs : List α} {d : α} {k : Nat} (h : k < xs.length) : xs.getD k d = xs[k] := by
 rw [List.getD_eq_getElem?_getD, List.getElem?_eq_getElem h]; rfl
set_option maxHeartbeats 4000000 in
set_option maxRecDepth 100000 in
theorem clone_any (es : List Ed) (A : Option Addr) (c : Nat) (w : World) (hC : Kd.C k51 w A es.length es) (hel : es.length ≤ 1000000) :
  Calls Try.prog 49 #[.slice A es.length c] w fun e w' => ∃ v0 : Value, e = .returned v0 ∧ Kd.R k51 51 w' w.heap.size (fun _ => True) v0 es ∧ Below w.heap.size w w' := by
 have HC := Aside0.mk hC
 have HB := Aside0.mk (Below.refl w.heap.size w)
 rcases A with _ | ad
 ·have h0 : es.length = 0 := by
   rcases Nat.eq_zero_or_pos es.length with h | h
   ·exact h
   ·obtain ⟨ad, h, _⟩ := hC.2.2 h
    cases h
  obtain rfl : es = [] := List.eq_nil_of_length_eq_zero h0
  clear hC HC h0
  have q_ : ∀ (W : World) (a : Option Addr) (n c n' c' : Nat), (binOp .eql 23 (.slice a n c) (.slice none n' c')).run Try.prog W = .ok (.bool a.isNone) W := fun W a n c n' c' => Lib.run_eql_slice_nil W _ _ a n c n' c' Try.underlying23
  go_enter Try.func49, Try.ntmps49
  go_wp2
  go_ret
  exact ⟨_, rfl, Kd.R_nil _ _ _ _ _, HB.out⟩
 ·clear hC
  have q_ : ∀ (W : World) (a : Option Addr) (n c n' c' : Nat), (binOp .eql 23 (.slice a n c) (.slice none n' c')).run Try.prog W = .ok (.bool a.isNone) W := fun W a n c n' c' => Lib.run_eql_slice_nil W _ _ a n c n' c' Try.underlying23
  go_enter Try.func49, Try.ntmps49
  go_wp2_with (first
   | ((with_reducible refine gate_dst (N := 5) rfl ?_); refine Kd.R_lit k51 _ 51 ?hg (N := 5) ?hd (xs := ([] : List Ed)) (inner := []) (ok := fun _ => True) (okp := fun _ => True) ?hr ?hp (fun _ hk => hk) trivial (Below.refl _ _) (Nat.le_refl _) (by simp) ?_; (case hd => rfl); (case hg => rfl); (case hr => first | (go_simp; done) | (go_simp; rfl)); (case hp => exact (Reps.none _ _)); intro v1 w1 ho hb hg_ hnew_; clear hg_ hnew_; have HO := Aside0.mk ho; have HB1 := Aside0.mk (below_step HB.out hb); clear ho hb)
   | (at_builtin; refine Kd.R_append_rows k51 (w0 := w) w.heap.size rfl (.tmp 5) (.tmp 6) 23 51 (.agg #[(.int .i64 0), (.int .i64 0), (.int .i64 0)]) 24 rfl Try.underlying23 info51 rfl (by decide) (by omega) v1 [] es (some ad) _ c (fun _ => True) (fun _ => False) rfl rfl HO.out (Kd.C_below HC.out HB1.out) (fun _ _ h => h) (fun _ h => h.elim) (fun _ _ => trivial) HB1.out HB1.out.size (by simp; omega) ?_; intro v2 w2 ho hb hg hat; have HO2 := Aside0.mk ho; have HB2 := Aside0.mk hb; clear ho hb hg hat))
  go_ret
  exact ⟨_, rfl, by simpa using HO2.out, HB2.out⟩
end Go.Proofs.Ythaaockbapbooaa.H
set_option linter.unusedVariables false
set_option linter.unusedSimpArgs false
namespace Go.Proofs.Ythaaockbapbooaa.H
open Go.RowKit Go.Proofs.Ythaaockbapbooaa.Pr Go.Proofs.YthaaockbapbooaaW.PrintWords Go.Proofs.Ythaaockbapbooaa.Sem
theorem lt_n {n : Int} {ls : List ByteArray} {es : List Ed} (h : mayR n ls es = true) : 1 ≤ n ∧ n ≤ 2048 := by
 unfold mayR at h
 simp only [Bool.and_eq_true, decide_eq_true_eq] at h
 exact ⟨h.1, h.2.1⟩
theorem lt_ok {n : Int} {ls : List ByteArray} {es : List Ed} (h : mayR n ls es = true) {k : Nat} (hk : k < es.length) : okAt' n ls.length es k = true := by
 unfold mayR at h
 simp only [Bool.and_eq_true, decide_eq_true_eq] at h
 exact List.all_eq_true.1 h.2.2.2.2.2 k (List.mem_range.2 hk)
end Go.Proofs.Ythaaockbapbooaa.H
set_option linter.unusedVariables false
set_option linter.unusedSimpArgs false
namespace Go.Proofs.Ythaaockbapbooaa.H
open Go.RowKit Go.Proofs.Ythaaockbapbooaa.Pr Go.Proofs.YthaaockbapbooaaW.PrintWords Go.Proofs.Ythaaockbapbooaa.Sem Go.Sort Go.Shelf Go.Lib
def GW (w W : World) : Prop := ∃ q os, W = grow (w.drewN q) os
theorem GW.refl (w : World) : GW w w := ⟨0, #[], by simp [grow, World.drewN]⟩
theorem GW.alloc {w W : World} (h : GW w W) (o : Obj) : GW w (W.alloc o) := by
 obtain ⟨q, os, rfl⟩ := h
 exact ⟨q, os ++ #[o], by rw [alloc_eq_grow, grow_grow]⟩
theorem GW.drew {w W : World} (h : GW w W) : GW w W.drew := by
 obtain ⟨q, os, rfl⟩ := h
 exact ⟨q + 1, os, by simp [grow, World.drewN, World.drew, Nat.add_assoc]⟩
theorem GW.drewN {w W : World} (h : GW w W) (m : Nat) : GW w (W.drewN m) := by
 obtain ⟨q, os, rfl⟩ := h
 exact ⟨q + m, os, by simp [grow, World.drewN, Nat.add_assoc]⟩
set_option maxRecDepth 100000 in
theorem compareG (a b : Ed) (w : World) : Calls Try.prog 51 #[.agg #[.int .i64 a.f0, .int .i64 a.f1, .int .i64 a.f2], .agg #[.int .i64 b.f0, .int .i64 b.f1, .int .i64 b.f2]] w fun e w' => e = .returned (.int .i64 (cmpE a b)) ∧ GW w w' := by
 go_enter Try.func51, Try.ntmps51
 go_wp2_with fail
 go_region_held3 (fun w' => w'.cell? ⟨w.heap.size, 0, none⟩ = some (.int .i64 a.f0) ∧ w'.cell? ⟨w.heap.size, 1, none⟩ = some (.int .i64 a.f1) ∧ w'.cell? ⟨w.heap.size, 2, none⟩ = some (.int .i64 a.f2) ∧ w'.cell? ⟨w.heap.size + 1, 0, none⟩ = some (.int .i64 b.f0) ∧ w'.cell? ⟨w.heap.size + 1, 1, none⟩ = some (.int .i64 b.f1) ∧ w'.cell? ⟨w.heap.size + 1, 2, none⟩ = some (.int .i64 b.f2))
  (first | go_keep)
  (first
   | (go_at_call 67; refine (compare_any _ _ _).mono ?_; rintro e w' ⟨rfl, rfl⟩)
   | (go_at_call 66; refine (or_any [cmpI a.f0 b.f0, cmpI a.f1 b.f1, cmpI a.f2 b.f2] _ _ _ (by simp) (by intro j hj; match j, hj with | 0, _ => go_simp | 1, _ => go_simp | 2, _ => go_simp)).mono ?_; rintro e w' ⟨rfl, rfl⟩))
 go_wp2
 go_ret
 exact ⟨rfl, by repeat (first | exact GW.refl _ | apply GW.alloc | apply GW.drewN | apply GW.drew)⟩
def encE (x : Ed) : List Value := [.int .i64 x.f0, .int .i64 x.f1, .int .i64 x.f2]
theorem ltE (x y : Ed) : ltOf cmpE x y = decide (elt x y) := by unfold ltOf; rw [decide_eq_decide]; exact cmpE_neg x y
theorem swoE : SWO (ltOf cmpE) where
 irrefl x := by rw [ltE]; simp [elt]
 trans x y z h1 h2 := by rw [ltE] at *; simp only [decide_eq_true_eq] at *; unfold elt at *; omega
 ntrans x y z h1 h2 := by rw [ltE] at *; simp only [decide_eq_false_iff_not] at *; unfold elt at *; omega
theorem totE (x y : Ed) (h1 : ltOf cmpE x y = false) (h2 : ltOf cmpE y x = false) : x = y := by
 rw [ltE, decide_eq_false_iff_not] at h1 h2
 obtain ⟨x0, x1, x2⟩ := x
 obtain ⟨y0, y1, y2⟩ := y
 unfold elt at h1 h2
 simp only at h1 h2
 rw [S51.mk.injEq]
 omega
theorem sortF_any (g c : Nat) (es : List Ed) (w : World) (hH : HoldsK encE 3 w g 0 es.toArray) (hblk : g < w.heap.size) (hsz : es.length ≤ 1000000) :
  Calls Try.prog 50 #[.slice (some ⟨g, 0, none⟩) es.length c, .func (.func 51) #[] #[]] w fun e w' => e = .returned (.tuple #[]) ∧ ∃ n os, w' = sortWorldK encE 3 w g 0 n (es.mergeSort fun x y => !(ltOf cmpE) y x).toArray os := by
 have eg : ∀ args w, (callFunc 51 args).run Try.prog w = .ok (.enter 51 args) w := enters_of Try.func51 (by kernel_rfl) rfl
 have hcon := AnyQ.slices_SortFunc_total Try.sortE 3 (fun _ => by kernel_rfl) (fun _ => by kernel_rfl) encE (fun _ => rfl) (fun x v hv => by simp [encE] at hv; rcases hv with rfl | rfl | rfl <;> rfl) cmpE swoE 51 #[] g 0 c es.toArray w eg (fun m os dk hs x y => compareG x y _) hH hblk (by simp; omega) totE
 change Calls Try.prog 50 _ _ _ at hcon
 simpa using hcon
end Go.Proofs.Ythaaockbapbooaa.H
set_option linter.unusedVariables false
set_option linter.unusedSimpArgs false
namespace Go.Proofs.Ythaaockbapbooaa.H
open Go.RowKit Go.Proofs.Ythaaockbapbooaa.Pr Go.Proofs.YthaaockbapbooaaW.PrintWords Go.Proofs.Ythaaockbapbooaa.Sem Go.Sort Go.Shelf Go.Lib
theorem holdsK_of_R {W : World} {base g cap : Nat} {ok : Nat → Prop} {es : List Ed} (h : Kd.R k51 51 W base ok (.slice (some ⟨g, 0, none⟩) es.length cap) es) : HoldsK encE 3 W g 0 es.toArray := by
 intro j hj
 rw [size_flatK, List.size_toArray] at hj
 have hi : j / 3 < es.length := by omega
 obtain ⟨c, hcl, hM, hcc, hf⟩ := Kd.R_elem h z51 ((j / 3 : Nat) : Int) (by omega) (by omega)
 have hc := k51_openM hM
 rw [Int.toNat_natCast] at hc hcc hf
 have hsz : (k51 : Kd Ed).sz = 3 := rfl
 rw [hsz] at hcc hf
 have e : j / 3 * 3 + j % 3 = j := by omega
 have h3 : j % 3 < 3 := Nat.mod_lt _ (by omega)
 have hx : es.toArray[j / 3]! = es.getD (j / 3) z51 := by
  rw [getElem!_pos es.toArray (j / 3) (by simpa using hi), getD_get hi]
  simp
 rw [get_flatK _ _ _ _ (by rw [List.size_toArray]; exact hj), hx, Nat.zero_add]
 have hlen : (encE (es.getD (j / 3) z51)).length = 3 := rfl
 refine ⟨?_, by have := hf (j % 3); rwa [e] at this⟩
 have hu : c[j % 3]? = some ((encE (es.getD (j / 3) z51))[j % 3]!) := by
  rw [hc, getElem!_pos (encE (es.getD (j / 3) z51)) (j % 3) (by rw [hlen]; exact h3)]
  exact List.getElem?_eq_getElem (by exact h3)
 have := hcc (j % 3) _ hu
 rwa [e] at this
theorem flat_len (es : List Ed) : (flatK encE 3 es.toArray).toList.length = es.length * 3 := by
 rw [Array.length_toList, size_flatK, List.size_toArray]
theorem flat_seg (es : List Ed) (j : Nat) (hj : j < es.length) : ((flatK encE 3 es.toArray).toList.drop (j * 3)).take 3 = encE es[j] := by
 have hx : es.toArray[j]! = es[j] := by
  rw [getElem!_pos es.toArray j (by simpa using hj)]
  simp
 apply List.ext_getElem
 ·rw [List.length_take, List.length_drop, flat_len]
  show min 3 _ = 3
  omega
 ·intro i h1 h2
  have hi : i < 3 := h2
  rw [List.getElem_take, List.getElem_drop, Array.getElem_toList]
  have := get_flatK encE 3 es.toArray (j * 3 + i) (by rw [List.size_toArray]; omega)
  rw [getElem!_pos (flatK encE 3 es.toArray) (j * 3 + i) (by rw [size_flatK, List.size_toArray]; omega)] at this
  rw [this, show (j * 3 + i) / 3 = j by omega, show (j * 3 + i) % 3 = i by omega, hx]
  exact getElem!_pos (encE es[j]) i h2
theorem R_sorted {W : World} {base g cap : Nat} {es es' : List Ed} (h : Kd.R k51 51 W base (fun _ => True) (.slice (some ⟨g, 0, none⟩) es.length cap) es) (hl : es'.length = es.length) (m : Nat) (os : Array Obj) : Kd.R k51 51 (sortWorldK encE 3 W g 0 m es'.toArray os) base (fun _ => True) (.slice (some ⟨g, 0, none⟩) es'.length cap) es' := by
 obtain ⟨h0, inner, ho, hr⟩ := h
 obtain ⟨hil, hcase⟩ := ho
 rcases hcase with ⟨hv, _⟩ | ⟨g', cap', cur, hv, hb, hh, hnc, hcm, hcs, htk⟩
 ·cases hv
 ·cases hv
  have hsz : (k51 : Kd Ed).sz = 3 := rfl
  rw [hsz] at hcs htk hil
  have hlt : g < W.heap.size := blk_lt hh
  have hheap : (sortWorldK encE 3 W g 0 m es'.toArray os).heap[g]? = some (.cells (putCells id 0 (flatK encE 3 es'.toArray) cur) 51 (0, 0)) := by
   show ((W.heap.modify g (onCells (putCells id 0 (flatK encE 3 es'.toArray)))) ++ os)[g]? = _
   rw [Array.getElem?_append_left (by rw [Array.size_modify]; exact hlt), Array.getElem?_modify, if_pos rfl, hh]
   rfl
  refine ⟨fun _ _ => trivial, (flatK encE 3 es'.toArray).toList, ⟨by rw [flat_len, hsz], .inr ⟨g, cap, _, rfl, hb, hheap, by omega, hcm, by rw [hsz]; unfold putCells; rw [Array.size_mapIdx]; exact hcs, ?_⟩⟩, ?_⟩
  ·rw [hsz]
   apply List.ext_getElem
   ·have hq : (putCells id 0 (flatK encE 3 es'.toArray) cur).size = cap * 3 := by unfold putCells; rw [Array.size_mapIdx]; exact hcs
    have hq2 : (putCells id 0 (flatK encE 3 es'.toArray) cur).toList.length = cap * 3 := by rw [Array.length_toList]; exact hq
    rw [List.length_take, hq2, flat_len]
    have : es.length * 3 ≤ cap * 3 := Nat.mul_le_mul_right _ hnc
    omega
   ·intro i h1 h2
    rw [flat_len, hl] at h2
    rw [List.getElem_take, Array.getElem_toList]
    unfold putCells
    rw [Array.getElem_mapIdx, if_pos (by rw [size_flatK, List.size_toArray, hl]; omega), Nat.sub_zero, getElem!_pos (flatK encE 3 es'.toArray) i (by rw [size_flatK, List.size_toArray, hl]; exact h2)]
    rfl
  ·refine ⟨by rw [flat_len, hsz], fun j p hp => ?_⟩
   obtain ⟨hj, rfl⟩ := List.getElem?_eq_some_iff.1 hp
   rw [hsz, flat_seg es' j hj]
   exact k51_mkM _ _ _ _
def sortedE (es : List Ed) : List Ed := es.mergeSort fun x y => !(ltOf cmpE) y x
end Go.Proofs.Ythaaockbapbooaa.H
set_option linter.unusedVariables false
set_option linter.unusedSimpArgs false
namespace Go.Proofs.Ythaaockbapbooaa.H
open Go.RowKit Go.Proofs.Ythaaockbapbooaa.Pr Go.Proofs.YthaaockbapbooaaW.PrintWords Go.Proofs.Ythaaockbapbooaa.Sem Go.Lib
theorem run_clear_edges (w : World) (ty : TypeId) (b o n c : Nat) (hn : 0 < n)
  (hc : ∀ j, j < (Builtin.zeroCells #[.int .i64 0, .int .i64 0, .int .i64 0] n).toList.length → (w.cell? ⟨b, o + j, none⟩).isSome = true) (hf : ∀ j, j < (Builtin.zeroCells #[.int .i64 0, .int .i64 0, .int .i64 0] n).toList.length → w.frozen? ⟨b, o + j, none⟩ = false) :
  (Builtin.clear_ #[23] ty #[.slice (some ⟨b, o, none⟩) n c]).run Try.prog w = .ok (.tuple #[]) (w.setCells b o (Builtin.zeroCells #[.int .i64 0, .int .i64 0, .int .i64 0] n).toList) := by
 have hv : ∀ w, (zeroValue 51).run Try.prog w = .ok (.agg #[.int .i64 0, .int .i64 0, .int .i64 0]) w := fun w => by kernel_rfl
 have hst := run_storeCells_cells (P := Try.prog) b o (Builtin.zeroCells #[.int .i64 0, .int .i64 0, .int .i64 0] n).toList 0 w (by simpa using hc) (by simpa using hf) (by
  intro v hv'
  simp [Builtin.zeroCells] at hv'
  obtain ⟨a, _, rfl⟩ := hv'
  have : a % 3 < 3 := Nat.mod_lt _ (by omega)
  rcases (show a % 3 = 0 ∨ a % 3 = 1 ∨ a % 3 = 2 by omega) with h | h | h <;> simp [h, Value.oneCell'])
 simp only [Nat.add_zero] at hst
 obtain ⟨m, rfl⟩ : ∃ m, n = m + 1 := ⟨n - 1, by omega⟩
 simp [Builtin.clear_, run_underlying Try.underlying23, hv, hst, Value.cells]
end Go.Proofs.Ythaaockbapbooaa.H
set_option linter.unusedVariables false
set_option linter.unusedSimpArgs false
namespace Go.Proofs.Ythaaockbapbooaa.Sem
open Go.Proofs.Ythaaockbapbooaa.Pr
theorem elt_trans {a b c : Ed} (h1 : elt a b) (h2 : elt b c) : elt a c := by unfold elt at *; omega
theorem elt_irr (a : Ed) : ¬ elt a a := by unfold elt; omega
theorem elt_tri {a b : Ed} (h : ¬ elt a b) (h2 : ¬ cmpE a b = 0) : elt b a := by
 rw [cmpE_zero] at h2
 rcases Classical.em (elt b a) with q | q
 ·exact q
 ·exfalso
  apply h2
  obtain ⟨a0, a1, a2⟩ := a
  obtain ⟨b0, b1, b2⟩ := b
  unfold elt at h q
  simp only at h q
  rw [S51.mk.injEq]
  omega
theorem insE_mem (e x : Ed) : ∀ l, x ∈ insE e l ↔ x = e ∨ x ∈ l
 | [] => by simp [insE]
 | y :: r => by
  unfold insE
  split
  ·simp
  ·split
   ·rename_i h
    rw [cmpE_zero] at h
    subst h
    simp
   ·rw [List.mem_cons, insE_mem e x r, List.mem_cons]
    constructor
    ·rintro (h | h | h)
     ·exact .inr (.inl h)
     ·exact .inl h
     ·exact .inr (.inr h)
    ·rintro (h | h | h)
     ·exact .inr (.inl h)
     ·exact .inl h
     ·exact .inr (.inr h)
theorem insE_sorted (e : Ed) : ∀ l, l.Pairwise elt → (insE e l).Pairwise elt
 | [], _ => by simp [insE]
 | y :: r, h => by
  have h' := List.pairwise_cons.1 h
  unfold insE
  split
  ·rename_i q
   refine List.pairwise_cons.2 ⟨fun x hx => ?_, h⟩
   rcases List.mem_cons.1 hx with rfl | hx
   ·exact q
   ·exact elt_trans q (h'.1 x hx)
  ·split
   ·exact h
   ·rename_i q1 q2
    refine List.pairwise_cons.2 ⟨fun x hx => ?_, insE_sorted e r h'.2⟩
    rcases (insE_mem e x r).1 hx with rfl | hx
    ·exact elt_tri q1 q2
    ·exact h'.1 x hx
theorem strict_unique : ∀ (a b : List Ed), a.Pairwise elt → b.Pairwise elt → (∀ x, x ∈ a ↔ x ∈ b) → a = b
 | [], [], _, _, _ => rfl
 | [], y :: r, _, _, h => by have := (h y).2 (List.mem_cons_self ..); cases this
 | x :: r, [], _, _, h => by have := (h x).1 (List.mem_cons_self ..); cases this
 | x :: r, y :: s, ha, hb, h => by
  have ha' := List.pairwise_cons.1 ha
  have hb' := List.pairwise_cons.1 hb
  have e : x = y := by
   rcases List.mem_cons.1 ((h x).1 (List.mem_cons_self ..)) with q | q
   ·exact q
   ·rcases List.mem_cons.1 ((h y).2 (List.mem_cons_self ..)) with q2 | q2
    ·exact q2.symm
    ·exact absurd (elt_trans (hb'.1 x q) (ha'.1 y q2)) (elt_irr y)
  subst e
  rw [strict_unique r s ha'.2 hb'.2 fun z => ?_]
  have hz := h z
  constructor
  ·intro q
   rcases List.mem_cons.1 (hz.1 (List.mem_cons_of_mem _ q)) with rfl | q2
   ·exact absurd (ha'.1 _ q) (elt_irr _)
   ·exact q2
  ·intro q
   rcases List.mem_cons.1 (hz.2 (List.mem_cons_of_mem _ q)) with rfl | q2
   ·exact absurd (hb'.1 _ q) (elt_irr _)
   ·exact q2
def dd : List Ed → List Ed
 | [] => []
 | [a] => [a]
 | a :: b :: r => if cmpE a b = 0 then dd (b :: r) else a :: dd (b :: r)
theorem dd_mem (x : Ed) : ∀ l, x ∈ dd l ↔ x ∈ l
 | [] => by simp [dd]
 | [a] => by simp [dd]
 | a :: b :: r => by
  have ih := dd_mem x (b :: r)
  unfold dd
  split
  ·rename_i h
   rw [cmpE_zero] at h
   subst h
   rw [ih]
   simp
  ·rw [List.mem_cons, ih, List.mem_cons (a := x) (b := a)]
theorem elt_or {a b : Ed} (h : ¬ elt b a) : a = b ∨ elt a b := by
 by_cases q : cmpE b a = 0
 ·exact .inl ((cmpE_zero b a).1 q).symm
 ·exact .inr (elt_tri h q)
theorem dd_sorted : ∀ l : List Ed, l.Pairwise (fun a b => ¬ elt b a) → (dd l).Pairwise elt
 | [], _ => by simp [dd]
 | [a], _ => by simp [dd]
 | a :: b :: r, h => by
  have h' := List.pairwise_cons.1 h
  have ih := dd_sorted (b :: r) h'.2
  unfold dd
  split
  ·exact ih
  ·rename_i q
   refine List.pairwise_cons.2 ⟨fun x hx => ?_, ih⟩
   have hab : elt a b := by
    rcases elt_or (h'.1 b (List.mem_cons_self ..)) with e | e
    ·exact absurd ((cmpE_zero a b).2 e) q
    ·exact e
   rcases List.mem_cons.1 ((dd_mem x (b :: r)).1 hx) with rfl | hx
   ·exact hab
   ·rcases elt_or ((List.pairwise_cons.1 h'.2).1 x hx) with e | e
    ·rw [← e]; exact hab
    ·exact elt_trans hab e
theorem fold_ins : ∀ (es o : List Ed), o.Pairwise elt → (es.foldl (fun o e => insE e o) o).Pairwise elt ∧ ∀ x, x ∈ es.foldl (fun o e => insE e o) o ↔ x ∈ es ∨ x ∈ o
 | [], o, h => ⟨h, fun x => by simp⟩
 | e :: r, o, h => by
  have ih := fold_ins r (insE e o) (insE_sorted e o h)
  refine ⟨ih.1, fun x => ?_⟩
  rw [List.foldl_cons, ih.2 x, insE_mem, List.mem_cons]
  constructor
  ·rintro (h | h | h)
   ·exact .inl (.inr h)
   ·exact .inl (.inl h)
   ·exact .inr h
  ·rintro ((h | h) | h)
   ·exact .inr (.inl h)
   ·exact .inl h
   ·exact .inr (.inr h)
theorem dd_sortE {es l : List Ed} (h : l.Pairwise (fun a b => ¬ elt b a)) (hm : ∀ x, x ∈ l ↔ x ∈ es) : dd l = sortE es := by
 have hf := fold_ins es [] List.Pairwise.nil
 exact strict_unique _ _ (dd_sorted l h) hf.1 fun x => by rw [dd_mem, hm]; show _ ↔ x ∈ es.foldl (fun o e => insE e o) []; rw [hf.2 x]; simp
end Go.Proofs.Ythaaockbapbooaa.Sem
set_option linter.unusedVariables false
set_option linter.unusedSimpArgs false
namespace Go.Proofs.Ythaaockbapbooaa.H
open Go.RowKit Go.Proofs.Ythaaockbapbooaa.Pr Go.Proofs.YthaaockbapbooaaW.PrintWords Go.Proofs.Ythaaockbapbooaa.Sem Go.Lib Go.Sort
section
variable {α : Type} [Inhabited α] (enc : α → List Value) (k : Nat) (hk : ∀ x, (enc x).length = k)
include hk
theorem flat_set (d : Array α) (i : Nat) (x : α) (hi : i < d.size) : setMany (flatK enc k d) (i * k) (enc x) = flatK enc k (d.setIfInBounds i x) := by
 refine ext_get! (by simp) fun t ht => ?_
 have ht' : t < d.size * k := by simpa using ht
 have k0 : 0 < k := by
  rcases Nat.eq_zero_or_pos k with h | h
  ·subst h; simp at ht'
  ·exact h
 rw [get_setMany _ _ _ t (by simpa using ht'), get_flatK _ _ _ t ht', get_flatK _ _ _ t (by simpa using ht'), hk]
 by_cases a : t / k = i
 ·rw [if_pos ((blk_iff k i t k0).2 a), a, getElem!_set_same d i x hi]
  subst a
  rw [Nat.mod_eq_sub_div_mul]
 ·rw [if_neg (fun h => a ((blk_iff k i t k0).1 h)), getElem!_set_other d i _ x a]
theorem flat_lay (d : Array α) (j m : Nat) (z : α) (vs : List Value) (hj : j + m ≤ d.size) (hl : vs.length = m * k) (hv : ∀ t, t < m * k → vs[t]! = (enc z)[t % k]!) : setMany (flatK enc k d) (j * k) vs = flatK enc k (lay d j (List.replicate m z)) := by
 have hsz : (lay d j (List.replicate m z)).size = d.size := by
  have : ∀ (xs : List α) (d : Array α) (k : Nat), (lay d k xs).size = d.size := by
   intro xs
   induction xs with
   | nil => intro d k; rfl
   | cons x r ih => intro d k; show (lay (d.setIfInBounds k x) (k + 1) r).size = _; rw [ih]; simp
  exact this _ _ _
 refine ext_get! (by simp [hsz]) fun t ht => ?_
 have ht' : t < d.size * k := by simpa using ht
 have k0 : 0 < k := by
  rcases Nat.eq_zero_or_pos k with h | h
  ·subst h; simp at ht'
  ·exact h
 have hq : t / k < d.size := Nat.div_lt_of_lt_mul (by rwa [Nat.mul_comm] at ht')
 have hget : (lay d j (List.replicate m z))[t / k]! = if j ≤ t / k ∧ t / k < j + m then z else d[t / k]! := by
  have := lay_get? (List.replicate m z) d j (t / k) (by simpa using hj)
  rw [getElem!_pos _ (t / k) (by rw [hsz]; exact hq)]
  rw [Array.getElem?_eq_getElem (by rw [hsz]; exact hq)] at this
  simp only [List.length_replicate] at this
  split
  ·rename_i c
   rw [if_pos c, List.getElem?_replicate, if_pos (by omega)] at this
   exact Option.some.inj this
  ·rename_i c
   rw [if_neg c, Array.getElem?_eq_getElem hq] at this
   rw [getElem!_pos d (t / k) hq]
   exact Option.some.inj this
 rw [get_setMany _ _ _ t (by simpa using ht'), get_flatK _ _ _ t ht', get_flatK _ _ _ t (by rw [hsz]; exact ht'), hget, hl]
 have hmod : t = k * (t / k) + t % k := (Nat.div_add_mod t k).symm
 have hm : t % k < k := Nat.mod_lt _ k0
 have iff1 : (j * k ≤ t ∧ t < j * k + m * k) ↔ (j ≤ t / k ∧ t / k < j + m) := by
  rw [Nat.le_div_iff_mul_le k0, Nat.div_lt_iff_lt_mul k0, Nat.add_mul]
 by_cases c : j ≤ t / k ∧ t / k < j + m
 ·rw [if_pos (iff1.2 c), if_pos c]
  have c2 := iff1.2 c
  rw [hv _ (by omega)]
  congr 1
  have : t = (t - j * k) + k * j := by rw [Nat.mul_comm k j]; omega
  conv => rhs; rw [this]
  rw [Nat.add_mul_mod_self_left]
 ·rw [if_neg (fun h => c (iff1.1 h)), if_neg c]
theorem store_worldK (w wr : World) (n g off : Nat) (d : Array α) (i : Nat) (x : α) (hi : i < d.size) (h : wr = putRowK enc k (Sort.ahead w n) g off d) : wr.setCells g (off + i * k) (enc x) = putRowK enc k (Sort.ahead w n) g off (d.setIfInBounds i x) := by
 subst h
 have hb : i * k + k ≤ d.size * k := by
  have := Nat.mul_le_mul_right k (show i + 1 ≤ d.size from hi); rwa [Nat.add_mul, Nat.one_mul] at this
 unfold putRowK
 rw [setCells_putRow _ _ _ _ _ _ (by rw [hk, size_flatK]; exact hb), flat_set enc k hk d i x hi]
theorem clear_worldK (w wr : World) (n g off : Nat) (d : Array α) (j m : Nat) (z : α) (vs : List Value) (hj : j + m ≤ d.size) (hl : vs.length = m * k) (hv : ∀ t, t < m * k → vs[t]! = (enc z)[t % k]!) (h : wr = putRowK enc k (Sort.ahead w n) g off d) : wr.setCells g (off + j * k) vs = putRowK enc k (Sort.ahead w n) g off (lay d j (List.replicate m z)) := by
 subst h
 have hb : j * k + m * k ≤ d.size * k := by rw [← Nat.add_mul]; exact Nat.mul_le_mul_right k hj
 unfold putRowK
 rw [setCells_putRow _ _ _ _ _ _ (by rw [hl, size_flatK]; exact hb), flat_lay enc k hk d j m z vs hj hl hv]
end
instance : DecidableEq Ed := fun a b => decidable_of_iff (cmpE a b = 0) (cmpE_zero a b)
theorem dd_snoc : ∀ (l : List Ed) (b a : Ed), dd (l ++ [b, a]) = if b = a then dd (l ++ [b]) else dd (l ++ [b]) ++ [a]
 | [], b, a => by
  show dd [b, a] = _
  unfold dd
  by_cases q : b = a
  ·rw [if_pos ((cmpE_zero b a).2 q), if_pos q, q]; rfl
  ·rw [if_neg (fun h => q ((cmpE_zero b a).1 h)), if_neg q]; rfl
 | [x], b, a => by
  have ih := dd_snoc [] b a
  show dd (x :: b :: [a]) = _
  show _ = if b = a then dd (x :: b :: []) else dd (x :: b :: []) ++ [a]
  unfold dd
  rw [show dd [b, a] = _ from ih]
  split
  ·split <;> rfl
  ·split <;> rfl
 | x :: y :: r, b, a => by
  have ih := dd_snoc (y :: r) b a
  show dd (x :: y :: (r ++ [b, a])) = _
  show _ = if b = a then dd (x :: y :: (r ++ [b])) else dd (x :: y :: (r ++ [b])) ++ [a]
  unfold dd
  rw [show dd (y :: (r ++ [b, a])) = _ from ih]
  split
  ·rfl
  ·split <;> rfl
theorem compact_dd (es : List Ed) : compact es = dd es := by
 have : ∀ m, m ≤ es.length → compactUpTo es.toArray m = dd (es.take m) := by
  intro m
  induction m with
  | zero => intro _; simp [compactUpTo, dd]
  | succ m ih =>
   intro h
   have hm : m < es.length := by omega
   have e0 : es.toArray[m]! = es[m] := by rw [getElem!_pos es.toArray m (by simpa using hm)]; simp
   rw [compactUpTo_succ, ih (by omega), e0]
   rw [List.take_add_one, List.getElem?_eq_getElem hm]
   cases m with
   | zero => simp [keeps, dd]
   | succ m =>
    have hm' : m < es.length := by omega
    have e1 : es.toArray[m]! = es[m] := by rw [getElem!_pos es.toArray m (by simpa using hm')]; simp
    have ek : keeps es.toArray (m + 1) = decide (es[m] ≠ es[m + 1]) := by
     unfold keeps
     rw [e0, show m + 1 - 1 = m from rfl, e1]
     rw [decide_eq_decide]
     constructor
     ·rintro (h | h)
      ·omega
      ·exact fun q => h q.symm
     ·exact fun h => .inr fun q => h q.symm
    rw [ek, List.take_add_one, List.getElem?_eq_getElem hm']
    simp only [Option.toList_some, List.append_assoc, List.cons_append, List.nil_append]
    rw [dd_snoc]
    by_cases q : es[m] = es[m + 1]
    ·simp [q]
    ·simp [q]
 unfold compact
 rw [this _ (Nat.le_refl _), List.take_length]
theorem eqE (x0 x1 x2 y0 y1 y2 : Int) (w : World) : (Op.equalIn 10000 51 (.agg #[.int .i64 x0, .int .i64 x1, .int .i64 x2]) (.agg #[.int .i64 y0, .int .i64 y1, .int .i64 y2])).run Try.prog w = .ok (x0 == y0 && (x1 == y1 && x2 == y2)) w := by
 refine eqA_of Try.underlying51 (by kernel_rfl) ?_
 refine eqf_cons (by rfl) (by go_simp; rfl) (by go_simp; rfl) (by go_simp) ?_
 refine eqf_cons (by rfl) (by go_simp; rfl) (by go_simp; rfl) (by go_simp) ?_
 exact eqf_last (by rfl) (by go_simp; rfl) (by go_simp; rfl) (by go_simp)
theorem eqE_yes {x y : Ed} (h : x = y) (w : World) : (Op.equalIn 10000 51 (.agg #[.int .i64 x.f0, .int .i64 x.f1, .int .i64 x.f2]) (.agg #[.int .i64 y.f0, .int .i64 y.f1, .int .i64 y.f2])).run Try.prog w = .ok true w := by
 subst h; rw [eqE]; simp
theorem eqE_no {x y : Ed} (h : ¬ x = y) (w : World) : (Op.equalIn 10000 51 (.agg #[.int .i64 x.f0, .int .i64 x.f1, .int .i64 x.f2]) (.agg #[.int .i64 y.f0, .int .i64 y.f1, .int .i64 y.f2])).run Try.prog w = .ok false w := by
 rw [eqE]
 congr 1
 obtain ⟨x0, x1, x2⟩ := x
 obtain ⟨y0, y1, y2⟩ := y
 rw [S51.mk.injEq] at h
 simpa using h
theorem cellE {w : World} {g : Nat} {d : Array Ed} (h : HoldsK encE 3 w g 0 d) {i : Nat} (hi : i < d.size) : w.cell? ⟨g, i * 3, none⟩ = some (.int .i64 d[i]!.f0) ∧ w.cell? ⟨g, i * 3 + 1, none⟩ = some (.int .i64 d[i]!.f1) ∧ w.cell? ⟨g, i * 3 + 2, none⟩ = some (.int .i64 d[i]!.f2) ∧
  (w.frozen? ⟨g, i * 3, none⟩ = false ∧ w.frozen? ⟨g, i * 3 + 1, none⟩ = false ∧ w.frozen? ⟨g, i * 3 + 2, none⟩ = false) := by
 have c0 := h.cell hi (show 0 < 3 by omega)
 have c1 := h.cell hi (show 1 < 3 by omega)
 have c2 := h.cell hi (show 2 < 3 by omega)
 simp only [Nat.zero_add, Nat.add_zero] at c0 c1 c2
 exact ⟨c0.1, c1.1, c2.1, c0.2, c1.2, c2.2⟩
set_option maxHeartbeats 4000000 in
set_option maxRecDepth 1000000 in
theorem compact_arr (g cap : Nat) (d : Array Ed) (w : World) (hH : HoldsK encE 3 w g 0 d) (hsz : d.size ≤ 1000000) (hcap : d.size ≤ cap) :
  Calls Try.prog 52 #[.slice (some ⟨g, 0, none⟩) d.size cap] w fun e w' => e = .returned (.slice (some ⟨g, 0, none⟩) (compactUpTo d d.size).length cap) ∧ ∃ q, w' = putRowK encE 3 (Sort.ahead w q) g 0 (compactUpTo d d.size ++ List.replicate (d.size - (compactUpTo d d.size).length) z51).toArray := by
 have same : ∀ q, (∀ j, j < d.size → keeps d j = true) → (compactUpTo d d.size).length = d.size ∧ w.drewN q = putRowK encE 3 (Sort.ahead w q) g 0 (compactUpTo d d.size ++ List.replicate (d.size - (compactUpTo d d.size).length) z51).toArray := by
  intro q hall
  have e : compactUpTo d d.size = d.toList := by rw [compactUpTo_all d _ hall, range_map_get]
  rw [e]
  refine ⟨by simp, ?_⟩
  simp only [Array.length_toList, Nat.sub_self, List.replicate_zero, List.append_nil, Array.toArray_toList]
  exact (putRowK_self encE 3 (Sort.ahead w q) g 0 d (holdsK_ahead encE 3 w q g 0 d hH)).symm
 have HS := Aside0.mk same
 clear same
 by_cases h2 : d.size < 2
 ·have HH := Aside0.mk hH
  clear hH
  go_enter Try.func52, Try.ntmps52
  go_wp2
  go_ret
  obtain ⟨e1, e2⟩ := HS.out 0 (fun j hj => keeps_lt_one d j (by omega))
  exact ⟨by rw [e1]; rfl, 0, e2⟩
 ·have HH := Aside0.mk hH
  clear hH
  go_enter Try.func52, Try.ntmps52
  go_wp2
  go_loopg [3] d.size (fun gg s3 wr => ∃ k q : Nat, 1 ≤ k ∧ k ≤ d.size ∧ d.size - k ≤ gg ∧ s3 = .int .i64 k ∧ wr = w.drewN q ∧ Aside0 (∀ j, j < k → keeps d j = true))
  case atStart => exact ⟨1, 0, Nat.le_refl _, by omega, by omega, rfl, rfl, ⟨keeps_lt_one d⟩⟩
  case round =>
   obtain ⟨k, q, a7, hk, hg, rfl, rfl, hall⟩ := hrel
   by_cases hlt : k < d.size
   ·obtain ⟨c10, a0, a3, f10⟩ := cellE HH.out hlt
    obtain ⟨a5, a1, a2, f00⟩ := cellE HH.out (show k - 1 < d.size by omega)
    generalize hx : d[k]! = x at c10 a0 a3
    generalize hy : d[k - 1]! = y at a5 a1 a2
    have B := Aside0.mk (And.intro hx hy)
    clear hx hy f10 f00
    by_cases hdup : x = y
    ·have hE := fun W => eqE_yes (x := x) (y := y) hdup W
     go_wp2_with fail
     go_quiet (fail)
     go_wp2
     clear c10 a0 a3 a5 a1 a2 hE
     have HD := Aside0.mk (B.out.1.trans (hdup.trans B.out.2.symm))
     clear hdup B
     go_loopg [3, 5] d.size (fun gg s3 s5 wr => ∃ (kk k2 q2 : Nat) (dk : Array Ed), s3 = .int .i64 kk ∧ s5 = .int .i64 k2 ∧ 1 ≤ k2 ∧ k + k2 ≤ d.size ∧ d.size - (k + k2) ≤ gg ∧ Aside0 (wr = putRowK encE 3 (Sort.ahead w q2) g 0 dk) ∧ Aside0 (CompInv d (k + k2) kk dk))
     case atStart => exact ⟨k, 1, _, d, rfl, rfl, Nat.le_refl _, by omega, by omega, ⟨(putRowK_self encE 3 (Sort.ahead w _) g 0 d (holdsK_ahead encE 3 w _ g 0 d HH.out)).symm⟩, ⟨CompInv.start hall.out (keeps_neg (by omega) HD.out)⟩⟩
     case round =>
      obtain ⟨kk, k2, q2, dk, rfl, rfl, h1, hle, a6, W2, I2⟩ := hrel
      have hkk := I2.out.lt
      have hds := I2.out.size
      have HK := Aside0.mk (show HoldsK encE 3 wr g 0 dk by rw [W2.out]; exact holdsK_putRowK encE 3 _ g 0 d dk (holdsK_ahead encE 3 w q2 g 0 d HH.out) hds)
      by_cases hlt2 : k + k2 < d.size
      ·obtain ⟨m0, m1, m2, _⟩ := cellE HK.out (i := k + k2) (by omega)
       obtain ⟨p0, p1, p2, _⟩ := cellE HK.out (i := k + (k2 - 1)) (by omega)
       obtain ⟨o0, o1, o2, f0, f1, f2⟩ := cellE HK.out (i := kk) (by omega)
       rw [I2.out.high _ (by omega), Nat.add_mul] at m0 m1 m2
       rw [I2.out.high _ (by omega), Nat.add_mul] at p0 p1 p2
       generalize hu : d[k + k2]! = u at m0 m1 m2
       generalize hv : d[k + (k2 - 1)]! = v at p0 p1 p2
       generalize dk[kk]! = old at o0 o1 o2
       have C := Aside0.mk (And.intro hu hv)
       clear hu hv
       by_cases huv : u = v
       ·have hE := fun W => eqE_yes (x := u) (y := v) huv W
        clear o0 o1 o2 f0 f1 f2
        go_wp2_with fail
        go_quiet (fail)
        go_wp2
        go_roundg (d.size - (k + (k2 + 1)))
        case measure => omega
        case rel => exact ⟨kk, k2 + 1, _, dk, rfl, by go_num, by omega, by omega, Nat.le_refl _, ⟨by rw [W2.out]; exact putRowK_drewN encE 3 w q2 _ g 0 dk⟩, ⟨I2.out.skip (keeps_neg (by omega) (by rw [show k + k2 - 1 = k + (k2 - 1) by omega, C.out.1, C.out.2]; exact huv))⟩⟩
       ·have hE := fun W => eqE_no (x := u) (y := v) huv W
        go_wp2_with fail
        go_quiet (fail)
        go_wp2
        go_roundg (d.size - (k + (k2 + 1)))
        case measure => omega
        case rel =>
         have a4 := store_worldK encE 3 (fun _ => rfl) w (wr.drewN nq) (q2 + nq) g 0 dk kk u (by omega) (by rw [W2.out]; exact putRowK_drewN encE 3 w q2 nq g 0 dk)
         rw [Nat.zero_add] at a4
         refine ⟨kk + 1, k2 + 1, q2 + nq, dk.setIfInBounds kk u, by go_num, by go_num, by omega, by omega, Nat.le_refl _, ⟨a4⟩, ⟨?_⟩⟩
         have := I2.out.keep hlt2 (keeps_pos (by rw [show k + k2 - 1 = k + (k2 - 1) by omega, C.out.1, C.out.2]; exact huv))
         rwa [C.out.1] at this
      ·have hend : k + k2 = d.size := by omega
       have hzl : (Builtin.zeroCells #[Value.int .i64 0, .int .i64 0, .int .i64 0] (d.size - kk)).toList.length = (d.size - kk) * 3 := by simp [Builtin.zeroCells, Nat.mul_comm]
       have hcl : ∀ ty, (Builtin.clear_ #[23] ty #[.slice (some ⟨g, kk * 3, none⟩) (d.size - kk) (cap - kk)]).run Try.prog wr = .ok (.tuple #[]) (wr.setCells g (kk * 3) (Builtin.zeroCells #[Value.int .i64 0, .int .i64 0, .int .i64 0] (d.size - kk)).toList) := by
        intro ty
        refine run_clear_edges wr ty g (kk * 3) (d.size - kk) (cap - kk) (by omega) (fun j hj => ?_) (fun j hj => ?_)
        ·rw [hzl] at hj
         have := HK.out.cell (i := kk + j / 3) (c := j % 3) (by omega) (Nat.mod_lt _ (by omega))
         rw [show 0 + (kk + j / 3) * 3 + j % 3 = kk * 3 + j by omega] at this
         rw [this.1]; rfl
        ·rw [hzl] at hj
         have := HK.out.cell (i := kk + j / 3) (c := j % 3) (by omega) (Nat.mod_lt _ (by omega))
         rw [show 0 + (kk + j / 3) * 3 + j % 3 = kk * 3 + j by omega] at this
         exact this.2
       have HW := Aside0.mk (clear_worldK encE 3 (fun _ => rfl) w wr q2 g 0 dk kk (d.size - kk) z51 (Builtin.zeroCells #[Value.int .i64 0, .int .i64 0, .int .i64 0] (d.size - kk)).toList (by omega) hzl (by
        intro t ht
        rw [getElem!_pos _ t (by rw [hzl]; exact ht)]
        have h3 : t % 3 < 3 := Nat.mod_lt _ (by omega)
        rcases (show t % 3 = 0 ∨ t % 3 = 1 ∨ t % 3 = 2 by omega) with h | h | h <;> simp [Builtin.zeroCells, h, encE, z51]) W2.out)
       generalize (Builtin.zeroCells #[Value.int .i64 0, .int .i64 0, .int .i64 0] (d.size - kk)).toList = zc at hcl HW
       clear hzl
       go_wp2
       go_ret
       have hI := I2.out
       rw [hend] at hI
       refine ⟨by rw [hI.len]; rfl, q2, ?_⟩
       have hw := HW.out
       rw [Nat.zero_add] at hw
       rw [hw, hI.len, ← hI.done z51]
    ·have hE := fun W => eqE_no (x := x) (y := y) hdup W
     go_wp2_with fail
     go_quiet (fail)
     go_wp2
     go_roundg (d.size - (k + 1))
     case measure => omega
     case rel =>
      refine ⟨k + 1, _, by omega, by omega, Nat.le_refl _, by go_num, rfl, ⟨fun j hj => ?_⟩⟩
      by_cases e : j = k
      ·subst e
       exact keeps_pos (by rw [B.out.1, B.out.2]; exact hdup)
      ·exact hall.out j (by omega)
   ·have : k = d.size := by omega
    subst this
    go_wp2
    go_ret
    obtain ⟨e1, e2⟩ := HS.out q hall.out
    exact ⟨by rw [e1]; rfl, q, e2⟩
theorem dd_len : ∀ l : List Ed, (dd l).length ≤ l.length
 | [] => Nat.le_refl _
 | [a] => Nat.le_refl _
 | a :: b :: r => by
  have ih := dd_len (b :: r)
  unfold dd
  split
  ·simp at ih ⊢; omega
  ·simp at ih ⊢; omega
theorem grown_sortedK (W : World) (g m : Nat) (d : Array Ed) (os : Array Obj) : W.grownBy (sortWorldK encE 3 W g 0 m d os) (some g) := by
 refine ⟨rfl, rfl, rfl, ?_, fun k hk hne => ?_⟩
 ·show W.heap.size ≤ ((W.heap.modify g (onCells (putCells id 0 (flatK encE 3 d)))) ++ os).size
  rw [Array.size_append, Array.size_modify]
  omega
 ·show ((W.heap.modify g (onCells (putCells id 0 (flatK encE 3 d)))) ++ os)[k]? = _
  rw [Array.getElem?_append_left (by rw [Array.size_modify]; omega), Array.getElem?_modify, if_neg (fun e => hne (by rw [e]))]
theorem sortC_any (base : Nat) (v : Value) (es : List Ed) (w : World) (h : Kd.R k51 51 w base (fun _ => True) v es) (hel : es.length ≤ 1000000) :
  Calls Try.prog 50 #[v, .func (.func 51) #[] #[]] w fun e w' => e = .returned (.tuple #[]) ∧ Kd.R k51 51 w' base (fun _ => True) v (sortedE es) ∧ w.grownBy w' v.ownBlock := by
 obtain ⟨A, c, rfl⟩ := Kd.R_slice h
 rcases A with _ | ad
 ·have h0 : es = [] := by
   obtain ⟨A', c', hv, _, hC⟩ := Kd.R_reads h
   injection hv with hA _ _
   subst hA
   rcases es with _ | ⟨x, r⟩
   ·rfl
   ·obtain ⟨ad, h, _⟩ := hC.2.2 (by simp)
    cases h
  subst h0
  refine (Calls.mono (R := fun e w' => e = .returned (.tuple #[]) ∧ w' = w) ?_ ?_)
  ·have := AnyF.slices_SortFunc_none Try.sortE none c (.func (.func 51) #[] #[]) w
   exact this
  ·rintro e w' ⟨rfl, rfl⟩
   exact ⟨rfl, by simpa [sortedE] using h, grown_of_below (Below.refl _ _) _⟩
 ·obtain ⟨g, rfl⟩ := Kd.R_head h
  refine (sortF_any g c es w (holdsK_of_R h) (Kd.R_lt h g rfl) hel).mono ?_
  rintro e w' ⟨rfl, n, os, rfl⟩
  have := R_sorted (es' := sortedE es) h (List.length_mergeSort es) n os
  rw [show (sortedE es).length = es.length from List.length_mergeSort es] at this
  exact ⟨rfl, this, grown_sortedK w g n _ os⟩
theorem sortedE_length (es : List Ed) : (sortedE es).length = es.length := List.length_mergeSort es
theorem compactE_any (g cap base : Nat) (es : List Ed) (w : World) (h : Kd.R k51 51 w base (fun _ => True) (.slice (some ⟨g, 0, none⟩) es.length cap) es) (hel : es.length ≤ 1000000) :
  Calls Try.prog 52 #[.slice (some ⟨g, 0, none⟩) es.length cap] w fun e w' => e = .returned (.slice (some ⟨g, 0, none⟩) (dd es).length cap) ∧ Kd.R k51 51 w' base (fun _ => True) (.slice (some ⟨g, 0, none⟩) (dd es).length cap) (dd es) ∧ w.grownBy w' (some g) := by
 have hc : es.length ≤ cap := (Kd.R_reads' h).2.1
 have hcd : compactUpTo es.toArray es.toArray.size = dd es := by rw [List.size_toArray]; exact compact_dd es
 have hw := compact_arr g cap es.toArray w (holdsK_of_R h) (by simpa using hel) (by simpa using hc)
 rw [hcd] at hw
 simp only [List.size_toArray] at hw
 refine hw.mono ?_
 rintro e w' ⟨rfl, q, rfl⟩
 have hl := dd_len es
 have hL : (dd es ++ List.replicate (es.length - (dd es).length) z51).length = es.length := by simp; omega
 have hs : putRowK encE 3 (Sort.ahead w q) g 0 (dd es ++ List.replicate (es.length - (dd es).length) z51).toArray = sortWorldK encE 3 w g 0 q (dd es ++ List.replicate (es.length - (dd es).length) z51).toArray #[] := by unfold sortWorldK; simp [grow]
 rw [hs]
 have hR := R_sorted h hL q #[]
 have hT := Kd.R_take (m := (dd es).length) hR (by simp)
 rw [List.take_left] at hT
 exact ⟨rfl, hT, grown_sortedK w g q _ #[]⟩
set_option maxHeartbeats 1000000 in
theorem compactE_none (A : Option Addr) (c : Nat) (w : World) : Calls Try.prog 52 #[.slice A 0 c] w fun e w' => e = .returned (.slice A 0 c) ∧ w' = w := by
 go_enter Try.func52, Try.ntmps52
 go_wp2
 go_ret
 exact ⟨rfl, rfl⟩
theorem compactC_any (base : Nat) (v : Value) (es : List Ed) (w : World) (h : Kd.R k51 51 w base (fun _ => True) v es) (hel : es.length ≤ 1000000) :
  Calls Try.prog 52 #[v] w fun e w' => ∃ v', e = .returned v' ∧ Kd.R k51 51 w' base (fun _ => True) v' (dd es) ∧ w.grownBy w' v.ownBlock := by
 obtain ⟨A, c, rfl⟩ := Kd.R_slice h
 rcases A with _ | ad
 ·have h0 : es = [] := by
   obtain ⟨A', c', hv, _, hC⟩ := Kd.R_reads h
   injection hv with hA _ _
   subst hA
   rcases es with _ | ⟨x, r⟩
   ·rfl
   ·obtain ⟨ad, h, _⟩ := hC.2.2 (by simp)
    cases h
  subst h0
  refine (compactE_none none c w).mono ?_
  rintro e w' ⟨rfl, rfl⟩
  exact ⟨_, rfl, h, grown_of_below (Below.refl _ _) _⟩
 ·obtain ⟨g, rfl⟩ := Kd.R_head h
  refine (compactE_any g c base es w h hel).mono ?_
  rintro e w' ⟨rfl, hR, hG⟩
  exact ⟨_, rfl, hR, hG⟩
end Go.Proofs.Ythaaockbapbooaa.H
set_option linter.unusedVariables false
set_option linter.unusedSimpArgs false
namespace Go.Proofs.Ythaaockbapbooaa.H
open Go.RowKit Go.Proofs.Ythaaockbapbooaa.Pr Go.Proofs.YthaaockbapbooaaW.PrintWords Go.Proofs.Ythaaockbapbooaa.Sem Go.Proofs.YthaaockbapbooaaW.PrintLast
set_option maxHeartbeats 4000000 in
set_option maxRecDepth 100000 in
theorem cloneS_any (xs : List ByteArray) (A : Option Addr) (c : Nat) (w : World) (hC : Kd.C Kd.string w A xs.length xs) (hel : xs.length ≤ 1000000) :
  Calls Try.prog 53 #[.slice A xs.length c] w fun e w' => ∃ v0 : Value, e = .returned v0 ∧ Kd.R Kd.string 9 w' w.heap.size (fun _ => True) v0 xs ∧ Below w.heap.size w w' := by
 have HC := Aside0.mk hC
 have HB := Aside0.mk (Below.refl w.heap.size w)
 rcases A with _ | ad
 ·have h0 : xs.length = 0 := by
   rcases Nat.eq_zero_or_pos xs.length with h | h
   ·exact h
   ·obtain ⟨ad, h, _⟩ := hC.2.2 h
    cases h
  obtain rfl : xs = [] := List.eq_nil_of_length_eq_zero h0
  clear hC HC h0
  have q_ : ∀ (W : World) (a : Option Addr) (n c n' c' : Nat), (binOp .eql 22 (.slice a n c) (.slice none n' c')).run Try.prog W = .ok (.bool a.isNone) W := fun W a n c n' c' => Lib.run_eql_slice_nil W _ _ a n c n' c' Try.underlying22
  go_enter Try.func53, Try.ntmps53
  go_wp2
  go_ret
  exact ⟨_, rfl, Kd.R_nil _ _ _ _ _, HB.out⟩
 ·clear hC
  have q_ : ∀ (W : World) (a : Option Addr) (n c n' c' : Nat), (binOp .eql 22 (.slice a n c) (.slice none n' c')).run Try.prog W = .ok (.bool a.isNone) W := fun W a n c n' c' => Lib.run_eql_slice_nil W _ _ a n c n' c' Try.underlying22
  go_enter Try.func53, Try.ntmps53
  go_wp2_with (first
   | ((with_reducible refine gate_dst (N := 5) rfl ?_); refine Kd.R_lit Kd.string _ 9 ?hg (N := 5) ?hd (xs := ([] : List ByteArray)) (inner := []) (ok := fun _ => True) (okp := fun _ => True) ?hr ?hp (fun _ hk => hk) trivial (Below.refl _ _) (Nat.le_refl _) (by simp) ?_; (case hd => rfl); (case hg => rfl); (case hr => first | (go_simp; done) | (go_simp; rfl)); (case hp => exact (Reps.none _ _)); intro v1 w1 ho hb hg_ hnew_; clear hg_ hnew_; have HO := Aside0.mk ho; have HB1 := Aside0.mk (below_step HB.out hb); clear ho hb)
   | (at_builtin; refine Kd.R_append_rows Kd.string (w0 := w) w.heap.size rfl (.tmp 5) (.tmp 6) 22 9 (.string ⟨#[]⟩) 16 rfl Try.underlying22 info9 rfl (by decide) (by omega) v1 [] xs (some ad) _ c (fun _ => True) (fun _ => False) rfl rfl HO.out (Kd.C_below HC.out HB1.out) (fun _ _ h => h) (fun _ h => h.elim) (fun _ _ => trivial) HB1.out HB1.out.size (by simp; omega) ?_; intro v2 w2 ho hb hg hat; have HO2 := Aside0.mk ho; have HB2 := Aside0.mk hb; clear ho hb hg hat))
  go_ret
  exact ⟨_, rfl, by simpa using HO2.out, HB2.out⟩
theorem sortedE_sortE (es : List Ed) : dd (sortedE es) = sortE es := by
 refine dd_sortE ?_ fun x => (List.mergeSort_perm _ _).mem_iff
 have := List.pairwise_mergeSort (le := fun x y => !(ltOf cmpE) y x) (fun a b c h1 h2 => by
  simp only [ltE, Bool.not_eq_true', decide_eq_false_iff_not] at *
  unfold elt at *; omega) (fun a b => by
  simp only [ltE, Bool.or_eq_true, Bool.not_eq_true', decide_eq_false_iff_not]
  unfold elt; omega) es
 refine this.imp fun {a b} h => ?_
 simpa only [ltE, Bool.not_eq_true', decide_eq_false_iff_not] using h
theorem BoxL.set2 {w : World} {b : Nat} {n : Int} {v1 v2 : Value} (h : BoxL w b n v1 v2) (u : Value) : BoxL (w.setCell ⟨b, 2, none⟩ u) b n v1 u := blk_put h 2 u rfl
set_option maxRecDepth 100000 in
theorem sort_any (n : Int) (ls : List ByteArray) (es : List Ed) (A1 A2 : Option Addr) (c1 c2 : Nat) (w : World) (hr1 : Kd.C Kd.string w A1 ls.length ls) (hc1 : ls.length ≤ c1) (hr2 : Kd.C k51 w A2 es.length es) (hc2 : es.length ≤ c2) (hl : ls.length ≤ 1000000) (he : es.length ≤ 1000000) {r1 : Int} {r2 : List ByteArray} {r3 : List Ed} {r4 : Int} (h : (if mayR n ls (sortE es) then (n, ls, sortE es, (0 : Int)) else (0, [], [], 1)) = (r1, r2, r3, r4)) :
  Calls Try.prog 25 #[.agg #[.int .i64 n, .slice A1 ls.length c1, .slice A2 es.length c2]] w fun e w' => ∃ v1_ v2_ : Value, e = .returned (.tuple #[.agg #[.int .i64 r1, v1_, v2_], .int .i64 r4]) ∧ Kd.R Kd.string 9 w' w.heap.size (fun _ => True) v1_ r2 ∧ Kd.R k51 51 w' w.heap.size (fun _ => True) v2_ r3 ∧ Below w.heap.size w w' := by
 have HB := Aside0.mk (Below.refl w.heap.size w)
 have d3 := Aside0.mk hr1
 have e6 := Aside0.mk hr2
 have HH := Aside0.mk h
 clear hr1 hr2 h
 go_enter Try.func25, Try.ntmps25
 go_wp2_with fail
 refine (clone_any es A2 c2 _ (Kd.C_below e6.out (below_alloc (below_alloc HB.out _) _)) he).mono ?_
 rintro e w1 ⟨v1, rfl, hR, hB⟩
 have d4 := Kd.R_lower (base' := w.heap.size) hR (below_alloc (below_alloc HB.out _) _).size
 have a8 := Aside0.mk (show BoxL w1 w.heap.size n (.slice A1 ls.length c1) (.slice A2 es.length c2) from blk_below (blk_alloc (blk_new w _) _) hB)
 have e2 := Aside0.mk (show w1.heap[w.heap.size + 1]? = some (.cells #[.int .i64 0, .slice none 0 0, .slice none 0 0] 25 (0, 0)) from blk_below (by have := blk_new (w.alloc (.cells #[.int .i64 n, .slice A1 ls.length c1, .slice A2 es.length c2] 25)) (.cells #[.int .i64 0, .slice none 0 0, .slice none 0 0] 25); simpa using this) hB)
 have d8 := Aside0.mk (below_then (below_alloc (below_alloc HB.out _) _) (below_alloc (below_alloc HB.out _) _).size hB)
 have e0 := Aside0.mk d4
 have b2 := a8.out.c2
 have f2 := blk_frozen a8.out 2
 obtain ⟨A4, c4, e4⟩ := Kd.R_slice d4
 subst e4
 clear hR hB d4
 go_wp2_with fail
 have b3 := Aside0.mk (a8.out.set2 (.slice A4 es.length c4))
 have b4 := Aside0.mk (blk_far e2.out (p := ⟨w.heap.size, 2, none⟩) (by simp) (.slice A4 es.length c4))
 have a4 := Aside0.mk (Kd.R_set e0.out a8.out (by decide) 2 (.slice A4 es.length c4))
 have b7 := Aside0.mk (below_set d8.out (Nat.le_refl _) (j := 2) (v := .slice A4 es.length c4))
 clear b2 f2 a8 e2 e0 d8
 generalize w1.setCell ⟨w.heap.size, 2, none⟩ (.slice A4 es.length c4) = w2 at b3 b4 a4 b7 ⊢
 refine (sortC_any w.heap.size _ es w2 a4.out he).mono ?_
 rintro e w3 ⟨rfl, hR, hG⟩
 have b6 := Aside0.mk (show BoxL w3 w.heap.size n (.slice A1 ls.length c1) (.slice A4 es.length c4) from blk_grown b3.out hG (Kd.R_ne a4.out b3.out (by decide)))
 have d2 := Aside0.mk (blk_grown b4.out hG (Kd.R_ne a4.out b4.out (by decide)))
 have d1 := Aside0.mk (pw_below_grown b7.out _ b7.out.size hG (fun k hk => Kd.R_base a4.out k hk))
 have a7 := Aside0.mk hR
 have b2 := b6.out.c2
 clear b3 b4 a4 b7 hR hG
 go_wp2_with fail
 refine (compactC_any w.heap.size _ (sortedE es) w3 a7.out (by rw [sortedE_length]; exact he)).mono ?_
 rintro e w4 ⟨v5, rfl, hR, hG⟩
 rw [sortedE_sortE] at hR
 have a3 := Aside0.mk (show BoxL w4 w.heap.size n (.slice A1 ls.length c1) (.slice A4 es.length c4) from blk_grown b6.out hG (Kd.R_ne a7.out b6.out (by decide)))
 have e1 := Aside0.mk (blk_grown d2.out hG (Kd.R_ne a7.out d2.out (by decide)))
 have d9 := Aside0.mk (pw_below_grown d1.out _ d1.out.size hG (fun k hk => Kd.R_base a7.out k hk))
 obtain ⟨A6, c6, e7⟩ := Kd.R_slice hR
 subst e7
 have d7 := Aside0.mk hR
 have b0 := a3.out.c0
 have b1 := a3.out.c1
 have b2' := a3.out.c2
 have f2 := blk_frozen a3.out 2
 clear b2 b6 d2 a7 d1 hR hG
 go_wp2_with fail
 have b8 := Aside0.mk (a3.out.set2 (.slice A6 (sortE es).length c6))
 have a9 := Aside0.mk (blk_far e1.out (p := ⟨w.heap.size, 2, none⟩) (by simp) (.slice A6 (sortE es).length c6))
 have b5 := Aside0.mk (Kd.R_set d7.out a3.out (by decide) 2 (.slice A6 (sortE es).length c6))
 have a1 := Aside0.mk (below_set d9.out (Nat.le_refl _) (j := 2) (v := .slice A6 (sortE es).length c6))
 clear b0 b1 b2' f2 a3 e1 d7 d9
 generalize w4.setCell ⟨w.heap.size, 2, none⟩ (.slice A6 (sortE es).length c6) = w5 at b8 a9 b5 a1 ⊢
 obtain ⟨_, _, hv, hcl, hC⟩ := Kd.R_reads b5.out
 injection hv with hA _ hc
 subst hA hc
 have d6 := Aside0.mk hC
 have f3 := Aside0.mk hcl
 clear hC hcl
 cases hm : mayR n ls (sortE es) with
 | false =>
  have HF := HH.out
  rw [hm, if_neg (by simp)] at HF
  simp only [Prod.mk.injEq] at HF
  obtain ⟨rfl, rfl, rfl, rfl⟩ := HF
  refine (check_no n ls (sortE es) A1 A6 c1 c6 w5 (Kd.C_below d3.out a1.out) d6.out (by rw [may_same]; exact hm)).mono ?_
  rintro e w6 ⟨rfl, hB⟩
  have a0 := Aside0.mk (blk_below a9.out hB)
  have a5 := Aside0.mk (below_then a1.out a1.out.size hB)
  have y0 := (blk_cell a0.out 0).trans rfl
  have y1 := (blk_cell a0.out 1).trans rfl
  have y2 := (blk_cell a0.out 2).trans rfl
  have g0 := blk_frozen a0.out 0
  have g1 := blk_frozen a0.out 1
  have g2 := blk_frozen a0.out 2
  clear hB hm
  go_wp2
  refine bodyPost_ret (results_ct rfl _ _ (w.heap.size + 1) 25 #[.int .i64 0, .slice none 0 0, .slice none 0 0] (0, 0) _ rfl (blk_put (blk_put (blk_put a0.out 0 (.int .i64 0) rfl) 1 (.slice none 0 0) rfl) 2 (.slice none 0 0) rfl) Try.underlying25 rfl (by kernel_rfl)) rfl ?_
  exact ⟨_, _, rfl, Kd.R_nil _ _ _ _ _, Kd.R_nil _ _ _ _ _, below_set (below_set (below_set a5.out (by omega)) (by omega)) (by omega)⟩
 | true =>
  have HF := HH.out
  rw [hm, if_pos rfl] at HF
  simp only [Prod.mk.injEq] at HF
  obtain ⟨rfl, rfl, rfl, rfl⟩ := HF
  refine (check_yes n ls (sortE es) A1 A6 c1 c6 w5 (Kd.C_below d3.out a1.out) d6.out (by rw [may_same]; exact hm)).mono ?_
  rintro e w6 ⟨rfl, hB⟩
  have d5 := Aside0.mk (b8.out.below hB)
  have a0 := Aside0.mk (blk_below a9.out hB)
  have f0 := Aside0.mk (Kd.R_below b5.out hB)
  have a5 := Aside0.mk (below_then a1.out a1.out.size hB)
  have b1 := d5.out.c1
  clear hB hm b8 a9 b5 a1
  go_wp2_with fail
  refine (cloneS_any ls A1 c1 w6 (Kd.C_below d3.out a5.out) hl).mono ?_
  rintro e w7 ⟨v8, rfl, hR, hB⟩
  obtain ⟨A8, c8, e9⟩ := Kd.R_slice hR
  subst e9
  have a6 := Aside0.mk (d5.out.below hB)
  have a2 := Aside0.mk (blk_below a0.out hB)
  have e3 := Aside0.mk (Kd.R_below f0.out hB)
  have e8 := Aside0.mk (Kd.R_lower hR a5.out.size)
  have e5 := Aside0.mk (below_then a5.out a5.out.size hB)
  have b0 := a6.out.c0
  have b1' := a6.out.c1
  have b2 := a6.out.c2
  have f1 := blk_frozen a6.out 1
  have y0 := (blk_cell a2.out 0).trans rfl
  have y1 := (blk_cell a2.out 1).trans rfl
  have y2 := (blk_cell a2.out 2).trans rfl
  have g0 := blk_frozen a2.out 0
  have g1 := blk_frozen a2.out 1
  have g2 := blk_frozen a2.out 2
  clear b1 hB hR
  go_wp2
  refine bodyPost_ret (results_ct rfl _ _ (w.heap.size + 1) 25 #[.int .i64 n, .slice A8 ls.length c8, .slice A6 (sortE es).length c6] (0, 0) _ rfl (blk_put (blk_put (blk_put (blk_far a2.out (p := ⟨w.heap.size, 1, none⟩) (by simp) _) 0 (.int .i64 n) rfl) 1 (.slice A8 ls.length c8) rfl) 2 (.slice A6 (sortE es).length c6) rfl) Try.underlying25 rfl (by kernel_rfl)) rfl ?_
  have b9 := blk_far a2.out (p := ⟨w.heap.size, 1, none⟩) (by simp) (.slice A8 ls.length c8)
  have d0 := blk_put b9 0 (.int .i64 n) rfl
  have hYa := blk_put d0 1 (.slice A8 ls.length c8) rfl
  exact ⟨_, _, rfl, Kd.R_set (Kd.R_set (Kd.R_set (Kd.R_set e8.out a6.out (by decide) 1 _) b9 (by decide) 0 _) d0 (by decide) 1 _) hYa (by decide) 2 _,
   Kd.R_set (Kd.R_set (Kd.R_set (Kd.R_set e3.out a6.out (by decide) 1 _) b9 (by decide) 0 _) d0 (by decide) 1 _) hYa (by decide) 2 _,
   below_set (below_set (below_set (below_set e5.out (Nat.le_refl _)) (by omega)) (by omega)) (by omega)⟩
end Go.Proofs.Ythaaockbapbooaa.H
set_option linter.unusedVariables false
set_option linter.unusedSimpArgs false
namespace Go.Proofs.Ythaaockbapbooaa.Pr
open Go.RowKit Go.Proofs.YthaaockbapbooaaW.PrintWords Go.Proofs.YthaaockbapbooaaW.PrintLast Go.Proofs.YthaaockbapbooaaW.PrintMore
def Pr26d.f (a0_0 : Int) (l0_1 : List ByteArray) (l0_2 : List S51) : Option Bool := some (H.mayR a0_0 l0_1 l0_2)
theorem Pr26d.calls (a0_0 : Int) (A0_1 : Option Addr) (c0_1 : Nat) (l0_1 : List ByteArray) (A0_2 : Option Addr) (c0_2 : Nat) (l0_2 : List S51) (r : Bool) (w : World) (hr0_1 : Kd.C Kd.string w A0_1 l0_1.length l0_1) (hc0_1 : l0_1.length ≤ c0_1) (hr0_2 : Kd.C k51 w A0_2 l0_2.length l0_2) (hc0_2 : l0_2.length ≤ c0_2) (h : Pr26d.f a0_0 l0_1 l0_2 = some r) :
  Calls Try.prog 15 #[.agg #[.int .i64 a0_0, .slice A0_1 l0_1.length c0_1, .slice A0_2 l0_2.length c0_2]] w fun e w' => e = .returned (.bool r) ∧ Below w.heap.size w w' := by
 have e : H.mayR a0_0 l0_1 l0_2 = r := by simpa [Pr26d.f] using h
 subst e
 exact H.may_any a0_0 l0_1 l0_2 A0_1 A0_2 c0_1 c0_2 w hr0_1 hr0_2
def Pxi.f (a0_0 : Int) (l0_1 : List ByteArray) (l0_2 : List S51) : Option Int := some (H.errB (H.mayR a0_0 l0_1 l0_2))
theorem Pxi.calls (a0_0 : Int) (A0_1 : Option Addr) (c0_1 : Nat) (l0_1 : List ByteArray) (A0_2 : Option Addr) (c0_2 : Nat) (l0_2 : List S51) (r : Int) (w : World) (hr0_1 : Kd.C Kd.string w A0_1 l0_1.length l0_1) (hc0_1 : l0_1.length ≤ c0_1) (hr0_2 : Kd.C k51 w A0_2 l0_2.length l0_2) (hc0_2 : l0_2.length ≤ c0_2) (h : Pxi.f a0_0 l0_1 l0_2 = some r) :
  Calls Try.prog 27 #[.agg #[.int .i64 a0_0, .slice A0_1 l0_1.length c0_1, .slice A0_2 l0_2.length c0_2]] w fun e w' => e = .returned (.int .i64 r) ∧ Below w.heap.size w w' := by
 have e : H.errB (H.mayR a0_0 l0_1 l0_2) = r := by simpa [Pxi.f] using h
 subst e
 rw [← H.may_same]
 exact H.check_any a0_0 l0_1 l0_2 A0_1 A0_2 c0_1 c0_2 w hr0_1 hr0_2
def Pxj.f (a0_0 : Int) (l0_1 : List ByteArray) (l0_2 : List S51) : Option (Int × List ByteArray × List S51 × Int) :=
 if l0_2.length ≤ 1000000 ∧ l0_1.length ≤ 1000000 then some (if H.mayR a0_0 l0_1 (Sem.sortE l0_2) then (a0_0, l0_1, Sem.sortE l0_2, 0) else (0, [], [], 1)) else none
theorem Pxj.calls (a0_0 : Int) (A0_1 : Option Addr) (c0_1 : Nat) (l0_1 : List ByteArray) (A0_2 : Option Addr) (c0_2 : Nat) (l0_2 : List S51) (r1 : Int) (r2 : List ByteArray) (r3 : List S51) (r4 : Int) (w : World) (hr0_1 : Kd.C Kd.string w A0_1 l0_1.length l0_1) (hc0_1 : l0_1.length ≤ c0_1) (hr0_2 : Kd.C k51 w A0_2 l0_2.length l0_2) (hc0_2 : l0_2.length ≤ c0_2) (h : Pxj.f a0_0 l0_1 l0_2 = some (r1, r2, r3, r4)) :
  Calls Try.prog 25 #[.agg #[.int .i64 a0_0, .slice A0_1 l0_1.length c0_1, .slice A0_2 l0_2.length c0_2]] w fun e w' => ∃ v1_ v2_ : Value, e = .returned (.tuple #[.agg #[.int .i64 r1, v1_, v2_], .int .i64 r4]) ∧ Kd.R Kd.string 9 w' w.heap.size (fun _ => True) v1_ r2 ∧ Kd.R k51 51 w' w.heap.size (fun _ => True) v2_ r3 ∧ Below w.heap.size w w' := by
 unfold Pxj.f at h
 split at h
 ·rename_i hn
  simp only [Option.some.injEq] at h
  exact H.sort_any a0_0 l0_1 l0_2 A0_1 A0_2 c0_1 c0_2 w hr0_1 hc0_1 hr0_2 hc0_2 hn.2 hn.1 h
 ·cases h
end Go.Proofs.Ythaaockbapbooaa.Pr
set_option linter.unusedVariables false
set_option linter.unusedSimpArgs false
namespace Go.Proofs.Ythaaockbapbooaa.H
open Go.RowKit Go.Proofs.Ythaaockbapbooaa.Pr Go.Proofs.YthaaockbapbooaaW.PrintWords Go.Proofs.Ythaaockbapbooaa.Sem
theorem Ev.pos {α : Type} {c : Prop} [Decidable c] {a b : Nat → Option α} {r : α} (h : c) (e : Ev a r) : Ev (fun k => if c then a k else b k) r := by
 simp only [if_pos h]
 exact e
theorem Ev.neg {α : Type} {c : Prop} [Decidable c] {a b : Nat → Option α} {r : α} (h : ¬ c) (e : Ev b r) : Ev (fun k => if c then a k else b k) r := by
 simp only [if_neg h]
 exact e
theorem Ev.bindS {α β : Type} {g : Option α} {f : Nat → α → Option β} {a : α} {r : β} (h : g = some a) (k : Ev (fun n => f n a) r) : Ev (fun n => g.bind (f n)) r := by
 subst h
 simpa using k
theorem Ev.last {α : Type} {g : Nat → Option α} {r : α} (h : Ev g r) : Ev (fun n => (g n).bind fun t => some t) r := by
 obtain ⟨K, h⟩ := h
 exact ⟨K, fun k hk => by simp [h k hk]⟩
theorem w1n {k : Nat} (h1 : (k : Int) < 4611686018427387904) : wrap64 ((k : Int) + 1) = ((k + 1 : Nat) : Int) := by unfold wrap64; omega
theorem wid {i : Int} (h0 : -4611686018427387904 ≤ i) (h1 : i < 4611686018427387904) : wrap64 i = i := by unfold wrap64; omega
theorem rd51 (es : List Ed) (i : Nat) : rd_T51 es (i : Int) = es.getD i z51 := rfl
end Go.Proofs.Ythaaockbapbooaa.H
