/-
  Parts of the proof of LtsChecks (joined by wip/tools/bundle.py), part 1: plain words and walks of the functions that the law reaches.
-/
import Derived.Test.YthaaockbapbooaaProg
import Derived.Below
import Derived.Deep.Draws
import Derived.Deep.AppendLies
import Derived.Maps.AppendAt
import Derived.OwnWalk
import Derived.Laws.BytesArg
import Derived.Laws.MakeOwn
import Derived.Laws.OwnMore
import Derived.Deep.OwnRows
import Derived.Tactics
import Derived.Lib.ConvBytes
import Derived.Laws.Slices
import Derived.WalkKit
import Derived.KernelRfl
import Derived.RowKit3
import Derived.Deep.LoopGhost
import Derived.Deep.QuietTactic
import Derived.BigQuiet
import Derived.WideLaws
import Derived.Deep.DeepCutAuto
import Derived.Deep.CutBlock
import Derived.Deep.RegionHeld3
import Derived.Laws.Rows
import Derived.Lib.AppendStr
import Derived.ArgAppend
import Derived.Laws.IdiomCopy
import Derived.OrdersHeld
import Derived.Laws.BitsLemmas
import Derived.RowKit
import Derived.Test.YthaaockbapbooaaWWords
import Derived.Test.YthaaockbapbooaaWLast
import Derived.Test.YthaaockbapbooaaWTab
import Derived.Test.YthaaockbapbooaaWApart
import Derived.Test.YthaaockbapbooaaWZeros
import Derived.Test.YthaaockbapbooaaWShare
import Derived.Test.YthaaockbapbooaaWN
import Derived.Test.YthaaockbapbooaaWEqStruct
import Derived.Test.YthaaockbapbooaaWRepsOne
import Derived.Test.YthaaockbapbooaaWGuard
import Derived.Test.YthaaockbapbooaaWMore
import Derived.WalkSpells
import Derived.Lib.Hide
import Derived.DeepKeys4
import Derived.Lib.SmallJoins
import Derived.OpenShut
import Derived.ProofKit
import Derived.Shelf.Small.Bits
import Derived.Shelf.Small.Wraps
import Derived.Shelf.Strconv.Itoa0
import Derived.Shelf.Sort.Plain
import Derived.Shelf.Slices.Turned
import Derived.Shelf.Slices.Equal
import Derived.Shelf.Slices.CompactS
import Derived.Shelf.Slices.Cells
import Derived.Shelf.Slices.In.SortNone
import Derived.Shelf.Slices.Empties2
import Derived.Shelf.SlSortCmp.NoneTotal
import Derived.Ground.SlsfProg
import Derived.Sort.OwnSorted
import Derived.Lib.OwnBridge
import Derived.Outline
import Derived.WalkLawsBesides
import Derived.Lib.SliceRun
import Derived.Lib.SlicesCompact
import Derived.Test.YthaaockbapbooaaRows
import Derived.ShutString
import Derived.ChangeOld
import Derived.SizedLaws
namespace Go.Proofs.Ythaaockbapbooaa.Pr
open Go.RowKit Go.Proofs.YthaaockbapbooaaW.PrintWords Go.Proofs.YthaaockbapbooaaW.PrintLast Go.Proofs.YthaaockbapbooaaW.PrintMore
attribute [local go_sem] max2_int min2_int max_two min_two max_three min_three max_four min_four
set_option linter.unusedVariables false
set_option linter.unusedSimpArgs false
def errW : Option Int → Value
 | none => .nilIface
 | some c => .iface 0 (.int .i64 c)
theorem errW_none : errW none = .nilIface := rfl
theorem errW_some (c : Int) : errW (some c) = .iface 0 (.int .i64 c) := rfl
theorem info3 : (Try.prog.info? 3).map (fun i => (i.zero, i.size, i.bytes)) = some (some (.int .i64 0), 1, 8) := by kernel_rfl
theorem info4 : (Try.prog.info? 4).map (fun i => (i.zero, i.size, i.bytes)) = some (some (.bool false), 1, 1) := by kernel_rfl
theorem info9 : (Try.prog.info? 9).map (fun i => (i.zero, i.size, i.bytes)) = some (some (.string ⟨#[]⟩), 1, 16) := by kernel_rfl
theorem info51 : (Try.prog.info? 51).map (fun i => (i.zero, i.size, i.bytes)) = some (some (.agg #[(.int .i64 0), (.int .i64 0), (.int .i64 0)]), 3, 24) := by kernel_rfl
structure S51 where
  f0 : Int
  f1 : Int
  f2 : Int
def z51 : S51 := ⟨(0 : Int), (0 : Int), (0 : Int)⟩
def k51 : Kd S51 := Kd.iso (Kd.pair (Kd.int .i64) (Kd.pair (Kd.int .i64) (Kd.int .i64))) (fun x : S51 => (x.f0, x.f1, x.f2))
theorem k51_open {w : World} {x : S51} {cs : List Value} (h : k51.K w x cs) : cs = [.int .i64 x.f0, .int .i64 x.f1, .int .i64 x.f2] := by
 obtain ⟨_, _, rfl, rfl, ⟨_, _, rfl, rfl, rfl⟩⟩ := h
 exact rfl
theorem k51_openM {w : World} {base : Nat} {ok : Nat → Prop} {x : S51} {cs : List Value} (h : k51.M w base ok x cs) : cs = [.int .i64 x.f0, .int .i64 x.f1, .int .i64 x.f2] := by
 obtain ⟨_, _, rfl, rfl, ⟨_, _, rfl, rfl, rfl⟩⟩ := h
 exact rfl
theorem k51_mk (w : World) (x : S51)  : k51.K w x [.int .i64 x.f0, .int .i64 x.f1, .int .i64 x.f2] := ⟨[.int .i64 x.f0], [.int .i64 x.f1, .int .i64 x.f2], rfl, rfl, ⟨[.int .i64 x.f1], [.int .i64 x.f2], rfl, rfl, rfl⟩⟩
theorem k51_mkM (w : World) (base : Nat) (ok : Nat → Prop) (x : S51)  : k51.M w base ok x [.int .i64 x.f0, .int .i64 x.f1, .int .i64 x.f2] := ⟨[.int .i64 x.f0], [.int .i64 x.f1, .int .i64 x.f2], rfl, rfl, ⟨[.int .i64 x.f1], [.int .i64 x.f2], rfl, rfl, rfl⟩⟩
def rd_T51 (xs : List S51) (i : Int) : S51 := xs.getD i.toNat z51
theorem at_T51 {w : World} {A : Option Addr} {n : Nat} {xs : List S51} (h : Kd.C k51 w A n xs) (i : Int) (h0 : 0 ≤ i) (h1 : i < n) : ∃ ad , A = some ad ∧ w.cell? (ad.add (i.toNat * 3)) = some (.int .i64 (rd_T51 xs i).f0) ∧ w.cell? ⟨(ad.add (i.toNat * 3)).block, (ad.add (i.toNat * 3)).off + 1, none⟩ = some (.int .i64 (rd_T51 xs i).f1) ∧ w.cell? ⟨(ad.add (i.toNat * 3)).block, (ad.add (i.toNat * 3)).off + 2, none⟩ = some (.int .i64 (rd_T51 xs i).f2) := by
 obtain ⟨ad, c, e, _, hK, hc0⟩ := Kd.C_get h z51 i h0 h1
 have hc : ∀ j u, c[j]? = some u → w.cell? (ad.add (i.toNat * 3 + j)) = some u := hc0
 obtain rfl := k51_open hK
 exact ⟨ad, e, hc 0 _ rfl, by rw [← add_field _ _ 1 (by omega)]; exact hc 1 _ rfl, by rw [← add_field _ _ 2 (by omega)]; exact hc 2 _ rfl⟩
end Go.Proofs.Ythaaockbapbooaa.Pr
set_option linter.unusedVariables false
set_option linter.unusedSimpArgs false
namespace Go.Proofs.Ythaaockbapbooaa.Sem
open Go.Proofs.Ythaaockbapbooaa.Pr
abbrev Ed := S51
def cmpI (x y : Int) : Int := if x < y then -1 else if y < x then 1 else 0
def orL : List Int → Int
 | [] => 0
 | x :: r => if x != 0 then x else orL r
theorem orL_zero : ∀ (xs : List Int), (∀ j, j < xs.length → (xs.getD j 0 != 0) = false) → orL xs = 0
 | [], _ => rfl
 | x :: r, h => by
  have h0 := h 0 (by simp)
  simp only [List.getD_cons_zero] at h0
  simp only [orL, h0, Bool.false_eq_true, if_false]
  exact orL_zero r (fun j hj => by have := h (j + 1) (by simp; omega); simpa using this)
theorem orL_at : ∀ (xs : List Int) (k : Nat), (∀ j, j < k → (xs.getD j 0 != 0) = false) → k < xs.length → (xs.getD k 0 != 0) = true → orL xs = xs.getD k 0
 | [], k, _, h, _ => by simp at h
 | x :: r, 0, _, _, h => by simp only [List.getD_cons_zero] at h; simp [orL, h]
 | x :: r, k + 1, h, hl, hk => by
  have h0 := h 0 (by omega)
  simp only [List.getD_cons_zero] at h0
  simp only [orL, h0, Bool.false_eq_true, if_false]
  rw [orL_at r k (fun j hj => by have := h (j + 1) (by omega); simpa using this) (by simpa using hl) (by simpa using hk)]
  simp
def cmpE (a b : Ed) : Int := orL [cmpI a.f0 b.f0, cmpI a.f1 b.f1, cmpI a.f2 b.f2]
def elt (a b : Ed) : Prop := a.f0 < b.f0 ∨ a.f0 = b.f0 ∧ (a.f1 < b.f1 ∨ a.f1 = b.f1 ∧ a.f2 < b.f2)
instance (a b : Ed) : Decidable (elt a b) := by unfold elt; infer_instance
theorem cmpE_neg (a b : Ed) : cmpE a b < 0 ↔ elt a b := by
 unfold cmpE orL orL orL orL cmpI elt
 repeat' split
 all_goals simp_all
 all_goals omega
theorem cmpE_zero (a b : Ed) : cmpE a b = 0 ↔ a = b := by
 obtain ⟨a0, a1, a2⟩ := a
 obtain ⟨b0, b1, b2⟩ := b
 unfold cmpE orL orL orL orL cmpI
 simp only [S51.mk.injEq]
 repeat' split
 all_goals simp_all
 all_goals omega
def idxP {α : Type} (p : α → Bool) : List α → Int
 | [] => -1
 | x :: r => if p x then 0 else if idxP p r < 0 then -1 else idxP p r + 1
theorem idxP_none {α : Type} (p : α → Bool) (d : α) : ∀ (xs : List α), (∀ j, j < xs.length → p (xs.getD j d) = false) → idxP p xs = -1
 | [], _ => rfl
 | x :: r, h => by
  have h0 := h 0 (by simp)
  simp only [List.getD_cons_zero] at h0
  have ih := idxP_none p d r (fun j hj => by have := h (j + 1) (by simp; omega); simpa using this)
  simp [idxP, h0, ih]
theorem idxP_at {α : Type} (p : α → Bool) (d : α) : ∀ (xs : List α) (k : Nat), (∀ j, j < k → p (xs.getD j d) = false) → k < xs.length → p (xs.getD k d) = true → idxP p xs = (k : Int)
 | [], k, _, h, _ => by simp at h
 | x :: r, 0, _, _, h => by simp only [List.getD_cons_zero] at h; simp [idxP, h]
 | x :: r, k + 1, h, hl, hk => by
  have h0 := h 0 (by omega)
  simp only [List.getD_cons_zero] at h0
  have ih := idxP_at p d r k (fun j hj => by have := h (j + 1) (by omega); simpa using this) (by simpa using hl) (by simpa using hk)
  simp only [idxP, h0, ih]
  rw [if_neg (by simp), if_neg (by omega)]
  omega
theorem idxP_nonneg {α : Type} (p : α → Bool) : ∀ (xs : List α), decide (0 ≤ idxP p xs) = xs.any p
 | [] => rfl
 | x :: r => by
  have ih := idxP_nonneg p r
  cases hx : p x with
  | true => simp [idxP, hx]
  | false =>
   simp only [idxP, hx, List.any_cons, Bool.false_or]
   rw [← ih]
   simp only [Bool.false_eq_true, if_false]
   split
   ·rename_i h; rw [decide_eq_false (by omega), decide_eq_false (by omega)]
   ·rename_i h; rw [decide_eq_true (by omega), decide_eq_true (by omega)]
def tooLong (s : ByteArray) : Bool := decide (200 < s.size)
def okAt (n nl : Int) (es : List Ed) (k : Nat) : Bool :=
 decide (0 ≤ (es.getD k z51).f0 ∧ (es.getD k z51).f0 < n) && (decide (0 ≤ (es.getD k z51).f2 ∧ (es.getD k z51).f2 < n) &&
  (decide (0 ≤ (es.getD k z51).f1) && (decide ((es.getD k z51).f1 < nl) && (decide (k = 0) || decide (cmpE (es.getD (k - 1) z51) (es.getD k z51) < 0)))))
end Go.Proofs.Ythaaockbapbooaa.Sem
set_option linter.unusedVariables false
set_option linter.unusedSimpArgs false
namespace Go.Proofs.Ythaaockbapbooaa.H
open Go.RowKit Go.Proofs.Ythaaockbapbooaa.Pr Go.Proofs.YthaaockbapbooaaW.PrintWords Go.Proofs.Ythaaockbapbooaa.Sem
theorem ret_int {k : IntKind} {a b : Int} (h : a = b) : Ending.returned (.int k a) = .returned (.int k b) := by rw [h]
theorem ret_bool {a b : Bool} (h : a = b) : Ending.returned (.bool a) = .returned (.bool b) := by rw [h]
theorem atE {w : World} {A : Option Addr} {n : Nat} {xs : List Ed} (h : Kd.C k51 w A n xs) (k : Nat) (hk : k < n) : ∃ ad, A = some ad ∧ w.cell? (ad.add (k * 3)) = some (.int .i64 (xs.getD k z51).f0) ∧ w.cell? ⟨(ad.add (k * 3)).block, (ad.add (k * 3)).off + 1, none⟩ = some (.int .i64 (xs.getD k z51).f1) ∧ w.cell? ⟨(ad.add (k * 3)).block, (ad.add (k * 3)).off + 2, none⟩ = some (.int .i64 (xs.getD k z51).f2) :=
 at_T51 h (k : Int) (by omega) (by omega)
theorem atS {w : World} {A : Option Addr} {n : Nat} {xs : List ByteArray} (h : Kd.C Kd.string w A n xs) (k : Nat) (hk : k < n) : ∃ ad, A = some ad ∧ w.cell? (ad.add k) = some (.string (xs.getD k ByteArray.empty)) := by
 obtain ⟨ad, e, hc⟩ := Kd.at_string h (k : Int) (by omega) (by omega)
 exact ⟨ad, e, by simpa [rdOf] using hc⟩
theorem atI {w : World} {A : Option Addr} {n : Nat} {q : IntKind} {xs : List Int} (h : (Kd.int q).C w A n xs) (k : Nat) (hk : k < n) : ∃ ad, A = some ad ∧ w.cell? (ad.add k) = some (.int q (xs.getD k 0)) := by
 obtain ⟨ad, e, hc⟩ := Kd.at_int h (k : Int) (by omega) (by omega)
 exact ⟨ad, e, by simpa [rd] using hc⟩
theorem later {w w1 : World} (hb : Below w.heap.size w w1) {a : Addr} {v : Value} (h : w.cell? a = some v) : w1.cell? a = some v := (hb.cell (World.block_lt_of_cell? w a h)).trans h
theorem C_len {α : Type} {d : Kd α} {w : World} {A : Option Addr} {n : Nat} {xs : List α} (h : d.C w A n xs) : n ≤ 9223372036854775807 := h.2.1
end Go.Proofs.Ythaaockbapbooaa.H
namespace Go.Proofs.Ythaaockbapbooaa.H
theorem laid_out : laidOutB Try.prog = true := by kernel_rfl
end Go.Proofs.Ythaaockbapbooaa.H
set_option linter.unusedVariables false
set_option linter.unusedSimpArgs false
set_option maxRecDepth 100000
namespace Go.Proofs.Ythaaockbapbooaa.H
open Go.RowKit Go.Proofs.Ythaaockbapbooaa.Pr Go.Proofs.YthaaockbapbooaaW.PrintWords Go.Proofs.Ythaaockbapbooaa.Sem
open Go.ChangeShapes Go.WideShapes Go.Deep Go.Joins
instance : Inhabited Ed := ⟨z51⟩
section
variable {H : Type} {enc : TypeId × Value → H} {w : World} {base : Nat} {spare : Nat → Bool} {held : Bool}
theorem C_of_trod {α : Type} [Inhabited α] {d : Kd α} {t e : TypeId} {fuel : Nat} {v : Value} {x : DataW H × List MemPlace} (ht : Try.prog.underlying t = some (.slice e)) (hc : Try.prog.cellsOf e = d.sz)
  (hel : ∀ n cs y, DataW.trod enc Try.prog w base spare held n e cs = some y → cs.length = d.sz → ∃ a : α, d.K w a cs) (h : DataW.trod enc Try.prog w base spare held fuel t [v] = some x) :
  ∃ A xs c, v = .slice A xs.length c ∧ d.C w A xs.length xs := by
 rcases open_slice ht h with ⟨hcs, _⟩ | ⟨a, len, cap, m, n, D, Pl, hcs, hb, hl, hm, hmm, _, hx⟩
 ·have hv : v = .slice none 0 0 := by simpa using hcs
  exact ⟨none, [], 0, hv, Kd.C_nil _ _⟩
 ·have hv : v = .slice (some a) len cap := by simpa using hcs
  have hlm : len ≤ m := by rw [hmm]; split <;> omega
  have each : ∀ i, i < len → ∃ y : α × List Value, y.2.length = d.sz ∧ d.K w y.1 y.2 ∧ ∀ j u, y.2[j]? = some u → w.cell? (a.add (i * d.sz + j)) = some u := by
   intro i hi
   obtain ⟨cs', h1, h2⟩ := hx i (by omega)
   obtain ⟨_, hlen, hcell⟩ := World.cells?_some h1
   rw [hc] at hlen hcell
   obtain ⟨z, hz⟩ := hel n cs' _ h2 hlen
   refine ⟨(z, cs'), hlen, hz, fun j u hj => ?_⟩
   have hjl := (List.getElem?_eq_some_iff.1 hj).1
   have := hcell j (by rw [← hlen]; exact hjl)
   rw [Go.Deep.add_add] at this
   rw [this]
   exact hj
  obtain ⟨q, hq⟩ := choose_lt each
  refine ⟨some a, (List.range len).map fun i => (q i).1, cap, by rw [hv]; simp, rfl, by simp; unfold maxLen at hm; omega, fun _ => ⟨a, rfl, fun j p hj => ?_⟩⟩
  have hjl : j < len := by simpa using (List.getElem?_eq_some_iff.1 hj).1
  have hp : p = (q j).1 := by simpa [hjl, eq_comm] using hj
  subst hp
  exact ⟨(q j).2, (hq j hjl).1, (hq j hjl).2.1, (hq j hjl).2.2⟩
theorem el_string : ∀ n cs y, DataW.trod enc Try.prog w base spare held n 9 cs = some y → cs.length = 1 → ∃ a : ByteArray, Kd.string.K w a cs := by
 intro n cs y h hl
 match cs, hl with
 | [c], _ =>
  obtain ⟨s, h1, _, _⟩ := DataW.trod_string Try.underlying9 h
  have : c = .string s := by simpa using h1
  subst this
  exact ⟨s, rfl⟩
theorem el_edge : ∀ n cs y, DataW.trod enc Try.prog w base spare held n 51 cs = some y → cs.length = 3 → ∃ a : Ed, k51.K w a cs := by
 intro n cs y h hl
 obtain ⟨y0, y1, y2, m, _, _, h0, h1, h2⟩ := trod_struct3 Try.underlying51 h
 match cs, hl with
 | [c0, c1, c2], _ =>
  rw [show Try.prog.cellsOf 3 = 1 by kernel_rfl] at h0 h1 h2
  obtain ⟨a0, e0, _, _⟩ := DataW.trod_int Try.underlying3 h0
  obtain ⟨a1, e1, _, _⟩ := DataW.trod_int Try.underlying3 h1
  obtain ⟨a2, e2, _, _⟩ := DataW.trod_int Try.underlying3 h2
  have e0' : c0 = .int .i64 a0 := by simpa using e0
  have e1' : c1 = .int .i64 a1 := by simpa using e1
  have e2' : c2 = .int .i64 a2 := by simpa using e2
  subst e0' e1' e2'
  exact ⟨⟨a0, a1, a2⟩, k51_mk w ⟨a0, a1, a2⟩⟩
end
end Go.Proofs.Ythaaockbapbooaa.H
set_option linter.unusedVariables false
set_option linter.unusedSimpArgs false
set_option maxRecDepth 100000
namespace Go.Proofs.Ythaaockbapbooaa.H
open Go.ChangeShapes Go.WideShapes Go.Deep Go.Joins Go.RowKit Go.Proofs.Ythaaockbapbooaa.Pr Go.Proofs.YthaaockbapbooaaW.PrintWords Go.Proofs.Ythaaockbapbooaa.Sem
section
variable {H : Type} {enc : TypeId × Value → H} {w : World} {base : Nat} {spare : Nat → Bool} {held : Bool}
theorem len_cap {t e : TypeId} {fuel : Nat} {A : Option Addr} {n c : Nat} {x : DataW H × List MemPlace} (ht : Try.prog.underlying t = some (.slice e)) (h : DataW.trod enc Try.prog w base spare held fuel t [.slice A n c] = some x) : n ≤ c := by
 rcases open_slice ht h with ⟨hcs, _⟩ | ⟨a, len, cap, m, k, D, Pl, hcs, hb, hl, hm, hmm, _, hx⟩
 ·have hv : Value.slice A n c = .slice none 0 0 := by simpa using hcs
  cases hv
  exact Nat.le_refl _
 ·have hv : Value.slice A n c = .slice (some a) len cap := by simpa using hcs
  cases hv
  exact hl
theorem open_lts2 {r : Reach} {b0 : Nat} {v : Value} {d : DataW H} {p : List MemPlace} (hv : Value.okWide Try.prog w r b0 25 v) (h : DataW.Trod enc Try.prog w base spare held 25 v d p) :
  ∃ (n : Int) (ls : List ByteArray) (es : List Ed) (A1 A2 : Option Addr) (c1 c2 : Nat), v = .agg #[.int .i64 n, .slice A1 ls.length c1, .slice A2 es.length c2] ∧ (Lit.int .i64 n).wf = true ∧ Kd.C Kd.string w A1 ls.length ls ∧ ls.length ≤ c1 ∧ Kd.C k51 w A2 es.length es ∧ es.length ≤ c2 := by
 obtain ⟨v0, v1, v2, y0, y1, y2, m, rfl, _, _, h0, h1, h2⟩ := open_agg3 Try.underlying25 (by kernel_rfl) (by kernel_rfl) hv h
 obtain ⟨n, e0, _, wn⟩ := DataW.trod_int Try.underlying3 h0
 have e0' : v0 = .int .i64 n := by simpa using e0
 subst e0'
 obtain ⟨A1, ls, c1, rfl, hC1⟩ := C_of_trod (d := Kd.string) Try.underlying22 (by kernel_rfl) el_string h1
 obtain ⟨A2, es, c2, rfl, hC2⟩ := C_of_trod (d := k51) Try.underlying23 (by kernel_rfl) el_edge h2
 exact ⟨n, ls, es, A1, A2, c1, c2, rfl, wn, hC1, len_cap Try.underlying22 h1, hC2, len_cap Try.underlying23 h2⟩
end
end Go.Proofs.Ythaaockbapbooaa.H
set_option linter.unusedVariables false
set_option linter.unusedSimpArgs false
namespace Go.Proofs.Ythaaockbapbooaa.H
open Go.RowKit Go.Proofs.Ythaaockbapbooaa.Pr Go.Proofs.YthaaockbapbooaaW.PrintWords Go.Proofs.Ythaaockbapbooaa.Sem
theorem isNaN (x : Int) (w : World) : Calls Try.prog 85 #[.int .i64 x] w fun e w' => e = .returned (.bool false) ∧ w = w' := by
 have h : (x != x) = false := by simp
 go_enter Try.func85, Try.ntmps85
 go_wp2
 go_ret
 exact ⟨rfl, rfl⟩
theorem compare_lt (x y : Int) (w : World) (h : x < y) : Calls Try.prog 67 #[.int .i64 x, .int .i64 y] w fun e w' => e = .returned (.int .i64 (-1)) ∧ w = w' := by
 go_enter Try.func67, Try.ntmps67
 go_wp2_with (go_at_call 85; refine (isNaN _ _).mono ?_; rintro e w' ⟨rfl, rfl⟩)
 go_ret
 exact ⟨rfl, rfl⟩
theorem compare_gt (x y : Int) (w : World) (h : y < x) (h2 : ¬ x < y) : Calls Try.prog 67 #[.int .i64 x, .int .i64 y] w fun e w' => e = .returned (.int .i64 1) ∧ w = w' := by
 go_enter Try.func67, Try.ntmps67
 go_wp2_with (go_at_call 85; refine (isNaN _ _).mono ?_; rintro e w' ⟨rfl, rfl⟩)
 go_ret
 exact ⟨rfl, rfl⟩
theorem compare_eq (x y : Int) (w : World) (h : ¬ y < x) (h2 : ¬ x < y) : Calls Try.prog 67 #[.int .i64 x, .int .i64 y] w fun e w' => e = .returned (.int .i64 0) ∧ w = w' := by
 go_enter Try.func67, Try.ntmps67
 go_wp2_with (go_at_call 85; refine (isNaN _ _).mono ?_; rintro e w' ⟨rfl, rfl⟩)
 go_ret
 exact ⟨rfl, rfl⟩
theorem compare_any (x y : Int) (w : World) : Calls Try.prog 67 #[.int .i64 x, .int .i64 y] w fun e w' => e = .returned (.int .i64 (cmpI x y)) ∧ w = w' := by
 unfold cmpI
 by_cases h : x < y
 ·rw [if_pos h]; exact compare_lt x y w h
 ·rw [if_neg h]
  by_cases h' : y < x
  ·rw [if_pos h']; exact compare_gt x y w h' h
  ·rw [if_neg h']; exact compare_eq x y w h' h
theorem or_any (xs : List Int) (b c : Nat) (w : World) (hn : xs.length ≤ 1000) (hc : ∀ j, j < xs.length → w.cell? ⟨b, j, none⟩ = some (.int .i64 (xs.getD j 0))) :
  Calls Try.prog 66 #[.slice (some ⟨b, 0, none⟩) xs.length c] w fun e w' => e = .returned (.int .i64 (orL xs)) ∧ w = w' := by
 have HC := Lib.hid hc; clear hc
 go_enter Try.func66, Try.ntmps66
 go_wp2
 go_loop [8] (fun i => ∃ k : Nat, k ≤ xs.length ∧ i = .int .i64 k ∧ Aside0 (∀ j, j < k → (xs.getD j 0 != 0) = false)) (fun i => xs.length - (intOf i).toNat)
 case atStart => exact ⟨0, Nat.zero_le _, rfl, ⟨fun j hj => by omega⟩⟩
 case round =>
  obtain ⟨k, hk, rfl, hz⟩ := hrel
  by_cases hlt : k < xs.length
  ·have h1 := HC.out k hlt
   obtain ⟨y, hy⟩ : ∃ y, y = xs.getD k 0 := ⟨_, rfl⟩
   rw [← hy] at h1
   have HY := Lib.hid hy; clear hy
   cases hb : (y != 0) with
   | true =>
    go_wp2
    go_ret
    exact ⟨ret_int (by rw [HY.out]; exact (orL_at xs k hz.out hlt (by rw [← HY.out]; exact hb)).symm), rfl⟩
   | false =>
    go_wp2
    go_round
    case rel => exact ⟨k + 1, by omega, by go_num, ⟨fun j hj => by rcases Nat.lt_succ_iff_lt_or_eq.1 hj with h | rfl; exact hz.out j h; rw [← HY.out]; exact hb⟩⟩
    case measure => simp [intOf]; omega
  ·go_wp2
   go_ret
   exact ⟨ret_int (orL_zero xs (fun j hj => hz.out j (by omega))).symm, rfl⟩
set_option maxRecDepth 100000 in
theorem compareE (a b : Ed) (w : World) : Calls Try.prog 51 #[.agg #[.int .i64 a.f0, .int .i64 a.f1, .int .i64 a.f2], .agg #[.int .i64 b.f0, .int .i64 b.f1, .int .i64 b.f2]] w fun e w' => e = .returned (.int .i64 (cmpE a b)) ∧ Below w.heap.size w w' := by
 have HB := Aside0.mk (Below.refl w.heap.size w)
 go_enter Try.func51, Try.ntmps51
 go_wp2_with fail
 go_region_held3 (fun w' => w'.cell? ⟨w.heap.size, 0, none⟩ = some (.int .i64 a.f0) ∧ w'.cell? ⟨w.heap.size, 1, none⟩ = some (.int .i64 a.f1) ∧ w'.cell? ⟨w.heap.size, 2, none⟩ = some (.int .i64 a.f2) ∧ w'.cell? ⟨w.heap.size + 1, 0, none⟩ = some (.int .i64 b.f0) ∧ w'.cell? ⟨w.heap.size + 1, 1, none⟩ = some (.int .i64 b.f1) ∧ w'.cell? ⟨w.heap.size + 1, 2, none⟩ = some (.int .i64 b.f2))
  (first | go_keep)
  (first
   | (go_at_call 67; refine (compare_any _ _ _).mono ?_; rintro e w' ⟨rfl, rfl⟩)
   | (go_at_call 66; refine (or_any [cmpI a.f0 b.f0, cmpI a.f1 b.f1, cmpI a.f2 b.f2] _ _ _ (by simp) (by intro j hj; match j, hj with | 0, _ => go_simp | 1, _ => go_simp | 2, _ => go_simp)).mono ?_; rintro e w' ⟨rfl, rfl⟩))
 go_wp2
 go_ret
 exact ⟨rfl, by repeat (first | exact HB.out | apply below_alloc | apply pw_below_drewN | apply below_drew)⟩
theorem long_any (s : ByteArray) (b : Bool) (hb : tooLong s = b) (w : World) : Calls Try.prog 69 #[.string s] w fun e w' => e = .returned (.bool b) ∧ w = w' := by
 unfold tooLong at hb
 cases b with
 | true =>
  have h : (200 : Int) < (s.size : Int) := by have := of_decide_eq_true hb; omega
  clear hb
  go_enter Try.func69, Try.ntmps69
  go_wp2
  go_ret
  exact ⟨ret_bool (by simp), rfl⟩
 | false =>
  have h : ¬ (200 : Int) < (s.size : Int) := by have := of_decide_eq_false hb; omega
  clear hb
  go_enter Try.func69, Try.ntmps69
  go_wp2
  go_ret
  exact ⟨ret_bool (by simp), rfl⟩
theorem idxLong (ls : List ByteArray) (A : Option Addr) (c : Nat) (w : World) (hr : Kd.C Kd.string w A ls.length ls) :
  Calls Try.prog 86 #[.slice A ls.length c, .func (.func 69) #[] #[]] w fun e w' => e = .returned (.int .i64 (idxP tooLong ls)) ∧ w = w' := by
 have hl := C_len hr
 have HR := Lib.hid hr; clear hr
 go_enter Try.func86, Try.ntmps86
 go_wp2
 go_loop [8] (fun i => ∃ k : Nat, k ≤ ls.length ∧ i = .int .i64 k ∧ Aside0 (∀ j, j < k → tooLong (ls.getD j ByteArray.empty) = false)) (fun i => ls.length - (intOf i).toNat)
 case atStart => exact ⟨0, Nat.zero_le _, rfl, ⟨fun j hj => by omega⟩⟩
 case round =>
  obtain ⟨k, hk, rfl, hz⟩ := hrel
  by_cases hlt : k < ls.length
  ·obtain ⟨ad, hA, h1⟩ := atS HR.out k hlt
   subst hA
   obtain ⟨s, hs⟩ : ∃ s, s = ls.getD k ByteArray.empty := ⟨_, rfl⟩
   rw [← hs] at h1
   have HS := Lib.hid hs; clear hs
   cases hb : tooLong s with
   | true =>
    have HT := Lib.hid hb; clear hb
    go_wp2_with (go_at_call 69; refine (long_any _ _ HT.out _).mono ?_; rintro e w' ⟨rfl, rfl⟩)
    go_ret
    exact ⟨ret_int (idxP_at tooLong ByteArray.empty ls k hz.out hlt (by rw [← HS.out]; exact HT.out)).symm, rfl⟩
   | false =>
    have HT := Lib.hid hb; clear hb
    go_wp2_with (go_at_call 69; refine (long_any _ _ HT.out _).mono ?_; rintro e w' ⟨rfl, rfl⟩)
    go_round
    case rel => exact ⟨k + 1, by omega, by go_num, ⟨fun j hj => by rcases Nat.lt_succ_iff_lt_or_eq.1 hj with h | rfl; exact hz.out j h; rw [← HS.out]; exact HT.out⟩⟩
    case measure => simp [intOf]; omega
  ·go_wp2
   go_ret
   exact ⟨ret_int (idxP_none tooLong ByteArray.empty ls (fun j hj => hz.out j (by omega))).symm, rfl⟩
theorem anyLong (ls : List ByteArray) (A : Option Addr) (c : Nat) (w : World) (hr : Kd.C Kd.string w A ls.length ls) :
  Calls Try.prog 68 #[.slice A ls.length c, .func (.func 69) #[] #[]] w fun e w' => e = .returned (.bool (ls.any tooLong)) ∧ w = w' := by
 have HR := Lib.hid hr; clear hr
 have H := Lib.hid (idxP_nonneg tooLong ls)
 generalize idxP tooLong ls = n at H
 have H2 := Lib.hid (idxLong ls A c w HR.out)
 go_enter Try.func68, Try.ntmps68
 go_wp2_with (go_at_call 86; refine H2.out.mono ?_; rintro e w' ⟨rfl, rfl⟩)
 go_ret
 exact ⟨ret_bool (idxP_nonneg tooLong ls), rfl⟩
theorem node_any (i n : Int) (p : Addr) (w : World) (h0 : w.cell? p = some (.int .i64 n)) :
  Calls Try.prog 55 #[.int .i64 i, .pointer (some p)] w fun e w' => e = .returned (.bool (decide (0 ≤ i ∧ i < n))) ∧ w = w' := by
 by_cases a : 0 ≤ i
 ·by_cases b : i < n
  ·go_enter Try.func55, Try.ntmps55
   go_wp2
   go_ret
   exact ⟨ret_bool (by simp [a, b]), rfl⟩
  ·go_enter Try.func55, Try.ntmps55
   go_wp2
   go_ret
   exact ⟨ret_bool (by simp [b]), rfl⟩
 ·go_enter Try.func55, Try.ntmps55
  go_wp2
  go_ret
  exact ⟨ret_bool (by simp; omega), rfl⟩
end Go.Proofs.Ythaaockbapbooaa.H
set_option linter.unusedVariables false
set_option linter.unusedSimpArgs false
namespace Go.Proofs.Ythaaockbapbooaa.Sem
open Go.Proofs.Ythaaockbapbooaa.Pr
def outN (es : List Ed) (v : Int) : List Ed := es.filter fun e => decide (e.f0 = v)
def insE (e : Ed) : List Ed → List Ed
 | [] => [e]
 | x :: r => if elt e x then e :: x :: r else if cmpE e x = 0 then x :: r else x :: insE e r
def sortE (es : List Ed) : List Ed := es.foldl (fun o e => insE e o) []
def hop (t : List Bool) (e : Ed) : List Bool := if t.getD e.f0.toNat false && !t.getD e.f2.toNat false then t.set e.f2.toNat true else t
def sweepT (es : List Ed) (t : List Bool) : List Bool := es.foldl hop t
def closeT (es : List Ed) : Nat → List Bool → List Bool
 | 0, t => t
 | k + 1, t => closeT es k (sweepT es t)
def reachT (n : Nat) (es : List Ed) (v : Int) : List Bool := closeT es n ((List.replicate n false).set v.toNat true)
def placesT (t : List Bool) : List Int := ((List.range t.length).filter fun i => t.getD i false).map fun i => ((i : Nat) : Int)
def reachL (n : Nat) (es : List Ed) (v : Int) : List Int := placesT (reachT n es v)
inductive Rch (es : List Ed) : Nat → Nat → Prop
  | refl (a : Nat) : Rch es a a
  | step {a : Nat} {e : Ed} : Rch es a e.f0.toNat → e ∈ es → Rch es a e.f2.toNat
theorem Rch.trans {es : List Ed} {a b c : Nat} (h1 : Rch es a b) (h2 : Rch es b c) : Rch es a c := by
 induction h2 with
 | refl => exact h1
 | step _ he ih => exact .step ih he
def unmet (t : List Bool) : Nat := t.countP (fun b => !b)
theorem unmet_le (t : List Bool) : unmet t ≤ t.length := List.countP_le_length
theorem unmet_set : ∀ (t : List Bool) (i : Nat), i < t.length → t.getD i false = false → unmet (t.set i true) + 1 = unmet t
 | [], i, h, _ => by simp at h
 | b :: r, 0, _, h => by
  have hb : b = false := by simpa using h
  subst hb
  simp [unmet]
 | b :: r, i + 1, h, h2 => by
  have ih := unmet_set r i (by simpa using h) (by simpa using h2)
  unfold unmet at ih ⊢
  rw [List.set_cons_succ, List.countP_cons, List.countP_cons]
  omega
theorem getD_set (t : List Bool) (i j : Nat) (hi : i < t.length) : (t.set i true).getD j false = (decide (j = i) || t.getD j false) := by
 simp only [List.getD_eq_getElem?_getD, List.getElem?_set]
 by_cases h : i = j
 ·subst h; simp [hi]
 ·rw [if_neg h]; rw [decide_eq_false (fun q => h q.symm)]; rfl
def In2 (n : Nat) (es : List Ed) : Prop := ∀ e ∈ es, e.f0.toNat < n ∧ e.f2.toNat < n
theorem hop_len (t : List Bool) (e : Ed) : (hop t e).length = t.length := by unfold hop; split <;> simp
theorem sweep_len (es : List Ed) : ∀ t, (sweepT es t).length = t.length := by
 induction es with
 | nil => intro t; rfl
 | cons e r ih => intro t; show (sweepT r (hop t e)).length = _; rw [ih, hop_len]
theorem close_len (es : List Ed) : ∀ k t, (closeT es k t).length = t.length
 | 0, t => rfl
 | k + 1, t => by show (closeT es k (sweepT es t)).length = _; rw [close_len, sweep_len]
theorem hop_mono {t : List Bool} {e : Ed} {i : Nat} (h : t.getD i false = true) : (hop t e).getD i false = true := by
 unfold hop
 split
 ·by_cases q : e.f2.toNat < t.length
  ·rw [getD_set _ _ _ q, h]; simp
  ·rw [List.set_eq_of_length_le (by omega)]; exact h
 ·exact h
theorem hop_cases (t : List Bool) (e : Ed) : hop t e = t ∨ (t.getD e.f0.toNat false = true ∧ t.getD e.f2.toNat false = false ∧ hop t e = t.set e.f2.toNat true) := by
 unfold hop
 split
 ·rename_i h
  simp only [Bool.and_eq_true, Bool.not_eq_true'] at h
  exact .inr ⟨h.1, h.2, rfl⟩
 ·exact .inl rfl
theorem hop_unmet {n : Nat} {t : List Bool} {e : Ed} (hl : t.length = n) (h2 : e.f2.toNat < n) : hop t e = t ∨ unmet (hop t e) < unmet t := by
 rcases hop_cases t e with h | ⟨_, h, q⟩
 ·exact .inl h
 ·right; rw [q]; have := unmet_set t e.f2.toNat (by omega) h; omega
theorem sweep_unmet {n : Nat} : ∀ (es : List Ed) (t : List Bool), t.length = n → In2 n es → sweepT es t = t ∨ unmet (sweepT es t) < unmet t
 | [], t, _, _ => .inl rfl
 | e :: r, t, hl, hi => by
  have h1 := hop_unmet (e := e) hl (hi e (List.mem_cons_self ..)).2
  have h2 := sweep_unmet r (hop t e) (by rw [hop_len]; exact hl) (fun x hx => hi x (List.mem_cons_of_mem _ hx))
  show sweepT r (hop t e) = t ∨ unmet (sweepT r (hop t e)) < unmet t
  rcases h1 with h1 | h1
  ·rw [h1] at h2 ⊢; exact h2
  ·right
   rcases h2 with h2 | h2
   ·rw [h2]; exact h1
   ·omega
theorem close_fix {n : Nat} {es : List Ed} (hi : In2 n es) : ∀ (k : Nat) (t : List Bool), t.length = n → unmet t ≤ k → sweepT es (closeT es k t) = closeT es k t
 | 0, t, hl, hu => by
  rcases sweep_unmet es t hl hi with h | h
  ·exact h
  ·omega
 | k + 1, t, hl, hu => by
  show sweepT es (closeT es k (sweepT es t)) = closeT es k (sweepT es t)
  rcases sweep_unmet es t hl hi with h | h
  ·have e : ∀ k, closeT es k t = t := by
    intro k
    induction k with
    | zero => rfl
    | succ k ih => show closeT es k (sweepT es t) = t; rw [h]; exact ih
   rw [h, e k, h]
  ·exact close_fix hi k _ (by rw [sweep_len]; exact hl) (by omega)
def Shut (es : List Ed) (t : List Bool) : Prop := ∀ e ∈ es, t.getD e.f0.toNat false = true → t.getD e.f2.toNat false = true
theorem sweep_mono (es : List Ed) : ∀ (t : List Bool) (i : Nat), t.getD i false = true → (sweepT es t).getD i false = true := by
 induction es with
 | nil => intro t i h; exact h
 | cons e r ih => intro t i h; exact ih _ _ (hop_mono h)
theorem close_mono (es : List Ed) : ∀ (k : Nat) (t : List Bool) (i : Nat), t.getD i false = true → (closeT es k t).getD i false = true
 | 0, t, i, h => h
 | k + 1, t, i, h => close_mono es k _ i (sweep_mono es t i h)
theorem shut_hop {n : Nat} : ∀ (es : List Ed) (t : List Bool), t.length = n → In2 n es → sweepT es t = t → Shut es t
 | [], t, _, _, _ => fun e he => by cases he
 | e :: r, t, hl, hi, h => by
  have h1 : hop t e = t := by
   rcases hop_unmet (e := e) hl (hi e (List.mem_cons_self ..)).2 with q | q
   ·exact q
   ·have h2 := sweep_unmet r (hop t e) (by rw [hop_len]; exact hl) (fun x hx => hi x (List.mem_cons_of_mem _ hx))
    have h3 : sweepT r (hop t e) = t := h
    rw [h3] at h2
    rcases h2 with h2 | h2
    ·rw [← h2] at q; omega
    ·omega
  have h2 : sweepT r t = t := by have h3 : sweepT r (hop t e) = t := h; rwa [h1] at h3
  intro x hx hf
  rcases List.mem_cons.1 hx with rfl | hx
  ·cases hq : t.getD x.f2.toNat false with
   | true => rfl
   | false =>
    exfalso
    unfold hop at h1
    rw [hf, hq] at h1
    simp only [Bool.not_false, Bool.and_self, if_true] at h1
    have := getD_set t x.f2.toNat x.f2.toNat (by have := (hi x (List.mem_cons_self ..)).2; omega)
    rw [h1, hq] at this
    simp at this
  ·exact shut_hop r t hl (fun x hx => hi x (List.mem_cons_of_mem _ hx)) h2 x hx hf
def Snd (es : List Ed) (v : Nat) (t : List Bool) : Prop := ∀ i, t.getD i false = true → Rch es v i
theorem snd_hop {es : List Ed} {v : Nat} {t : List Bool} {e : Ed} (he : e ∈ es) (h : Snd es v t) : Snd es v (hop t e) := by
 rcases hop_cases t e with q | ⟨h1, h2, q⟩
 ·rw [q]; exact h
 ·rw [q]
  intro i hi
  by_cases hl : e.f2.toNat < t.length
  ·rw [getD_set _ _ _ hl] at hi
   by_cases q : i = e.f2.toNat
   ·subst q; exact .step (h _ h1) he
   ·rw [decide_eq_false q, Bool.false_or] at hi; exact h i hi
  ·rw [List.set_eq_of_length_le (by omega)] at hi; exact h i hi
theorem snd_sweep {es : List Ed} {v : Nat} : ∀ (r : List Ed) (t : List Bool), (∀ x ∈ r, x ∈ es) → Snd es v t → Snd es v (sweepT r t)
 | [], t, _, h => h
 | e :: r, t, hs, h => snd_sweep r _ (fun x hx => hs x (List.mem_cons_of_mem _ hx)) (snd_hop (hs e (List.mem_cons_self ..)) h)
theorem snd_close {es : List Ed} {v : Nat} : ∀ (k : Nat) (t : List Bool), Snd es v t → Snd es v (closeT es k t)
 | 0, t, h => h
 | k + 1, t, h => snd_close k _ (snd_sweep es t (fun x hx => hx) h)
structure Tells (n : Nat) (es : List Ed) (v : Nat) (t : List Bool) : Prop where
  len : t.length = n
  at_ : t.getD v false = true
  shut : Shut es t
  snd : Snd es v t
theorem Tells.iff {n : Nat} {es : List Ed} {v : Nat} {t : List Bool} (h : Tells n es v t) (i : Nat) : t.getD i false = true ↔ Rch es v i := by
 refine ⟨h.snd i, fun q => ?_⟩
 induction q with
 | refl => exact h.at_
 | step _ he ih => exact h.shut _ he ih
theorem Tells.eq {n : Nat} {es : List Ed} {v : Nat} {t u : List Bool} (h : Tells n es v t) (g : Tells n es v u) : t = u := by
 apply List.ext_getElem (by rw [h.len, g.len])
 intro i h1 h2
 have a := h.iff i
 have b := g.iff i
 have e : t.getD i false = u.getD i false := by
  cases q : t.getD i false with
  | true => rw [b.2 (a.1 q)]
  | false =>
   cases q2 : u.getD i false with
   | false => rfl
   | true => rw [a.2 (b.1 q2)] at q; cases q
 simpa [List.getD_eq_getElem?_getD, List.getElem?_eq_getElem h1, List.getElem?_eq_getElem h2] using e
theorem start_tells {n v : Nat} {es : List Ed} (hv : v < n) : ((List.replicate n false).set v true).getD v false = true ∧ Snd es v ((List.replicate n false).set v true) := by
 constructor
 ·rw [getD_set _ _ _ (by simpa using hv)]; simp
 ·intro i hi
  rw [getD_set _ _ _ (by simpa using hv)] at hi
  by_cases q : i = v
  ·subst q; exact .refl _
  ·rw [decide_eq_false q, Bool.false_or] at hi
   have : (List.replicate n false).getD i false = false := by
    simp only [List.getD_eq_getElem?_getD, List.getElem?_replicate]
    split <;> rfl
   rw [this] at hi; cases hi
theorem reach_tells {n : Nat} {es : List Ed} {v : Int} (hi : In2 n es) (h0 : 0 ≤ v) (hv : v < n) : Tells n es v.toNat (reachT n es v) := by
 have hv' : v.toNat < n := by omega
 have hs := start_tells (es := es) hv'
 have hlen : ((List.replicate n false).set v.toNat true).length = n := by simp
 refine ⟨by unfold reachT; rw [close_len]; exact hlen, close_mono es n _ _ hs.1, ?_, snd_close n _ hs.2⟩
 exact shut_hop es _ (by unfold reachT; rw [close_len]; exact hlen) hi (close_fix hi n _ hlen (by have := unmet_le ((List.replicate n false).set v.toNat true); omega))
end Go.Proofs.Ythaaockbapbooaa.Sem
set_option linter.unusedVariables false
set_option linter.unusedSimpArgs false
namespace Go.Proofs.Ythaaockbapbooaa.H
open Go.RowKit Go.Proofs.Ythaaockbapbooaa.Pr Go.Proofs.YthaaockbapbooaaW.PrintWords Go.Proofs.Ythaaockbapbooaa.Sem
set_option maxRecDepth 100000 in
theorem from_any (x : Ed) (v : Int) (w : World) : Calls Try.prog 71 #[.agg #[.int .i64 x.f0, .int .i64 x.f1, .int .i64 x.f2], .int .i64 v] w fun e w' => e = .returned (.int .i64 (cmpI x.f0 v)) ∧ Below w.heap.size w w' := by
 have HB := Aside0.mk (Below.refl w.heap.size w)
 go_enter Try.func71, Try.ntmps71
 go_wp2_with (go_at_call 67; refine (compare_any _ _ _).mono ?_; rintro e w' ⟨rfl, rfl⟩)
 go_ret
 exact ⟨rfl, by repeat (first | exact HB.out | apply below_alloc | apply pw_below_drewN | apply below_drew)⟩
def Cut (es : List Ed) (v : Int) (i : Nat) : Prop := i ≤ es.length ∧ (∀ t, t < i → (es.getD t z51).f0 < v) ∧ ∀ t, i ≤ t → t < es.length → v ≤ (es.getD t z51).f0
theorem cmpI_lt {x y : Int} : cmpI x y < 0 ↔ x < y := by unfold cmpI; split <;> (try split) <;> omega
set_option maxHeartbeats 8000000 in
set_option maxRecDepth 100000 in
theorem bsearch_any (es : List Ed) (v : Int) (A : Option Addr) (c : Nat) (w : World) (hC : Kd.C k51 w A es.length es) (hel : es.length ≤ 1000000) (hs : ∀ i j, i ≤ j → j < es.length → (es.getD i z51).f0 ≤ (es.getD j z51).f0) :
  Calls Try.prog 72 #[.slice A es.length c, .int .i64 v, .func (.func 71) #[] #[]] w fun e w' => ∃ (i : Nat) (b : Bool), e = .returned (.tuple #[.int .i64 i, .bool b]) ∧ Cut es v i ∧ Below w.heap.size w w' := by
 have HC := Aside0.mk hC
 have HS := Aside0.mk hs
 have HB := Aside0.mk (Below.refl w.heap.size w)
 clear hC hs
 go_enter Try.func72, Try.ntmps72
 go_wp2
 go_loopw [9, 10] (fun a b wr => ∃ lo hi : Nat, a = .int .i64 lo ∧ b = .int .i64 hi ∧ lo ≤ hi ∧ hi ≤ es.length ∧ Aside0 (∀ t, t < lo → (es.getD t z51).f0 < v) ∧ Aside0 (∀ t, hi ≤ t → t < es.length → v ≤ (es.getD t z51).f0) ∧ Aside0 (Below w.heap.size w wr)) (fun a b _ => (intOf b).toNat - (intOf a).toNat)
 case atStart => exact ⟨0, es.length, rfl, rfl, Nat.zero_le _, Nat.le_refl _, ⟨fun t ht => by omega⟩, ⟨fun t h1 h2 => by omega⟩, HB⟩
 case round =>
  clear HB
  obtain ⟨lo, hi, rfl, rfl, hlh, hin, hz1, hz2, HB⟩ := hrel
  by_cases hlt : lo < hi
  ·obtain ⟨ad, hA, g0, g1, g2⟩ := atE HC.out ((lo + hi) / 2) (by omega)
   subst hA
   replace g0 := later HB.out g0
   replace g1 := later HB.out g1
   replace g2 := later HB.out g2
   obtain ⟨x, hx⟩ : ∃ x, x = es.getD ((lo + hi) / 2) z51 := ⟨_, rfl⟩
   rw [← hx] at g0 g1 g2
   have HX := Aside0.mk hx
   clear hx
   by_cases hq : cmpI x.f0 v < 0
   ·go_wp2_with (go_at_call 71; refine (from_any x v _).mono ?_; rintro e w' ⟨rfl, hb⟩; have HB2 := Aside0.mk (below_then HB.out HB.out.size hb); clear hb)
    go_roundw
    case rel =>
     refine ⟨(lo + hi) / 2 + 1, hi, by go_num, rfl, by omega, hin, ⟨fun t ht => ?_⟩, hz2, HB2⟩
     have h1 := HS.out t ((lo + hi) / 2) (by omega) (by omega)
     rw [← HX.out] at h1
     have := cmpI_lt.1 hq
     omega
    case measure => simp [intOf]; omega
   ·go_wp2_with (go_at_call 71; refine (from_any x v _).mono ?_; rintro e w' ⟨rfl, hb⟩; have HB2 := Aside0.mk (below_then HB.out HB.out.size hb); clear hb)
    go_roundw
    case rel =>
     refine ⟨lo, (lo + hi) / 2, rfl, by go_num, by omega, by omega, hz1, ⟨fun t h1 h2 => ?_⟩, HB2⟩
     have h1 := HS.out ((lo + hi) / 2) t (by omega) (by omega)
     rw [← HX.out] at h1
     have h3 : ¬ x.f0 < v := fun h => by have := cmpI_lt.2 h; omega
     omega
    case measure => simp [intOf]; omega
  ·obtain rfl : hi = lo := by omega
   have HCut := Aside0.mk (show Cut es v hi from ⟨hin, hz1.out, hz2.out⟩)
   by_cases hn : hi < es.length
   ·obtain ⟨ad, hA, g0, g1, g2⟩ := atE HC.out hi hn
    subst hA
    replace g0 := later HB.out g0
    replace g1 := later HB.out g1
    replace g2 := later HB.out g2
    obtain ⟨x, hx⟩ : ∃ x, x = es.getD hi z51 := ⟨_, rfl⟩
    rw [← hx] at g0 g1 g2
    clear hx
    by_cases hq : cmpI x.f0 v = 0
    ·go_wp2_with (go_at_call 71; refine (from_any x v _).mono ?_; rintro e w' ⟨rfl, hb⟩; have HB2 := Aside0.mk (below_then HB.out HB.out.size hb); clear hb)
     go_ret2
     exact ⟨_, _, rfl, HCut.out, HB2.out⟩
    ·go_wp2_with (go_at_call 71; refine (from_any x v _).mono ?_; rintro e w' ⟨rfl, hb⟩; have HB2 := Aside0.mk (below_then HB.out HB.out.size hb); clear hb)
     go_ret2
     exact ⟨_, _, rfl, HCut.out, HB2.out⟩
   ·go_wp2
    go_ret2
    exact ⟨_, _, rfl, HCut.out, HB.out⟩
end Go.Proofs.Ythaaockbapbooaa.H
namespace Go.Proofs
open Go.Shelf
def Try.sortE_ren : Go.Shelf.Ren := ⟨fun | 6 => 50 | 15 => 65 | 14 => 64 | 28 => 83 | 29 => 84 | 20 => 75 | 21 => 76 | 22 => 77 | 23 => 78 | 24 => 79 | 25 => 80 | 26 => 81 | 27 => 82 | 46 => 96 | 47 => 97 | 48 => 98 | 49 => 99 | 50 => 100 | 57 => 105 | n => n, fun | 22 => 23 | 24 => 51 | 25 => 70 | 3 => 3 | 39 => 83 | 0 => 0 | 53 => 102 | 55 => 104 | 4 => 4 | 46 => 96 | 45 => 95 | 50 => 89 | 5 => 5 | 9 => 9 | 66 => 112 | 70 => 116 | 76 => 120 | 77 => 39 | n => n, fun | n => n⟩
theorem Try.sortE : Go.Proofs.SlLaysF0.n6 Try.prog Try.sortE_ren := {
 mixed := by kernel_rfl
 f6 := ⟨Try.f50.name, by decide, Try.func50.trans (congrArg some (by kernel_rfl))⟩
 f14 := ⟨Try.f64.name, by decide, Try.func64.trans (congrArg some (by kernel_rfl))⟩
 f15 := Try.func65.trans (congrArg some (by kernel_rfl))
 f20 := ⟨Try.f75.name, by decide, Try.func75.trans (congrArg some (by kernel_rfl))⟩
 f21 := ⟨Try.f76.name, by decide, Try.func76.trans (congrArg some (by kernel_rfl))⟩
 f22 := ⟨Try.f77.name, by decide, Try.func77.trans (congrArg some (by kernel_rfl))⟩
 f23 := ⟨Try.f78.name, by decide, Try.func78.trans (congrArg some (by kernel_rfl))⟩
 f24 := ⟨Try.f79.name, by decide, Try.func79.trans (congrArg some (by kernel_rfl))⟩
 f25 := ⟨Try.f80.name, by decide, Try.func80.trans (congrArg some (by kernel_rfl))⟩
 f26 := ⟨Try.f81.name, by decide, Try.func81.trans (congrArg some (by kernel_rfl))⟩
 f27 := ⟨Try.f82.name, by decide, Try.func82.trans (congrArg some (by kernel_rfl))⟩
 f28 := Try.func83.trans (congrArg some (by kernel_rfl))
 f29 := Try.func84.trans (congrArg some (by kernel_rfl))
 f46 := ⟨Try.f96.name, by decide, Try.func96.trans (congrArg some (by kernel_rfl))⟩
 f47 := Try.func97.trans (congrArg some (by kernel_rfl))
 f48 := Try.func98.trans (congrArg some (by kernel_rfl))
 f49 := ⟨Try.f99.name, by decide, Try.func99.trans (congrArg some (by kernel_rfl))⟩
 f50 := ⟨Try.f100.name, by decide, Try.func100.trans (congrArg some (by kernel_rfl))⟩
 f57 := ⟨Try.f105.name, by decide, Try.func105.trans (congrArg some (by kernel_rfl))⟩
 t0 := Try.underlying0
 a0 := Try.isAgg0
 z0 := Try.sizeOf0
 v0 := Try.zeroValue0
 t3 := Try.underlying3
 a3 := Try.isAgg3
 z3 := Try.sizeOf3
 v3 := Try.zeroValue3
 t4 := Try.underlying4
 a4 := Try.isAgg4
 z4 := Try.sizeOf4
 v4 := Try.zeroValue4
 t5 := Try.underlying5
 a5 := Try.isAgg5
 z5 := Try.sizeOf5
 v5 := Try.zeroValue5
 t9 := Try.underlying9
 a9 := Try.isAgg9
 z9 := Try.sizeOf9
 v9 := Try.zeroValue9
 t22 := Try.underlying23
 a22 := Try.isAgg23
 z22 := Try.sizeOf23
 v22 := Try.zeroValue23
 t25 := Try.underlying70
 a25 := Try.isAgg70
 z25 := Try.sizeOf70
 v25 := Try.zeroValue70
 t39 := Try.underlying83
 a39 := Try.isAgg83
 z39 := Try.sizeOf83
 v39 := Try.zeroValue83
 t45 := Try.underlying95
 a45 := Try.isAgg95
 z45 := Try.sizeOf95
 v45 := Try.zeroValue95
 t46 := Try.underlying96
 a46 := Try.isAgg96
 z46 := Try.sizeOf96
 v46 := Try.zeroValue96
 t50 := Try.underlying89
 a50 := Try.isAgg89
 z50 := Try.sizeOf89
 v50 := Try.zeroValue89
 t53 := Try.underlying102
 a53 := Try.isAgg102
 z53 := Try.sizeOf102
 v53 := Try.zeroValue102
 t55 := Try.underlying104
 a55 := Try.isAgg104
 z55 := Try.sizeOf104
 v55 := Try.zeroValue104
 t66 := Try.underlying112
 a66 := Try.isAgg112
 z66 := Try.sizeOf112
 v66 := Try.zeroValue112
 t70 := Try.underlying116
 a70 := Try.isAgg116
 z70 := Try.sizeOf116
 v70 := Try.zeroValue116
 t76 := Try.underlying120
 a76 := Try.isAgg120
 z76 := Try.sizeOf120
 v76 := Try.zeroValue120
 t77 := Try.underlying39
 a77 := Try.isAgg39
 z77 := Try.sizeOf39
 v77 := Try.zeroValue39 }
def Try.lays190_ren : Go.Shelf.Ren := ⟨fun | 190 => 59 | 125 => 65 | 258 => 74 | 128 => 83 | 129 => 84 | 302 => 87 | 303 => 88 | 304 => 89 | 305 => 90 | 306 => 91 | 307 => 92 | 308 => 93 | 309 => 94 | 310 => 95 | 333 => 101 | 329 => 97 | 330 => 98 | 334 => 102 | 335 => 103 | 336 => 104 | 344 => 106 | n => n, fun | 31 => 22 | 9 => 9 | 3 => 3 | 46 => 83 | 0 => 0 | 51 => 102 | 53 => 104 | 4 => 4 | 183 => 96 | 182 => 95 | 131 => 89 | 5 => 5 | 218 => 112 | 222 => 116 | 228 => 120 | 229 => 39 | n => n, fun | n => n⟩
theorem Try.lays190 : Go.Proofs.Lays.n190 Try.prog Try.lays190_ren := {
 mixed := by kernel_rfl
 f125 := Try.func65.trans (congrArg some (by kernel_rfl))
 f128 := Try.func83.trans (congrArg some (by kernel_rfl))
 f129 := Try.func84.trans (congrArg some (by kernel_rfl))
 f190 := Try.func59.trans (congrArg some (by kernel_rfl))
 f258 := Try.func74.trans (congrArg some (by kernel_rfl))
 f302 := Try.func87.trans (congrArg some (by kernel_rfl))
 f303 := Try.func88.trans (congrArg some (by kernel_rfl))
 f304 := Try.func89.trans (congrArg some (by kernel_rfl))
 f305 := Try.func90.trans (congrArg some (by kernel_rfl))
 f306 := Try.func91.trans (congrArg some (by kernel_rfl))
 f307 := Try.func92.trans (congrArg some (by kernel_rfl))
 f308 := Try.func93.trans (congrArg some (by kernel_rfl))
 f309 := Try.func94.trans (congrArg some (by kernel_rfl))
 f310 := Try.func95.trans (congrArg some (by kernel_rfl))
 f329 := Try.func97.trans (congrArg some (by kernel_rfl))
 f330 := Try.func98.trans (congrArg some (by kernel_rfl))
 f333 := Try.func101.trans (congrArg some (by kernel_rfl))
 f334 := Try.func102.trans (congrArg some (by kernel_rfl))
 f335 := Try.func103.trans (congrArg some (by kernel_rfl))
 f336 := Try.func104.trans (congrArg some (by kernel_rfl))
 f344 := Try.func106.trans (congrArg some (by kernel_rfl))
 t0 := Try.underlying0
 a0 := Try.isAgg0
 z0 := Try.sizeOf0
 v0 := Try.zeroValue0
 t3 := Try.underlying3
 a3 := Try.isAgg3
 z3 := Try.sizeOf3
 v3 := Try.zeroValue3
 t4 := Try.underlying4
 a4 := Try.isAgg4
 z4 := Try.sizeOf4
 v4 := Try.zeroValue4
 t5 := Try.underlying5
 a5 := Try.isAgg5
 z5 := Try.sizeOf5
 v5 := Try.zeroValue5
 t9 := Try.underlying9
 a9 := Try.isAgg9
 z9 := Try.sizeOf9
 v9 := Try.zeroValue9
 t31 := Try.underlying22
 a31 := Try.isAgg22
 z31 := Try.sizeOf22
 v31 := Try.zeroValue22
 t46 := Try.underlying83
 a46 := Try.isAgg83
 z46 := Try.sizeOf83
 v46 := Try.zeroValue83
 t51 := Try.underlying102
 a51 := Try.isAgg102
 z51 := Try.sizeOf102
 v51 := Try.zeroValue102
 t53 := Try.underlying104
 a53 := Try.isAgg104
 z53 := Try.sizeOf104
 v53 := Try.zeroValue104
 t131 := Try.underlying89
 a131 := Try.isAgg89
 z131 := Try.sizeOf89
 v131 := Try.zeroValue89
 t182 := Try.underlying95
 a182 := Try.isAgg95
 z182 := Try.sizeOf95
 v182 := Try.zeroValue95
 t183 := Try.underlying96
 a183 := Try.isAgg96
 z183 := Try.sizeOf96
 v183 := Try.zeroValue96
 t218 := Try.underlying112
 a218 := Try.isAgg112
 z218 := Try.sizeOf112
 v218 := Try.zeroValue112
 t222 := Try.underlying116
 a222 := Try.isAgg116
 z222 := Try.sizeOf116
 v222 := Try.zeroValue116
 t228 := Try.underlying120
 a228 := Try.isAgg120
 z228 := Try.sizeOf120
 v228 := Try.zeroValue120
 t229 := Try.underlying39
 a229 := Try.isAgg39
 z229 := Try.sizeOf39
 v229 := Try.zeroValue39 }
open Go.Sort Go.RowKit in
theorem Try.slices_Sort_string (blk off cap : Nat) (ss : List (List UInt8)) (w : World) (hH : Holds encStr w blk off ss.toArray) (hblk : blk < w.heap.size) (hsz : ss.length < 4611686018427387904) :
  Calls Try.prog 59 #[.slice (some ⟨blk, off, none⟩) ss.length cap] w fun e w' =>
   e = .returned (.tuple #[]) ∧ ∃ n os, w' = grow (putRow encStr (Sort.ahead w n) blk off (ss.mergeSort fun x y => decide (x ≤ y)).toArray) os := Any.slices_Sort_string Try.lays190 blk off cap ss w hH hblk hsz
def Try.lays194_ren : Go.Shelf.Ren := ⟨fun | 194 => 60 | n => n, fun | 31 => 22 | 9 => 9 | 3 => 3 | 4 => 4 | 0 => 0 | n => n, fun | n => n⟩
theorem Try.lays194 : Go.Proofs.Lays.n194 Try.prog Try.lays194_ren := {
 mixed := by kernel_rfl
 f194 := Try.func60.trans (congrArg some (by kernel_rfl))
 t0 := Try.underlying0
 a0 := Try.isAgg0
 z0 := Try.sizeOf0
 v0 := Try.zeroValue0
 t3 := Try.underlying3
 a3 := Try.isAgg3
 z3 := Try.sizeOf3
 v3 := Try.zeroValue3
 t4 := Try.underlying4
 a4 := Try.isAgg4
 z4 := Try.sizeOf4
 v4 := Try.zeroValue4
 t9 := Try.underlying9
 a9 := Try.isAgg9
 z9 := Try.sizeOf9
 v9 := Try.zeroValue9
 t31 := Try.underlying22
 a31 := Try.isAgg22
 z31 := Try.sizeOf22
 v31 := Try.zeroValue22 }
open Go.RowKit Go.Lib Go.Sort in
theorem Try.slices_Compact_string (blk off cap : Nat) (zs : List (List UInt8)) (w : World) (hH : Holds encStr w blk off zs.toArray) (hsz : zs.length ≤ 9223372036854775807) (hcap : zs.length ≤ cap) :
  Calls Try.prog 60 #[.slice (some ⟨blk, off, none⟩) zs.length cap] w fun e w' => e = .returned (.slice (some ⟨blk, off, none⟩) (Lib.compact zs).length cap) ∧ ∃ q, w' = putRow encStr (Sort.ahead w q) blk off (Lib.compact zs ++ List.replicate (zs.length - (Lib.compact zs).length) []).toArray := Any.slices_Compact_string Try.lays194 blk off cap zs w hH hsz hcap
open Go.RowKit Go.Lib Go.Sort in
theorem Try.slices_Compact_string_empty (a : Option Addr) (cap : Nat) (w : World) :
  Calls Try.prog 60 #[.slice a 0 cap] w fun e w' => e = .returned (.slice a 0 cap) ∧ w' = w := Any.slices_Compact_string_empty Try.lays194 a cap w
open Go.RowKit Go.Sort in
theorem Try.slices_Sort_string_none (p : Option Addr) (cap : Nat) (w : World) :
  Calls Try.prog 59 #[.slice p 0 cap] w fun e w' => e = .returned (.tuple #[]) ∧ w' = w := Any.slices_Sort_string_none Try.lays190 p cap w
end Go.Proofs
set_option linter.unusedVariables false
set_option linter.unusedSimpArgs false
namespace Go.Proofs.Ythaaockbapbooaa.H
open Go.RowKit Go.Proofs Go.Sort Go.Proofs.Ythaaockbapbooaa.Pr Go.Proofs.YthaaockbapbooaaW.PrintWords Go.Proofs.Ythaaockbapbooaa.Sem
def MadeS (w : World) (xs : List ByteArray) (e : Ending) (w' : World) : Prop := ∃ v : Value, e = .returned v ∧ Kd.R Kd.string 9 w' w.heap.size (fun _ => True) v xs ∧ Below w.heap.size w w'
theorem growNil0 (w : World) : Calls Try.prog 73 #[.slice none 0 0, .int .i64 0] w (MadeS w []) := by
 go_enter Try.func73, Try.ntmps73
 go_wp2
 go_ret
 exact ⟨_, rfl, Kd.R_nil _ _ _ _ _, Below.refl _ _⟩
set_option maxRecDepth 100000 in
theorem growNil1 (n : Int) (h0 : 0 < n) (hb : n ≤ 1000000000000) (w : World) : Calls Try.prog 73 #[.slice none 0 0, .int .i64 n] w (MadeS w []) := by
 have HB := Aside0.mk (Below.refl w.heap.size w)
 have h0' : 0 ≤ n := by omega
 obtain ⟨i9, hi9, hi90, hi91, hi92⟩ := info_parts info9
 go_enter Try.func73, Try.ntmps73
 go_wp2_with (at_builtin; refine Kd.R_append_zeros Kd.string (w0 := w) w.heap.size rfl (.tmp 20) (.tmp 21) 22 3 9 (.string ⟨#[]⟩) 16 rfl Try.underlying22 Try.underlying3 info9 rfl (by decide) (by omega) (.slice none 0 0) ([] : List ByteArray) (⟨#[]⟩ : ByteArray) n (fun _ => True) rfl rfl rfl (fun _ _ => trivial) (Kd.R_nil _ _ _ _ _) h0' HB.out (Nat.le_refl _) (by simp; omega) ?_; intro v1 w1 hR hB hG hat; obtain ⟨A1, c1, hv1, hle, _⟩ := Kd.R_reads hR; have H := Aside0.mk (And.intro hR hB); clear hR hB hG hat; subst hv1; have hcut := cut_to (P := Try.prog) 22 9 .i64 Try.underlying22 hi9 A1 ([] ++ List.replicate n.toNat (⟨#[]⟩ : ByteArray)).length c1 0 (by omega) (by omega) hle)
 go_ret
 exact ⟨_, rfl, by have := Kd.R_take (m := 0) H.out.1 (by simp); simpa using this, H.out.2⟩
theorem growNil (n : Int) (h0 : 0 ≤ n) (hb : n ≤ 1000000000000) (w : World) : Calls Try.prog 73 #[.slice none 0 0, .int .i64 n] w (MadeS w []) := by
 by_cases h : n = 0
 ·subst h; exact growNil0 w
 ·exact growNil1 n (by omega) hb w
theorem concat2 (xs ys : List ByteArray) (A1 A2 : Option Addr) (c1 c2 g : Nat) (w : World) (hx : Kd.C Kd.string w A1 xs.length xs) (hy : Kd.C Kd.string w A2 ys.length ys) (hb : xs.length + ys.length ≤ 1000000000000)
  (h0 : w.cell? ⟨g, 0, none⟩ = some (.slice A1 xs.length c1)) (h1 : w.cell? ⟨g, 1, none⟩ = some (.slice A2 ys.length c2)) :
  Calls Try.prog 58 #[.slice (some ⟨g, 0, none⟩) 2 2] w (MadeS w (xs ++ ys)) := by
 have HX := Lib.hid hx; clear hx
 have HY := Lib.hid hy; clear hy
 have HB := Aside0.mk (Below.refl w.heap.size w)
 go_enter Try.func58, Try.ntmps58
 go_wp2
 go_loop [3, 11] (fun s i => ∃ k : Nat, k ≤ 2 ∧ i = .int .i64 k ∧ s = .int .i64 (if k = 0 then 0 else if k = 1 then (xs.length : Int) else xs.length + ys.length)) (fun _ i => 2 - (intOf i).toNat)
 case atStart => exact ⟨0, by omega, rfl, rfl⟩
 case round =>
  obtain ⟨k, hk, rfl, rfl⟩ := hrel
  match k, hk with
  | 0, _ =>
   go_wp2
   go_round
   case rel => exact ⟨1, by omega, by go_num, by simp⟩
   case measure => simp [intOf]
  | 1, _ =>
   go_wp2
   go_round
   case rel => exact ⟨2, by omega, by go_num, by simp⟩
   case measure => simp [intOf]
  | 2, _ =>
   have hg : (0 : Int) ≤ (xs.length : Int) + (ys.length : Int) := by omega
   have hg2 : (xs.length : Int) + (ys.length : Int) ≤ 1000000000000 := by omega
   go_wp2_with (go_at_call 73; refine (growNil _ hg hg2 _).mono ?_; rintro e w1 ⟨v, rfl, hR, hB⟩; have HR := Aside0.mk hR; have HB1 := Aside0.mk hB; clear hR hB)
   go_loopw [6, 27] (fun v i wr => ∃ k : Nat, k ≤ 2 ∧ i = .int .i64 k ∧ Aside0 (Kd.R Kd.string 9 wr w.heap.size (fun _ => True) v (if k = 0 then [] else if k = 1 then xs else xs ++ ys)) ∧ Aside0 (Below w.heap.size w wr)) (fun _ i _ => 2 - (intOf i).toNat)
   case atStart => exact ⟨0, by omega, rfl, HR, HB1⟩
   case round =>
    obtain ⟨k, hk, rfl, HRr, HBr⟩ := hrel
    clear HR HB1
    have c0 := later HBr.out h0
    have c1' := later HBr.out h1
    match k, hk with
    | 0, _ =>
     have HR0 : Aside0 (Kd.R Kd.string 9 wr w.heap.size (fun _ => True) u6 []) := HRr
     clear HRr
     go_wp2_with (at_builtin; refine Kd.R_append_row Value.string ByteArray.empty (w0 := w) w.heap.size rfl (.tmp 31) (.tmp 32) 22 9 (.string ⟨#[]⟩) 16 rfl Try.underlying22 info9 rfl (by omega) _ [] xs A1 xs.length c1 (fun _ => True) rfl rfl (fun _ _ => trivial) HR0.out (Kd.C_below HX.out HBr.out) HBr.out (HBr.out.size) (by simp; omega) ?_; intro v1 w2 hR2 hB2 _ _; have HR2 := Aside0.mk hR2; have HB2 := Aside0.mk hB2; clear hR2 hB2)
     go_roundw
     case rel => exact ⟨1, by omega, by go_num, ⟨HR2.out⟩, HB2⟩
     case measure => simp [intOf]
    | 1, _ =>
     have HR0 : Aside0 (Kd.R Kd.string 9 wr w.heap.size (fun _ => True) u6 xs) := HRr
     clear HRr
     go_wp2_with (at_builtin; refine Kd.R_append_row Value.string ByteArray.empty (w0 := w) w.heap.size rfl (.tmp 31) (.tmp 32) 22 9 (.string ⟨#[]⟩) 16 rfl Try.underlying22 info9 rfl (by omega) _ xs ys A2 ys.length c2 (fun _ => True) rfl rfl (fun _ _ => trivial) HR0.out (Kd.C_below HY.out HBr.out) HBr.out (HBr.out.size) (by omega) ?_; intro v1 w2 hR2 hB2 _ _; have HR2 := Aside0.mk hR2; have HB2 := Aside0.mk hB2; clear hR2 hB2)
     go_roundw
     case rel => exact ⟨2, by omega, by go_num, ⟨HR2.out⟩, HB2⟩
     case measure => simp [intOf]
    | 2, _ =>
     have HR0 : Aside0 (Kd.R Kd.string 9 wr w.heap.size (fun _ => True) u6 (xs ++ ys)) := HRr
     clear HRr
     go_wp2
     go_ret
     exact ⟨_, rfl, HR0.out, HBr.out⟩
def srt (xs : List ByteArray) : List ByteArray := ((xs.map fun s => s.data.toList).mergeSort fun x y => decide (x ≤ y)).map fun l => ⟨l.toArray⟩
def cmpt (xs : List ByteArray) : List ByteArray := (Lib.compact (xs.map fun s => s.data.toList)).map fun l => ⟨l.toArray⟩
theorem srt_length (xs : List ByteArray) : (srt xs).length = xs.length := by simp [srt]
theorem enc_bytes (xs : List ByteArray) : (xs.map fun s => s.data.toList).map encStr = xs.map Value.string := by
 rw [List.map_map]
 apply List.map_congr_left
 intro s _
 simp [encStr]
theorem enc_back (ls : List (List UInt8)) : ls.map encStr = (ls.map fun l => (⟨l.toArray⟩ : ByteArray)).map Value.string := by
 rw [List.map_map]
 rfl
theorem own_of_RS {w : World} {base e : Nat} {ok : Nat → Prop} {v : Value} {xs : List ByteArray} (h : Kd.R Kd.string e w base ok v xs) : w.ownsRow base e 1 v (xs.map fun s => s.data.toList).length ((xs.map fun s => s.data.toList).map encStr) := by
 rw [enc_bytes, List.length_map]
 exact Kd.own_of_R h
theorem RS_of_own {w : World} {base e n : Nat} {v : Value} {ls : List (List UInt8)} (hn : n = ls.length) (h : w.ownsRow base e 1 v n (ls.map encStr)) : Kd.R Kd.string e w base (fun _ => True) v (ls.map fun l => ⟨l.toArray⟩) :=
 Kd.R_of_own (enc := Value.string) (by rw [enc_back, hn] at h; rw [List.length_map]; exact h) (fun _ _ => trivial)
theorem sortR (base e : Nat) (v : Value) (xs : List ByteArray) (w : World) (h : Kd.R Kd.string e w base (fun _ => True) v xs) (hl : xs.length < 1000000000000) :
  Calls Try.prog 59 #[v] w fun e' w' => e' = .returned (.tuple #[]) ∧ Kd.R Kd.string e w' base (fun _ => True) v (srt xs) ∧ w.grownBy w' v.ownBlock := by
 have ho := own_of_RS h
 rcases ho.2 with ⟨hv, h0⟩ | ⟨g, cap, cur, hv, hb, hg, h1, h2, h3, h4⟩
 ·subst hv
  have hx : xs = [] := by simpa using h0
  subst hx
  refine (Try.slices_Sort_string_none none 0 w).mono ?_
  rintro e' w' ⟨rfl, rfl⟩
  refine ⟨rfl, by simpa [srt] using h, ?_⟩
  exact grown_of_below (Below.refl _ _) _
 ·subst hv
  have hH := holds_of_block (ss := xs.map fun s => s.data.toList) hg (by rw [← h4, Nat.mul_one])
  refine (Try.slices_Sort_string g 0 cap _ w hH (Array.getElem?_eq_some_iff.1 hg).1 (by rw [List.length_map]; omega)).mono ?_
  rintro e' w' ⟨rfl, n, os, rfl⟩
  refine ⟨rfl, ?_, grownBy_sorted _⟩
  have hs := ownsRow_sorted (n := n) (os := os) (ts := (xs.map fun s => s.data.toList).mergeSort fun x y => decide (x ≤ y)) (List.length_mergeSort _) hb hg h1 h2 h3
  exact RS_of_own (List.length_mergeSort _).symm hs
theorem compactR (base e : Nat) (v : Value) (xs : List ByteArray) (w : World) (h : Kd.R Kd.string e w base (fun _ => True) v xs) (hl : xs.length < 1000000000000) :
  Calls Try.prog 60 #[v] w fun e' w' => ∃ v', e' = .returned v' ∧ Kd.R Kd.string e w' base (fun _ => True) v' (cmpt xs) ∧ w.grownBy w' v.ownBlock := by
 have ho := own_of_RS h
 rcases ho.2 with ⟨hv, h0⟩ | ⟨g, cap, cur, hv, hb, hg, h1, h2, h3, h4⟩
 ·subst hv
  have hx : xs = [] := by simpa using h0
  subst hx
  refine (Try.slices_Compact_string_empty none 0 w).mono ?_
  rintro e' w' ⟨rfl, rfl⟩
  refine ⟨_, rfl, h, grown_of_below (Below.refl _ _) _⟩
 ·subst hv
  have hH := holds_of_block (ss := xs.map fun s => s.data.toList) hg (by rw [← h4, Nat.mul_one])
  refine (Try.slices_Compact_string g 0 cap _ w hH (by rw [List.length_map]; omega) h1).mono ?_
  rintro e' w' ⟨rfl, q, rfl⟩
  have hle := Lib.compact_length_le (xs.map fun s => s.data.toList)
  have hc := Lib.ownsRow_putRow (q := q) (k := (Lib.compact (xs.map fun s => s.data.toList)).length) (ys := Lib.compact (xs.map fun s => s.data.toList) ++ List.replicate ((xs.map fun s => s.data.toList).length - (Lib.compact (xs.map fun s => s.data.toList)).length) []) ho (by simp at hle ⊢; omega) hle
  rw [List.take_left] at hc
  refine ⟨_, rfl, RS_of_own rfl hc, ?_⟩
  exact grownBy_sorted (os := #[]) _
def unionS (xs ys : List ByteArray) : List ByteArray := cmpt (srt (xs ++ ys))
theorem union_any (xs ys : List ByteArray) (A1 A2 : Option Addr) (c1 c2 : Nat) (w : World) (hx : Kd.C Kd.string w A1 xs.length xs) (hy : Kd.C Kd.string w A2 ys.length ys) (hb : xs.length + ys.length < 1000000000000) :
  Calls Try.prog 46 #[.slice A1 xs.length c1, .slice A2 ys.length c2] w (MadeS w (unionS xs ys)) := by
 have HX := Lib.hid hx; clear hx
 have HY := Lib.hid hy; clear hy
 have HB := Aside0.mk (Below.refl w.heap.size w)
 go_enter Try.func46, Try.ntmps46
 go_wp2_with fail
 refine (concat2 xs ys A1 A2 c1 c2 _ _ (Kd.C_below HX.out ?_) (Kd.C_below HY.out ?_) (by omega) ?_ ?_).mono ?_
 rotate_right
 ·rintro e w1 ⟨v, rfl, hR, hB⟩
  have hR0 := Kd.R_lower (base' := w.heap.size) hR (by simp)
  have HB1 := Aside0.mk (below_then (below_alloc HB.out _) (by simp) hB)
  have HR := Aside0.mk hR0
  clear hR hB hR0
  go_wp2_with fail
  refine (sortR _ _ _ _ _ HR.out (by simp; omega)).mono ?_
  rintro e w2 ⟨rfl, hR, hG⟩
  have HR2 := Aside0.mk hR
  have HB2 := Aside0.mk (HB1.out.grown hG HB1.out.size (own_base (Kd.own_of_R HR.out)))
  clear hR hG
  go_wp2_with fail
  refine (compactR _ _ _ _ _ HR2.out (by simp [srt_length]; omega)).mono ?_
  rintro e w3 ⟨v3, rfl, hR, hG⟩
  have HR3 := Aside0.mk hR
  have HB3 := Aside0.mk (HB2.out.grown hG HB2.out.size (own_base (Kd.own_of_R HR2.out)))
  clear hR hG
  go_wp2
  go_ret
  exact ⟨_, rfl, HR3.out, HB3.out⟩
 all_goals (first | exact below_alloc HB.out _ | go_simp)
theorem list_ext_getD {α : Type} (d : α) {xs ys : List α} (hl : xs.length = ys.length) (h : ∀ j, j < xs.length → xs.getD j d = ys.getD j d) : xs = ys := by
 apply List.ext_getElem hl
 intro j h1 h2
 have := h j h1
 simpa [List.getD_eq_getElem?_getD, List.getElem?_eq_getElem h1, List.getElem?_eq_getElem h2] using this
theorem equalS (xs ys : List ByteArray) (A1 A2 : Option Addr) (c1 c2 : Nat) (w : World) (hx : Kd.C Kd.string w A1 xs.length xs) (hy : Kd.C Kd.string w A2 ys.length ys) :
  Calls Try.prog 70 #[.slice A1 xs.length c1, .slice A2 ys.length c2] w fun e w' => e = .returned (.bool (decide (xs = ys))) ∧ Drawn0 w w' := by
 by_cases hl : xs.length = ys.length
 ·have hm := C_len hx
  have hq : ((xs.length : Int) != (ys.length : Int)) = false := by rw [hl]; simp
  have HX := Lib.hid hx; clear hx
  have HY := Lib.hid hy; clear hy
  have HLn := Aside0.mk hl; clear hl
  go_enter Try.func70, Try.ntmps70
  go_wp2
  go_loopw [13] (fun i wr => ∃ k : Nat, k ≤ xs.length ∧ i = .int .i64 k ∧ Aside0 (∀ j, j < k → xs.getD j ByteArray.empty = ys.getD j ByteArray.empty) ∧ Drawn0 w wr) (fun i _ => xs.length - (intOf i).toNat)
  case atStart => exact ⟨0, Nat.zero_le _, rfl, ⟨fun j hj => by omega⟩, Drawn0.refl _⟩
  case round =>
   obtain ⟨k, hk, rfl, hz, hD⟩ := hrel
   by_cases hlt : k < xs.length
   ·obtain ⟨a1, hA1, h1⟩ := atS HX.out k hlt
    obtain ⟨a2, hA2, h2⟩ := atS HY.out k (by rw [← HLn.out]; exact hlt)
    subst hA1 hA2
    have g1 := later hD.below h1
    have g2 := later hD.below h2
    clear h1 h2
    have hlt2 : k < ys.length := by rw [← HLn.out]; exact hlt
    obtain ⟨s, hs⟩ : ∃ s, s = xs.getD k ByteArray.empty := ⟨_, rfl⟩
    obtain ⟨t, ht⟩ : ∃ t, t = ys.getD k ByteArray.empty := ⟨_, rfl⟩
    rw [← hs] at g1
    rw [← ht] at g2
    have HS := Aside0.mk hs; clear hs
    have HT := Aside0.mk ht; clear ht
    have i1 : (k : Int) < (xs.length : Int) := by omega
    have i2 : (k : Int) < (ys.length : Int) := by omega
    have i0 : (0 : Int) ≤ (k : Int) := by omega
    cases hb : (s.toList == t.toList) with
    | false =>
     go_wp2_with fail
     go_quiet (fail)
     go_wp2
     go_ret
     refine ⟨ret_bool (decide_eq_false fun he => ?_).symm, hD.step _⟩
     rw [HS.out, HT.out, he] at hb
     simp at hb
    | true =>
     go_wp2_with fail
     go_quiet (fail)
     go_wp2
     go_roundw
     case rel => exact ⟨k + 1, by omega, by go_num, ⟨fun j hj => by
      rcases Nat.lt_succ_iff_lt_or_eq.1 hj with h | rfl
      ·exact hz.out j h
      ·rw [← HS.out, ← HT.out]
       exact ByteArray.ext (Array.toList_inj.1 (by simpa [ByteArray.toList_eq] using hb))⟩, hD.step _⟩
     case measure => simp [intOf]; omega
   ·go_wp2
    go_ret
    exact ⟨ret_bool (decide_eq_true (list_ext_getD ByteArray.empty HLn.out (fun j hj => hz.out j (by omega)))).symm, hD⟩
 ·have hq : ((xs.length : Int) != (ys.length : Int)) = true := by simp; omega
  have hn : decide (xs = ys) = false := decide_eq_false fun h => hl (by rw [h])
  rw [hn]
  clear hx hy hl hn
  go_enter Try.func70, Try.ntmps70
  go_wp2
  go_ret
  exact ⟨rfl, Drawn0.refl _⟩
def namedB (ls : List ByteArray) : Bool := decide (ls.length ≤ 64) && (!ls.any tooLong && decide (ls = unionS ls []))
theorem named_any (ls : List ByteArray) (A : Option Addr) (c : Nat) (w : World) (hr : Kd.C Kd.string w A ls.length ls) :
  Calls Try.prog 54 #[.slice A ls.length c] w fun e w' => e = .returned (.bool (namedB ls)) ∧ Below w.heap.size w w' := by
 have HB := Aside0.mk (Below.refl w.heap.size w)
 have hnil := Kd.C_nil Kd.string w
 by_cases h1 : (64 : Int) < (ls.length : Int)
 ·have e1 : namedB ls = false := by unfold namedB; rw [decide_eq_false (by omega)]; rfl
  rw [e1]
  clear hr hnil e1
  go_enter Try.func54, Try.ntmps54
  go_wp2
  go_ret
  exact ⟨rfl, HB.out⟩
 ·have e0 : namedB ls = (!ls.any tooLong && decide (ls = unionS ls [])) := by unfold namedB; rw [decide_eq_true (by omega)]; rfl
  have HR := Lib.hid hr; clear hr
  have HC := Lib.hid hnil; clear hnil
  have HL := Lib.hid (anyLong ls A c w HR.out)
  cases hb : ls.any tooLong with
  | true =>
   have e1 : namedB ls = false := by rw [e0, hb]; rfl
   rw [e1]
   clear e0 e1
   rw [hb] at HL
   clear hb
   go_enter Try.func54, Try.ntmps54
   go_wp2_with (go_at_call 68; refine HL.out.mono ?_; rintro e w' ⟨rfl, rfl⟩)
   go_ret
   exact ⟨rfl, HB.out⟩
  | false =>
   have e1 : namedB ls = decide (ls = unionS ls []) := by rw [e0, hb]; rfl
   rw [e1]
   clear e0 e1
   rw [hb] at HL
   clear hb
   go_enter Try.func54, Try.ntmps54
   go_wp2_with (go_at_call 68; refine HL.out.mono ?_; rintro e w' ⟨rfl, rfl⟩)
   refine (union_any ls [] A none c 0 _ HR.out HC.out (by simp; omega)).mono ?_
   rintro e w1 ⟨v, rfl, hR, hB⟩
   obtain ⟨B1, c1, hv, hle, hC⟩ := Kd.R_reads hR
   subst hv
   have HB1 := Aside0.mk hB
   have HC1 := Aside0.mk hC
   clear hR hB hC
   go_wp2_with fail
   refine (equalS ls (unionS ls []) A B1 c c1 _ (Kd.C_below HR.out HB1.out) HC1.out).mono ?_
   rintro e w2 ⟨rfl, hD⟩
   have HB2 := Aside0.mk (below_then HB1.out HB1.out.size hD.below)
   clear hD
   go_wp2
   go_ret
   exact ⟨rfl, HB2.out⟩
end Go.Proofs.Ythaaockbapbooaa.H
set_option linter.unusedVariables false
set_option linter.unusedSimpArgs false
namespace Go.Proofs.Ythaaockbapbooaa.H
open Go.RowKit Go.Proofs.Ythaaockbapbooaa.Pr Go.Proofs.YthaaockbapbooaaW.PrintWords Go.Proofs.Ythaaockbapbooaa.Sem
theorem node_is (i n : Int) (b : Bool) (hb : decide (0 ≤ i ∧ i < n) = b) (p : Addr) (w : World) (h0 : w.cell? p = some (.int .i64 n)) :
  Calls Try.prog 55 #[.int .i64 i, .pointer (some p)] w fun e w' => e = .returned (.bool b) ∧ w = w' := by
 subst hb
 exact node_any i n p w h0
theorem compare_is (a b : Ed) (r : Bool) (hr : decide (cmpE a b < 0) = r) (w : World) : Calls Try.prog 51 #[.agg #[.int .i64 a.f0, .int .i64 a.f1, .int .i64 a.f2], .agg #[.int .i64 b.f0, .int .i64 b.f1, .int .i64 b.f2]] w fun e w' => ∃ z : Int, e = .returned (.int .i64 z) ∧ Aside0 (decide (z < 0) = r) ∧ Below w.heap.size w w' :=
 (compareE a b w).mono fun e w' ⟨he, hb⟩ => ⟨_, he, ⟨hr⟩, hb⟩
def mayB (n : Int) (ls : List ByteArray) (es : List Ed) : Bool :=
 decide (1 ≤ n) && (decide (n ≤ 2048) && (namedB ls && (decide (es.length ≤ 1000000) && (List.range es.length).all (okAt n ls.length es))))
def errB (b : Bool) : Int := if b then 0 else 1
def BoxL (w : World) (b : Nat) (n : Int) (v1 v2 : Value) : Prop := w.heap[b]? = some (.cells #[.int .i64 n, v1, v2] 25 (0, 0))
theorem BoxL.c0 {w : World} {b : Nat} {n : Int} {v1 v2 : Value} (h : BoxL w b n v1 v2) : w.cell? ⟨b, 0, none⟩ = some (.int .i64 n) := (blk_cell h 0).trans rfl
theorem BoxL.c1 {w : World} {b : Nat} {n : Int} {v1 v2 : Value} (h : BoxL w b n v1 v2) : w.cell? ⟨b, 1, none⟩ = some v1 := (blk_cell h 1).trans rfl
theorem BoxL.c2 {w : World} {b : Nat} {n : Int} {v1 v2 : Value} (h : BoxL w b n v1 v2) : w.cell? ⟨b, 2, none⟩ = some v2 := (blk_cell h 2).trans rfl
theorem BoxL.below {w w1 : World} {b : Nat} {n : Int} {v1 v2 : Value} (h : BoxL w b n v1 v2) (hb : Below w.heap.size w w1) : BoxL w1 b n v1 v2 := blk_below h hb
theorem check_size (n : Int) (ls : List ByteArray) (es : List Ed) (A1 A2 : Option Addr) (c1 c2 : Nat) (w : World) (h : n < 1 ∨ 2048 < n) :
  Calls Try.prog 27 #[.agg #[.int .i64 n, .slice A1 ls.length c1, .slice A2 es.length c2]] w fun e w' => e = .returned (.int .i64 1) ∧ Below w.heap.size w w' := by
 have HB := Aside0.mk (Below.refl w.heap.size w)
 rcases h with h | h
 ·go_enter Try.func27, Try.ntmps27
  go_wp2
  go_ret
  exact ⟨rfl, below_alloc HB.out _⟩
 ·have h' : ¬ n < 1 := by omega
  go_enter Try.func27, Try.ntmps27
  go_wp2
  go_ret
  exact ⟨rfl, below_alloc HB.out _⟩
theorem check_named (n : Int) (ls : List ByteArray) (es : List Ed) (A1 A2 : Option Addr) (c1 c2 : Nat) (w : World) (h0 : ¬ n < 1) (h1 : ¬ 2048 < n) (hr1 : Kd.C Kd.string w A1 ls.length ls) (h : namedB ls = false) :
  Calls Try.prog 27 #[.agg #[.int .i64 n, .slice A1 ls.length c1, .slice A2 es.length c2]] w fun e w' => e = .returned (.int .i64 1) ∧ Below w.heap.size w w' := by
 have HB := Aside0.mk (Below.refl w.heap.size w)
 have HN : ∀ W, Below w.heap.size w W → Calls Try.prog 54 #[.slice A1 ls.length c1] W fun e w' => e = .returned (.bool false) ∧ Below W.heap.size W w' := fun W hW => by
  have := named_any ls A1 c1 W (Kd.C_below hr1 hW)
  rwa [h] at this
 have HN' := Lib.hid HN
 clear HN hr1 h
 go_enter Try.func27, Try.ntmps27
 go_wp2_with (go_at_call 54; refine (HN'.out _ (below_alloc HB.out _)).mono ?_; rintro e w1 ⟨rfl, hB⟩; have HB1 := Aside0.mk (below_then (below_alloc HB.out _) (by simp) hB); clear hB)
 go_ret
 exact ⟨rfl, HB1.out⟩
theorem bad_at {n nl : Int} {es : List Ed} {k : Nat} (hk : k < es.length) (h : okAt n nl es k = false) : 1 = errB ((List.range es.length).all (okAt n nl es)) := by
 have : (List.range es.length).all (okAt n nl es) = false := by
  rw [Bool.eq_false_iff]
  intro he
  have := List.all_eq_true.1 he k (List.mem_range.2 hk)
  rw [h] at this
  cases this
 rw [this]; rfl
theorem quiet_same {P : Program} {f : FuncId} {args : Array Value} {w : World} {n : Nat} {v : Value} (h : Calls P f args (w.drewN n) fun e w' => e = .returned v ∧ w.drewN n = w') : Calls P f args (w.drewN n) fun e w'' => e = .returned v ∧ ∃ m, w'' = w.drewN m :=
 h.mono fun _ _ ⟨he, hw⟩ => ⟨he, n, hw.symm⟩
set_option maxHeartbeats 8000000 in
set_option maxRecDepth 100000 in
theorem check_main (n : Int) (ls : List ByteArray) (es : List Ed) (A1 A2 : Option Addr) (c1 c2 : Nat) (w : World) (h0 : ¬ n < 1) (h1 : ¬ 2048 < n) (hr1 : Kd.C Kd.string w A1 ls.length ls) (hr2 : Kd.C k51 w A2 es.length es) (h : namedB ls = true) :
  Calls Try.prog 27 #[.agg #[.int .i64 n, .slice A1 ls.length c1, .slice A2 es.length c2]] w fun e w' => e = .returned (.int .i64 (errB (decide (es.length ≤ 1000000) && (List.range es.length).all (okAt n ls.length es)))) ∧ Below w.heap.size w w' := by
 have HB := Aside0.mk (Below.refl w.heap.size w)
 have HN : ∀ W, Below w.heap.size w W → Calls Try.prog 54 #[.slice A1 ls.length c1] W fun e w' => e = .returned (.bool true) ∧ Below W.heap.size W w' := fun W hW => by
  have := named_any ls A1 c1 W (Kd.C_below hr1 hW)
  rwa [h] at this
 have HN' := Lib.hid HN
 have hm := C_len hr2
 have HR := Aside0.mk hr2
 clear HN hr1 h hr2
 by_cases hl : (1000000 : Int) < (es.length : Int)
 ·have e1 : errB (decide (es.length ≤ 1000000) && (List.range es.length).all (okAt n ls.length es)) = 1 := by rw [decide_eq_false (by omega)]; rfl
  rw [e1]; clear e1
  go_enter Try.func27, Try.ntmps27
  go_wp2_with fail
  refine (HN'.out _ (below_alloc HB.out _)).mono ?_; rintro e w1 ⟨rfl, hB⟩
  have HX : BoxL w1 w.heap.size n (.slice A1 ls.length c1) (.slice A2 es.length c2) := blk_below (blk_new w _) hB
  have a0 := Aside0.mk (below_then (below_alloc HB.out _) (by simp) hB)
  have b2 := HX.c2
  clear hB HX
  go_wp2
  go_ret
  exact ⟨rfl, a0.out⟩
 ·have e1 : errB (decide (es.length ≤ 1000000) && (List.range es.length).all (okAt n ls.length es)) = errB ((List.range es.length).all (okAt n ls.length es)) := by rw [decide_eq_true (by omega)]; rfl
  rw [e1]; clear e1
  go_enter Try.func27, Try.ntmps27
  go_wp2_with fail
  refine (HN'.out _ (below_alloc HB.out _)).mono ?_; rintro e w1 ⟨rfl, hB⟩
  have HX := Aside0.mk (show BoxL w1 w.heap.size n (.slice A1 ls.length c1) (.slice A2 es.length c2) from blk_below (blk_new w _) hB)
  have a0 := Aside0.mk (below_then (below_alloc HB.out _) (by simp) hB)
  have b2 := HX.out.c2
  clear hB
  go_wp2
  clear b2
  go_loopw [30] (fun i wr => ∃ k : Nat, k ≤ es.length ∧ i = .int .i64 k ∧ Aside0 (∀ j, j < k → okAt n ls.length es j = true) ∧ Aside0 (BoxL wr w.heap.size n (.slice A1 ls.length c1) (.slice A2 es.length c2)) ∧ Aside0 (Below w.heap.size w wr)) (fun i _ => es.length - (intOf i).toNat)
  case atStart => exact ⟨0, Nat.zero_le _, rfl, ⟨fun j hj => by omega⟩, HX, a0⟩
  case round =>
   obtain ⟨k, hk, rfl, hz, HXr, HBr⟩ := hrel
   clear HX a0
   by_cases hlt : k < es.length
   ·obtain ⟨ad, hA, g0, g1, g2⟩ := atE HR.out k hlt
    subst hA
    replace g0 := later HBr.out g0
    replace g1 := later HBr.out g1
    replace g2 := later HBr.out g2
    obtain ⟨x, hx⟩ : ∃ x, x = es.getD k z51 := ⟨_, rfl⟩
    rw [← hx] at g0 g1 g2
    have hx' := Aside0.mk hx; clear hx
    go_wp2_with fail
    have b0 : ∀ o, (wr.alloc o).cell? ⟨w.heap.size, 0, none⟩ = some (.int .i64 n) := fun o => (HXr.out.below (below_alloc (Below.refl _ _) o)).c0
    have b1 : ∀ o, (wr.alloc o).cell? ⟨w.heap.size, 1, none⟩ = some (.slice A1 ls.length c1) := fun o => (HXr.out.below (below_alloc (Below.refl _ _) o)).c1
    cases hF : decide (0 ≤ x.f0 ∧ x.f0 < n) with
    | false =>
     have HF := Aside0.mk hF; clear hF
     go_quiet ((first | (go_at_call_of 55 (x.f0); exact quiet_same (node_is x.f0 n _ HF.out _ _ (by go_simp)))))
     go_wp2
     go_ret
     exact ⟨ret_int (bad_at hlt (by unfold okAt; rw [← hx'.out]; rw [HF.out]; rfl)), by repeat (first | exact HBr.out | apply below_alloc | apply pw_below_drewN | apply below_drew)⟩
    | true =>
     have HF := Aside0.mk hF; clear hF
     cases hT : decide (0 ≤ x.f2 ∧ x.f2 < n) with
     | false =>
      have HT := Aside0.mk hT; clear hT
      go_quiet ((first | (go_at_call_of 55 (x.f0); exact quiet_same (node_is x.f0 n _ HF.out _ _ (by go_simp))) | (go_at_call_of 55 (x.f2); exact quiet_same (node_is x.f2 n _ HT.out _ _ (by go_simp)))))
      go_wp2
      go_ret
      exact ⟨ret_int (bad_at hlt (by unfold okAt; rw [← hx'.out]; rw [HF.out, HT.out]; rfl)), by repeat (first | exact HBr.out | apply below_alloc | apply pw_below_drewN | apply below_drew)⟩
     | true =>
      have HT := Aside0.mk hT; clear hT
      by_cases hL : x.f1 < 0
      ·have HL := Aside0.mk (show decide (0 ≤ x.f1) = false by rw [decide_eq_false (by omega)])
       go_quiet ((first | (go_at_call_of 55 (x.f0); exact quiet_same (node_is x.f0 n _ HF.out _ _ (by go_simp))) | (go_at_call_of 55 (x.f2); exact quiet_same (node_is x.f2 n _ HT.out _ _ (by go_simp)))))
       go_wp2
       go_ret
       exact ⟨ret_int (bad_at hlt (by unfold okAt; rw [← hx'.out]; rw [HF.out, HT.out, HL.out]; rfl)), by repeat (first | exact HBr.out | apply below_alloc | apply pw_below_drewN | apply below_drew)⟩
      ·have HL := Aside0.mk (show decide (0 ≤ x.f1) = true by rw [decide_eq_true (by omega)])
       by_cases hM : (ls.length : Int) ≤ x.f1
       ·have HM := Aside0.mk (show decide (x.f1 < (ls.length : Int)) = false by rw [decide_eq_false (by omega)])
        go_quiet ((first | (go_at_call_of 55 (x.f0); exact quiet_same (node_is x.f0 n _ HF.out _ _ (by go_simp))) | (go_at_call_of 55 (x.f2); exact quiet_same (node_is x.f2 n _ HT.out _ _ (by go_simp)))))
        go_wp2
        go_ret
        exact ⟨ret_int (bad_at hlt (by unfold okAt; rw [← hx'.out]; rw [HF.out, HT.out, HL.out, HM.out]; rfl)), by repeat (first | exact HBr.out | apply below_alloc | apply pw_below_drewN | apply below_drew)⟩
       ·have HM := Aside0.mk (show decide (x.f1 < (ls.length : Int)) = true by rw [decide_eq_true (by omega)])
        by_cases hK : k = 0
        ·subst hK
         go_quiet ((first | (go_at_call_of 55 (x.f0); exact quiet_same (node_is x.f0 n _ HF.out _ _ (by go_simp))) | (go_at_call_of 55 (x.f2); exact quiet_same (node_is x.f2 n _ HT.out _ _ (by go_simp)))))
         go_wp2
         go_roundw
         case rel => exact ⟨1, by omega, by go_num, ⟨fun j hj => by obtain rfl : j = 0 := (by omega); unfold okAt; rw [← hx'.out, HF.out, HT.out, HL.out, HM.out]; rfl⟩, ⟨HXr.out.below (by repeat (first | exact Below.refl _ _ | apply below_alloc | apply pw_below_drewN | apply below_drew))⟩, ⟨by repeat (first | exact HBr.out | apply below_alloc | apply pw_below_drewN | apply below_drew)⟩⟩
         case measure => simp [intOf]; omega
        ·have hK' : (0 : Int) < (k : Int) := by omega
         obtain ⟨ad', hA', p0, p1, p2⟩ := atE HR.out (k - 1) (by omega)
         cases hA'
         replace p0 := later HBr.out p0
         replace p1 := later HBr.out p1
         replace p2 := later HBr.out p2
         obtain ⟨y, hy⟩ : ∃ y, y = es.getD (k - 1) z51 := ⟨_, rfl⟩
         rw [← hy] at p0 p1 p2
         have hy' := Aside0.mk hy
         clear hy
         have q0 := fun o => later (below_alloc (Below.refl wr.heap.size wr) o) p0
         have q1 := fun o => later (below_alloc (Below.refl wr.heap.size wr) o) p1
         have q2 := fun o => later (below_alloc (Below.refl wr.heap.size wr) o) p2
         clear p0 p1 p2
         have i0 : (0 : Int) ≤ (k : Int) - 1 := by omega
         have d1 : decide (x.f1 < 0) = false := decide_eq_false hL
         have d2 : decide ((ls.length : Int) ≤ x.f1) = false := decide_eq_false hM
         have a2 : IntKind.i64.wrap ((k : Int) - 1) = (k : Int) - 1 := by rw [IntKind.wrap_i64]; omega
         have a1 : ((k : Int) - 1).toNat = k - 1 := by omega
         have j0 : (1 : Int) ≤ (k : Int) := by omega
         have j1 : (k : Int) < (es.length : Int) + 1 := by omega
         have j2 : 1 ≤ k := by omega
         have j3 : k - 1 < es.length := by omega
         have j4 : (k : Int) ≤ (es.length : Int) := by omega
         have d4 : decide (0 < k) = true := decide_eq_true (by omega)
         have d3 : decide ((0 : Int) < (k : Int)) = true := decide_eq_true hK'
         have i1 : (k : Int) - 1 < (es.length : Int) := by omega
         have b2 : ∀ o, (wr.alloc o).cell? ⟨w.heap.size, 2, none⟩ = some (.slice (some ad) es.length c2) := fun o => (HXr.out.below (below_alloc (Below.refl _ _) o)).c2
         go_region_held3 (fun w' => w'.cell? ⟨w.heap.size, 0, none⟩ = some (.int .i64 n) ∧ w'.cell? ⟨w.heap.size, 1, none⟩ = some (.slice A1 ls.length c1) ∧ w'.cell? ⟨w.heap.size, 2, none⟩ = some (.slice (some ad) es.length c2) ∧ w'.cell? ⟨wr.heap.size, 0, none⟩ = some (.int .i64 x.f0) ∧ w'.cell? ⟨wr.heap.size, 1, none⟩ = some (.int .i64 x.f1) ∧ w'.cell? ⟨wr.heap.size, 2, none⟩ = some (.int .i64 x.f2) ∧ w'.cell? (ad.add ((k - 1) * 3)) = some (.int .i64 y.f0) ∧ w'.cell? ⟨(ad.add ((k - 1) * 3)).block, (ad.add ((k - 1) * 3)).off + 1, none⟩ = some (.int .i64 y.f1) ∧ w'.cell? ⟨(ad.add ((k - 1) * 3)).block, (ad.add ((k - 1) * 3)).off + 2, none⟩ = some (.int .i64 y.f2)) (first | go_keep | (refine ⟨later hB ?_, later hB ?_, later hB ?_, later hB ?_, later hB ?_, later hB ?_, later hB ?_, later hB ?_, later hB ?_⟩ <;> go_keep)) (first | (go_at_call_of 55 (x.f0); refine (node_is x.f0 n _ HF.out _ _ (by go_keep)).mono ?_; rintro e w' ⟨rfl, rfl⟩) | (go_at_call_of 55 (x.f2); refine (node_is x.f2 n _ HT.out _ _ (by go_keep)).mono ?_; rintro e w' ⟨rfl, rfl⟩) | (go_at_call 51; refine (compare_is y x _ rfl _).mono ?_; rintro e w' ⟨z, rfl, hz', hB⟩))
         clear a2 a1 j0 j1 j2 j3 j4 q0 q1 q2
         have HW := Aside0.mk (below_then (show Below w.heap.size w _ by repeat (first | exact HBr.out | apply below_alloc | apply pw_below_drewN | apply below_drew)) (below_size (by repeat (first | exact HBr.out | apply below_alloc | apply pw_below_drewN | apply below_drew))) hB)
         have HXw := Aside0.mk ((HXr.out.below (show Below wr.heap.size wr _ by repeat (first | exact Below.refl _ _ | apply below_alloc | apply pw_below_drewN | apply below_drew))).below hB)
         clear hB
         by_cases hneg : z < 0
         ·have HC := Aside0.mk (show decide (cmpE y x < 0) = true by rw [← hz'.out]; exact decide_eq_true hneg)
          go_wp2
          go_roundw
          case rel => exact ⟨k + 1, by omega, by go_num, ⟨fun j hj => by
           rcases Nat.lt_succ_iff_lt_or_eq.1 hj with h | rfl
           ·exact hz.out j h
           ·unfold okAt; rw [← hx'.out, ← hy'.out, HF.out, HT.out, HL.out, HM.out, HC.out]; simp⟩, HXw, HW⟩
          case measure => simp [intOf]; omega
         ·have HC := Aside0.mk (show decide (cmpE y x < 0) = false by rw [← hz'.out]; exact decide_eq_false hneg)
          go_wp2
          go_ret
          exact ⟨ret_int (bad_at hlt (by unfold okAt; rw [← hx'.out, ← hy'.out, HF.out, HT.out, HL.out, HM.out, HC.out, decide_eq_false hK]; rfl)), HW.out⟩
   ·go_wp2
    go_ret
    refine ⟨ret_int ?_, HBr.out⟩
    have : (List.range es.length).all (okAt n ls.length es) = true := List.all_eq_true.2 fun j hj => hz.out j (by have := List.mem_range.1 hj; omega)
    rw [this]; rfl
theorem check_any (n : Int) (ls : List ByteArray) (es : List Ed) (A1 A2 : Option Addr) (c1 c2 : Nat) (w : World) (hr1 : Kd.C Kd.string w A1 ls.length ls) (hr2 : Kd.C k51 w A2 es.length es) :
  Calls Try.prog 27 #[.agg #[.int .i64 n, .slice A1 ls.length c1, .slice A2 es.length c2]] w fun e w' => e = .returned (.int .i64 (errB (mayB n ls es))) ∧ Below w.heap.size w w' := by
 unfold mayB
 by_cases h0 : n < 1
 ·rw [decide_eq_false (by omega)]
  exact check_size n ls es A1 A2 c1 c2 w (.inl h0)
 ·rw [decide_eq_true (show 1 ≤ n by omega), Bool.true_and]
  by_cases h1 : 2048 < n
  ·rw [decide_eq_false (by omega)]
   exact check_size n ls es A1 A2 c1 c2 w (.inr h1)
  ·rw [decide_eq_true (show n ≤ 2048 by omega), Bool.true_and]
   cases h : namedB ls with
   | false => exact check_named n ls es A1 A2 c1 c2 w h0 h1 hr1 h
   | true =>
    rw [Bool.true_and]
    exact check_main n ls es A1 A2 c1 c2 w h0 h1 hr1 hr2 h
theorem check_yes (n : Int) (ls : List ByteArray) (es : List Ed) (A1 A2 : Option Addr) (c1 c2 : Nat) (w : World) (hr1 : Kd.C Kd.string w A1 ls.length ls) (hr2 : Kd.C k51 w A2 es.length es) (h : mayB n ls es = true) :
  Calls Try.prog 27 #[.agg #[.int .i64 n, .slice A1 ls.length c1, .slice A2 es.length c2]] w fun e w' => e = .returned (.int .i64 0) ∧ Below w.heap.size w w' := by
 have := check_any n ls es A1 A2 c1 c2 w hr1 hr2
 rwa [h] at this
theorem check_no (n : Int) (ls : List ByteArray) (es : List Ed) (A1 A2 : Option Addr) (c1 c2 : Nat) (w : World) (hr1 : Kd.C Kd.string w A1 ls.length ls) (hr2 : Kd.C k51 w A2 es.length es) (h : mayB n ls es = false) :
  Calls Try.prog 27 #[.agg #[.int .i64 n, .slice A1 ls.length c1, .slice A2 es.length c2]] w fun e w' => e = .returned (.int .i64 1) ∧ Below w.heap.size w w' := by
 have := check_any n ls es A1 A2 c1 c2 w hr1 hr2
 rwa [h] at this
end Go.Proofs.Ythaaockbapbooaa.H
set_option linter.unusedVariables false
set_option linter.unusedSimpArgs false
namespace Go.Proofs.Ythaaockbapbooaa.H
open Go.RowKit Go.Proofs.Ythaaockbapbooaa.Pr Go.Proofs.YthaaockbapbooaaW.PrintWords Go.Proofs.Ythaaockbapbooaa.Sem
theorem ahead_any (a b : Ed) (r : Bool) (hr : decide (elt a b) = r) (w : World) : Calls Try.prog 42 #[.agg #[.int .i64 a.f0, .int .i64 a.f1, .int .i64 a.f2], .agg #[.int .i64 b.f0, .int .i64 b.f1, .int .i64 b.f2]] w fun e w' => e = .returned (.bool r) ∧ Below w.heap.size w w' := by
 have HB := Aside0.mk (Below.refl w.heap.size w)
 by_cases h0 : a.f0 = b.f0
 ·by_cases h1 : a.f1 = b.f1
  ·have d0 : (a.f0 != b.f0) = false := by simp [h0]
   have d1 : (a.f1 != b.f1) = false := by simp [h1]
   have e : decide (a.f2 < b.f2) = r := by rw [← hr]; unfold elt; apply decide_eq_decide.2; omega
   have HE := Aside0.mk e
   clear h0 h1 hr e
   go_enter Try.func42, Try.ntmps42
   go_wp2
   go_ret
   exact ⟨ret_bool HE.out, by repeat (first | exact HB.out | apply below_alloc | apply pw_below_drewN | apply below_drew)⟩
  ·have d0 : (a.f0 != b.f0) = false := by simp [h0]
   have d1 : (a.f1 != b.f1) = true := by simp [h1]
   have e : decide (a.f1 < b.f1) = r := by rw [← hr]; unfold elt; apply decide_eq_decide.2; omega
   have HE := Aside0.mk e
   clear h0 h1 hr e
   go_enter Try.func42, Try.ntmps42
   go_wp2
   go_ret
   exact ⟨ret_bool HE.out, by repeat (first | exact HB.out | apply below_alloc | apply pw_below_drewN | apply below_drew)⟩
 ·have d0 : (a.f0 != b.f0) = true := by simp [h0]
  have e : decide (a.f0 < b.f0) = r := by rw [← hr]; unfold elt; apply decide_eq_decide.2; omega
  have HE := Aside0.mk e
  clear h0 hr e
  go_enter Try.func42, Try.ntmps42
  go_wp2
  go_ret
  exact ⟨ret_bool HE.out, by repeat (first | exact HB.out | apply below_alloc | apply pw_below_drewN | apply below_drew)⟩
def labAt (ls : List ByteArray) (i : Nat) : Bool := !tooLong (ls.getD i ByteArray.empty) && (decide (i = 0) || Op.bytesLess (ls.getD (i - 1) ByteArray.empty).toList (ls.getD i ByteArray.empty).toList)
def okAt' (n nl : Int) (es : List Ed) (k : Nat) : Bool :=
 decide (0 ≤ (es.getD k z51).f0 ∧ (es.getD k z51).f0 < n) && (decide (0 ≤ (es.getD k z51).f2 ∧ (es.getD k z51).f2 < n) &&
  (decide (0 ≤ (es.getD k z51).f1) && (decide ((es.getD k z51).f1 < nl) && (decide (k = 0) || decide (elt (es.getD (k - 1) z51) (es.getD k z51))))))
def mayR (n : Int) (ls : List ByteArray) (es : List Ed) : Bool :=
 decide (1 ≤ n) && (decide (n ≤ 2048) && (decide (ls.length ≤ 64) && (decide (es.length ≤ 1000000) && ((List.range ls.length).all (labAt ls) && (List.range es.length).all (okAt' n ls.length es)))))
theorem all_bad {p : Nat → Bool} {m k : Nat} (hk : k < m) (h : p k = false) : (List.range m).all p = false := by
 rw [Bool.eq_false_iff]
 intro he
 have := List.all_eq_true.1 he k (List.mem_range.2 hk)
 rw [h] at this
 cases this
theorem all_good {p : Nat → Bool} {m k : Nat} (hk : ¬ k < m) (h : ∀ j, j < k → p j = true) : (List.range m).all p = true :=
 List.all_eq_true.2 fun j hj => h j (by have := List.mem_range.1 hj; omega)
theorem may_size (n : Int) (ls : List ByteArray) (es : List Ed) (A1 A2 : Option Addr) (c1 c2 : Nat) (w : World) (h : n < 1 ∨ 2048 < n ∨ 64 < ls.length ∨ 1000000 < es.length) :
  Calls Try.prog 15 #[.agg #[.int .i64 n, .slice A1 ls.length c1, .slice A2 es.length c2]] w fun e w' => e = .returned (.bool false) ∧ Below w.heap.size w w' := by
 have HB := Aside0.mk (Below.refl w.heap.size w)
 by_cases h0 : n < 1
 ·clear h
  go_enter Try.func15, Try.ntmps15
  go_wp2
  go_ret
  exact ⟨rfl, below_alloc HB.out _⟩
 ·by_cases h1 : 2048 < n
  ·clear h
   go_enter Try.func15, Try.ntmps15
   go_wp2
   go_ret
   exact ⟨rfl, below_alloc HB.out _⟩
  ·by_cases h2 : (64 : Int) < (ls.length : Int)
   ·clear h
    go_enter Try.func15, Try.ntmps15
    go_wp2
    go_ret
    exact ⟨rfl, below_alloc HB.out _⟩
   ·have h3 : (1000000 : Int) < (es.length : Int) := by omega
    clear h
    go_enter Try.func15, Try.ntmps15
    go_wp2
    go_ret
    exact ⟨rfl, below_alloc HB.out _⟩
set_option maxHeartbeats 8000000 in
set_option maxRecDepth 100000 in
theorem may_main (n : Int) (ls : List ByteArray) (es : List Ed) (A1 A2 : Option Addr) (c1 c2 : Nat) (w : World) (h0 : ¬ n < 1) (h1 : ¬ 2048 < n) (h2 : ¬ (64 : Int) < (ls.length : Int)) (h3 : ¬ (1000000 : Int) < (es.length : Int)) (hr1 : Kd.C Kd.string w A1 ls.length ls) (hr2 : Kd.C k51 w A2 es.length es) :
  Calls Try.prog 15 #[.agg #[.int .i64 n, .slice A1 ls.length c1, .slice A2 es.length c2]] w fun e w' => e = .returned (.bool ((List.range ls.length).all (labAt ls) && (List.range es.length).all (okAt' n ls.length es))) ∧ Below w.heap.size w w' := by
 have a3 := Aside0.mk hr1
 have HR := Aside0.mk hr2
 clear hr1 hr2
 have b4 := Aside0.mk (Below.refl w.heap.size w)
 go_enter Try.func15, Try.ntmps15
 go_wp2
 go_loopw [3] (fun i wr => ∃ k : Nat, k ≤ ls.length ∧ i = .int .i64 k ∧ Aside0 (∀ j, j < k → labAt ls j = true) ∧ Aside0 (BoxL wr w.heap.size n (.slice A1 ls.length c1) (.slice A2 es.length c2)) ∧ Aside0 (Below w.heap.size w wr)) (fun i _ => ls.length - (intOf i).toNat)
 case atStart => exact ⟨0, Nat.zero_le _, rfl, ⟨fun j hj => by omega⟩, ⟨blk_new w _⟩, ⟨below_alloc b4.out _⟩⟩
 case round =>
  obtain ⟨k, hk, rfl, hz, HXr, HBr⟩ := hrel
  have b1 := HXr.out.c1
  by_cases hlt : k < ls.length
  ·obtain ⟨ad, hA, g0⟩ := atS a3.out k hlt
   subst hA
   replace g0 := later HBr.out g0
   obtain ⟨s, hs⟩ : ∃ s, s = ls.getD k ByteArray.empty := ⟨_, rfl⟩
   rw [← hs] at g0
   have hs' := Aside0.mk hs; clear hs
   by_cases hL : (200 : Int) < (s.size : Int)
   ·have hL' := Aside0.mk (show tooLong s = true from decide_eq_true (by omega))
    have d1 : decide ((200 : Int) < (s.size : Int)) = true := decide_eq_true hL
    have d2 : decide (200 < s.size) = true := decide_eq_true (by omega)
    go_wp2_with fail
    go_quiet (fail)
    go_wp2
    go_ret
    exact ⟨ret_bool (by rw [all_bad hlt (show labAt ls k = false by unfold labAt; rw [← hs'.out, hL'.out]; rfl)]; rfl), by repeat (first | exact HBr.out | apply below_alloc | apply pw_below_drewN | apply below_drew)⟩
   ·have hL' := Aside0.mk (show tooLong s = false from decide_eq_false (by omega))
    have d1 : decide ((200 : Int) < (s.size : Int)) = false := decide_eq_false hL
    have d2 : decide (200 < s.size) = false := decide_eq_false (by omega)
    by_cases hK : k = 0
    ·have hK' := Aside0.mk hK
     have d3 : decide ((0 : Int) < (k : Int)) = false := decide_eq_false (by omega)
     have d4 : decide (0 < k) = false := decide_eq_false (by omega)
     clear hK
     go_wp2_with fail
     go_quiet (fail)
     go_wp2
     go_roundw
     case rel => exact ⟨k + 1, by omega, by go_num, ⟨fun j hj => by
      rcases Nat.lt_succ_iff_lt_or_eq.1 hj with h | rfl
      ·exact hz.out j h
      ·unfold labAt; rw [← hs'.out, hL'.out, decide_eq_true hK'.out]; rfl⟩, ⟨HXr.out.below (by repeat (first | exact Below.refl _ _ | apply below_alloc | apply pw_below_drewN | apply below_drew))⟩, ⟨by repeat (first | exact HBr.out | apply below_alloc | apply pw_below_drewN | apply below_drew)⟩⟩
     case measure => simp [intOf]; omega
    ·obtain ⟨ad', hA', p0⟩ := atS a3.out (k - 1) (by omega)
     cases hA'
     replace p0 := later HBr.out p0
     obtain ⟨t, ht⟩ : ∃ t, t = ls.getD (k - 1) ByteArray.empty := ⟨_, rfl⟩
     rw [← ht] at p0
     have ht' := Aside0.mk ht; clear ht
     have d3 : decide ((0 : Int) < (k : Int)) = true := decide_eq_true (by omega)
     have d4 : decide (0 < k) = true := decide_eq_true (by omega)
     have i0 : (0 : Int) ≤ (k : Int) - 1 := by omega
     have i1 : (k : Int) - 1 < (ls.length : Int) := by omega
     have j0 : (1 : Int) ≤ (k : Int) := by omega
     have j1 : (k : Int) < (ls.length : Int) + 1 := by omega
     have j2 : 1 ≤ k := by omega
     have j3 : k - 1 < ls.length := by omega
     have j4 : (k : Int) ≤ (ls.length : Int) := by omega
     have i3 : (k : Int) < (ls.length : Int) := by omega
     have i4 : (0 : Int) ≤ (k : Int) := by omega
     have a1 : IntKind.i64.wrap ((k : Int) - 1) = (k : Int) - 1 := by rw [IntKind.wrap_i64]; omega
     have a0 : ((k : Int) - 1).toNat = k - 1 := by omega
     cases hb : Op.bytesLess t.toList s.toList with
     | true =>
      go_wp2_with fail
      go_quiet (fail)
      clear a1 a0 i0 i1 i3 i4 j0 j1 j2 j3 j4
      go_wp2
      go_roundw
      case rel => exact ⟨k + 1, by omega, by go_num, ⟨fun j hj => by
       rcases Nat.lt_succ_iff_lt_or_eq.1 hj with h | rfl
       ·exact hz.out j h
       ·unfold labAt; rw [← hs'.out, ← ht'.out, hL'.out, hb]; simp⟩, ⟨HXr.out.below (by repeat (first | exact Below.refl _ _ | apply below_alloc | apply pw_below_drewN | apply below_drew))⟩, ⟨by repeat (first | exact HBr.out | apply below_alloc | apply pw_below_drewN | apply below_drew)⟩⟩
      case measure => simp [intOf]; omega
     | false =>
      go_wp2_with fail
      go_quiet (fail)
      clear a1 a0 i0 i1 i3 i4 j0 j1 j2 j3 j4
      go_wp2
      go_ret
      exact ⟨ret_bool (by rw [all_bad hlt (show labAt ls k = false by unfold labAt; rw [← hs'.out, ← ht'.out, hL'.out, hb, decide_eq_false hK]; rfl)]; rfl), by repeat (first | exact HBr.out | apply below_alloc | apply pw_below_drewN | apply below_drew)⟩
  ·have HG := Aside0.mk (all_good hlt hz.out)
   clear hz
   go_wp2
   go_loopw [4] (fun i a2 => ∃ k : Nat, k ≤ es.length ∧ i = .int .i64 k ∧ Aside0 (∀ j, j < k → okAt' n ls.length es j = true) ∧ Aside0 (BoxL a2 w.heap.size n (.slice A1 ls.length c1) (.slice A2 es.length c2)) ∧ Aside0 (Below w.heap.size w a2)) (fun i _ => es.length - (intOf i).toNat)
   case atStart => exact ⟨0, Nat.zero_le _, rfl, ⟨fun j hj => by omega⟩, HXr, HBr⟩
   case round =>
    clear HXr HBr hlt hk b1
    obtain ⟨k, hk, rfl, hz, HXr, HBr⟩ := hrel
    have b2' := HXr.out.c2
    by_cases hlt : k < es.length
    ·obtain ⟨ad, hA, g0, g1, g2⟩ := atE HR.out k hlt
     subst hA
     replace g0 := later HBr.out g0
     replace g1 := later HBr.out g1
     replace g2 := later HBr.out g2
     obtain ⟨x, hx⟩ : ∃ x, x = es.getD k z51 := ⟨_, rfl⟩
     rw [← hx] at g0 g1 g2
     have hx' := Aside0.mk hx; clear hx
     go_wp2_with fail
     have b0 : ∀ o, (wr.alloc o).cell? ⟨w.heap.size, 0, none⟩ = some (.int .i64 n) := fun o => (HXr.out.below (below_alloc (Below.refl _ _) o)).c0
     have b1 : ∀ o, (wr.alloc o).cell? ⟨w.heap.size, 1, none⟩ = some (.slice A1 ls.length c1) := fun o => (HXr.out.below (below_alloc (Below.refl _ _) o)).c1
     have b2 : ∀ o, (wr.alloc o).cell? ⟨w.heap.size, 2, none⟩ = some (.slice (some ad) es.length c2) := fun o => (HXr.out.below (below_alloc (Below.refl _ _) o)).c2
     clear b2'
     by_cases h0_ : x.f0 < 0
     ·have a4 : decide (x.f0 < 0) = true := decide_eq_true h0_
      have P0 := Aside0.mk (show decide (0 ≤ x.f0 ∧ x.f0 < n) = false from decide_eq_false (by omega))
      go_quiet (fail)
      go_wp2
      go_ret
      exact ⟨ret_bool (by rw [all_bad hlt (show okAt' n ls.length es k = false by unfold okAt'; rw [← hx'.out, P0.out]; rfl)]; simp), by repeat (first | exact HBr.out | apply below_alloc | apply pw_below_drewN | apply below_drew)⟩
     ·have a4 : decide (x.f0 < 0) = false := decide_eq_false h0_
      by_cases h1_ : n ≤ x.f0
      ·have a5 : decide (n ≤ x.f0) = true := decide_eq_true h1_
       have P0 := Aside0.mk (show decide (0 ≤ x.f0 ∧ x.f0 < n) = false from decide_eq_false (by omega))
       go_quiet (fail)
       go_wp2
       go_ret
       exact ⟨ret_bool (by rw [all_bad hlt (show okAt' n ls.length es k = false by unfold okAt'; rw [← hx'.out, P0.out]; rfl)]; simp), by repeat (first | exact HBr.out | apply below_alloc | apply pw_below_drewN | apply below_drew)⟩
      ·have a5 : decide (n ≤ x.f0) = false := decide_eq_false h1_
       have P0 := Aside0.mk (show decide (0 ≤ x.f0 ∧ x.f0 < n) = true from decide_eq_true (by omega))
       by_cases h2_ : x.f2 < 0
       ·have a7 : decide (x.f2 < 0) = true := decide_eq_true h2_
        have P1 := Aside0.mk (show decide (0 ≤ x.f2 ∧ x.f2 < n) = false from decide_eq_false (by omega))
        go_quiet (fail)
        go_wp2
        go_ret
        exact ⟨ret_bool (by rw [all_bad hlt (show okAt' n ls.length es k = false by unfold okAt'; rw [← hx'.out, P0.out, P1.out]; rfl)]; simp), by repeat (first | exact HBr.out | apply below_alloc | apply pw_below_drewN | apply below_drew)⟩
       ·have a7 : decide (x.f2 < 0) = false := decide_eq_false h2_
        by_cases h3_ : n ≤ x.f2
        ·have a6 : decide (n ≤ x.f2) = true := decide_eq_true h3_
         have P1 := Aside0.mk (show decide (0 ≤ x.f2 ∧ x.f2 < n) = false from decide_eq_false (by omega))
         go_quiet (fail)
         go_wp2
         go_ret
         exact ⟨ret_bool (by rw [all_bad hlt (show okAt' n ls.length es k = false by unfold okAt'; rw [← hx'.out, P0.out, P1.out]; rfl)]; simp), by repeat (first | exact HBr.out | apply below_alloc | apply pw_below_drewN | apply below_drew)⟩
        ·have a6 : decide (n ≤ x.f2) = false := decide_eq_false h3_
         have P1 := Aside0.mk (show decide (0 ≤ x.f2 ∧ x.f2 < n) = true from decide_eq_true (by omega))
         by_cases h4_ : x.f1 < 0
         ·have a8 : decide (x.f1 < 0) = true := decide_eq_true h4_
          have P2 := Aside0.mk (show decide (0 ≤ x.f1) = false from decide_eq_false (by omega))
          go_quiet (fail)
          go_wp2
          go_ret
          exact ⟨ret_bool (by rw [all_bad hlt (show okAt' n ls.length es k = false by unfold okAt'; rw [← hx'.out, P0.out, P1.out, P2.out]; rfl)]; simp), by repeat (first | exact HBr.out | apply below_alloc | apply pw_below_drewN | apply below_drew)⟩
         ·have a8 : decide (x.f1 < 0) = false := decide_eq_false h4_
          have P2 := Aside0.mk (show decide (0 ≤ x.f1) = true from decide_eq_true (by omega))
          by_cases h5_ : (ls.length : Int) ≤ x.f1
          ·have b3 : decide ((ls.length : Int) ≤ x.f1) = true := decide_eq_true h5_
           have P3 := Aside0.mk (show decide (x.f1 < (ls.length : Int)) = false from decide_eq_false (by omega))
           go_quiet (fail)
           go_wp2
           go_ret
           exact ⟨ret_bool (by rw [all_bad hlt (show okAt' n ls.length es k = false by unfold okAt'; rw [← hx'.out, P0.out, P1.out, P2.out, P3.out]; rfl)]; simp), by repeat (first | exact HBr.out | apply below_alloc | apply pw_below_drewN | apply below_drew)⟩
          ·have b3 : decide ((ls.length : Int) ≤ x.f1) = false := decide_eq_false h5_
           have P3 := Aside0.mk (show decide (x.f1 < (ls.length : Int)) = true from decide_eq_true (by omega))
           by_cases hK : k = 0
           ·have hK' := Aside0.mk hK
            have d7 : decide ((0 : Int) < (k : Int)) = false := decide_eq_false (by omega)
            have d8 : decide (0 < k) = false := decide_eq_false (by omega)
            clear hK
            go_quiet (fail)
            go_wp2
            go_roundw
            case rel => exact ⟨k + 1, by omega, by go_num, ⟨fun j hj => by
             rcases Nat.lt_succ_iff_lt_or_eq.1 hj with h | rfl
             ·exact hz.out j h
             ·unfold okAt'; rw [← hx'.out, P0.out, P1.out, P2.out, P3.out, decide_eq_true hK'.out]; rfl⟩, ⟨HXr.out.below (by repeat (first | exact Below.refl _ _ | apply below_alloc | apply pw_below_drewN | apply below_drew))⟩, ⟨by repeat (first | exact HBr.out | apply below_alloc | apply pw_below_drewN | apply below_drew)⟩⟩
            case measure => simp [intOf]; omega
           ·obtain ⟨ad', hA', p0, p1, p2⟩ := atE HR.out (k - 1) (by omega)
            cases hA'
            replace p0 := later HBr.out p0
            replace p1 := later HBr.out p1
            replace p2 := later HBr.out p2
            obtain ⟨y, hy⟩ : ∃ y, y = es.getD (k - 1) z51 := ⟨_, rfl⟩
            rw [← hy] at p0 p1 p2
            have hy' := Aside0.mk hy
            clear hy
            have q0 := fun o => later (below_alloc (Below.refl wr.heap.size wr) o) p0
            have q1 := fun o => later (below_alloc (Below.refl wr.heap.size wr) o) p1
            have q2 := fun o => later (below_alloc (Below.refl wr.heap.size wr) o) p2
            clear p0 p1 p2
            have d7 : decide ((0 : Int) < (k : Int)) = true := decide_eq_true (by omega)
            have d8 : decide (0 < k) = true := decide_eq_true (by omega)
            have i0 : (0 : Int) ≤ (k : Int) - 1 := by omega
            have i1 : (k : Int) - 1 < (es.length : Int) := by omega
            have j0 : (1 : Int) ≤ (k : Int) := by omega
            have j1 : (k : Int) < (es.length : Int) + 1 := by omega
            have j2 : 1 ≤ k := by omega
            have j3 : k - 1 < es.length := by omega
            have j4 : (k : Int) ≤ (es.length : Int) := by omega
            have a1 : IntKind.i64.wrap ((k : Int) - 1) = (k : Int) - 1 := by rw [IntKind.wrap_i64]; omega
            have a0 : ((k : Int) - 1).toNat = k - 1 := by omega
            cases hC : decide (elt y x) with
            | true =>
             have HC := Aside0.mk hC; clear hC
             go_region_held3 (fun w' => w'.cell? ⟨w.heap.size, 0, none⟩ = some (.int .i64 n) ∧ w'.cell? ⟨w.heap.size, 1, none⟩ = some (.slice A1 ls.length c1) ∧ w'.cell? ⟨w.heap.size, 2, none⟩ = some (.slice (some ad) es.length c2) ∧ w'.cell? ⟨wr.heap.size, 0, none⟩ = some (.int .i64 x.f0) ∧ w'.cell? ⟨wr.heap.size, 1, none⟩ = some (.int .i64 x.f1) ∧ w'.cell? ⟨wr.heap.size, 2, none⟩ = some (.int .i64 x.f2) ∧ w'.cell? (ad.add ((k - 1) * 3)) = some (.int .i64 y.f0) ∧ w'.cell? ⟨(ad.add ((k - 1) * 3)).block, (ad.add ((k - 1) * 3)).off + 1, none⟩ = some (.int .i64 y.f1) ∧ w'.cell? ⟨(ad.add ((k - 1) * 3)).block, (ad.add ((k - 1) * 3)).off + 2, none⟩ = some (.int .i64 y.f2)) (first | go_keep | (refine ⟨later hB ?_, later hB ?_, later hB ?_, later hB ?_, later hB ?_, later hB ?_, later hB ?_, later hB ?_, later hB ?_⟩ <;> go_keep)) (first | (go_at_call 42; refine (ahead_any y x _ HC.out _).mono ?_; rintro e w' ⟨rfl, hB⟩))
             clear a1 a0 i0 i1 j0 j1 j2 j3 j4 q0 q1 q2 b0 b1 b2
             have HW := Aside0.mk (below_then (show Below w.heap.size w _ by repeat (first | exact HBr.out | apply below_alloc | apply pw_below_drewN | apply below_drew)) (below_size (by repeat (first | exact HBr.out | apply below_alloc | apply pw_below_drewN | apply below_drew))) hB)
             have HXw := Aside0.mk ((HXr.out.below (show Below wr.heap.size wr _ by repeat (first | exact Below.refl _ _ | apply below_alloc | apply pw_below_drewN | apply below_drew))).below hB)
             clear hB
             go_wp2
             go_roundw
             case rel => exact ⟨k + 1, by omega, by go_num, ⟨fun j hj => by
              rcases Nat.lt_succ_iff_lt_or_eq.1 hj with h | rfl
              ·exact hz.out j h
              ·unfold okAt'; rw [← hx'.out, ← hy'.out, P0.out, P1.out, P2.out, P3.out, HC.out]; simp⟩, HXw, HW⟩
             case measure => simp [intOf]; omega
            | false =>
             have HC := Aside0.mk hC; clear hC
             go_region_held3 (fun w' => w'.cell? ⟨w.heap.size, 0, none⟩ = some (.int .i64 n) ∧ w'.cell? ⟨w.heap.size, 1, none⟩ = some (.slice A1 ls.length c1) ∧ w'.cell? ⟨w.heap.size, 2, none⟩ = some (.slice (some ad) es.length c2) ∧ w'.cell? ⟨wr.heap.size, 0, none⟩ = some (.int .i64 x.f0) ∧ w'.cell? ⟨wr.heap.size, 1, none⟩ = some (.int .i64 x.f1) ∧ w'.cell? ⟨wr.heap.size, 2, none⟩ = some (.int .i64 x.f2) ∧ w'.cell? (ad.add ((k - 1) * 3)) = some (.int .i64 y.f0) ∧ w'.cell? ⟨(ad.add ((k - 1) * 3)).block, (ad.add ((k - 1) * 3)).off + 1, none⟩ = some (.int .i64 y.f1) ∧ w'.cell? ⟨(ad.add ((k - 1) * 3)).block, (ad.add ((k - 1) * 3)).off + 2, none⟩ = some (.int .i64 y.f2)) (first | go_keep | (refine ⟨later hB ?_, later hB ?_, later hB ?_, later hB ?_, later hB ?_, later hB ?_, later hB ?_, later hB ?_, later hB ?_⟩ <;> go_keep)) (first | (go_at_call 42; refine (ahead_any y x _ HC.out _).mono ?_; rintro e w' ⟨rfl, hB⟩))
             clear a1 a0 i0 i1 j0 j1 j2 j3 j4 q0 q1 q2 b0 b1 b2
             have HW := Aside0.mk (below_then (show Below w.heap.size w _ by repeat (first | exact HBr.out | apply below_alloc | apply pw_below_drewN | apply below_drew)) (below_size (by repeat (first | exact HBr.out | apply below_alloc | apply pw_below_drewN | apply below_drew))) hB)
             have HXw := Aside0.mk ((HXr.out.below (show Below wr.heap.size wr _ by repeat (first | exact Below.refl _ _ | apply below_alloc | apply pw_below_drewN | apply below_drew))).below hB)
             clear hB
             go_wp2
             go_ret
             exact ⟨ret_bool (by rw [all_bad hlt (show okAt' n ls.length es k = false by unfold okAt'; rw [← hx'.out, ← hy'.out, P0.out, P1.out, P2.out, P3.out, HC.out, decide_eq_false hK]; rfl)]; simp), HW.out⟩
    ·have a9 := Aside0.mk (all_good hlt hz.out)
     go_wp2
     go_ret
     exact ⟨ret_bool (by rw [HG.out, a9.out]; rfl), HBr.out⟩
theorem may_any (n : Int) (ls : List ByteArray) (es : List Ed) (A1 A2 : Option Addr) (c1 c2 : Nat) (w : World) (hr1 : Kd.C Kd.string w A1 ls.length ls) (hr2 : Kd.C k51 w A2 es.length es) :
  Calls Try.prog 15 #[.agg #[.int .i64 n, .slice A1 ls.length c1, .slice A2 es.length c2]] w fun e w' => e = .returned (.bool (mayR n ls es)) ∧ Below w.heap.size w w' := by
 unfold mayR
 by_cases h : n < 1 ∨ 2048 < n ∨ 64 < ls.length ∨ 1000000 < es.length
 ·have : (decide (1 ≤ n) && (decide (n ≤ 2048) && (decide (ls.length ≤ 64) && (decide (es.length ≤ 1000000) && ((List.range ls.length).all (labAt ls) && (List.range es.length).all (okAt' n ls.length es)))))) = false := by
   rcases h with h | h | h | h
   ·rw [decide_eq_false (show ¬ 1 ≤ n by omega)]; rfl
   ·rw [decide_eq_false (show ¬ n ≤ 2048 by omega)]; simp
   ·rw [decide_eq_false (show ¬ ls.length ≤ 64 by omega)]; simp
   ·rw [decide_eq_false (show ¬ es.length ≤ 1000000 by omega)]; simp
  rw [this]
  exact may_size n ls es A1 A2 c1 c2 w h
 ·rw [decide_eq_true (show 1 ≤ n by omega), decide_eq_true (show n ≤ 2048 by omega), decide_eq_true (show ls.length ≤ 64 by omega), decide_eq_true (show es.length ≤ 1000000 by omega)]
  exact may_main n ls es A1 A2 c1 c2 w (by omega) (by omega) (by omega) (by omega) hr1 hr2
end Go.Proofs.Ythaaockbapbooaa.H
set_option linter.unusedVariables false
set_option linter.unusedSimpArgs false
namespace Go.Proofs.Ythaaockbapbooaa.H
open Go.RowKit Go.Proofs.Ythaaockbapbooaa.Pr Go.Proofs.YthaaockbapbooaaW.PrintWords Go.Proofs.Ythaaockbapbooaa.Sem
theorem bytesLess_lt : ∀ (x y : List UInt8), Op.bytesLess x y = decide (x < y)
 | [], [] => by simp [Op.bytesLess]
 | _ :: _, [] => by simp [Op.bytesLess]
 | [], _ :: _ => by simp [Op.bytesLess]
 | a :: x, b :: y => by
  rw [Op.bytesLess, bytesLess_lt x y]
  simp only [List.cons_lt_cons_iff]
  by_cases h1 : a < b <;> by_cases h2 : a = b <;> by_cases h3 : x < y <;> simp [h1, h2, h3]
theorem okAt_same (n nl : Int) (es : List Ed) (k : Nat) : okAt n nl es k = okAt' n nl es k := by
 unfold okAt okAt'
 rw [decide_eq_decide.2 (cmpE_neg _ _)]
theorem compact_sub (zs : List (List UInt8)) : List.Sublist (Lib.compact zs) zs := by
 unfold Lib.compact Lib.compactUpTo
 have h := (List.filter_sublist (p := Lib.keeps zs.toArray) (l := List.range zs.length)).map (zs.toArray[·]!)
 have e := Lib.range_map_get zs.toArray
 simp only [List.size_toArray] at e
 rw [e] at h
 simpa using h
theorem back_inj {xs ys : List (List UInt8)} (h : (xs.map fun l => (⟨l.toArray⟩ : ByteArray)) = ys.map fun l => ⟨l.toArray⟩) : xs = ys := by
 have := congrArg (List.map fun s : ByteArray => s.data.toList) h
 simpa [List.map_map, Function.comp_def] using this
theorem back_fwd (ls : List ByteArray) : ((ls.map fun s => s.data.toList).map fun l => (⟨l.toArray⟩ : ByteArray)) = ls := by
 rw [List.map_map]
 simp [Function.comp_def]
theorem union_nil (ls : List ByteArray) : unionS ls [] = (Lib.compact ((ls.map fun s => s.data.toList).mergeSort fun x y => decide (x ≤ y))).map fun l => ⟨l.toArray⟩ := by
 unfold unionS cmpt srt
 rw [List.append_nil]
 congr 2
 rw [List.map_map]
 simp [Function.comp_def]
theorem rising_iff (L : List (List UInt8)) : L = Lib.compact (L.mergeSort fun x y => decide (x ≤ y)) ↔ ∀ k, 0 < k → k < L.length → L.getD (k - 1) [] < L.getD k [] := by
 have tr : ∀ a b c : List UInt8, decide (a ≤ b) = true → decide (b ≤ c) = true → decide (a ≤ c) = true := by
  intro a b c h1 h2
  simp only [decide_eq_true_eq] at h1 h2 ⊢
  exact List.le_trans h1 h2
 have tot : ∀ a b : List UInt8, (decide (a ≤ b) || decide (b ≤ a)) = true := by
  intro a b
  simp only [Bool.or_eq_true, decide_eq_true_eq]
  exact List.le_total a b
 constructor
 ·intro h
  have hlen : (L.mergeSort fun x y => decide (x ≤ y)).length ≤ (Lib.compact (L.mergeSort fun x y => decide (x ≤ y))).length := by
   rw [← h, List.length_mergeSort]
   exact Nat.le_refl _
  have he := (compact_sub (L.mergeSort fun x y => decide (x ≤ y))).eq_of_length_le hlen
  have hs : L = L.mergeSort fun x y => decide (x ≤ y) := h.trans he
  have hp : L.Pairwise fun x y => x ≤ y := by
   have := List.pairwise_mergeSort (le := fun x y : List UInt8 => decide (x ≤ y)) tr tot L
   rw [← hs] at this
   exact this.imp (by intro a b h; simpa using h)
  intro k h0 hk
  have hle : L.getD (k - 1) [] ≤ L.getD k [] := by
   rw [List.getD_eq_getElem?_getD, List.getD_eq_getElem?_getD, List.getElem?_eq_getElem hk, List.getElem?_eq_getElem (show k - 1 < L.length by omega)]
   exact List.pairwise_iff_getElem.1 hp (k - 1) k (by omega) hk (by omega)
  have hne : L.getD k [] ≠ L.getD (k - 1) [] := by
   intro e
   have hkeep : Lib.keeps L.toArray k = false := by
    apply Lib.keeps_neg h0
    rw [getElem!_pos _ _ (by simpa using hk), getElem!_pos _ _ (by simp; omega)]
    rw [List.getD_eq_getElem?_getD, List.getD_eq_getElem?_getD, List.getElem?_eq_getElem hk, List.getElem?_eq_getElem (show k - 1 < L.length by omega)] at e
    simpa using e
   have hl2 : (Lib.compact L).length < L.length := by
    unfold Lib.compact Lib.compactUpTo
    rw [List.length_map]
    have := List.length_filter_lt_length_iff_exists (p := Lib.keeps L.toArray) (l := List.range L.length)
    have h2 := this.2 ⟨k, List.mem_range.2 hk, by simp [hkeep]⟩
    simpa using h2
   rw [hs] at hl2
   rw [he] at hl2
   exact Nat.lt_irrefl _ hl2
  exact Std.lt_of_le_of_ne hle (fun e => hne e.symm)
 ·intro h
  have hp : L.Pairwise fun x y => x < y := by
   rw [List.pairwise_iff_getElem]
   intro i j hi hj hij
   induction j with
   | zero => omega
   | succ j ih =>
    have hs := h (j + 1) (by omega) hj
    rw [List.getD_eq_getElem?_getD, List.getD_eq_getElem?_getD, List.getElem?_eq_getElem hj, List.getElem?_eq_getElem (show j + 1 - 1 < L.length by omega)] at hs
    simp only [Nat.add_sub_cancel, Option.getD_some] at hs
    by_cases e : i = j
    ·subst e; exact hs
    ·exact List.lt_trans (ih (by omega) (by omega)) hs
  have hm : (L.mergeSort fun x y => decide (x ≤ y)) = L := by
   apply List.mergeSort_of_pairwise
   exact hp.imp (by intro a b h; simpa using List.le_of_lt h)
  rw [hm]
  refine (Lib.compact_all L fun j hj => ?_).symm
  by_cases h0 : j = 0
  ·subst h0; simp [Lib.keeps]
  ·apply Lib.keeps_pos
   rw [getElem!_pos _ _ (by simpa using hj), getElem!_pos _ _ (by simp; omega)]
   have := List.pairwise_iff_getElem.1 hp (j - 1) j (by omega) hj (by omega)
   intro e
   simp only [List.getElem_toArray] at e
   rw [← e] at this
   exact List.lt_irrefl _ this
theorem named_same (ls : List ByteArray) : namedB ls = (decide (ls.length ≤ 64) && (List.range ls.length).all (labAt ls)) := by
 unfold namedB
 congr 1
 rw [Bool.eq_iff_iff]
 simp only [Bool.and_eq_true, Bool.not_eq_true', decide_eq_true_eq, List.all_eq_true, List.mem_range, labAt, Bool.or_eq_true]
 have hu : ls = unionS ls [] ↔ ∀ k, 0 < k → k < ls.length → (ls.getD (k - 1) ByteArray.empty).data.toList < (ls.getD k ByteArray.empty).data.toList := by
  have hr := rising_iff (ls.map fun s => s.data.toList)
  rw [union_nil]
  have e1 : (ls = (Lib.compact ((ls.map fun s => s.data.toList).mergeSort fun x y => decide (x ≤ y))).map fun l => ⟨l.toArray⟩) ↔ ((ls.map fun s => s.data.toList) = Lib.compact ((ls.map fun s => s.data.toList).mergeSort fun x y => decide (x ≤ y))) := by
   constructor
   ·intro h
    apply back_inj
    rw [back_fwd]
    exact h
   ·intro h
    rw [← h, back_fwd]
  rw [e1, hr]
  have g : ∀ k, k < ls.length → (ls.map fun s => s.data.toList).getD k [] = (ls.getD k ByteArray.empty).data.toList := by
   intro k hk
   simp [List.getD_eq_getElem?_getD, List.getElem?_map, List.getElem?_eq_getElem hk]
  constructor
  ·intro h k h0 hk
   have := h k h0 (by simpa using hk)
   rwa [g k hk, g (k - 1) (by omega)] at this
  ·intro h k h0 hk
   rw [List.length_map] at hk
   rw [g k hk, g (k - 1) (by omega)]
   exact h k h0 hk
 rw [hu]
 constructor
 ·rintro ⟨h1, h2⟩ k hk
  refine ⟨?_, ?_⟩
  ·have : ls.getD k ByteArray.empty ∈ ls := by
    rw [List.getD_eq_getElem?_getD, List.getElem?_eq_getElem hk]
    exact List.getElem_mem hk
   rw [Bool.eq_false_iff]
   intro e
   have h3 : ls.any tooLong = true := List.any_eq_true.2 ⟨_, this, e⟩
   rw [h1] at h3
   cases h3
  ·by_cases h0 : k = 0
   ·exact Or.inl h0
   ·right
    rw [bytesLess_lt]
    simp only [ByteArray.toList_eq, decide_eq_true_eq]
    exact h2 k (by omega) hk
 ·intro h
  refine ⟨?_, ?_⟩
  ·rw [List.any_eq_false]
   intro s hs
   obtain ⟨k, hk, rfl⟩ := List.getElem_of_mem hs
   have := (h k hk).1
   rw [List.getD_eq_getElem?_getD, List.getElem?_eq_getElem hk] at this
   simpa using this
  ·intro k h0 hk
   rcases (h k hk).2 with h2 | h2
   ·omega
   ·rw [bytesLess_lt] at h2
    simp only [ByteArray.toList_eq, decide_eq_true_eq] at h2
    exact h2
theorem may_same (n : Int) (ls : List ByteArray) (es : List Ed) : mayB n ls es = mayR n ls es := by
 unfold mayB mayR
 rw [named_same, show (okAt n (ls.length : Int) es) = okAt' n (ls.length : Int) es from funext fun k => okAt_same n _ es k]
 cases decide (1 ≤ n) <;> cases decide (n ≤ 2048) <;> cases decide (ls.length ≤ 64) <;> cases (List.range ls.length).all (labAt ls) <;> simp
end Go.Proofs.Ythaaockbapbooaa.H
set_option linter.unusedVariables false
set_option linter.unusedSimpArgs false
namespace Go.Proofs.Ythaaockbapbooaa.H
open Go.RowKit Go.Proofs.Ythaaockbapbooaa.Pr Go.Proofs.YthaaockbapbooaaW.PrintWords Go.Proofs.Ythaaockbapbooaa.Sem
def FromS (es : List Ed) : Prop := ∀ i j, i ≤ j → j < es.length → (es.getD i z51).f0 ≤ (es.getD j z51).f0
theorem getD_get {α : Type} {xs : List α} {d : α} {k : Nat} (h : k < xs.length) : xs.getD k d = xs[k] := by
 rw [List.getD_eq_getElem?_getD, List.getElem?_eq_getElem h]; rfl
theorem outN_cut {es : List Ed} {v : Int} {i k : Nat} (hs : FromS es) (hc : Cut es v i) (hik : i ≤ k) (hk : k ≤ es.length) (h1 : ∀ t, i ≤ t → t < k → (es.getD t z51).f0 = v) (h2 : k < es.length → (es.getD k z51).f0 ≠ v) : (es.take k).drop i = outN es v := by
 have e : es = es.take i ++ ((es.take k).drop i ++ es.drop k) := by
  rw [← List.append_assoc]
  have : es.take i = (es.take k).take i := by rw [List.take_take, Nat.min_eq_left hik]
  rw [this, List.take_append_drop, List.take_append_drop]
 have f1 : outN (es.take i) v = [] := by
  unfold outN
  rw [List.filter_eq_nil_iff]
  intro x hx
  obtain ⟨t, ht, rfl⟩ := List.getElem_of_mem hx
  rw [List.length_take] at ht
  have := hc.2.1 t (by omega)
  rw [getD_get (by omega)] at this
  rw [List.getElem_take]
  simp only [decide_eq_true_eq]
  omega
 have f2 : outN ((es.take k).drop i) v = (es.take k).drop i := by
  unfold outN
  rw [List.filter_eq_self]
  intro x hx
  obtain ⟨t, ht, rfl⟩ := List.getElem_of_mem hx
  rw [List.length_drop, List.length_take] at ht
  rw [List.getElem_drop, List.getElem_take]
  have := h1 (i + t) (by omega) (by omega)
  rw [getD_get (by omega)] at this
  simp only [decide_eq_true_eq]
  exact this
 have f3 : outN (es.drop k) v = [] := by
  unfold outN
  rw [List.filter_eq_nil_iff]
  intro x hx
  obtain ⟨t, ht, rfl⟩ := List.getElem_of_mem hx
  rw [List.length_drop] at ht
  rw [List.getElem_drop]
  have a := h2 (by omega)
  have b := hc.2.2 k hik (by omega)
  have c := hs k (k + t) (by omega) (by omega)
  rw [getD_get (show k + t < es.length by omega)] at c
  simp only [decide_eq_true_eq]
  omega
 have g : outN es v = outN (es.take i) v ++ (outN ((es.take k).drop i) v ++ outN (es.drop k) v) := by
  conv => lhs; rw [e]
  unfold outN
  rw [List.filter_append, List.filter_append]
 rw [g, f1, f2, f3]
 simp
theorem ret_slice {A : Option Addr} {n m c : Nat} (h : n = m) : Ending.returned (.slice A n c) = .returned (.slice A m c) := by rw [h]
set_option maxHeartbeats 8000000 in
set_option maxRecDepth 100000 in
theorem out_any (n : Int) (ls : List ByteArray) (es : List Ed) (A1 A2 : Option Addr) (c1 c2 : Nat) (v : Int) (w0 w : World) (hB0 : Below w0.heap.size w0 w) (hC : Kd.C k51 w0 A2 es.length es) (hc2 : es.length ≤ c2) (hel : es.length ≤ 1000000) (hs : FromS es) :
  Calls Try.prog 56 #[.agg #[.int .i64 n, .slice A1 ls.length c1, .slice A2 es.length c2], .int .i64 v] w fun e w' => ∃ A' c', e = .returned (.slice A' (outN es v).length c') ∧ (outN es v).length ≤ c' ∧ (∀ W, Below w0.heap.size w0 W → Kd.C k51 W A' (outN es v).length (outN es v)) ∧ Below w.heap.size w w' := by
 have HC0 := Aside0.mk hC
 have HC := Aside0.mk (Kd.C_below hC hB0)
 have HS := Aside0.mk hs
 have HL := Aside0.mk hc2
 have HB := Aside0.mk (Below.refl w.heap.size w)
 clear hC hs hc2 hB0
 go_enter Try.func56, Try.ntmps56
 go_wp2_with fail
 refine (bsearch_any es v A2 c2 _ (Kd.C_below HC.out (below_alloc HB.out _)) hel HS.out).mono ?_
 rintro e w1 ⟨i, b, rfl, hcut, hB⟩
 have HCut := Aside0.mk hcut
 have hi := hcut.1
 have HB1 := Aside0.mk (below_then (below_alloc HB.out _) (by simp) hB)
 have HX := Aside0.mk (show BoxL w1 w.heap.size n (.slice A1 ls.length c1) (.slice A2 es.length c2) from blk_below (blk_new w _) hB)
 clear hB hcut
 have HR := Aside0.mk (Below.refl w1.heap.size w1)
 go_wp2
 go_loopw [8] (fun s wr => ∃ k : Nat, i ≤ k ∧ k ≤ es.length ∧ s = .int .i64 k ∧ Aside0 (∀ t, i ≤ t → t < k → (es.getD t z51).f0 = v) ∧ Aside0 (Below w1.heap.size w1 wr)) (fun s _ => es.length - (intOf s).toNat)
 case atStart => exact ⟨i, Nat.le_refl _, hi, rfl, ⟨fun t h1 h2 => by omega⟩, HR⟩
 case round =>
  clear HR
  obtain ⟨k, hik, hk, rfl, hz, HR⟩ := hrel
  have b2 := later HR.out HX.out.c2
  have cut_ : (k < es.length → (es.getD k z51).f0 ≠ v) → ∃ (A' : Option Addr) (c' : Nat), Aside0 ((∀ W : World, (Instr.slice 23 (.slice A2 es.length c2) (some (.int .i64 (i : Int))) (some (.int .i64 (k : Int))) none).run Try.prog W = .ok (.slice A' (k - i) c') W) ∧ (outN es v).length = k - i ∧ (outN es v).length ≤ c' ∧ ∀ W, Below w0.heap.size w0 W → Kd.C k51 W A' (outN es v).length (outN es v)) := fun h2 => by
   have e := outN_cut HS.out HCut.out hik hk hz.out h2
   have hl : (outN es v).length = k - i := by rw [← e, List.length_drop, List.length_take]; omega
   obtain ⟨i0, hi0, _, hsz, _⟩ := info_parts info51
   have hcut := cut_mid (P := Try.prog) 23 51 .i64 .i64 Try.underlying23 hi0 3 hsz A2 es.length c2 (i : Int) (k : Int) (by omega) (by omega) (by omega) HL.out
   rw [Int.toNat_natCast, Int.toNat_natCast] at hcut
   refine ⟨_, _, hcut, hl, by have := HL.out; omega, fun W hW => ?_⟩
   have := Kd.C_mid (c := c2) (lo := i) (hi := k) HC0.out hik hk HL.out
   rw [e] at this
   exact Kd.C_below this hW
  by_cases hlt : k < es.length
  ·obtain ⟨ad, hA, g0, g1, g2⟩ := atE HC.out k hlt
   have HA := Aside0.mk hA
   replace g0 := later HR.out (later HB1.out g0)
   clear g1 g2
   obtain ⟨x, hx⟩ : ∃ x, x = (es.getD k z51).f0 := ⟨_, rfl⟩
   rw [← hx] at g0
   have HX2 := Aside0.mk hx
   clear hx
   by_cases hq : x = v
   ·subst hq
    clear cut_
    subst hA
    go_wp2
    go_roundw
    case rel => exact ⟨k + 1, by omega, by omega, by go_num, ⟨fun t h1 h2 => by rcases Nat.lt_succ_iff_lt_or_eq.1 h2 with h | rfl; exact hz.out t h1 h; exact HX2.out.symm⟩, by first | exact HR | exact ⟨pw_below_drewN HR.out _⟩⟩
    case measure => simp [intOf]; omega
   ·obtain ⟨A', c', HF⟩ := cut_ (fun _ => by rw [← HX2.out]; exact hq)
    clear cut_
    have hcut := HF.out.1
    subst hA
    go_wp2
    go_ret
    exact ⟨_, _, ret_slice HF.out.2.1.symm, HF.out.2.2.1, HF.out.2.2.2, below_then HB1.out HB1.out.size HR.out⟩
  ·obtain ⟨A', c', HF⟩ := cut_ (fun h => absurd h hlt)
   clear cut_
   have hcut := HF.out.1
   go_wp2
   go_ret
   exact ⟨_, _, ret_slice HF.out.2.1.symm, HF.out.2.2.1, HF.out.2.2.2, below_then HB1.out HB1.out.size HR.out⟩
set_option maxHeartbeats 4000000 in
set_option maxRecDepth 100000 in
theorem clone_any (es : List Ed) (A : Option Addr) (c : Nat) (w : World) (hC : Kd.C k51 w A es.length es) (hel : es.length ≤ 1000000) :
  Calls Try.prog 49 #[.slice A es.length c] w fun e w' => ∃ v0 : Value, e = .returned v0 ∧ Kd.R k51 51 w' w.heap.size (fun _ => True) v0 es ∧ Below w.heap.size w w' := by
 have HC := Aside0.mk hC
 have HB := Aside0.mk (Below.refl w.heap.size w)
 rcases A with _ | ad
 ·have h0 : es.length = 0 := by
   rcases Nat.eq_zero_or_pos es.length with h | h
   ·exact h
   ·obtain ⟨ad, h, _⟩ := hC.2.2 h
    cases h
  obtain rfl : es = [] := List.eq_nil_of_length_eq_zero h0
  clear hC HC h0
  have q_ : ∀ (W : World) (a : Option Addr) (n c n' c' : Nat), (binOp .eql 23 (.slice a n c) (.slice none n' c')).run Try.prog W = .ok (.bool a.isNone) W := fun W a n c n' c' => Lib.run_eql_slice_nil W _ _ a n c n' c' Try.underlying23
  go_enter Try.func49, Try.ntmps49
  go_wp2
  go_ret
  exact ⟨_, rfl, Kd.R_nil _ _ _ _ _, HB.out⟩
 ·clear hC
  have q_ : ∀ (W : World) (a : Option Addr) (n c n' c' : Nat), (binOp .eql 23 (.slice a n c) (.slice none n' c')).run Try.prog W = .ok (.bool a.isNone) W := fun W a n c n' c' => Lib.run_eql_slice_nil W _ _ a n c n' c' Try.underlying23
  go_enter Try.func49, Try.ntmps49
  go_wp2_with (first
   | ((with_reducible refine gate_dst (N := 5) rfl ?_); refine Kd.R_lit k51 _ 51 ?hg (N := 5) ?hd (xs := ([] : List Ed)) (inner := []) (ok := fun _ => True) (okp := fun _ => True) ?hr ?hp (fun _ hk => hk) trivial (Below.refl _ _) (Nat.le_refl _) (by simp) ?_; (case hd => rfl); (case hg => rfl); (case hr => first | (go_simp; done) | (go_simp; rfl)); (case hp => exact (Reps.none _ _)); intro v1 w1 ho hb hg_ hnew_; clear hg_ hnew_; have HO := Aside0.mk ho; have HB1 := Aside0.mk (below_step HB.out hb); clear ho hb)
   | (at_builtin; refine Kd.R_append_rows k51 (w0 := w) w.heap.size rfl (.tmp 5) (.tmp 6) 23 51 (.agg #[(.int .i64 0), (.int .i64 0), (.int .i64 0)]) 24 rfl Try.underlying23 info51 rfl (by decide) (by omega) v1 [] es (some ad) _ c (fun _ => True) (fun _ => False) rfl rfl HO.out (Kd.C_below HC.out HB1.out) (fun _ _ h => h) (fun _ h => h.elim) (fun _ _ => trivial) HB1.out HB1.out.size (by simp; omega) ?_; intro v2 w2 ho hb hg hat; have HO2 := Aside0.mk ho; have HB2 := Aside0.mk hb; clear ho hb hg hat))
  go_ret
  exact ⟨_, rfl, by simpa using HO2.out, HB2.out⟩
theorem lout_yes (n : Int) (ls : List ByteArray) (es : List Ed) (A1 A2 : Option Addr) (c1 c2 : Nat) (v : Int) (w : World) (hr1 : Kd.C Kd.string w A1 ls.length ls) (hr2 : Kd.C k51 w A2 es.length es) (hc2 : es.length ≤ c2) (hm : mayR n ls es = true) (hel : es.length ≤ 1000000) (hs : FromS es) :
  Calls Try.prog 30 #[.agg #[.int .i64 n, .slice A1 ls.length c1, .slice A2 es.length c2], .int .i64 v] w fun e w' => ∃ v0 : Value, e = .returned v0 ∧ Kd.R k51 51 w' w.heap.size (fun _ => True) v0 (outN es v) ∧ Below w.heap.size w w' := by
 have HB := Aside0.mk (Below.refl w.heap.size w)
 have HC : ∀ W, Below w.heap.size w W → Calls Try.prog 27 #[.agg #[.int .i64 n, .slice A1 ls.length c1, .slice A2 es.length c2]] W fun e w' => e = .returned (.int .i64 0) ∧ Below W.heap.size W w' := fun W hW =>
  check_yes n ls es A1 A2 c1 c2 W (Kd.C_below hr1 hW) (Kd.C_below hr2 hW) (by rw [may_same]; exact hm)
 have HC' := Lib.hid HC
 have HR2 := Aside0.mk hr2
 have HS := Aside0.mk hs
 have HL := Aside0.mk hc2
 clear HC hr1 hr2 hm hs hc2
 go_enter Try.func30, Try.ntmps30
 go_wp2_with fail
 refine (HC'.out _ (below_alloc HB.out _)).mono ?_
 rintro e w1 ⟨rfl, hB⟩
 have HB1 := Aside0.mk (below_then (below_alloc HB.out _) (by simp) hB)
 have hx := (show BoxL w1 w.heap.size n (.slice A1 ls.length c1) (.slice A2 es.length c2) from blk_below (blk_new w _) hB)
 have b0 := hx.c0
 have b1 := hx.c1
 have b2 := hx.c2
 clear hB hx
 go_wp2_with fail
 refine (out_any n ls es A1 A2 c1 c2 v w _ (by first | exact HB1.out | exact pw_below_drewN HB1.out _) HR2.out HL.out hel HS.out).mono ?_
 rintro e w2 ⟨A', c', rfl, hcl, hC2, hB2⟩
 have HB2 := Aside0.mk (below_then HB1.out HB1.out.size hB2)
 have HC2 := Aside0.mk hC2
 clear hC2 hB2
 go_wp2_with fail
 refine (clone_any (outN es v) A' c' _ (HC2.out _ HB2.out) (Nat.le_trans (List.length_filter_le _ _) hel)).mono ?_
 rintro e w3 ⟨v0, rfl, hR, hB3⟩
 have HB3 := Aside0.mk (below_then HB2.out HB2.out.size hB3)
 have HR3 := Aside0.mk (Kd.R_lower hR HB2.out.size)
 clear hR hB3
 go_wp2
 go_ret
 exact ⟨_, rfl, HR3.out, HB3.out⟩
theorem lout_no (n : Int) (ls : List ByteArray) (es : List Ed) (A1 A2 : Option Addr) (c1 c2 : Nat) (v : Int) (w : World) (hr1 : Kd.C Kd.string w A1 ls.length ls) (hr2 : Kd.C k51 w A2 es.length es) (hm : mayR n ls es = false) :
  Calls Try.prog 30 #[.agg #[.int .i64 n, .slice A1 ls.length c1, .slice A2 es.length c2], .int .i64 v] w fun e w' => e = .returned (.slice none 0 0) ∧ Below w.heap.size w w' := by
 have HB := Aside0.mk (Below.refl w.heap.size w)
 have HC : ∀ W, Below w.heap.size w W → Calls Try.prog 27 #[.agg #[.int .i64 n, .slice A1 ls.length c1, .slice A2 es.length c2]] W fun e w' => e = .returned (.int .i64 1) ∧ Below W.heap.size W w' := fun W hW =>
  check_no n ls es A1 A2 c1 c2 W (Kd.C_below hr1 hW) (Kd.C_below hr2 hW) (by rw [may_same]; exact hm)
 have HC' := Lib.hid HC
 clear HC hr1 hr2 hm
 go_enter Try.func30, Try.ntmps30
 go_wp2_with fail
 refine (HC'.out _ (below_alloc HB.out _)).mono ?_
 rintro e w1 ⟨rfl, hB⟩
 have HB1 := Aside0.mk (below_then (below_alloc HB.out _) (by simp) hB)
 clear hB
 go_wp2
 go_ret
 exact ⟨rfl, HB1.out⟩
end Go.Proofs.Ythaaockbapbooaa.H
set_option linter.unusedVariables false
set_option linter.unusedSimpArgs false
namespace Go.Proofs.Ythaaockbapbooaa.H
open Go.RowKit Go.Proofs.Ythaaockbapbooaa.Pr Go.Proofs.YthaaockbapbooaaW.PrintWords Go.Proofs.Ythaaockbapbooaa.Sem
theorem lt_n {n : Int} {ls : List ByteArray} {es : List Ed} (h : mayR n ls es = true) : 1 ≤ n ∧ n ≤ 2048 := by
 unfold mayR at h
 simp only [Bool.and_eq_true, decide_eq_true_eq] at h
 exact ⟨h.1, h.2.1⟩
theorem lt_len {n : Int} {ls : List ByteArray} {es : List Ed} (h : mayR n ls es = true) : es.length ≤ 1000000 := by
 unfold mayR at h
 simp only [Bool.and_eq_true, decide_eq_true_eq] at h
 exact h.2.2.2.1
theorem lt_ok {n : Int} {ls : List ByteArray} {es : List Ed} (h : mayR n ls es = true) {k : Nat} (hk : k < es.length) : okAt' n ls.length es k = true := by
 unfold mayR at h
 simp only [Bool.and_eq_true, decide_eq_true_eq] at h
 exact List.all_eq_true.1 h.2.2.2.2.2 k (List.mem_range.2 hk)
theorem lt_in {n : Int} {ls : List ByteArray} {es : List Ed} (h : mayR n ls es = true) : ∀ e ∈ es, (0 ≤ e.f0 ∧ e.f0 < n) ∧ (0 ≤ e.f2 ∧ e.f2 < n) := fun e he => by
 obtain ⟨k, hk, rfl⟩ := List.getElem_of_mem he
 have := lt_ok h hk
 unfold okAt' at this
 simp only [Bool.and_eq_true, decide_eq_true_eq] at this
 have := And.intro this.1 this.2.1
 rwa [List.getD_eq_getElem?_getD, List.getElem?_eq_getElem hk] at this
theorem lt_next {n : Int} {ls : List ByteArray} {es : List Ed} (h : mayR n ls es = true) {k : Nat} (hk : k + 1 < es.length) : elt (es.getD k z51) (es.getD (k + 1) z51) := by
 have := lt_ok h hk
 unfold okAt' at this
 simp only [Bool.and_eq_true, Bool.or_eq_true, decide_eq_true_eq] at this
 simpa using this.2.2.2.2
theorem elt_from {a b : Ed} (h : elt a b) : a.f0 ≤ b.f0 := by unfold elt at h; omega
theorem lt_from {n : Int} {ls : List ByteArray} {es : List Ed} (h : mayR n ls es = true) : FromS es := by
 intro i j
 induction j with
 | zero => intro h1 h2; rw [show i = 0 by omega]; exact Int.le_refl _
 | succ j ih =>
  intro h1 h2
  rcases Nat.lt_or_ge i (j + 1) with q | q
  ·exact Int.le_trans (ih (by omega) (by omega)) (elt_from (lt_next h h2))
  ·rw [show i = j + 1 by omega]; exact Int.le_refl _
structure RI (n : Nat) (es : List Ed) (v : Nat) (T : List Bool) (L : List Int) : Prop where
  len : T.length = n
  at_ : T.getD v false = true
  snd : Snd es v T
  que : ∀ x ∈ L, 0 ≤ x ∧ x.toNat < n ∧ T.getD x.toNat false = true
  half : ∀ e ∈ es, T.getD e.f0.toNat false = true → e.f0 ∈ L ∨ T.getD e.f2.toNat false = true
theorem RI.start {n : Nat} {es : List Ed} {v : Nat} (hv : v < n) (hes : ∀ e ∈ es, (0 ≤ e.f0 ∧ e.f0 < n) ∧ (0 ≤ e.f2 ∧ e.f2 < n)) : RI n es v ((List.replicate n false).set v true) [(v : Int)] := by
 have hs := start_tells (es := es) hv
 refine ⟨by simp, hs.1, hs.2, fun x hx => ?_, fun e he h => .inl ?_⟩
 ·obtain rfl : x = (v : Int) := by simpa using hx
  exact ⟨by omega, by omega, by rw [Int.toNat_natCast]; exact hs.1⟩
 ·rw [getD_set _ _ _ (by simpa using hv)] at h
  by_cases q : e.f0.toNat = v
  ·have := (hes e he).1
   have : e.f0 = (v : Int) := by omega
   simp [this]
  ·rw [decide_eq_false q, Bool.false_or] at h
   have : (List.replicate n false).getD e.f0.toNat false = false := by
    simp only [List.getD_eq_getElem?_getD, List.getElem?_replicate]
    split <;> rfl
   rw [this] at h; cases h
theorem RI.put {n : Nat} {es : List Ed} {v : Nat} {T : List Bool} {L : List Int} {e : Ed} (h : RI n es v T L) (hes : ∀ e ∈ es, (0 ≤ e.f0 ∧ e.f0 < n) ∧ (0 ≤ e.f2 ∧ e.f2 < n)) (he : e ∈ es) (h0 : T.getD e.f0.toNat false = true) : RI n es v (T.set e.f2.toNat true) (L ++ [e.f2]) := by
 have h2 := (hes e he).2
 have hl : e.f2.toNat < T.length := by rw [h.len]; omega
 have mono : ∀ i, T.getD i false = true → (T.set e.f2.toNat true).getD i false = true := fun i hi => by rw [getD_set _ _ _ hl, hi]; simp
 refine ⟨by simp [h.len], mono _ h.at_, fun i hi => ?_, fun x hx => ?_, fun f hf hq => ?_⟩
 ·rw [getD_set _ _ _ hl] at hi
  by_cases q : i = e.f2.toNat
  ·subst q; exact .step (h.snd _ h0) he
  ·rw [decide_eq_false q, Bool.false_or] at hi; exact h.snd i hi
 ·rcases List.mem_append.1 hx with hx | hx
  ·have := h.que x hx
   exact ⟨this.1, this.2.1, mono _ this.2.2⟩
  ·obtain rfl : x = e.f2 := by simpa using hx
   exact ⟨h2.1, by omega, by rw [getD_set _ _ _ hl]; simp⟩
 ·rw [getD_set _ _ _ hl] at hq
  by_cases q : f.f0.toNat = e.f2.toNat
  ·have := (hes f hf).1
   have : f.f0 = e.f2 := by omega
   left; simp [this]
  ·rw [decide_eq_false q, Bool.false_or] at hq
   rcases h.half f hf hq with hh | hh
   ·left; exact List.mem_append_left _ hh
   ·right; exact mono _ hh
theorem RI.pop {n : Nat} {es : List Ed} {v : Nat} {T : List Bool} {x : Int} {R : List Int} (h : RI n es v T (x :: R)) (hd : ∀ e ∈ es, e.f0 = x → T.getD e.f2.toNat false = true) : RI n es v T R := by
 refine ⟨h.len, h.at_, h.snd, fun y hy => h.que y (List.mem_cons_of_mem _ hy), fun e he hq => ?_⟩
 rcases h.half e he hq with hh | hh
 ·rcases List.mem_cons.1 hh with q | q
  ·right; exact hd e he q
  ·left; exact q
 ·right; exact hh
theorem RI.fin {n : Nat} {es : List Ed} {v : Nat} {T : List Bool} (h : RI n es v T []) : Tells n es v T := ⟨h.len, h.at_, fun e he hq => by rcases h.half e he hq with hh | hh; cases hh; exact hh, h.snd⟩
end Go.Proofs.Ythaaockbapbooaa.H
set_option linter.unusedVariables false
set_option linter.unusedSimpArgs false
namespace Go.Proofs.Ythaaockbapbooaa.H
open Go.RowKit Go.Proofs.Ythaaockbapbooaa.Pr Go.Proofs.YthaaockbapbooaaW.PrintWords Go.Proofs.Ythaaockbapbooaa.Sem Go.Sort Go.Shelf Go.Lib
def GW (w W : World) : Prop := ∃ q os, W = grow (w.drewN q) os
theorem GW.refl (w : World) : GW w w := ⟨0, #[], by simp [grow, World.drewN]⟩
theorem GW.alloc {w W : World} (h : GW w W) (o : Obj) : GW w (W.alloc o) := by
 obtain ⟨q, os, rfl⟩ := h
 exact ⟨q, os ++ #[o], by rw [alloc_eq_grow, grow_grow]⟩
theorem GW.drew {w W : World} (h : GW w W) : GW w W.drew := by
 obtain ⟨q, os, rfl⟩ := h
 exact ⟨q + 1, os, by simp [grow, World.drewN, World.drew, Nat.add_assoc]⟩
theorem GW.drewN {w W : World} (h : GW w W) (m : Nat) : GW w (W.drewN m) := by
 obtain ⟨q, os, rfl⟩ := h
 exact ⟨q + m, os, by simp [grow, World.drewN, Nat.add_assoc]⟩
set_option maxRecDepth 100000 in
theorem compareG (a b : Ed) (w : World) : Calls Try.prog 51 #[.agg #[.int .i64 a.f0, .int .i64 a.f1, .int .i64 a.f2], .agg #[.int .i64 b.f0, .int .i64 b.f1, .int .i64 b.f2]] w fun e w' => e = .returned (.int .i64 (cmpE a b)) ∧ GW w w' := by
 go_enter Try.func51, Try.ntmps51
 go_wp2_with fail
 go_region_held3 (fun w' => w'.cell? ⟨w.heap.size, 0, none⟩ = some (.int .i64 a.f0) ∧ w'.cell? ⟨w.heap.size, 1, none⟩ = some (.int .i64 a.f1) ∧ w'.cell? ⟨w.heap.size, 2, none⟩ = some (.int .i64 a.f2) ∧ w'.cell? ⟨w.heap.size + 1, 0, none⟩ = some (.int .i64 b.f0) ∧ w'.cell? ⟨w.heap.size + 1, 1, none⟩ = some (.int .i64 b.f1) ∧ w'.cell? ⟨w.heap.size + 1, 2, none⟩ = some (.int .i64 b.f2))
  (first | go_keep)
  (first
   | (go_at_call 67; refine (compare_any _ _ _).mono ?_; rintro e w' ⟨rfl, rfl⟩)
   | (go_at_call 66; refine (or_any [cmpI a.f0 b.f0, cmpI a.f1 b.f1, cmpI a.f2 b.f2] _ _ _ (by simp) (by intro j hj; match j, hj with | 0, _ => go_simp | 1, _ => go_simp | 2, _ => go_simp)).mono ?_; rintro e w' ⟨rfl, rfl⟩))
 go_wp2
 go_ret
 exact ⟨rfl, by repeat (first | exact GW.refl _ | apply GW.alloc | apply GW.drewN | apply GW.drew)⟩
def encE (x : Ed) : List Value := [.int .i64 x.f0, .int .i64 x.f1, .int .i64 x.f2]
theorem ltE (x y : Ed) : ltOf cmpE x y = decide (elt x y) := by unfold ltOf; rw [decide_eq_decide]; exact cmpE_neg x y
theorem swoE : SWO (ltOf cmpE) where
 irrefl x := by rw [ltE]; simp [elt]
 trans x y z h1 h2 := by rw [ltE] at *; simp only [decide_eq_true_eq] at *; unfold elt at *; omega
 ntrans x y z h1 h2 := by rw [ltE] at *; simp only [decide_eq_false_iff_not] at *; unfold elt at *; omega
theorem totE (x y : Ed) (h1 : ltOf cmpE x y = false) (h2 : ltOf cmpE y x = false) : x = y := by
 rw [ltE, decide_eq_false_iff_not] at h1 h2
 obtain ⟨x0, x1, x2⟩ := x
 obtain ⟨y0, y1, y2⟩ := y
 unfold elt at h1 h2
 simp only at h1 h2
 rw [S51.mk.injEq]
 omega
theorem sortF_any (g c : Nat) (es : List Ed) (w : World) (hH : HoldsK encE 3 w g 0 es.toArray) (hblk : g < w.heap.size) (hsz : es.length ≤ 1000000) :
  Calls Try.prog 50 #[.slice (some ⟨g, 0, none⟩) es.length c, .func (.func 51) #[] #[]] w fun e w' => e = .returned (.tuple #[]) ∧ ∃ n os, w' = sortWorldK encE 3 w g 0 n (es.mergeSort fun x y => !(ltOf cmpE) y x).toArray os := by
 have eg : ∀ args w, (callFunc 51 args).run Try.prog w = .ok (.enter 51 args) w := enters_of Try.func51 (by kernel_rfl) rfl
 have hcon := AnyQ.slices_SortFunc_total Try.sortE 3 (fun _ => by kernel_rfl) (fun _ => by kernel_rfl) encE (fun _ => rfl) (fun x v hv => by simp [encE] at hv; rcases hv with rfl | rfl | rfl <;> rfl) cmpE swoE 51 #[] g 0 c es.toArray w eg (fun m os dk hs x y => compareG x y _) hH hblk (by simp; omega) totE
 change Calls Try.prog 50 _ _ _ at hcon
 simpa using hcon
end Go.Proofs.Ythaaockbapbooaa.H
set_option linter.unusedVariables false
set_option linter.unusedSimpArgs false
namespace Go.Proofs.Ythaaockbapbooaa.H
open Go.RowKit Go.Proofs.Ythaaockbapbooaa.Pr Go.Proofs.YthaaockbapbooaaW.PrintWords Go.Proofs.Ythaaockbapbooaa.Sem Go.Sort Go.Shelf Go.Lib
theorem holdsK_of_R {W : World} {base g cap : Nat} {ok : Nat → Prop} {es : List Ed} (h : Kd.R k51 51 W base ok (.slice (some ⟨g, 0, none⟩) es.length cap) es) : HoldsK encE 3 W g 0 es.toArray := by
 intro j hj
 rw [size_flatK, List.size_toArray] at hj
 have hi : j / 3 < es.length := by omega
 obtain ⟨c, hcl, hM, hcc, hf⟩ := Kd.R_elem h z51 ((j / 3 : Nat) : Int) (by omega) (by omega)
 have hc := k51_openM hM
 rw [Int.toNat_natCast] at hc hcc hf
 have hsz : (k51 : Kd Ed).sz = 3 := rfl
 rw [hsz] at hcc hf
 have e : j / 3 * 3 + j % 3 = j := by omega
 have h3 : j % 3 < 3 := Nat.mod_lt _ (by omega)
 have hx : es.toArray[j / 3]! = es.getD (j / 3) z51 := by
  rw [getElem!_pos es.toArray (j / 3) (by simpa using hi), getD_get hi]
  simp
 rw [get_flatK _ _ _ _ (by rw [List.size_toArray]; exact hj), hx, Nat.zero_add]
 have hlen : (encE (es.getD (j / 3) z51)).length = 3 := rfl
 refine ⟨?_, by have := hf (j % 3); rwa [e] at this⟩
 have hu : c[j % 3]? = some ((encE (es.getD (j / 3) z51))[j % 3]!) := by
  rw [hc, getElem!_pos (encE (es.getD (j / 3) z51)) (j % 3) (by rw [hlen]; exact h3)]
  exact List.getElem?_eq_getElem (by exact h3)
 have := hcc (j % 3) _ hu
 rwa [e] at this
theorem flat_len (es : List Ed) : (flatK encE 3 es.toArray).toList.length = es.length * 3 := by
 rw [Array.length_toList, size_flatK, List.size_toArray]
theorem flat_seg (es : List Ed) (j : Nat) (hj : j < es.length) : ((flatK encE 3 es.toArray).toList.drop (j * 3)).take 3 = encE es[j] := by
 have hx : es.toArray[j]! = es[j] := by
  rw [getElem!_pos es.toArray j (by simpa using hj)]
  simp
 apply List.ext_getElem
 ·rw [List.length_take, List.length_drop, flat_len]
  show min 3 _ = 3
  omega
 ·intro i h1 h2
  have hi : i < 3 := h2
  rw [List.getElem_take, List.getElem_drop, Array.getElem_toList]
  have := get_flatK encE 3 es.toArray (j * 3 + i) (by rw [List.size_toArray]; omega)
  rw [getElem!_pos (flatK encE 3 es.toArray) (j * 3 + i) (by rw [size_flatK, List.size_toArray]; omega)] at this
  rw [this, show (j * 3 + i) / 3 = j by omega, show (j * 3 + i) % 3 = i by omega, hx]
  exact getElem!_pos (encE es[j]) i h2
theorem R_sorted {W : World} {base g cap : Nat} {es es' : List Ed} (h : Kd.R k51 51 W base (fun _ => True) (.slice (some ⟨g, 0, none⟩) es.length cap) es) (hl : es'.length = es.length) (m : Nat) (os : Array Obj) : Kd.R k51 51 (sortWorldK encE 3 W g 0 m es'.toArray os) base (fun _ => True) (.slice (some ⟨g, 0, none⟩) es'.length cap) es' := by
 obtain ⟨h0, inner, ho, hr⟩ := h
 obtain ⟨hil, hcase⟩ := ho
 rcases hcase with ⟨hv, _⟩ | ⟨g', cap', cur, hv, hb, hh, hnc, hcm, hcs, htk⟩
 ·cases hv
 ·cases hv
  have hsz : (k51 : Kd Ed).sz = 3 := rfl
  rw [hsz] at hcs htk hil
  have hlt : g < W.heap.size := blk_lt hh
  have hheap : (sortWorldK encE 3 W g 0 m es'.toArray os).heap[g]? = some (.cells (putCells id 0 (flatK encE 3 es'.toArray) cur) 51 (0, 0)) := by
   show ((W.heap.modify g (onCells (putCells id 0 (flatK encE 3 es'.toArray)))) ++ os)[g]? = _
   rw [Array.getElem?_append_left (by rw [Array.size_modify]; exact hlt), Array.getElem?_modify, if_pos rfl, hh]
   rfl
  refine ⟨fun _ _ => trivial, (flatK encE 3 es'.toArray).toList, ⟨by rw [flat_len, hsz], .inr ⟨g, cap, _, rfl, hb, hheap, by omega, hcm, by rw [hsz]; unfold putCells; rw [Array.size_mapIdx]; exact hcs, ?_⟩⟩, ?_⟩
  ·rw [hsz]
   apply List.ext_getElem
   ·have hq : (putCells id 0 (flatK encE 3 es'.toArray) cur).size = cap * 3 := by unfold putCells; rw [Array.size_mapIdx]; exact hcs
    have hq2 : (putCells id 0 (flatK encE 3 es'.toArray) cur).toList.length = cap * 3 := by rw [Array.length_toList]; exact hq
    rw [List.length_take, hq2, flat_len]
    have : es.length * 3 ≤ cap * 3 := Nat.mul_le_mul_right _ hnc
    omega
   ·intro i h1 h2
    rw [flat_len, hl] at h2
    rw [List.getElem_take, Array.getElem_toList]
    unfold putCells
    rw [Array.getElem_mapIdx, if_pos (by rw [size_flatK, List.size_toArray, hl]; omega), Nat.sub_zero, getElem!_pos (flatK encE 3 es'.toArray) i (by rw [size_flatK, List.size_toArray, hl]; exact h2)]
    rfl
  ·refine ⟨by rw [flat_len, hsz], fun j p hp => ?_⟩
   obtain ⟨hj, rfl⟩ := List.getElem?_eq_some_iff.1 hp
   rw [hsz, flat_seg es' j hj]
   exact k51_mkM _ _ _ _
def sortedE (es : List Ed) : List Ed := es.mergeSort fun x y => !(ltOf cmpE) y x
end Go.Proofs.Ythaaockbapbooaa.H
set_option linter.unusedVariables false
set_option linter.unusedSimpArgs false
namespace Go.Proofs.Ythaaockbapbooaa.H
open Go.RowKit Go.Proofs.Ythaaockbapbooaa.Pr Go.Proofs.YthaaockbapbooaaW.PrintWords Go.Proofs.Ythaaockbapbooaa.Sem Go.Lib
theorem run_clear_edges (w : World) (ty : TypeId) (b o n c : Nat) (hn : 0 < n)
  (hc : ∀ j, j < (Builtin.zeroCells #[.int .i64 0, .int .i64 0, .int .i64 0] n).toList.length → (w.cell? ⟨b, o + j, none⟩).isSome = true) (hf : ∀ j, j < (Builtin.zeroCells #[.int .i64 0, .int .i64 0, .int .i64 0] n).toList.length → w.frozen? ⟨b, o + j, none⟩ = false) :
  (Builtin.clear_ #[23] ty #[.slice (some ⟨b, o, none⟩) n c]).run Try.prog w = .ok (.tuple #[]) (w.setCells b o (Builtin.zeroCells #[.int .i64 0, .int .i64 0, .int .i64 0] n).toList) := by
 have hv : ∀ w, (zeroValue 51).run Try.prog w = .ok (.agg #[.int .i64 0, .int .i64 0, .int .i64 0]) w := fun w => by kernel_rfl
 have hst := run_storeCells_cells (P := Try.prog) b o (Builtin.zeroCells #[.int .i64 0, .int .i64 0, .int .i64 0] n).toList 0 w (by simpa using hc) (by simpa using hf) (by
  intro v hv'
  simp [Builtin.zeroCells] at hv'
  obtain ⟨a, _, rfl⟩ := hv'
  have : a % 3 < 3 := Nat.mod_lt _ (by omega)
  rcases (show a % 3 = 0 ∨ a % 3 = 1 ∨ a % 3 = 2 by omega) with h | h | h <;> simp [h, Value.oneCell'])
 simp only [Nat.add_zero] at hst
 obtain ⟨m, rfl⟩ : ∃ m, n = m + 1 := ⟨n - 1, by omega⟩
 simp [Builtin.clear_, run_underlying Try.underlying23, hv, hst, Value.cells]
end Go.Proofs.Ythaaockbapbooaa.H
set_option linter.unusedVariables false
set_option linter.unusedSimpArgs false
namespace Go.Proofs.Ythaaockbapbooaa.Sem
open Go.Proofs.Ythaaockbapbooaa.Pr
theorem elt_trans {a b c : Ed} (h1 : elt a b) (h2 : elt b c) : elt a c := by unfold elt at *; omega
theorem elt_irr (a : Ed) : ¬ elt a a := by unfold elt; omega
theorem elt_tri {a b : Ed} (h : ¬ elt a b) (h2 : ¬ cmpE a b = 0) : elt b a := by
 rw [cmpE_zero] at h2
 rcases Classical.em (elt b a) with q | q
 ·exact q
 ·exfalso
  apply h2
  obtain ⟨a0, a1, a2⟩ := a
  obtain ⟨b0, b1, b2⟩ := b
  unfold elt at h q
  simp only at h q
  rw [S51.mk.injEq]
  omega
theorem insE_mem (e x : Ed) : ∀ l, x ∈ insE e l ↔ x = e ∨ x ∈ l
 | [] => by simp [insE]
 | y :: r => by
  unfold insE
  split
  ·simp
  ·split
   ·rename_i h
    rw [cmpE_zero] at h
    subst h
    simp
   ·rw [List.mem_cons, insE_mem e x r, List.mem_cons]
    constructor
    ·rintro (h | h | h)
     ·exact .inr (.inl h)
     ·exact .inl h
     ·exact .inr (.inr h)
    ·rintro (h | h | h)
     ·exact .inr (.inl h)
     ·exact .inl h
     ·exact .inr (.inr h)
theorem insE_sorted (e : Ed) : ∀ l, l.Pairwise elt → (insE e l).Pairwise elt
 | [], _ => by simp [insE]
 | y :: r, h => by
  have h' := List.pairwise_cons.1 h
  unfold insE
  split
  ·rename_i q
   refine List.pairwise_cons.2 ⟨fun x hx => ?_, h⟩
   rcases List.mem_cons.1 hx with rfl | hx
   ·exact q
   ·exact elt_trans q (h'.1 x hx)
  ·split
   ·exact h
   ·rename_i q1 q2
    refine List.pairwise_cons.2 ⟨fun x hx => ?_, insE_sorted e r h'.2⟩
    rcases (insE_mem e x r).1 hx with rfl | hx
    ·exact elt_tri q1 q2
    ·exact h'.1 x hx
theorem strict_unique : ∀ (a b : List Ed), a.Pairwise elt → b.Pairwise elt → (∀ x, x ∈ a ↔ x ∈ b) → a = b
 | [], [], _, _, _ => rfl
 | [], y :: r, _, _, h => by have := (h y).2 (List.mem_cons_self ..); cases this
 | x :: r, [], _, _, h => by have := (h x).1 (List.mem_cons_self ..); cases this
 | x :: r, y :: s, ha, hb, h => by
  have ha' := List.pairwise_cons.1 ha
  have hb' := List.pairwise_cons.1 hb
  have e : x = y := by
   rcases List.mem_cons.1 ((h x).1 (List.mem_cons_self ..)) with q | q
   ·exact q
   ·rcases List.mem_cons.1 ((h y).2 (List.mem_cons_self ..)) with q2 | q2
    ·exact q2.symm
    ·exact absurd (elt_trans (hb'.1 x q) (ha'.1 y q2)) (elt_irr y)
  subst e
  rw [strict_unique r s ha'.2 hb'.2 fun z => ?_]
  have hz := h z
  constructor
  ·intro q
   rcases List.mem_cons.1 (hz.1 (List.mem_cons_of_mem _ q)) with rfl | q2
   ·exact absurd (ha'.1 _ q) (elt_irr _)
   ·exact q2
  ·intro q
   rcases List.mem_cons.1 (hz.2 (List.mem_cons_of_mem _ q)) with rfl | q2
   ·exact absurd (hb'.1 _ q) (elt_irr _)
   ·exact q2
def dd : List Ed → List Ed
 | [] => []
 | [a] => [a]
 | a :: b :: r => if cmpE a b = 0 then dd (b :: r) else a :: dd (b :: r)
theorem dd_mem (x : Ed) : ∀ l, x ∈ dd l ↔ x ∈ l
 | [] => by simp [dd]
 | [a] => by simp [dd]
 | a :: b :: r => by
  have ih := dd_mem x (b :: r)
  unfold dd
  split
  ·rename_i h
   rw [cmpE_zero] at h
   subst h
   rw [ih]
   simp
  ·rw [List.mem_cons, ih, List.mem_cons (a := x) (b := a)]
theorem elt_or {a b : Ed} (h : ¬ elt b a) : a = b ∨ elt a b := by
 by_cases q : cmpE b a = 0
 ·exact .inl ((cmpE_zero b a).1 q).symm
 ·exact .inr (elt_tri h q)
theorem dd_sorted : ∀ l : List Ed, l.Pairwise (fun a b => ¬ elt b a) → (dd l).Pairwise elt
 | [], _ => by simp [dd]
 | [a], _ => by simp [dd]
 | a :: b :: r, h => by
  have h' := List.pairwise_cons.1 h
  have ih := dd_sorted (b :: r) h'.2
  unfold dd
  split
  ·exact ih
  ·rename_i q
   refine List.pairwise_cons.2 ⟨fun x hx => ?_, ih⟩
   have hab : elt a b := by
    rcases elt_or (h'.1 b (List.mem_cons_self ..)) with e | e
    ·exact absurd ((cmpE_zero a b).2 e) q
    ·exact e
   rcases List.mem_cons.1 ((dd_mem x (b :: r)).1 hx) with rfl | hx
   ·exact hab
   ·rcases elt_or ((List.pairwise_cons.1 h'.2).1 x hx) with e | e
    ·rw [← e]; exact hab
    ·exact elt_trans hab e
theorem fold_ins : ∀ (es o : List Ed), o.Pairwise elt → (es.foldl (fun o e => insE e o) o).Pairwise elt ∧ ∀ x, x ∈ es.foldl (fun o e => insE e o) o ↔ x ∈ es ∨ x ∈ o
 | [], o, h => ⟨h, fun x => by simp⟩
 | e :: r, o, h => by
  have ih := fold_ins r (insE e o) (insE_sorted e o h)
  refine ⟨ih.1, fun x => ?_⟩
  rw [List.foldl_cons, ih.2 x, insE_mem, List.mem_cons]
  constructor
  ·rintro (h | h | h)
   ·exact .inl (.inr h)
   ·exact .inl (.inl h)
   ·exact .inr h
  ·rintro ((h | h) | h)
   ·exact .inr (.inl h)
   ·exact .inl h
   ·exact .inr (.inr h)
theorem dd_sortE {es l : List Ed} (h : l.Pairwise (fun a b => ¬ elt b a)) (hm : ∀ x, x ∈ l ↔ x ∈ es) : dd l = sortE es := by
 have hf := fold_ins es [] List.Pairwise.nil
 exact strict_unique _ _ (dd_sorted l h) hf.1 fun x => by rw [dd_mem, hm]; show _ ↔ x ∈ es.foldl (fun o e => insE e o) []; rw [hf.2 x]; simp
end Go.Proofs.Ythaaockbapbooaa.Sem
set_option linter.unusedVariables false
set_option linter.unusedSimpArgs false
namespace Go.Proofs.Ythaaockbapbooaa.H
open Go.RowKit Go.Proofs.Ythaaockbapbooaa.Pr Go.Proofs.YthaaockbapbooaaW.PrintWords Go.Proofs.Ythaaockbapbooaa.Sem Go.Lib Go.Sort
section
variable {α : Type} [Inhabited α] (enc : α → List Value) (k : Nat) (hk : ∀ x, (enc x).length = k)
include hk
theorem flat_set (d : Array α) (i : Nat) (x : α) (hi : i < d.size) : setMany (flatK enc k d) (i * k) (enc x) = flatK enc k (d.setIfInBounds i x) := by
 refine ext_get! (by simp) fun t ht => ?_
 have ht' : t < d.size * k := by simpa using ht
 have k0 : 0 < k := by
  rcases Nat.eq_zero_or_pos k with h | h
  ·subst h; simp at ht'
  ·exact h
 rw [get_setMany _ _ _ t (by simpa using ht'), get_flatK _ _ _ t ht', get_flatK _ _ _ t (by simpa using ht'), hk]
 by_cases a : t / k = i
 ·rw [if_pos ((blk_iff k i t k0).2 a), a, getElem!_set_same d i x hi]
  subst a
  rw [Nat.mod_eq_sub_div_mul]
 ·rw [if_neg (fun h => a ((blk_iff k i t k0).1 h)), getElem!_set_other d i _ x a]
theorem flat_lay (d : Array α) (j m : Nat) (z : α) (vs : List Value) (hj : j + m ≤ d.size) (hl : vs.length = m * k) (hv : ∀ t, t < m * k → vs[t]! = (enc z)[t % k]!) : setMany (flatK enc k d) (j * k) vs = flatK enc k (lay d j (List.replicate m z)) := by
 have hsz : (lay d j (List.replicate m z)).size = d.size := by
  have : ∀ (xs : List α) (d : Array α) (k : Nat), (lay d k xs).size = d.size := by
   intro xs
   induction xs with
   | nil => intro d k; rfl
   | cons x r ih => intro d k; show (lay (d.setIfInBounds k x) (k + 1) r).size = _; rw [ih]; simp
  exact this _ _ _
 refine ext_get! (by simp [hsz]) fun t ht => ?_
 have ht' : t < d.size * k := by simpa using ht
 have k0 : 0 < k := by
  rcases Nat.eq_zero_or_pos k with h | h
  ·subst h; simp at ht'
  ·exact h
 have hq : t / k < d.size := Nat.div_lt_of_lt_mul (by rwa [Nat.mul_comm] at ht')
 have hget : (lay d j (List.replicate m z))[t / k]! = if j ≤ t / k ∧ t / k < j + m then z else d[t / k]! := by
  have := lay_get? (List.replicate m z) d j (t / k) (by simpa using hj)
  rw [getElem!_pos _ (t / k) (by rw [hsz]; exact hq)]
  rw [Array.getElem?_eq_getElem (by rw [hsz]; exact hq)] at this
  simp only [List.length_replicate] at this
  split
  ·rename_i c
   rw [if_pos c, List.getElem?_replicate, if_pos (by omega)] at this
   exact Option.some.inj this
  ·rename_i c
   rw [if_neg c, Array.getElem?_eq_getElem hq] at this
   rw [getElem!_pos d (t / k) hq]
   exact Option.some.inj this
 rw [get_setMany _ _ _ t (by simpa using ht'), get_flatK _ _ _ t ht', get_flatK _ _ _ t (by rw [hsz]; exact ht'), hget, hl]
 have hmod : t = k * (t / k) + t % k := (Nat.div_add_mod t k).symm
 have hm : t % k < k := Nat.mod_lt _ k0
 have iff1 : (j * k ≤ t ∧ t < j * k + m * k) ↔ (j ≤ t / k ∧ t / k < j + m) := by
  rw [Nat.le_div_iff_mul_le k0, Nat.div_lt_iff_lt_mul k0, Nat.add_mul]
 by_cases c : j ≤ t / k ∧ t / k < j + m
 ·rw [if_pos (iff1.2 c), if_pos c]
  have c2 := iff1.2 c
  rw [hv _ (by omega)]
  congr 1
  have : t = (t - j * k) + k * j := by rw [Nat.mul_comm k j]; omega
  conv => rhs; rw [this]
  rw [Nat.add_mul_mod_self_left]
 ·rw [if_neg (fun h => c (iff1.1 h)), if_neg c]
theorem store_worldK (w wr : World) (n g off : Nat) (d : Array α) (i : Nat) (x : α) (hi : i < d.size) (h : wr = putRowK enc k (Sort.ahead w n) g off d) : wr.setCells g (off + i * k) (enc x) = putRowK enc k (Sort.ahead w n) g off (d.setIfInBounds i x) := by
 subst h
 have hb : i * k + k ≤ d.size * k := by
  have := Nat.mul_le_mul_right k (show i + 1 ≤ d.size from hi); rwa [Nat.add_mul, Nat.one_mul] at this
 unfold putRowK
 rw [setCells_putRow _ _ _ _ _ _ (by rw [hk, size_flatK]; exact hb), flat_set enc k hk d i x hi]
theorem clear_worldK (w wr : World) (n g off : Nat) (d : Array α) (j m : Nat) (z : α) (vs : List Value) (hj : j + m ≤ d.size) (hl : vs.length = m * k) (hv : ∀ t, t < m * k → vs[t]! = (enc z)[t % k]!) (h : wr = putRowK enc k (Sort.ahead w n) g off d) : wr.setCells g (off + j * k) vs = putRowK enc k (Sort.ahead w n) g off (lay d j (List.replicate m z)) := by
 subst h
 have hb : j * k + m * k ≤ d.size * k := by rw [← Nat.add_mul]; exact Nat.mul_le_mul_right k hj
 unfold putRowK
 rw [setCells_putRow _ _ _ _ _ _ (by rw [hl, size_flatK]; exact hb), flat_lay enc k hk d j m z vs hj hl hv]
end
instance : DecidableEq Ed := fun a b => decidable_of_iff (cmpE a b = 0) (cmpE_zero a b)
theorem dd_snoc : ∀ (l : List Ed) (b a : Ed), dd (l ++ [b, a]) = if b = a then dd (l ++ [b]) else dd (l ++ [b]) ++ [a]
 | [], b, a => by
  show dd [b, a] = _
  unfold dd
  by_cases q : b = a
  ·rw [if_pos ((cmpE_zero b a).2 q), if_pos q, q]; rfl
  ·rw [if_neg (fun h => q ((cmpE_zero b a).1 h)), if_neg q]; rfl
 | [x], b, a => by
  have ih := dd_snoc [] b a
  show dd (x :: b :: [a]) = _
  show _ = if b = a then dd (x :: b :: []) else dd (x :: b :: []) ++ [a]
  unfold dd
  rw [show dd [b, a] = _ from ih]
  split
  ·split <;> rfl
  ·split <;> rfl
 | x :: y :: r, b, a => by
  have ih := dd_snoc (y :: r) b a
  show dd (x :: y :: (r ++ [b, a])) = _
  show _ = if b = a then dd (x :: y :: (r ++ [b])) else dd (x :: y :: (r ++ [b])) ++ [a]
  unfold dd
  rw [show dd (y :: (r ++ [b, a])) = _ from ih]
  split
  ·rfl
  ·split <;> rfl
theorem compact_dd (es : List Ed) : compact es = dd es := by
 have : ∀ m, m ≤ es.length → compactUpTo es.toArray m = dd (es.take m) := by
  intro m
  induction m with
  | zero => intro _; simp [compactUpTo, dd]
  | succ m ih =>
   intro h
   have hm : m < es.length := by omega
   have e0 : es.toArray[m]! = es[m] := by rw [getElem!_pos es.toArray m (by simpa using hm)]; simp
   rw [compactUpTo_succ, ih (by omega), e0]
   rw [List.take_add_one, List.getElem?_eq_getElem hm]
   cases m with
   | zero => simp [keeps, dd]
   | succ m =>
    have hm' : m < es.length := by omega
    have e1 : es.toArray[m]! = es[m] := by rw [getElem!_pos es.toArray m (by simpa using hm')]; simp
    have ek : keeps es.toArray (m + 1) = decide (es[m] ≠ es[m + 1]) := by
     unfold keeps
     rw [e0, show m + 1 - 1 = m from rfl, e1]
     rw [decide_eq_decide]
     constructor
     ·rintro (h | h)
      ·omega
      ·exact fun q => h q.symm
     ·exact fun h => .inr fun q => h q.symm
    rw [ek, List.take_add_one, List.getElem?_eq_getElem hm']
    simp only [Option.toList_some, List.append_assoc, List.cons_append, List.nil_append]
    rw [dd_snoc]
    by_cases q : es[m] = es[m + 1]
    ·simp [q]
    ·simp [q]
 unfold compact
 rw [this _ (Nat.le_refl _), List.take_length]
theorem eqE (x0 x1 x2 y0 y1 y2 : Int) (w : World) : (Op.equalIn 10000 51 (.agg #[.int .i64 x0, .int .i64 x1, .int .i64 x2]) (.agg #[.int .i64 y0, .int .i64 y1, .int .i64 y2])).run Try.prog w = .ok (x0 == y0 && (x1 == y1 && x2 == y2)) w := by
 refine eqA_of Try.underlying51 (by kernel_rfl) ?_
 refine eqf_cons (by rfl) (by go_simp; rfl) (by go_simp; rfl) (by go_simp) ?_
 refine eqf_cons (by rfl) (by go_simp; rfl) (by go_simp; rfl) (by go_simp) ?_
 exact eqf_last (by rfl) (by go_simp; rfl) (by go_simp; rfl) (by go_simp)
theorem eqE_yes {x y : Ed} (h : x = y) (w : World) : (Op.equalIn 10000 51 (.agg #[.int .i64 x.f0, .int .i64 x.f1, .int .i64 x.f2]) (.agg #[.int .i64 y.f0, .int .i64 y.f1, .int .i64 y.f2])).run Try.prog w = .ok true w := by
 subst h; rw [eqE]; simp
theorem eqE_no {x y : Ed} (h : ¬ x = y) (w : World) : (Op.equalIn 10000 51 (.agg #[.int .i64 x.f0, .int .i64 x.f1, .int .i64 x.f2]) (.agg #[.int .i64 y.f0, .int .i64 y.f1, .int .i64 y.f2])).run Try.prog w = .ok false w := by
 rw [eqE]
 congr 1
 obtain ⟨x0, x1, x2⟩ := x
 obtain ⟨y0, y1, y2⟩ := y
 rw [S51.mk.injEq] at h
 simpa using h
theorem cellE {w : World} {g : Nat} {d : Array Ed} (h : HoldsK encE 3 w g 0 d) {i : Nat} (hi : i < d.size) : w.cell? ⟨g, i * 3, none⟩ = some (.int .i64 d[i]!.f0) ∧ w.cell? ⟨g, i * 3 + 1, none⟩ = some (.int .i64 d[i]!.f1) ∧ w.cell? ⟨g, i * 3 + 2, none⟩ = some (.int .i64 d[i]!.f2) ∧
  (w.frozen? ⟨g, i * 3, none⟩ = false ∧ w.frozen? ⟨g, i * 3 + 1, none⟩ = false ∧ w.frozen? ⟨g, i * 3 + 2, none⟩ = false) := by
 have c0 := h.cell hi (show 0 < 3 by omega)
 have c1 := h.cell hi (show 1 < 3 by omega)
 have c2 := h.cell hi (show 2 < 3 by omega)
 simp only [Nat.zero_add, Nat.add_zero] at c0 c1 c2
 exact ⟨c0.1, c1.1, c2.1, c0.2, c1.2, c2.2⟩
set_option maxHeartbeats 4000000 in
set_option maxRecDepth 1000000 in
theorem compact_arr (g cap : Nat) (d : Array Ed) (w : World) (hH : HoldsK encE 3 w g 0 d) (hsz : d.size ≤ 1000000) (hcap : d.size ≤ cap) :
  Calls Try.prog 52 #[.slice (some ⟨g, 0, none⟩) d.size cap] w fun e w' => e = .returned (.slice (some ⟨g, 0, none⟩) (compactUpTo d d.size).length cap) ∧ ∃ q, w' = putRowK encE 3 (Sort.ahead w q) g 0 (compactUpTo d d.size ++ List.replicate (d.size - (compactUpTo d d.size).length) z51).toArray := by
 have same : ∀ q, (∀ j, j < d.size → keeps d j = true) → (compactUpTo d d.size).length = d.size ∧ w.drewN q = putRowK encE 3 (Sort.ahead w q) g 0 (compactUpTo d d.size ++ List.replicate (d.size - (compactUpTo d d.size).length) z51).toArray := by
  intro q hall
  have e : compactUpTo d d.size = d.toList := by rw [compactUpTo_all d _ hall, range_map_get]
  rw [e]
  refine ⟨by simp, ?_⟩
  simp only [Array.length_toList, Nat.sub_self, List.replicate_zero, List.append_nil, Array.toArray_toList]
  exact (putRowK_self encE 3 (Sort.ahead w q) g 0 d (holdsK_ahead encE 3 w q g 0 d hH)).symm
 have HS := Aside0.mk same
 clear same
 by_cases h2 : d.size < 2
 ·have HH := Aside0.mk hH
  clear hH
  go_enter Try.func52, Try.ntmps52
  go_wp2
  go_ret
  obtain ⟨e1, e2⟩ := HS.out 0 (fun j hj => keeps_lt_one d j (by omega))
  exact ⟨by rw [e1]; rfl, 0, e2⟩
 ·have HH := Aside0.mk hH
  clear hH
  go_enter Try.func52, Try.ntmps52
  go_wp2
  go_loopg [3] d.size (fun gg s3 wr => ∃ k q : Nat, 1 ≤ k ∧ k ≤ d.size ∧ d.size - k ≤ gg ∧ s3 = .int .i64 k ∧ wr = w.drewN q ∧ Aside0 (∀ j, j < k → keeps d j = true))
  case atStart => exact ⟨1, 0, Nat.le_refl _, by omega, by omega, rfl, rfl, ⟨keeps_lt_one d⟩⟩
  case round =>
   obtain ⟨k, q, a7, hk, hg, rfl, rfl, hall⟩ := hrel
   by_cases hlt : k < d.size
   ·obtain ⟨c10, a1, a4, f10⟩ := cellE HH.out hlt
    obtain ⟨a2, a5, a3, f00⟩ := cellE HH.out (show k - 1 < d.size by omega)
    generalize hx : d[k]! = x at c10 a1 a4
    generalize hy : d[k - 1]! = y at a2 a5 a3
    have B := Aside0.mk (And.intro hx hy)
    clear hx hy f10 f00
    by_cases hdup : x = y
    ·have hE := fun W => eqE_yes (x := x) (y := y) hdup W
     go_wp2_with fail
     go_quiet (fail)
     go_wp2
     clear c10 a1 a4 a2 a5 a3 hE
     have HD := Aside0.mk (B.out.1.trans (hdup.trans B.out.2.symm))
     clear hdup B
     go_loopg [3, 5] d.size (fun gg s3 s5 wr => ∃ (kk k2 q2 : Nat) (dk : Array Ed), s3 = .int .i64 kk ∧ s5 = .int .i64 k2 ∧ 1 ≤ k2 ∧ k + k2 ≤ d.size ∧ d.size - (k + k2) ≤ gg ∧ Aside0 (wr = putRowK encE 3 (Sort.ahead w q2) g 0 dk) ∧ Aside0 (CompInv d (k + k2) kk dk))
     case atStart => exact ⟨k, 1, _, d, rfl, rfl, Nat.le_refl _, by omega, by omega, ⟨(putRowK_self encE 3 (Sort.ahead w _) g 0 d (holdsK_ahead encE 3 w _ g 0 d HH.out)).symm⟩, ⟨CompInv.start hall.out (keeps_neg (by omega) HD.out)⟩⟩
     case round =>
      obtain ⟨kk, k2, q2, dk, rfl, rfl, h1, hle, a6, W2, I2⟩ := hrel
      have hkk := I2.out.lt
      have hds := I2.out.size
      have HK := Aside0.mk (show HoldsK encE 3 wr g 0 dk by rw [W2.out]; exact holdsK_putRowK encE 3 _ g 0 d dk (holdsK_ahead encE 3 w q2 g 0 d HH.out) hds)
      by_cases hlt2 : k + k2 < d.size
      ·obtain ⟨m0, m1, m2, _⟩ := cellE HK.out (i := k + k2) (by omega)
       obtain ⟨p0, p1, p2, _⟩ := cellE HK.out (i := k + (k2 - 1)) (by omega)
       obtain ⟨o0, o1, o2, f0, f1, f2⟩ := cellE HK.out (i := kk) (by omega)
       rw [I2.out.high _ (by omega), Nat.add_mul] at m0 m1 m2
       rw [I2.out.high _ (by omega), Nat.add_mul] at p0 p1 p2
       generalize hu : d[k + k2]! = u at m0 m1 m2
       generalize hv : d[k + (k2 - 1)]! = v at p0 p1 p2
       generalize dk[kk]! = old at o0 o1 o2
       have C := Aside0.mk (And.intro hu hv)
       clear hu hv
       by_cases huv : u = v
       ·have hE := fun W => eqE_yes (x := u) (y := v) huv W
        clear o0 o1 o2 f0 f1 f2
        go_wp2_with fail
        go_quiet (fail)
        go_wp2
        go_roundg (d.size - (k + (k2 + 1)))
        case measure => omega
        case rel => exact ⟨kk, k2 + 1, _, dk, rfl, by go_num, by omega, by omega, Nat.le_refl _, ⟨by rw [W2.out]; exact putRowK_drewN encE 3 w q2 _ g 0 dk⟩, ⟨I2.out.skip (keeps_neg (by omega) (by rw [show k + k2 - 1 = k + (k2 - 1) by omega, C.out.1, C.out.2]; exact huv))⟩⟩
       ·have hE := fun W => eqE_no (x := u) (y := v) huv W
        go_wp2_with fail
        go_quiet (fail)
        go_wp2
        go_roundg (d.size - (k + (k2 + 1)))
        case measure => omega
        case rel =>
         have a0 := store_worldK encE 3 (fun _ => rfl) w (wr.drewN nq) (q2 + nq) g 0 dk kk u (by omega) (by rw [W2.out]; exact putRowK_drewN encE 3 w q2 nq g 0 dk)
         rw [Nat.zero_add] at a0
         refine ⟨kk + 1, k2 + 1, q2 + nq, dk.setIfInBounds kk u, by go_num, by go_num, by omega, by omega, Nat.le_refl _, ⟨a0⟩, ⟨?_⟩⟩
         have := I2.out.keep hlt2 (keeps_pos (by rw [show k + k2 - 1 = k + (k2 - 1) by omega, C.out.1, C.out.2]; exact huv))
         rwa [C.out.1] at this
      ·have hend : k + k2 = d.size := by omega
       have hzl : (Builtin.zeroCells #[Value.int .i64 0, .int .i64 0, .int .i64 0] (d.size - kk)).toList.length = (d.size - kk) * 3 := by simp [Builtin.zeroCells, Nat.mul_comm]
       have hcl : ∀ ty, (Builtin.clear_ #[23] ty #[.slice (some ⟨g, kk * 3, none⟩) (d.size - kk) (cap - kk)]).run Try.prog wr = .ok (.tuple #[]) (wr.setCells g (kk * 3) (Builtin.zeroCells #[Value.int .i64 0, .int .i64 0, .int .i64 0] (d.size - kk)).toList) := by
        intro ty
        refine run_clear_edges wr ty g (kk * 3) (d.size - kk) (cap - kk) (by omega) (fun j hj => ?_) (fun j hj => ?_)
        ·rw [hzl] at hj
         have := HK.out.cell (i := kk + j / 3) (c := j % 3) (by omega) (Nat.mod_lt _ (by omega))
         rw [show 0 + (kk + j / 3) * 3 + j % 3 = kk * 3 + j by omega] at this
         rw [this.1]; rfl
        ·rw [hzl] at hj
         have := HK.out.cell (i := kk + j / 3) (c := j % 3) (by omega) (Nat.mod_lt _ (by omega))
         rw [show 0 + (kk + j / 3) * 3 + j % 3 = kk * 3 + j by omega] at this
         exact this.2
       have HW := Aside0.mk (clear_worldK encE 3 (fun _ => rfl) w wr q2 g 0 dk kk (d.size - kk) z51 (Builtin.zeroCells #[Value.int .i64 0, .int .i64 0, .int .i64 0] (d.size - kk)).toList (by omega) hzl (by
        intro t ht
        rw [getElem!_pos _ t (by rw [hzl]; exact ht)]
        have h3 : t % 3 < 3 := Nat.mod_lt _ (by omega)
        rcases (show t % 3 = 0 ∨ t % 3 = 1 ∨ t % 3 = 2 by omega) with h | h | h <;> simp [Builtin.zeroCells, h, encE, z51]) W2.out)
       generalize (Builtin.zeroCells #[Value.int .i64 0, .int .i64 0, .int .i64 0] (d.size - kk)).toList = zc at hcl HW
       clear hzl
       go_wp2
       go_ret
       have hI := I2.out
       rw [hend] at hI
       refine ⟨by rw [hI.len]; rfl, q2, ?_⟩
       have hw := HW.out
       rw [Nat.zero_add] at hw
       rw [hw, hI.len, ← hI.done z51]
    ·have hE := fun W => eqE_no (x := x) (y := y) hdup W
     go_wp2_with fail
     go_quiet (fail)
     go_wp2
     go_roundg (d.size - (k + 1))
     case measure => omega
     case rel =>
      refine ⟨k + 1, _, by omega, by omega, Nat.le_refl _, by go_num, rfl, ⟨fun j hj => ?_⟩⟩
      by_cases e : j = k
      ·subst e
       exact keeps_pos (by rw [B.out.1, B.out.2]; exact hdup)
      ·exact hall.out j (by omega)
   ·have : k = d.size := by omega
    subst this
    go_wp2
    go_ret
    obtain ⟨e1, e2⟩ := HS.out q hall.out
    exact ⟨by rw [e1]; rfl, q, e2⟩
theorem dd_len : ∀ l : List Ed, (dd l).length ≤ l.length
 | [] => Nat.le_refl _
 | [a] => Nat.le_refl _
 | a :: b :: r => by
  have ih := dd_len (b :: r)
  unfold dd
  split
  ·simp at ih ⊢; omega
  ·simp at ih ⊢; omega
theorem grown_sortedK (W : World) (g m : Nat) (d : Array Ed) (os : Array Obj) : W.grownBy (sortWorldK encE 3 W g 0 m d os) (some g) := by
 refine ⟨rfl, rfl, rfl, ?_, fun k hk hne => ?_⟩
 ·show W.heap.size ≤ ((W.heap.modify g (onCells (putCells id 0 (flatK encE 3 d)))) ++ os).size
  rw [Array.size_append, Array.size_modify]
  omega
 ·show ((W.heap.modify g (onCells (putCells id 0 (flatK encE 3 d)))) ++ os)[k]? = _
  rw [Array.getElem?_append_left (by rw [Array.size_modify]; omega), Array.getElem?_modify, if_neg (fun e => hne (by rw [e]))]
theorem sortC_any (base : Nat) (v : Value) (es : List Ed) (w : World) (h : Kd.R k51 51 w base (fun _ => True) v es) (hel : es.length ≤ 1000000) :
  Calls Try.prog 50 #[v, .func (.func 51) #[] #[]] w fun e w' => e = .returned (.tuple #[]) ∧ Kd.R k51 51 w' base (fun _ => True) v (sortedE es) ∧ w.grownBy w' v.ownBlock := by
 obtain ⟨A, c, rfl⟩ := Kd.R_slice h
 rcases A with _ | ad
 ·have h0 : es = [] := by
   obtain ⟨A', c', hv, _, hC⟩ := Kd.R_reads h
   injection hv with hA _ _
   subst hA
   rcases es with _ | ⟨x, r⟩
   ·rfl
   ·obtain ⟨ad, h, _⟩ := hC.2.2 (by simp)
    cases h
  subst h0
  refine (Calls.mono (R := fun e w' => e = .returned (.tuple #[]) ∧ w' = w) ?_ ?_)
  ·have := AnyF.slices_SortFunc_none Try.sortE none c (.func (.func 51) #[] #[]) w
   exact this
  ·rintro e w' ⟨rfl, rfl⟩
   exact ⟨rfl, by simpa [sortedE] using h, grown_of_below (Below.refl _ _) _⟩
 ·obtain ⟨g, rfl⟩ := Kd.R_head h
  refine (sortF_any g c es w (holdsK_of_R h) (Kd.R_lt h g rfl) hel).mono ?_
  rintro e w' ⟨rfl, n, os, rfl⟩
  have := R_sorted (es' := sortedE es) h (List.length_mergeSort es) n os
  rw [show (sortedE es).length = es.length from List.length_mergeSort es] at this
  exact ⟨rfl, this, grown_sortedK w g n _ os⟩
theorem sortedE_length (es : List Ed) : (sortedE es).length = es.length := List.length_mergeSort es
theorem compactE_any (g cap base : Nat) (es : List Ed) (w : World) (h : Kd.R k51 51 w base (fun _ => True) (.slice (some ⟨g, 0, none⟩) es.length cap) es) (hel : es.length ≤ 1000000) :
  Calls Try.prog 52 #[.slice (some ⟨g, 0, none⟩) es.length cap] w fun e w' => e = .returned (.slice (some ⟨g, 0, none⟩) (dd es).length cap) ∧ Kd.R k51 51 w' base (fun _ => True) (.slice (some ⟨g, 0, none⟩) (dd es).length cap) (dd es) ∧ w.grownBy w' (some g) := by
 have hc : es.length ≤ cap := (Kd.R_reads' h).2.1
 have hcd : compactUpTo es.toArray es.toArray.size = dd es := by rw [List.size_toArray]; exact compact_dd es
 have hw := compact_arr g cap es.toArray w (holdsK_of_R h) (by simpa using hel) (by simpa using hc)
 rw [hcd] at hw
 simp only [List.size_toArray] at hw
 refine hw.mono ?_
 rintro e w' ⟨rfl, q, rfl⟩
 have hl := dd_len es
 have hL : (dd es ++ List.replicate (es.length - (dd es).length) z51).length = es.length := by simp; omega
 have hs : putRowK encE 3 (Sort.ahead w q) g 0 (dd es ++ List.replicate (es.length - (dd es).length) z51).toArray = sortWorldK encE 3 w g 0 q (dd es ++ List.replicate (es.length - (dd es).length) z51).toArray #[] := by unfold sortWorldK; simp [grow]
 rw [hs]
 have hR := R_sorted h hL q #[]
 have hT := Kd.R_take (m := (dd es).length) hR (by simp)
 rw [List.take_left] at hT
 exact ⟨rfl, hT, grown_sortedK w g q _ #[]⟩
set_option maxHeartbeats 1000000 in
theorem compactE_none (A : Option Addr) (c : Nat) (w : World) : Calls Try.prog 52 #[.slice A 0 c] w fun e w' => e = .returned (.slice A 0 c) ∧ w' = w := by
 go_enter Try.func52, Try.ntmps52
 go_wp2
 go_ret
 exact ⟨rfl, rfl⟩
theorem compactC_any (base : Nat) (v : Value) (es : List Ed) (w : World) (h : Kd.R k51 51 w base (fun _ => True) v es) (hel : es.length ≤ 1000000) :
  Calls Try.prog 52 #[v] w fun e w' => ∃ v', e = .returned v' ∧ Kd.R k51 51 w' base (fun _ => True) v' (dd es) ∧ w.grownBy w' v.ownBlock := by
 obtain ⟨A, c, rfl⟩ := Kd.R_slice h
 rcases A with _ | ad
 ·have h0 : es = [] := by
   obtain ⟨A', c', hv, _, hC⟩ := Kd.R_reads h
   injection hv with hA _ _
   subst hA
   rcases es with _ | ⟨x, r⟩
   ·rfl
   ·obtain ⟨ad, h, _⟩ := hC.2.2 (by simp)
    cases h
  subst h0
  refine (compactE_none none c w).mono ?_
  rintro e w' ⟨rfl, rfl⟩
  exact ⟨_, rfl, h, grown_of_below (Below.refl _ _) _⟩
 ·obtain ⟨g, rfl⟩ := Kd.R_head h
  refine (compactE_any g c base es w h hel).mono ?_
  rintro e w' ⟨rfl, hR, hG⟩
  exact ⟨_, rfl, hR, hG⟩
end Go.Proofs.Ythaaockbapbooaa.H
set_option linter.unusedVariables false
set_option linter.unusedSimpArgs false
namespace Go.Proofs.Ythaaockbapbooaa.H
open Go.RowKit Go.Proofs.Ythaaockbapbooaa.Pr Go.Proofs.YthaaockbapbooaaW.PrintWords Go.Proofs.Ythaaockbapbooaa.Sem Go.Proofs.YthaaockbapbooaaW.PrintLast
set_option maxHeartbeats 4000000 in
set_option maxRecDepth 100000 in
theorem cloneS_any (xs : List ByteArray) (A : Option Addr) (c : Nat) (w : World) (hC : Kd.C Kd.string w A xs.length xs) (hel : xs.length ≤ 1000000) :
  Calls Try.prog 53 #[.slice A xs.length c] w fun e w' => ∃ v0 : Value, e = .returned v0 ∧ Kd.R Kd.string 9 w' w.heap.size (fun _ => True) v0 xs ∧ Below w.heap.size w w' := by
 have HC := Aside0.mk hC
 have HB := Aside0.mk (Below.refl w.heap.size w)
 rcases A with _ | ad
 ·have h0 : xs.length = 0 := by
   rcases Nat.eq_zero_or_pos xs.length with h | h
   ·exact h
   ·obtain ⟨ad, h, _⟩ := hC.2.2 h
    cases h
  obtain rfl : xs = [] := List.eq_nil_of_length_eq_zero h0
  clear hC HC h0
  have q_ : ∀ (W : World) (a : Option Addr) (n c n' c' : Nat), (binOp .eql 22 (.slice a n c) (.slice none n' c')).run Try.prog W = .ok (.bool a.isNone) W := fun W a n c n' c' => Lib.run_eql_slice_nil W _ _ a n c n' c' Try.underlying22
  go_enter Try.func53, Try.ntmps53
  go_wp2
  go_ret
  exact ⟨_, rfl, Kd.R_nil _ _ _ _ _, HB.out⟩
 ·clear hC
  have q_ : ∀ (W : World) (a : Option Addr) (n c n' c' : Nat), (binOp .eql 22 (.slice a n c) (.slice none n' c')).run Try.prog W = .ok (.bool a.isNone) W := fun W a n c n' c' => Lib.run_eql_slice_nil W _ _ a n c n' c' Try.underlying22
  go_enter Try.func53, Try.ntmps53
  go_wp2_with (first
   | ((with_reducible refine gate_dst (N := 5) rfl ?_); refine Kd.R_lit Kd.string _ 9 ?hg (N := 5) ?hd (xs := ([] : List ByteArray)) (inner := []) (ok := fun _ => True) (okp := fun _ => True) ?hr ?hp (fun _ hk => hk) trivial (Below.refl _ _) (Nat.le_refl _) (by simp) ?_; (case hd => rfl); (case hg => rfl); (case hr => first | (go_simp; done) | (go_simp; rfl)); (case hp => exact (Reps.none _ _)); intro v1 w1 ho hb hg_ hnew_; clear hg_ hnew_; have HO := Aside0.mk ho; have HB1 := Aside0.mk (below_step HB.out hb); clear ho hb)
   | (at_builtin; refine Kd.R_append_rows Kd.string (w0 := w) w.heap.size rfl (.tmp 5) (.tmp 6) 22 9 (.string ⟨#[]⟩) 16 rfl Try.underlying22 info9 rfl (by decide) (by omega) v1 [] xs (some ad) _ c (fun _ => True) (fun _ => False) rfl rfl HO.out (Kd.C_below HC.out HB1.out) (fun _ _ h => h) (fun _ h => h.elim) (fun _ _ => trivial) HB1.out HB1.out.size (by simp; omega) ?_; intro v2 w2 ho hb hg hat; have HO2 := Aside0.mk ho; have HB2 := Aside0.mk hb; clear ho hb hg hat))
  go_ret
  exact ⟨_, rfl, by simpa using HO2.out, HB2.out⟩
theorem sortedE_sortE (es : List Ed) : dd (sortedE es) = sortE es := by
 refine dd_sortE ?_ fun x => (List.mergeSort_perm _ _).mem_iff
 have := List.pairwise_mergeSort (le := fun x y => !(ltOf cmpE) y x) (fun a b c h1 h2 => by
  simp only [ltE, Bool.not_eq_true', decide_eq_false_iff_not] at *
  unfold elt at *; omega) (fun a b => by
  simp only [ltE, Bool.or_eq_true, Bool.not_eq_true', decide_eq_false_iff_not]
  unfold elt; omega) es
 refine this.imp fun {a b} h => ?_
 simpa only [ltE, Bool.not_eq_true', decide_eq_false_iff_not] using h
theorem sortE_length (es : List Ed) : (sortE es).length ≤ es.length := by
 rw [← sortedE_sortE]
 exact Nat.le_trans (dd_len _) (Nat.le_of_eq (sortedE_length es))
theorem BoxL.set2 {w : World} {b : Nat} {n : Int} {v1 v2 : Value} (h : BoxL w b n v1 v2) (u : Value) : BoxL (w.setCell ⟨b, 2, none⟩ u) b n v1 u := blk_put h 2 u rfl
set_option maxRecDepth 100000 in
theorem sort_any (n : Int) (ls : List ByteArray) (es : List Ed) (A1 A2 : Option Addr) (c1 c2 : Nat) (w : World) (hr1 : Kd.C Kd.string w A1 ls.length ls) (hc1 : ls.length ≤ c1) (hr2 : Kd.C k51 w A2 es.length es) (hc2 : es.length ≤ c2) (hl : ls.length ≤ 1000000) (he : es.length ≤ 1000000) {r1 : Int} {r2 : List ByteArray} {r3 : List Ed} {r4 : Int} (h : (if mayR n ls (sortE es) then (n, ls, sortE es, (0 : Int)) else (0, [], [], 1)) = (r1, r2, r3, r4)) :
  Calls Try.prog 25 #[.agg #[.int .i64 n, .slice A1 ls.length c1, .slice A2 es.length c2]] w fun e w' => ∃ v1_ v2_ : Value, e = .returned (.tuple #[.agg #[.int .i64 r1, v1_, v2_], .int .i64 r4]) ∧ Kd.R Kd.string 9 w' w.heap.size (fun _ => True) v1_ r2 ∧ Kd.R k51 51 w' w.heap.size (fun _ => True) v2_ r3 ∧ Below w.heap.size w w' := by
 have HB := Aside0.mk (Below.refl w.heap.size w)
 have d4 := Aside0.mk hr1
 have e3 := Aside0.mk hr2
 have HH := Aside0.mk h
 clear hr1 hr2 h
 go_enter Try.func25, Try.ntmps25
 go_wp2_with fail
 refine (clone_any es A2 c2 _ (Kd.C_below e3.out (below_alloc (below_alloc HB.out _) _)) he).mono ?_
 rintro e w1 ⟨v1, rfl, hR, hB⟩
 have d0 := Kd.R_lower (base' := w.heap.size) hR (below_alloc (below_alloc HB.out _) _).size
 have a8 := Aside0.mk (show BoxL w1 w.heap.size n (.slice A1 ls.length c1) (.slice A2 es.length c2) from blk_below (blk_alloc (blk_new w _) _) hB)
 have d5 := Aside0.mk (show w1.heap[w.heap.size + 1]? = some (.cells #[.int .i64 0, .slice none 0 0, .slice none 0 0] 25 (0, 0)) from blk_below (by have := blk_new (w.alloc (.cells #[.int .i64 n, .slice A1 ls.length c1, .slice A2 es.length c2] 25)) (.cells #[.int .i64 0, .slice none 0 0, .slice none 0 0] 25); simpa using this) hB)
 have d6 := Aside0.mk (below_then (below_alloc (below_alloc HB.out _) _) (below_alloc (below_alloc HB.out _) _).size hB)
 have d7 := Aside0.mk d0
 have b2 := a8.out.c2
 have f2 := blk_frozen a8.out 2
 obtain ⟨A4, c4, e8⟩ := Kd.R_slice d0
 subst e8
 clear hR hB d0
 go_wp2_with fail
 have b3 := Aside0.mk (a8.out.set2 (.slice A4 es.length c4))
 have b6 := Aside0.mk (blk_far d5.out (p := ⟨w.heap.size, 2, none⟩) (by simp) (.slice A4 es.length c4))
 have a6 := Aside0.mk (Kd.R_set d7.out a8.out (by decide) 2 (.slice A4 es.length c4))
 have b5 := Aside0.mk (below_set d6.out (Nat.le_refl _) (j := 2) (v := .slice A4 es.length c4))
 clear b2 f2 a8 d5 d7 d6
 generalize w1.setCell ⟨w.heap.size, 2, none⟩ (.slice A4 es.length c4) = w2 at b3 b6 a6 b5 ⊢
 refine (sortC_any w.heap.size _ es w2 a6.out he).mono ?_
 rintro e w3 ⟨rfl, hR, hG⟩
 have b4 := Aside0.mk (show BoxL w3 w.heap.size n (.slice A1 ls.length c1) (.slice A4 es.length c4) from blk_grown b3.out hG (Kd.R_ne a6.out b3.out (by decide)))
 have d3 := Aside0.mk (blk_grown b6.out hG (Kd.R_ne a6.out b6.out (by decide)))
 have d1 := Aside0.mk (pw_below_grown b5.out _ b5.out.size hG (fun k hk => Kd.R_base a6.out k hk))
 have a7 := Aside0.mk hR
 have b2 := b4.out.c2
 clear b3 b6 a6 b5 hR hG
 go_wp2_with fail
 refine (compactC_any w.heap.size _ (sortedE es) w3 a7.out (by rw [sortedE_length]; exact he)).mono ?_
 rintro e w4 ⟨v5, rfl, hR, hG⟩
 rw [sortedE_sortE] at hR
 have a3 := Aside0.mk (show BoxL w4 w.heap.size n (.slice A1 ls.length c1) (.slice A4 es.length c4) from blk_grown b4.out hG (Kd.R_ne a7.out b4.out (by decide)))
 have e0 := Aside0.mk (blk_grown d3.out hG (Kd.R_ne a7.out d3.out (by decide)))
 have e1 := Aside0.mk (pw_below_grown d1.out _ d1.out.size hG (fun k hk => Kd.R_base a7.out k hk))
 obtain ⟨A6, c6, e4⟩ := Kd.R_slice hR
 subst e4
 have d9 := Aside0.mk hR
 have b0 := a3.out.c0
 have b1 := a3.out.c1
 have b2' := a3.out.c2
 have f2 := blk_frozen a3.out 2
 clear b2 b4 d3 a7 d1 hR hG
 go_wp2_with fail
 have d2 := Aside0.mk (a3.out.set2 (.slice A6 (sortE es).length c6))
 have a9 := Aside0.mk (blk_far e0.out (p := ⟨w.heap.size, 2, none⟩) (by simp) (.slice A6 (sortE es).length c6))
 have b7 := Aside0.mk (Kd.R_set d9.out a3.out (by decide) 2 (.slice A6 (sortE es).length c6))
 have a2 := Aside0.mk (below_set e1.out (Nat.le_refl _) (j := 2) (v := .slice A6 (sortE es).length c6))
 clear b0 b1 b2' f2 a3 e0 d9 e1
 generalize w4.setCell ⟨w.heap.size, 2, none⟩ (.slice A6 (sortE es).length c6) = w5 at d2 a9 b7 a2 ⊢
 obtain ⟨_, _, hv, hcl, hC⟩ := Kd.R_reads b7.out
 injection hv with hA _ hc
 subst hA hc
 have d8 := Aside0.mk hC
 have f3 := Aside0.mk hcl
 clear hC hcl
 cases hm : mayR n ls (sortE es) with
 | false =>
  have HF := HH.out
  rw [hm, if_neg (by simp)] at HF
  simp only [Prod.mk.injEq] at HF
  obtain ⟨rfl, rfl, rfl, rfl⟩ := HF
  refine (check_no n ls (sortE es) A1 A6 c1 c6 w5 (Kd.C_below d4.out a2.out) d8.out (by rw [may_same]; exact hm)).mono ?_
  rintro e w6 ⟨rfl, hB⟩
  have a0 := Aside0.mk (blk_below a9.out hB)
  have a4 := Aside0.mk (below_then a2.out a2.out.size hB)
  have y0 := (blk_cell a0.out 0).trans rfl
  have y1 := (blk_cell a0.out 1).trans rfl
  have y2 := (blk_cell a0.out 2).trans rfl
  have g0 := blk_frozen a0.out 0
  have g1 := blk_frozen a0.out 1
  have g2 := blk_frozen a0.out 2
  clear hB hm
  go_wp2
  refine bodyPost_ret (results_ct rfl _ _ (w.heap.size + 1) 25 #[.int .i64 0, .slice none 0 0, .slice none 0 0] (0, 0) _ rfl (blk_put (blk_put (blk_put a0.out 0 (.int .i64 0) rfl) 1 (.slice none 0 0) rfl) 2 (.slice none 0 0) rfl) Try.underlying25 rfl (by kernel_rfl)) rfl ?_
  exact ⟨_, _, rfl, Kd.R_nil _ _ _ _ _, Kd.R_nil _ _ _ _ _, below_set (below_set (below_set a4.out (by omega)) (by omega)) (by omega)⟩
 | true =>
  have HF := HH.out
  rw [hm, if_pos rfl] at HF
  simp only [Prod.mk.injEq] at HF
  obtain ⟨rfl, rfl, rfl, rfl⟩ := HF
  refine (check_yes n ls (sortE es) A1 A6 c1 c6 w5 (Kd.C_below d4.out a2.out) d8.out (by rw [may_same]; exact hm)).mono ?_
  rintro e w6 ⟨rfl, hB⟩
  have e2 := Aside0.mk (d2.out.below hB)
  have a0 := Aside0.mk (blk_below a9.out hB)
  have e9 := Aside0.mk (Kd.R_below b7.out hB)
  have a4 := Aside0.mk (below_then a2.out a2.out.size hB)
  have b1 := e2.out.c1
  clear hB hm d2 a9 b7 a2
  go_wp2_with fail
  refine (cloneS_any ls A1 c1 w6 (Kd.C_below d4.out a4.out) hl).mono ?_
  rintro e w7 ⟨v8, rfl, hR, hB⟩
  obtain ⟨A8, c8, e6⟩ := Kd.R_slice hR
  subst e6
  have a5 := Aside0.mk (e2.out.below hB)
  have a1 := Aside0.mk (blk_below a0.out hB)
  have e7 := Aside0.mk (Kd.R_below e9.out hB)
  have e5 := Aside0.mk (Kd.R_lower hR a4.out.size)
  have f0 := Aside0.mk (below_then a4.out a4.out.size hB)
  have b0 := a5.out.c0
  have b1' := a5.out.c1
  have b2 := a5.out.c2
  have f1 := blk_frozen a5.out 1
  have y0 := (blk_cell a1.out 0).trans rfl
  have y1 := (blk_cell a1.out 1).trans rfl
  have y2 := (blk_cell a1.out 2).trans rfl
  have g0 := blk_frozen a1.out 0
  have g1 := blk_frozen a1.out 1
  have g2 := blk_frozen a1.out 2
  clear b1 hB hR
  go_wp2
  refine bodyPost_ret (results_ct rfl _ _ (w.heap.size + 1) 25 #[.int .i64 n, .slice A8 ls.length c8, .slice A6 (sortE es).length c6] (0, 0) _ rfl (blk_put (blk_put (blk_put (blk_far a1.out (p := ⟨w.heap.size, 1, none⟩) (by simp) _) 0 (.int .i64 n) rfl) 1 (.slice A8 ls.length c8) rfl) 2 (.slice A6 (sortE es).length c6) rfl) Try.underlying25 rfl (by kernel_rfl)) rfl ?_
  have b8 := blk_far a1.out (p := ⟨w.heap.size, 1, none⟩) (by simp) (.slice A8 ls.length c8)
  have b9 := blk_put b8 0 (.int .i64 n) rfl
  have hYa := blk_put b9 1 (.slice A8 ls.length c8) rfl
  exact ⟨_, _, rfl, Kd.R_set (Kd.R_set (Kd.R_set (Kd.R_set e5.out a5.out (by decide) 1 _) b8 (by decide) 0 _) b9 (by decide) 1 _) hYa (by decide) 2 _,
   Kd.R_set (Kd.R_set (Kd.R_set (Kd.R_set e7.out a5.out (by decide) 1 _) b8 (by decide) 0 _) b9 (by decide) 1 _) hYa (by decide) 2 _,
   below_set (below_set (below_set (below_set f0.out (Nat.le_refl _)) (by omega)) (by omega)) (by omega)⟩
end Go.Proofs.Ythaaockbapbooaa.H
set_option linter.unusedVariables false
set_option linter.unusedSimpArgs false
namespace Go.Proofs.Ythaaockbapbooaa.H
open Go.RowKit Go.Proofs.Ythaaockbapbooaa.Pr Go.Proofs.YthaaockbapbooaaW.PrintWords Go.Proofs.Ythaaockbapbooaa.Sem Go.Proofs.YthaaockbapbooaaW.PrintLast
theorem sortE_sorted (es : List Ed) : (sortE es).Pairwise elt := (fold_ins es [] List.Pairwise.nil).1
theorem sortE_snoc (es : List Ed) (x : Ed) : sortE (es ++ [x]) = insE x (sortE es) := by simp [sortE, List.foldl_append]
theorem take_snocE {xs : List Ed} {k : Nat} (hk : k < xs.length) : xs.take (k + 1) = xs.take k ++ [xs.getD k z51] := by
 rw [List.take_add_one, List.getElem?_eq_getElem hk, getD_get hk]
 rfl
theorem pw_get {o : List Ed} (h : o.Pairwise elt) {i j : Nat} (hij : i < j) (hj : j < o.length) : elt (o.getD i z51) (o.getD j z51) := by
 rw [getD_get (by omega), getD_get hj]
 exact List.pairwise_iff_getElem.1 h i j (by omega) hj hij
theorem ins_here {e : Ed} {o : List Ed} (ho : o.Pairwise elt) (he : e ∈ o) : insE e o = o :=
 strict_unique _ _ (insE_sorted e o ho) ho fun x => by
  rw [insE_mem]
  constructor
  ·rintro (rfl | h)
   ·exact he
   ·exact h
  ·exact .inr
theorem ins_back {e : Ed} {o : List Ed} (ho : o.Pairwise elt) {t : Nat} (ht : t ≤ o.length) (h1 : ∀ j, t ≤ j → j < o.length → elt e (o.getD j z51)) (h2 : 0 < t → elt (o.getD (t - 1) z51) e) :
  insE e o = o.take t ++ e :: o.drop t := by
 refine strict_unique _ _ (insE_sorted e o ho) ?_ fun x => ?_
 ·have hlow : ∀ a ∈ o.take t, elt a e := by
   intro a ha
   obtain ⟨i, hi, rfl⟩ := List.getElem_of_mem ha
   rw [List.length_take] at hi
   rw [List.getElem_take]
   have h3 := h2 (by omega)
   rcases Nat.lt_or_ge i (t - 1) with q | q
   ·have := pw_get ho q (by omega)
    rw [getD_get (by omega)] at this
    exact elt_trans this h3
   ·obtain rfl : i = t - 1 := by omega
    rwa [getD_get (by omega)] at h3
  have hhigh : ∀ a ∈ o.drop t, elt e a := by
   intro a ha
   obtain ⟨i, hi, rfl⟩ := List.getElem_of_mem ha
   rw [List.length_drop] at hi
   rw [List.getElem_drop]
   have := h1 (t + i) (by omega) (by omega)
   rwa [getD_get (by omega)] at this
  refine List.pairwise_append.2 ⟨ho.sublist (List.take_sublist _ _), List.pairwise_cons.2 ⟨hhigh, ho.sublist (List.drop_sublist _ _)⟩, fun a ha b hb => ?_⟩
  rcases List.mem_cons.1 hb with rfl | hb
  ·exact hlow a ha
  ·exact elt_trans (hlow a ha) (hhigh b hb)
 ·rw [insE_mem, List.mem_append, List.mem_cons]
  constructor
  ·rintro (h | h)
   ·exact .inr (.inl h)
   ·rw [← List.take_append_drop t o, List.mem_append] at h
    rcases h with h | h
    ·exact .inl h
    ·exact .inr (.inr h)
  ·rintro (h | h | h)
   ·exact .inr (List.mem_of_mem_take h)
   ·exact .inl h
   ·exact .inr (List.mem_of_mem_drop h)
set_option maxHeartbeats 8000000 in
set_option maxRecDepth 100000 in
theorem rsort_any (n : Int) (A1 : Option Addr) (m1 c1 : Nat) (es : List Ed) (A2 : Option Addr) (c2 : Nat) (w : World) (hr2 : Kd.C k51 w A2 es.length es) (he : es.length ≤ 1000000) :
  Calls Try.prog 26 #[.agg #[.int .i64 n, .slice A1 m1 c1, .slice A2 es.length c2]] w fun e w' => ∃ v2 : Value, e = .returned (.agg #[.int .i64 n, .slice A1 m1 c1, v2]) ∧ Kd.R k51 51 w' w.heap.size (fun _ => True) v2 (sortE es) ∧ Below w.heap.size w w' := by
 have HB := Aside0.mk (Below.refl w.heap.size w)
 have i4 := Aside0.mk hr2
 clear hr2
 go_enter Try.func26, Try.ntmps26
 have HZ : Aside0 (∀ W : World, Go.RowKit.Below w.heap.size w W → True) := ⟨fun _ _ => trivial⟩
 go_wp2_with ((with_reducible refine gate_dst (N := 8) rfl ?_); refine Kd.R_lit k51 _ 51 ?hg (N := 8) ?hd (xs := ([] : List Ed)) (inner := []) (ok := fun _ => True) (okp := fun _ => True) ?hr ?hp (fun _ hk => hk) trivial (Below.refl _ _) (Nat.le_refl _) (by simp) ?_; (case hd => rfl); (case hg => rfl); (case hr => first | (go_simp; done) | (go_simp; rfl)); (case hp => exact (Reps.none _ _)); intro v8 w1 ho hb hg_ hnew_; clear hg_ hnew_; have HO := Aside0.mk (Kd.R_lower (base' := w.heap.size) ho (below_alloc (below_alloc HB.out _) _).size); have HX := Aside0.mk (show BoxL w1 w.heap.size n (.slice A1 m1 c1) (.slice A2 es.length c2) from blk_below (blk_alloc (blk_new w _) _) hb); have HY := Aside0.mk (show w1.heap[w.heap.size + 1]? = some (.cells #[.int .i64 0, .slice none 0 0, .slice none 0 0] 25 (0, 0)) from blk_below (by have := blk_new (w.alloc (.cells #[.int .i64 n, .slice A1 m1 c1, .slice A2 es.length c2] 25)) (.cells #[.int .i64 0, .slice none 0 0, .slice none 0 0] 25); simpa using this) hb); have a7 := Aside0.mk (below_step (below_alloc (below_alloc HB.out _) _) hb); clear ho hb)
 clear HZ
 go_loopw [3, 4] (fun v i wr => ∃ k : Nat, k ≤ es.length ∧ i = .int .i64 k ∧ Aside0 (Kd.R k51 51 wr w.heap.size (fun _ => True) v (sortE (es.take k))) ∧ Aside0 (BoxL wr w.heap.size n (.slice A1 m1 c1) (.slice A2 es.length c2)) ∧ Aside0 (wr.heap[w.heap.size + 1]? = some (.cells #[.int .i64 0, .slice none 0 0, .slice none 0 0] 25 (0, 0))) ∧ Aside0 (Below w.heap.size w wr)) (fun _ i _ => es.length - (intOf i).toNat)
 case atStart => exact ⟨0, Nat.zero_le _, rfl, HO, HX, HY, a7⟩
 case round =>
  clear HO HX HY a7
  obtain ⟨k, hk, rfl, HO, HX, HY, a7⟩ := hrel
  obtain ⟨Ao, co, hv⟩ := Kd.R_slice HO.out
  subst hv
  have b2 := HX.out.c2
  by_cases hlt : k < es.length
  ·obtain ⟨ad, hA, g0, g1, g2⟩ := atE i4.out k hlt
   subst hA
   replace g0 := later a7.out g0
   replace g1 := later a7.out g1
   replace g2 := later a7.out g2
   obtain ⟨x, hx⟩ : ∃ x, x = es.getD k z51 := ⟨_, rfl⟩
   rw [← hx] at g0 g1 g2
   have HN := Aside0.mk (show sortE (es.take (k + 1)) = insE x (sortE (es.take k)) by rw [take_snocE hlt, sortE_snoc, ← hx])
   obtain ⟨o, ho⟩ : ∃ o, o = sortE (es.take k) := ⟨_, rfl⟩
   have hol : o.length ≤ k := by rw [ho]; exact Nat.le_trans (sortE_length _) (by rw [List.length_take]; omega)
   have HS := Aside0.mk (show o.Pairwise elt by rw [ho]; exact sortE_sorted _)
   rw [← ho] at HO HN ⊢
   clear hx ho
   obtain ⟨_, cc, hv, hcl, hC⟩ := Kd.R_reads HO.out
   injection hv with hA _ hc
   subst hA hc
   have e3 := Aside0.mk hC
   have HLc := Aside0.mk hcl
   clear hC hcl
   obtain ⟨i0, i2, _, hsz, _⟩ := info_parts info51
   have d9 := Aside0.mk (And.intro i2 hsz)
   clear i2 hsz
   go_wp2_with fail
   obtain ⟨wo, hwo⟩ : ∃ wo, wo = wr := ⟨_, rfl⟩
   subst hwo
   have g5 := Aside0.mk (blk_new wo (Obj.cells #[.int .i64 x.f0, .int .i64 x.f1, .int .i64 x.f2] 51))
   have h7 := Aside0.mk (below_alloc (Below.refl wo.heap.size wo) (Obj.cells #[.int .i64 x.f0, .int .i64 x.f1, .int .i64 x.f2] 51))
   obtain ⟨E, hE⟩ : ∃ E, E = wo.heap.size := ⟨_, rfl⟩
   have HEE := Aside0.mk hE
   rw [← hE] at g5 ⊢
   clear hE g0 g1 g2
   generalize (wo.alloc (Obj.cells #[Value.int IntKind.i64 x.f0, Value.int IntKind.i64 x.f1, Value.int IntKind.i64 x.f2] 51)) = W0 at g5 h7 ⊢
   go_loopw [6] (fun a W => ∃ t : Nat, t ≤ o.length ∧ a = .int .i64 t ∧ Aside0 (∀ j, t ≤ j → j < o.length → elt x (o.getD j z51)) ∧ Aside0 (W.heap[E]? = (some (.cells #[.int .i64 x.f0, .int .i64 x.f1, .int .i64 x.f2] 51 (0, 0)))) ∧ Aside0 (Below wo.heap.size wo W)) (fun a _ => (intOf a).toNat)
   case atStart => exact ⟨o.length, Nat.le_refl _, rfl, ⟨fun j h1 h2 => by omega⟩, g5, h7⟩
   case round =>
    clear g5 h7
    obtain ⟨t, ht, rfl, hz, HE, HW⟩ := hrel
    rcases Nat.eq_zero_or_pos t with h0 | hp
    ·have HIns := Aside0.mk (ins_back (e := x) HS.out ht hz.out (fun h => by omega))
     have d7 : decide ((0 : Int) < (t : Int)) = false := decide_eq_false (by omega)
     have d8 : decide (0 < t) = false := decide_eq_false (by omega)
     clear h0
     go_wp2_with fail
     go_quiet (fail)
     have HWa := Aside0.mk (pw_below_drewN HW.out nq)
     have HEa := Aside0.mk (show (wr.drewN nq).heap[E]? = _ from HE.out)
     generalize wr.drewN nq = Wa at HWa HEa ⊢
     clear nq
     go_wp2_with fail
     go_quiet (fail)
     have HWb := Aside0.mk (pw_below_drewN HWa.out nq)
     have HEb := Aside0.mk (show (Wa.drewN nq).heap[E]? = _ from HEa.out)
     generalize Wa.drewN nq = Wb at HWb HEb ⊢
     clear b2 HWa HEa HW HE nq d7 d8
     have hcf := cut_from (P := Try.prog) 23 51 .i64 Try.underlying23 d9.out.1 3 d9.out.2 Ao o.length co (t : Int) (by omega) (by omega)
     have hct := cut_to (P := Try.prog) 23 51 .i64 Try.underlying23 d9.out.1 Ao o.length co (t : Int) (by omega) (by omega) HLc.out
     rw [Int.toNat_natCast] at hcf hct
     obtain ⟨A7, d3⟩ : ∃ A7, A7 = (if co = t then Ao else Ao.map (·.add (t * 3))) := ⟨_, rfl⟩
     rw [← d3] at hcf
     have h6 := Aside0.mk (show Kd.C k51 wo A7 (o.length - t) (o.drop t) by rw [d3]; have := Kd.C_drop e3.out ht HLc.out; rwa [List.length_drop] at this)
     have HCt := Aside0.mk (Kd.C_take e3.out ht)
     have hdl : (o.drop t).length = o.length - t := List.length_drop ..
     have htl : (o.take t).length = t := by rw [List.length_take]; omega
     rw [htl] at HCt
     have HDL := Aside0.mk hdl
     have HTL := Aside0.mk htl
     clear d3 hdl htl
     go_wp2_with (first
      | ((with_reducible refine gate_dst (N := 47) rfl ?_); refine Kd.R_lit k51 _ 51 ?hg (N := 47) ?hd (xs := ([] : List Ed)) (inner := []) (ok := fun _ => True) (okp := fun _ => True) ?hr ?hp (fun _ hk => hk) trivial (Below.refl _ _) (Nat.le_refl _) (by simp) ?_; (case hd => rfl); (case hg => rfl); (case hr => first | (go_simp; done) | (go_simp; rfl)); (case hp => exact (Reps.none _ _)); intro h4 w3 ho hb hg_ hn_; have a1 := Aside0.mk hb; have e9 := Aside0.mk ho; clear ho hb hg_ hn_)
      | (at_builtin; refine Kd.R_append_rows k51 (w0 := Wb) Wb.heap.size rfl (.tmp 47) (.tmp 50) 23 51 (.agg #[(.int .i64 0), (.int .i64 0), (.int .i64 0)]) 24 rfl Try.underlying23 info51 rfl (by decide) (by omega) h4 [] (o.drop t) A7 _ _ (fun _ => True) (fun _ => False) rfl rfl e9.out (Kd.C_below h6.out (below_then HWb.out HWb.out.size a1.out)) (fun _ _ h => h) (fun _ h => h.elim) (fun _ _ => trivial) a1.out a1.out.size (by have := HTL.out; have := HDL.out; simp only [List.length_nil, List.length_append, List.length_cons]; omega) ?_; intro g8 w4 ho hb hg hat; have d5 := Aside0.mk hb; have d2 := Aside0.mk (show Kd.R k51 51 w4 Wb.heap.size (fun _ => True) g8 (o.drop t) from ho); clear ho hb hg hat))
     obtain ⟨e6, i9, f4⟩ := Kd.R_slice d2.out
     subst f4
     have b9 := Aside0.mk (blk_below HEb.out d5.out)
     have e5 := Aside0.mk (below_then HWb.out HWb.out.size d5.out)
     have e0 : w4.cell? ⟨E, 0, none⟩ = some (.int .i64 x.f0) := (blk_cell b9.out 0).trans rfl
     have e1 : w4.cell? ⟨E, 1, none⟩ = some (.int .i64 x.f1) := (blk_cell b9.out 1).trans rfl
     have e2 : w4.cell? ⟨E, 2, none⟩ = some (.int .i64 x.f2) := (blk_cell b9.out 2).trans rfl
     clear hcf
     refine start_ (n := 11) (S := fun w' => w'.cell? ⟨E, 0, none⟩ = some (.int .i64 x.f0) ∧ w'.cell? ⟨E, 1, none⟩ = some (.int .i64 x.f1) ∧ w'.cell? ⟨E, 2, none⟩ = some (.int .i64 x.f2)) (ds := []) #[false, false, false, false, false, false, false, false, false, false, false] (by kernel_rfl) rfl rfl ⟨e0, e1, e2⟩ (fun hHeld => ?_)
     have b5 := Aside0.mk (below_drew1 (Below.refl w4.heap.size w4))
     have a0 := Aside0.mk (blk_below b9.out b5.out)
     have e4 := Aside0.mk (Kd.R_below d2.out b5.out)
     have a3 := Aside0.mk (below_then e5.out e5.out.size b5.out)
     have f9 : Wb.heap.size ≤ w4.drew.heap.size := Nat.le_trans d5.out.size b5.out.size
     generalize w4.drew = V at b5 a0 e4 a3 f9 hHeld ⊢
     have HV := Aside0.mk (Below.refl V.heap.size V)
     clear e0 e1 e2
     refine pure_ (i := 1) (N := some 53) (v := ?_) (a' := ?_) #[false, true, false, false, false, false, false, false, false, false, false] rfl rfl (by kernel_rfl) (fun _ _ _ h => h) (Or.inl ⟨by rfl, ?_⟩) ?_ ?_
     rotate_left
     ·intro w'
      go_simp
      with_reducible rfl
     rotate_left
     ·simp only [Act.put, List.setIfInBounds_toArray, List.set_cons_zero, List.set_cons_succ, i64_w, i32_w]
      rfl
     refine pure_ (i := 2) (N := some 54) (v := ?_) (a' := ?_) #[false, true, true, false, false, false, false, false, false, false, false] rfl rfl (by kernel_rfl) (fun _ _ _ h => h) (Or.inl ⟨by rfl, ?_⟩) ?_ ?_
     rotate_left
     ·intro w'
      go_simp
      with_reducible rfl
     rotate_left
     ·simp only [Act.put, List.setIfInBounds_toArray, List.set_cons_zero, List.set_cons_succ, i64_w, i32_w]
      rfl
     refine pure_ (i := 3) (N := some 55) (v := ?_) (a' := ?_) #[false, true, true, true, false, false, false, false, false, false, false] rfl rfl (by kernel_rfl) (fun _ _ _ h => h) (Or.inl ⟨by rfl, ?_⟩) ?_ ?_
     rotate_left
     ·intro w'
      go_simp
      with_reducible rfl
     rotate_left
     ·simp only [Act.put, List.setIfInBounds_toArray, List.set_cons_zero, List.set_cons_succ, i64_w, i32_w]
      rfl
     refine pure_ (i := 8) (N := some 60) (v := ?_) (a' := ?_) #[false, true, true, true, false, false, false, false, true, false, false] rfl rfl (by kernel_rfl) (fun _ _ _ h => h) (Or.inl ⟨by rfl, ?_⟩) ?_ ?_
     rotate_left
     ·intro w'
      go_simp
      with_reducible rfl
     rotate_left
     ·simp only [Act.put, List.setIfInBounds_toArray, List.set_cons_zero, List.set_cons_succ, i64_w, i32_w]
      rfl
     refine take_ (i := 5) (N := some 57) (v := ?_) (a' := ?_) #[false, true, true, true, false, true, false, false, true, false, false] rfl rfl (by kernel_rfl) (fun _ _ _ h => h) (Or.inl ⟨by rfl, ?_⟩) hHeld ?_ ?_
     rotate_left
     ·rintro w' ⟨s0, s1, s2⟩
      go_simp
      with_reducible rfl
     rotate_left
     ·simp only [Act.put, List.setIfInBounds_toArray, List.set_cons_zero, List.set_cons_succ, i64_w, i32_w]
      rfl
     refine join_ (σ := Value × Value × Value) 3 #[true, true, true, true, true, true, true, false, true, false, false] (fun s => [(52, s.1), (56, s.2.1), (58, s.2.2)]) (fun s w' => (w'.cell? ⟨E, 0, none⟩ = some (.int .i64 x.f0) ∧ w'.cell? ⟨E, 1, none⟩ = some (.int .i64 x.f1) ∧ w'.cell? ⟨E, 2, none⟩ = some (.int .i64 x.f2)) ∧ Kd.R k51 51 w' V.heap.size (fun _ => True) s.2.1 (o.take t) ∧ Kd.R k51 51 w' V.heap.size (fun _ => True) s.2.2 [x] ∧ Below V.heap.size V w') ?_ ?_
     rotate_left
     ·intro hCont
      refine two_ (i := 0) (j := 6) (Ni := some 52) (Nj := some 58) #[true, true, true, true, false, true, false, false, true, false, false] #[false, true, true, true, false, true, true, false, true, false, false] rfl rfl rfl rfl (by kernel_rfl) (by decide) (by decide) (fun K hK => ?_) (fun K hK => ?_)
      ·skip
       refine Kd.R_lit_step k51 _ 51 ?hg (N := 52) ?hd (xs := ([] : List Ed)) (inner := []) (ok := fun _ => True) (okp := fun _ => True) ?hr ?hp (fun _ hk => hk) trivial (Below.refl _ _) (Nat.le_refl _) (by simp) ?_; (case hd => rfl); (case hg => rfl); (case hr => first | (go_simp; done) | (go_simp; rfl)); (case hp => exact (Reps.none _ _))
       intro a8 h5 ho hb hg_ hn_
       have HOa := Aside0.mk (Kd.R_lower (base' := V.heap.size) ho HV.out.size)
       have a5 := Aside0.mk (below_step HV.out hb)
       have hBf := Aside0.mk hb
       clear ho hb hg_ hn_
       refine hK.out _ _ ⟨later hBf.out (hHeld.1), later hBf.out (hHeld.2.1), later hBf.out (hHeld.2.2)⟩ (fun hHeld => ?_)
       clear hK K
       refine norm_ (a' := ?_) ?_ ?_
       rotate_left
       ·show Act.put _ (some 52) _ = _
        simp only [Act.put, List.setIfInBounds_toArray, List.set_cons_zero, List.set_cons_succ, i64_w, i32_w]
        rfl
       refine two_ (i := 4) (j := 6) (Ni := some 56) (Nj := some 58) #[true, true, true, true, true, true, false, false, true, false, false] #[true, true, true, true, false, true, true, false, true, false, false] rfl rfl rfl rfl (by kernel_rfl) (by decide) (by decide) (fun K hK => ?_) (fun K hK => ?_)
       ·skip
        refine Kd.R_append_rows_step k51 (w0 := V) V.heap.size (by rfl) (.tmp 52) (.tmp 55) 23 51 (.agg #[(.int .i64 0), (.int .i64 0), (.int .i64 0)]) 24 rfl Try.underlying23 info51 rfl (by decide) (by omega) a8 [] (o.take t) Ao _ _ (fun _ => True) (fun _ => False) rfl rfl HOa.out (Kd.C_below HCt.out (below_then a3.out a3.out.size a5.out)) (fun _ _ h => h) (fun _ h => h.elim) (fun _ _ => trivial) a5.out a5.out.size (by have := HTL.out; have := HDL.out; simp only [List.length_nil, List.length_append, List.length_cons]; omega) ?_
        intro a4 d4 ho hb hg hat
        have f5 := Aside0.mk (show Kd.R k51 51 d4 V.heap.size (fun _ => True) a4 (o.take t) from ho)
        have a2 := Aside0.mk hb
        clear ho hb hg hat
        refine hK.out _ _ ⟨later a2.out ((blk_cell a0.out 0).trans rfl), later a2.out ((blk_cell a0.out 1).trans rfl), later a2.out ((blk_cell a0.out 2).trans rfl)⟩ (fun hHeld => ?_)
        clear hK K
        refine norm_ (a' := ?_) ?_ ?_
        rotate_left
        ·show Act.put _ (some 56) _ = _
         simp only [Act.put, List.setIfInBounds_toArray, List.set_cons_zero, List.set_cons_succ, i64_w, i32_w]
         rfl
        refine one_ (i := 6) (N := some 58) #[true, true, true, true, true, true, true, false, true, false, false] rfl rfl (by kernel_rfl) (by decide) (fun K hK => ?_)
        refine Kd.R_lit_step k51 _ 51 ?hg (N := 58) ?hd (xs := ([x] : List Ed)) (inner := [.int .i64 x.f0, .int .i64 x.f1, .int .i64 x.f2]) (ok := fun _ => True) (okp := fun _ => True) ?hr ?hp (fun _ hk => hk) trivial (Below.refl _ _) (Nat.le_refl _) (by simp) ?_; (case hd => rfl); (case hg => rfl); (case hr => first | (go_simp; done) | (go_simp; rfl)); (case hp => exact (Reps.c3 (show Kd.M k51 _ _ _ x [.int .i64 x.f0, .int .i64 x.f1, .int .i64 x.f2] from k51_mkM _ _ _ x) (Reps.none _ _)))
        intro b3 d1 ho hb hg_ hn_
        have a6 := Aside0.mk (Kd.R_lower (base' := V.heap.size) ho a2.out.size)
        have a9 := Aside0.mk (Kd.R_below f5.out hb)
        have a1 := Aside0.mk (below_step a2.out hb)
        have hBf := Aside0.mk hb
        clear ho hb hg_ hn_
        refine hK.out _ _ ⟨later hBf.out (hHeld.1), later hBf.out (hHeld.2.1), later hBf.out (hHeld.2.2)⟩ (fun hHeld => ?_)
        clear hK K
        refine norm_ (a' := ?_) ?_ ?_
        rotate_left
        ·show Act.put _ (some 58) _ = _
         simp only [Act.put, List.setIfInBounds_toArray, List.set_cons_zero, List.set_cons_succ, i64_w, i32_w]
         rfl
        exact norm_ (by simp only [putAll, Act.put, List.setIfInBounds_toArray, List.set_cons_zero, List.set_cons_succ]) (hCont (a8, a4, b3) _ ⟨hHeld, a9.out, a6.out, a1.out⟩)
       ·skip
        refine Kd.R_lit_step k51 _ 51 ?hg (N := 58) ?hd (xs := ([x] : List Ed)) (inner := [.int .i64 x.f0, .int .i64 x.f1, .int .i64 x.f2]) (ok := fun _ => True) (okp := fun _ => True) ?hr ?hp (fun _ hk => hk) trivial (Below.refl _ _) (Nat.le_refl _) (by simp) ?_; (case hd => rfl); (case hg => rfl); (case hr => first | (go_simp; done) | (go_simp; rfl)); (case hp => exact (Reps.c3 (show Kd.M k51 _ _ _ x [.int .i64 x.f0, .int .i64 x.f1, .int .i64 x.f2] from k51_mkM _ _ _ x) (Reps.none _ _)))
        intro b3 d4 ho hb hg_ hn_
        have b8 := Aside0.mk (Kd.R_lower (base' := V.heap.size) (Kd.R_new' ho (fun k hk => Kd.R_lt HOa.out k hk)) a5.out.size)
        have HOa' := Aside0.mk (Kd.R_below HOa.out hb)
        clear HOa
        have HOa := HOa'
        clear HOa'
        have a2 := Aside0.mk (below_step a5.out hb)
        have hBf := Aside0.mk hb
        clear ho hb hg_ hn_
        refine hK.out _ _ ⟨later hBf.out (hHeld.1), later hBf.out (hHeld.2.1), later hBf.out (hHeld.2.2)⟩ (fun hHeld => ?_)
        clear hK K
        refine norm_ (a' := ?_) ?_ ?_
        rotate_left
        ·show Act.put _ (some 58) _ = _
         simp only [Act.put, List.setIfInBounds_toArray, List.set_cons_zero, List.set_cons_succ, i64_w, i32_w]
         rfl
        refine one_ (i := 4) (N := some 56) #[true, true, true, true, true, true, true, false, true, false, false] rfl rfl (by kernel_rfl) (by decide) (fun K hK => ?_)
        refine Kd.R_append_rows_step k51 (w0 := V) V.heap.size (by rfl) (.tmp 52) (.tmp 55) 23 51 (.agg #[(.int .i64 0), (.int .i64 0), (.int .i64 0)]) 24 rfl Try.underlying23 info51 rfl (by decide) (by omega) a8 [] (o.take t) Ao _ _ (fun _ => True) (fun _ => False) rfl rfl HOa.out (Kd.C_below HCt.out (below_then a3.out a3.out.size a2.out)) (fun _ _ h => h) (fun _ h => h.elim) (fun _ _ => trivial) a2.out a2.out.size (by have := HTL.out; have := HDL.out; simp only [List.length_nil, List.length_append, List.length_cons]; omega) ?_
        intro a4 d1 ho hb hg hat
        have a9 := Aside0.mk (show Kd.R k51 51 d1 V.heap.size (fun _ => True) a4 (o.take t) from ho)
        have a6 := Aside0.mk (Kd.R_mono (Kd.R_grown b8.out hg (fun _ hk => hk.2)) (fun _ _ => trivial))
        have a1 := Aside0.mk hb
        clear ho hb hg hat
        refine hK.out _ _ ⟨later a1.out ((blk_cell a0.out 0).trans rfl), later a1.out ((blk_cell a0.out 1).trans rfl), later a1.out ((blk_cell a0.out 2).trans rfl)⟩ (fun hHeld => ?_)
        clear hK K
        refine norm_ (a' := ?_) ?_ ?_
        rotate_left
        ·show Act.put _ (some 56) _ = _
         simp only [Act.put, List.setIfInBounds_toArray, List.set_cons_zero, List.set_cons_succ, i64_w, i32_w]
         rfl
        exact norm_ (by simp only [putAll, Act.put, List.setIfInBounds_toArray, List.set_cons_zero, List.set_cons_succ]) (hCont (a8, a4, b3) _ ⟨hHeld, a9.out, a6.out, a1.out⟩)
      ·skip
       refine Kd.R_lit_step k51 _ 51 ?hg (N := 58) ?hd (xs := ([x] : List Ed)) (inner := [.int .i64 x.f0, .int .i64 x.f1, .int .i64 x.f2]) (ok := fun _ => True) (okp := fun _ => True) ?hr ?hp (fun _ hk => hk) trivial (Below.refl _ _) (Nat.le_refl _) (by simp) ?_; (case hd => rfl); (case hg => rfl); (case hr => first | (go_simp; done) | (go_simp; rfl)); (case hp => exact (Reps.c3 (show Kd.M k51 _ _ _ x [.int .i64 x.f0, .int .i64 x.f1, .int .i64 x.f2] from k51_mkM _ _ _ x) (Reps.none _ _)))
       intro b3 h5 ho hb hg_ hn_
       have f8 := Aside0.mk (Kd.R_lower (base' := V.heap.size) ho HV.out.size)
       have a5 := Aside0.mk (below_step HV.out hb)
       have hBf := Aside0.mk hb
       clear ho hb hg_ hn_
       refine hK.out _ _ ⟨later hBf.out (hHeld.1), later hBf.out (hHeld.2.1), later hBf.out (hHeld.2.2)⟩ (fun hHeld => ?_)
       clear hK K
       refine norm_ (a' := ?_) ?_ ?_
       rotate_left
       ·show Act.put _ (some 58) _ = _
        simp only [Act.put, List.setIfInBounds_toArray, List.set_cons_zero, List.set_cons_succ, i64_w, i32_w]
        rfl
       refine one_ (i := 0) (N := some 52) #[true, true, true, true, false, true, true, false, true, false, false] rfl rfl (by kernel_rfl) (by decide) (fun K hK => ?_)
       refine Kd.R_lit_step k51 _ 51 ?hg (N := 52) ?hd (xs := ([] : List Ed)) (inner := []) (ok := fun _ => True) (okp := fun _ => True) ?hr ?hp (fun _ hk => hk) trivial (Below.refl _ _) (Nat.le_refl _) (by simp) ?_; (case hd => rfl); (case hg => rfl); (case hr => first | (go_simp; done) | (go_simp; rfl)); (case hp => exact (Reps.none _ _))
       intro a8 d4 ho hb hg_ hn_
       have HOa := Aside0.mk (Kd.R_lower (base' := V.heap.size) ho a5.out.size)
       have b8 := Aside0.mk (Kd.R_elder' f8.out (Kd.R_base ho) hb)
       have a2 := Aside0.mk (below_step a5.out hb)
       have hBf := Aside0.mk hb
       clear ho hb hg_ hn_
       refine hK.out _ _ ⟨later hBf.out (hHeld.1), later hBf.out (hHeld.2.1), later hBf.out (hHeld.2.2)⟩ (fun hHeld => ?_)
       clear hK K
       refine norm_ (a' := ?_) ?_ ?_
       rotate_left
       ·show Act.put _ (some 52) _ = _
        simp only [Act.put, List.setIfInBounds_toArray, List.set_cons_zero, List.set_cons_succ, i64_w, i32_w]
        rfl
       refine one_ (i := 4) (N := some 56) #[true, true, true, true, true, true, true, false, true, false, false] rfl rfl (by kernel_rfl) (by decide) (fun K hK => ?_)
       refine Kd.R_append_rows_step k51 (w0 := V) V.heap.size (by rfl) (.tmp 52) (.tmp 55) 23 51 (.agg #[(.int .i64 0), (.int .i64 0), (.int .i64 0)]) 24 rfl Try.underlying23 info51 rfl (by decide) (by omega) a8 [] (o.take t) Ao _ _ (fun _ => True) (fun _ => False) rfl rfl HOa.out (Kd.C_below HCt.out (below_then a3.out a3.out.size a2.out)) (fun _ _ h => h) (fun _ h => h.elim) (fun _ _ => trivial) a2.out a2.out.size (by have := HTL.out; have := HDL.out; simp only [List.length_nil, List.length_append, List.length_cons]; omega) ?_
       intro a4 d1 ho hb hg hat
       have a9 := Aside0.mk (show Kd.R k51 51 d1 V.heap.size (fun _ => True) a4 (o.take t) from ho)
       have a6 := Aside0.mk (Kd.R_mono (Kd.R_grown b8.out hg (fun _ hk => hk.2)) (fun _ _ => trivial))
       have a1 := Aside0.mk hb
       clear ho hb hg hat
       refine hK.out _ _ ⟨later a1.out ((blk_cell a0.out 0).trans rfl), later a1.out ((blk_cell a0.out 1).trans rfl), later a1.out ((blk_cell a0.out 2).trans rfl)⟩ (fun hHeld => ?_)
       clear hK K
       refine norm_ (a' := ?_) ?_ ?_
       rotate_left
       ·show Act.put _ (some 56) _ = _
        simp only [Act.put, List.setIfInBounds_toArray, List.set_cons_zero, List.set_cons_succ, i64_w, i32_w]
        rfl
       exact norm_ (by simp only [putAll, Act.put, List.setIfInBounds_toArray, List.set_cons_zero, List.set_cons_succ]) (hCont (a8, a4, b3) _ ⟨hHeld, a9.out, a6.out, a1.out⟩)
     rintro ⟨i5, a4, b3⟩ w5 ⟨hHeld, d6, b7, e8⟩
     have f6 := Aside0.mk d6
     obtain ⟨h3, i7, g4⟩ := Kd.R_slice b7
     subst g4
     have f7 := Aside0.mk ((Kd.R_reads' b7).2.2)
     have e7 := Aside0.mk e8
     clear d6 b7 e8
     refine norm_ (a' := ?_) ?_ ?_
     rotate_left
     ·simp only [putAll, Act.put, List.setIfInBounds_toArray, List.set_cons_zero, List.set_cons_succ]
      rfl
     refine one_ (i := 7) (N := some 59) #[true, true, true, true, true, true, true, true, true, false, false] rfl rfl (by kernel_rfl) (by decide) (fun K hK => ?_)
     refine Kd.R_append_rows_step k51 (w0 := V) V.heap.size (by rfl) (.tmp 56) (.tmp 58) 23 51 (.agg #[(.int .i64 0), (.int .i64 0), (.int .i64 0)]) 24 rfl Try.underlying23 info51 rfl (by decide) (by omega) a4 (o.take t) [x] h3 _ _ (fun _ => True) (fun _ => False) rfl rfl f6.out f7.out (fun _ _ h => h) (fun _ h => h.elim) (fun _ _ => trivial) e7.out e7.out.size (by have := HTL.out; have := HDL.out; simp only [List.length_nil, List.length_append, List.length_cons]; omega) ?_
     intro g9 w6 ho hb hg hat
     have f3 := Aside0.mk ho
     have b4 := Aside0.mk hb
     clear ho hb hg hat
     refine hK.out _ _ ⟨later b4.out ((blk_cell a0.out 0).trans rfl), later b4.out ((blk_cell a0.out 1).trans rfl), later b4.out ((blk_cell a0.out 2).trans rfl)⟩ (fun hHeld => ?_)
     clear hK K
     refine norm_ (a' := ?_) ?_ ?_
     rotate_left
     ·show Act.put _ (some 59) _ = _
      simp only [Act.put, List.setIfInBounds_toArray, List.set_cons_zero, List.set_cons_succ, i64_w, i32_w]
      rfl
     refine one_ (i := 9) (N := some 61) #[true, true, true, true, true, true, true, true, true, true, false] rfl rfl (by kernel_rfl) (by decide) (fun K hK => ?_)
     refine Kd.R_append_rows_step k51 (w0 := V) V.heap.size (by rfl) (.tmp 59) (.tmp 60) 23 51 (.agg #[(.int .i64 0), (.int .i64 0), (.int .i64 0)]) 24 rfl Try.underlying23 info51 rfl (by decide) (by omega) g9 (o.take t ++ [x]) (o.drop t) e6 _ _ (fun _ => True) (fun _ => False) rfl rfl f3.out (Kd.C_below (show Kd.C k51 V e6 (o.length - t) (o.drop t) by have := (Kd.R_reads' e4.out).2.2; rwa [List.length_drop] at this) b4.out) (fun _ _ h => h) (fun _ h => h.elim) (fun _ _ => trivial) b4.out b4.out.size (by have := HTL.out; have := HDL.out; simp only [List.length_nil, List.length_append, List.length_cons]; omega) ?_
     intro i6 w7 ho hb hg hat
     have g3 := Aside0.mk ho
     have d0 := Aside0.mk hb
     clear ho hb hg hat
     refine hK.out _ _ ⟨later d0.out ((blk_cell a0.out 0).trans rfl), later d0.out ((blk_cell a0.out 1).trans rfl), later d0.out ((blk_cell a0.out 2).trans rfl)⟩ (fun hHeld => ?_)
     clear hK K
     refine norm_ (a' := ?_) ?_ ?_
     rotate_left
     ·show Act.put _ (some 61) _ = _
      simp only [Act.put, List.setIfInBounds_toArray, List.set_cons_zero, List.set_cons_succ, i64_w, i32_w]
      rfl
     refine pure_ (i := 10) (N := some 3) (v := ?_) (a' := ?_) #[true, true, true, true, true, true, true, true, true, true, true] rfl rfl (by kernel_rfl) (fun _ _ _ h => h) (Or.inl ⟨by rfl, ?_⟩) ?_ ?_
     rotate_left
     ·intro w'
      go_simp
      with_reducible rfl
     rotate_left
     ·simp only [Act.put, List.setIfInBounds_toArray, List.set_cons_zero, List.set_cons_succ, i64_w, i32_w]
      rfl
     refine done_ (by kernel_rfl) ?_
     have HL := Aside0.mk (show (o.take t ++ [x]) ++ o.drop t = insE x o by rw [HIns.out]; simp)
     have HF := Aside0.mk (below_then a3.out a3.out.size d0.out)
     have h8 : w.heap.size ≤ V.heap.size := Nat.le_trans a7.out.size a3.out.size
     go_wp2
     go_roundw
     case rel => exact ⟨k + 1, by omega, by go_num, ⟨by rw [HN.out, ← HL.out]; exact Kd.R_lower g3.out h8⟩, ⟨HX.out.below HF.out⟩, ⟨blk_below HY.out HF.out⟩, ⟨below_then a7.out a7.out.size HF.out⟩⟩
     case measure => simp [intOf]; omega
    ·obtain ⟨b6, i8, p0, p1, p2⟩ := atE e3.out (t - 1) (by omega)
     subst i8
     obtain ⟨y, hy⟩ : ∃ y, y = o.getD (t - 1) z51 := ⟨_, rfl⟩
     rw [← hy] at p0 p1 p2
     have PP := Aside0.mk (And.intro p0 (And.intro p1 p2))
     replace p0 := later HW.out p0
     replace p1 := later HW.out p1
     replace p2 := later HW.out p2
     have HYY := Aside0.mk hy
     have d7 : decide ((0 : Int) < (t : Int)) = true := decide_eq_true (by omega)
     have d8 : decide (0 < t) = true := decide_eq_true (by omega)
     have i0 : (0 : Int) ≤ (t : Int) - 1 := by omega
     have i1 : (t : Int) - 1 < (o.length : Int) := by omega
     have j0 : (1 : Int) ≤ (t : Int) := by omega
     have j1 : (t : Int) < (o.length : Int) + 1 := by omega
     have j2 : 1 ≤ t := by omega
     have j3 : t - 1 < o.length := by omega
     have j4 : (t : Int) ≤ (o.length : Int) := by omega
     have g7 : IntKind.i64.wrap ((t : Int) - 1) = (t : Int) - 1 := by rw [IntKind.wrap_i64]; omega
     have g6 : ((t : Int) - 1).toNat = t - 1 := by omega
     have e0 : wr.cell? ⟨E, 0, none⟩ = some (.int .i64 x.f0) := (blk_cell HE.out 0).trans rfl
     have e1 : wr.cell? ⟨E, 1, none⟩ = some (.int .i64 x.f1) := (blk_cell HE.out 1).trans rfl
     have e2 : wr.cell? ⟨E, 2, none⟩ = some (.int .i64 x.f2) := (blk_cell HE.out 2).trans rfl
     clear hy
     cases hC : decide (elt x y) with
     | true =>
      have HCm := Aside0.mk hC; clear hC
      go_wp2_with fail
      go_region_held3 (fun w' => w'.cell? ⟨E, 0, none⟩ = some (.int .i64 x.f0) ∧ w'.cell? ⟨E, 1, none⟩ = some (.int .i64 x.f1) ∧ w'.cell? ⟨E, 2, none⟩ = some (.int .i64 x.f2) ∧ w'.cell? (b6.add ((t - 1) * 3)) = some (.int .i64 y.f0) ∧ w'.cell? ⟨(b6.add ((t - 1) * 3)).block, (b6.add ((t - 1) * 3)).off + 1, none⟩ = some (.int .i64 y.f1) ∧ w'.cell? ⟨(b6.add ((t - 1) * 3)).block, (b6.add ((t - 1) * 3)).off + 2, none⟩ = some (.int .i64 y.f2)) (first | go_keep | (refine ⟨later hB ?_, later hB ?_, later hB ?_, later hB ?_, later hB ?_, later hB ?_⟩ <;> go_keep)) (first | (go_at_call 42; refine (ahead_any x y _ HCm.out _).mono ?_; rintro e w' ⟨rfl, hB⟩))
      have HWa := Aside0.mk (below_then (below_drew HW.out) (below_drew HW.out).size hB)
      have HEa := Aside0.mk (blk_below (show wr.drew.heap[E]? = _ from HE.out) hB)
      clear hB e0 e1 e2
      clear g7 g6 i0 i1 j0 j1 j2 j3 j4 d7 d8 p0 p1 p2
      go_wp2
      go_roundw
      case rel => exact ⟨t - 1, by omega, by go_num, ⟨fun j h1 h2 => by
       rcases Nat.lt_or_ge j t with q | q
       ·obtain rfl : j = t - 1 := by omega
        rw [← HYY.out]; exact of_decide_eq_true HCm.out
       ·exact hz.out j q h2⟩, HEa, HWa⟩
      case measure => simp [intOf]; omega
     | false =>
      have HCm := Aside0.mk hC; clear hC
      go_wp2_with fail
      go_region_held3 (fun w' => w'.cell? ⟨E, 0, none⟩ = some (.int .i64 x.f0) ∧ w'.cell? ⟨E, 1, none⟩ = some (.int .i64 x.f1) ∧ w'.cell? ⟨E, 2, none⟩ = some (.int .i64 x.f2) ∧ w'.cell? (b6.add ((t - 1) * 3)) = some (.int .i64 y.f0) ∧ w'.cell? ⟨(b6.add ((t - 1) * 3)).block, (b6.add ((t - 1) * 3)).off + 1, none⟩ = some (.int .i64 y.f1) ∧ w'.cell? ⟨(b6.add ((t - 1) * 3)).block, (b6.add ((t - 1) * 3)).off + 2, none⟩ = some (.int .i64 y.f2)) (first | go_keep | (refine ⟨later hB ?_, later hB ?_, later hB ?_, later hB ?_, later hB ?_, later hB ?_⟩ <;> go_keep)) (first | (go_at_call 42; refine (ahead_any x y _ HCm.out _).mono ?_; rintro e w' ⟨rfl, hB⟩))
      have HWa := Aside0.mk (below_then (below_drew HW.out) (below_drew HW.out).size hB)
      have HEa := Aside0.mk (blk_below (show wr.drew.heap[E]? = _ from HE.out) hB)
      clear hB e0 e1 e2
      clear p0 p1 p2
      have p0 := later HWa.out PP.out.1
      have p1 := later HWa.out PP.out.2.1
      have p2 := later HWa.out PP.out.2.2
      have e0 : w'.cell? ⟨E, 0, none⟩ = some (.int .i64 x.f0) := (blk_cell HEa.out 0).trans rfl
      have e1 : w'.cell? ⟨E, 1, none⟩ = some (.int .i64 x.f1) := (blk_cell HEa.out 1).trans rfl
      have e2 : w'.cell? ⟨E, 2, none⟩ = some (.int .i64 x.f2) := (blk_cell HEa.out 2).trans rfl
      by_cases q : y = x
      ·have hE := fun W => eqE_yes (x := y) (y := x) q W
       have HQ := Aside0.mk q
       clear q
       go_wp2_with fail
       go_quiet (fail)
       have HWb := Aside0.mk (pw_below_drewN HWa.out nq)
       generalize w'.drewN nq = Wb at HWb ⊢
       clear g7 g6 i0 i1 j0 j1 j2 j3 j4 d7 d8 p0 p1 p2 e0 e1 e2 nq hE
       go_wp2
       go_roundw
       case rel => exact ⟨k + 1, by omega, by go_num, ⟨by rw [HN.out, ins_here HS.out (by rw [← HQ.out, HYY.out, getD_get (by omega)]; exact List.getElem_mem _)]; exact Kd.R_below HO.out HWb.out⟩, ⟨HX.out.below HWb.out⟩, ⟨blk_below HY.out HWb.out⟩, ⟨below_then a7.out a7.out.size HWb.out⟩⟩
       case measure => simp [intOf]; omega
      ·have hE := fun W => eqE_no (x := y) (y := x) q W
       have HIns := Aside0.mk (ins_back (e := x) HS.out ht hz.out (fun _ => by rw [← HYY.out]; exact elt_tri (of_decide_eq_false HCm.out) (fun h => q ((cmpE_zero x y).1 h).symm)))
       clear q
       go_wp2_with fail
       go_quiet (fail)
       have HWb := Aside0.mk (pw_below_drewN HWa.out nq)
       have HEb := Aside0.mk (show (w'.drewN nq).heap[E]? = _ from HEa.out)
       generalize w'.drewN nq = Wb at HWb HEb ⊢
       clear b2 HWa HEa HW HE nq g7 g6 i0 i1 j0 j1 j2 j3 j4 d7 d8 p0 p1 p2 e0 e1 e2 hE
       obtain ⟨Ao, hAo⟩ : ∃ Ao, Ao = some b6 := ⟨_, rfl⟩
       rw [← hAo] at HO e3 ⊢
       clear hAo
       have hcf := cut_from (P := Try.prog) 23 51 .i64 Try.underlying23 d9.out.1 3 d9.out.2 Ao o.length co (t : Int) (by omega) (by omega)
       have hct := cut_to (P := Try.prog) 23 51 .i64 Try.underlying23 d9.out.1 Ao o.length co (t : Int) (by omega) (by omega) HLc.out
       rw [Int.toNat_natCast] at hcf hct
       obtain ⟨A7, d3⟩ : ∃ A7, A7 = (if co = t then Ao else Ao.map (·.add (t * 3))) := ⟨_, rfl⟩
       rw [← d3] at hcf
       have h6 := Aside0.mk (show Kd.C k51 wo A7 (o.length - t) (o.drop t) by rw [d3]; have := Kd.C_drop e3.out ht HLc.out; rwa [List.length_drop] at this)
       have HCt := Aside0.mk (Kd.C_take e3.out ht)
       have hdl : (o.drop t).length = o.length - t := List.length_drop ..
       have htl : (o.take t).length = t := by rw [List.length_take]; omega
       rw [htl] at HCt
       have HDL := Aside0.mk hdl
       have HTL := Aside0.mk htl
       clear d3 hdl htl
       go_wp2_with (first
        | ((with_reducible refine gate_dst (N := 47) rfl ?_); refine Kd.R_lit k51 _ 51 ?hg (N := 47) ?hd (xs := ([] : List Ed)) (inner := []) (ok := fun _ => True) (okp := fun _ => True) ?hr ?hp (fun _ hk => hk) trivial (Below.refl _ _) (Nat.le_refl _) (by simp) ?_; (case hd => rfl); (case hg => rfl); (case hr => first | (go_simp; done) | (go_simp; rfl)); (case hp => exact (Reps.none _ _)); intro h4 w3 ho hb hg_ hn_; have a1 := Aside0.mk hb; have e9 := Aside0.mk ho; clear ho hb hg_ hn_)
        | (at_builtin; refine Kd.R_append_rows k51 (w0 := Wb) Wb.heap.size rfl (.tmp 47) (.tmp 50) 23 51 (.agg #[(.int .i64 0), (.int .i64 0), (.int .i64 0)]) 24 rfl Try.underlying23 info51 rfl (by decide) (by omega) h4 [] (o.drop t) A7 _ _ (fun _ => True) (fun _ => False) rfl rfl e9.out (Kd.C_below h6.out (below_then HWb.out HWb.out.size a1.out)) (fun _ _ h => h) (fun _ h => h.elim) (fun _ _ => trivial) a1.out a1.out.size (by have := HTL.out; have := HDL.out; simp only [List.length_nil, List.length_append, List.length_cons]; omega) ?_; intro g8 w4 ho hb hg hat; have d5 := Aside0.mk hb; have d2 := Aside0.mk (show Kd.R k51 51 w4 Wb.heap.size (fun _ => True) g8 (o.drop t) from ho); clear ho hb hg hat))
       obtain ⟨e6, i9, f4⟩ := Kd.R_slice d2.out
       subst f4
       have b9 := Aside0.mk (blk_below HEb.out d5.out)
       have e5 := Aside0.mk (below_then HWb.out HWb.out.size d5.out)
       have e0 : w4.cell? ⟨E, 0, none⟩ = some (.int .i64 x.f0) := (blk_cell b9.out 0).trans rfl
       have e1 : w4.cell? ⟨E, 1, none⟩ = some (.int .i64 x.f1) := (blk_cell b9.out 1).trans rfl
       have e2 : w4.cell? ⟨E, 2, none⟩ = some (.int .i64 x.f2) := (blk_cell b9.out 2).trans rfl
       clear hcf
       refine start_ (n := 11) (S := fun w' => w'.cell? ⟨E, 0, none⟩ = some (.int .i64 x.f0) ∧ w'.cell? ⟨E, 1, none⟩ = some (.int .i64 x.f1) ∧ w'.cell? ⟨E, 2, none⟩ = some (.int .i64 x.f2)) (ds := []) #[false, false, false, false, false, false, false, false, false, false, false] (by kernel_rfl) rfl rfl ⟨e0, e1, e2⟩ (fun hHeld => ?_)
       have b5 := Aside0.mk (below_drew1 (Below.refl w4.heap.size w4))
       have a0 := Aside0.mk (blk_below b9.out b5.out)
       have e4 := Aside0.mk (Kd.R_below d2.out b5.out)
       have a3 := Aside0.mk (below_then e5.out e5.out.size b5.out)
       have f9 : Wb.heap.size ≤ w4.drew.heap.size := Nat.le_trans d5.out.size b5.out.size
       generalize w4.drew = V at b5 a0 e4 a3 f9 hHeld ⊢
       have HV := Aside0.mk (Below.refl V.heap.size V)
       clear e0 e1 e2
       refine pure_ (i := 1) (N := some 53) (v := ?_) (a' := ?_) #[false, true, false, false, false, false, false, false, false, false, false] rfl rfl (by kernel_rfl) (fun _ _ _ h => h) (Or.inl ⟨by rfl, ?_⟩) ?_ ?_
       rotate_left
       ·intro w'
        go_simp
        with_reducible rfl
       rotate_left
       ·simp only [Act.put, List.setIfInBounds_toArray, List.set_cons_zero, List.set_cons_succ, i64_w, i32_w]
        rfl
       refine pure_ (i := 2) (N := some 54) (v := ?_) (a' := ?_) #[false, true, true, false, false, false, false, false, false, false, false] rfl rfl (by kernel_rfl) (fun _ _ _ h => h) (Or.inl ⟨by rfl, ?_⟩) ?_ ?_
       rotate_left
       ·intro w'
        go_simp
        with_reducible rfl
       rotate_left
       ·simp only [Act.put, List.setIfInBounds_toArray, List.set_cons_zero, List.set_cons_succ, i64_w, i32_w]
        rfl
       refine pure_ (i := 3) (N := some 55) (v := ?_) (a' := ?_) #[false, true, true, true, false, false, false, false, false, false, false] rfl rfl (by kernel_rfl) (fun _ _ _ h => h) (Or.inl ⟨by rfl, ?_⟩) ?_ ?_
       rotate_left
       ·intro w'
        go_simp
        with_reducible rfl
       rotate_left
       ·simp only [Act.put, List.setIfInBounds_toArray, List.set_cons_zero, List.set_cons_succ, i64_w, i32_w]
        rfl
       refine pure_ (i := 8) (N := some 60) (v := ?_) (a' := ?_) #[false, true, true, true, false, false, false, false, true, false, false] rfl rfl (by kernel_rfl) (fun _ _ _ h => h) (Or.inl ⟨by rfl, ?_⟩) ?_ ?_
       rotate_left
       ·intro w'
        go_simp
        with_reducible rfl
       rotate_left
       ·simp only [Act.put, List.setIfInBounds_toArray, List.set_cons_zero, List.set_cons_succ, i64_w, i32_w]
        rfl
       refine take_ (i := 5) (N := some 57) (v := ?_) (a' := ?_) #[false, true, true, true, false, true, false, false, true, false, false] rfl rfl (by kernel_rfl) (fun _ _ _ h => h) (Or.inl ⟨by rfl, ?_⟩) hHeld ?_ ?_
       rotate_left
       ·rintro w' ⟨s0, s1, s2⟩
        go_simp
        with_reducible rfl
       rotate_left
       ·simp only [Act.put, List.setIfInBounds_toArray, List.set_cons_zero, List.set_cons_succ, i64_w, i32_w]
        rfl
       refine join_ (σ := Value × Value × Value) 3 #[true, true, true, true, true, true, true, false, true, false, false] (fun s => [(52, s.1), (56, s.2.1), (58, s.2.2)]) (fun s w' => (w'.cell? ⟨E, 0, none⟩ = some (.int .i64 x.f0) ∧ w'.cell? ⟨E, 1, none⟩ = some (.int .i64 x.f1) ∧ w'.cell? ⟨E, 2, none⟩ = some (.int .i64 x.f2)) ∧ Kd.R k51 51 w' V.heap.size (fun _ => True) s.2.1 (o.take t) ∧ Kd.R k51 51 w' V.heap.size (fun _ => True) s.2.2 [x] ∧ Below V.heap.size V w') ?_ ?_
       rotate_left
       ·intro hCont
        refine two_ (i := 0) (j := 6) (Ni := some 52) (Nj := some 58) #[true, true, true, true, false, true, false, false, true, false, false] #[false, true, true, true, false, true, true, false, true, false, false] rfl rfl rfl rfl (by kernel_rfl) (by decide) (by decide) (fun K hK => ?_) (fun K hK => ?_)
        ·skip
         refine Kd.R_lit_step k51 _ 51 ?hg (N := 52) ?hd (xs := ([] : List Ed)) (inner := []) (ok := fun _ => True) (okp := fun _ => True) ?hr ?hp (fun _ hk => hk) trivial (Below.refl _ _) (Nat.le_refl _) (by simp) ?_; (case hd => rfl); (case hg => rfl); (case hr => first | (go_simp; done) | (go_simp; rfl)); (case hp => exact (Reps.none _ _))
         intro a8 h5 ho hb hg_ hn_
         have HOa := Aside0.mk (Kd.R_lower (base' := V.heap.size) ho HV.out.size)
         have a5 := Aside0.mk (below_step HV.out hb)
         have hBf := Aside0.mk hb
         clear ho hb hg_ hn_
         refine hK.out _ _ ⟨later hBf.out (hHeld.1), later hBf.out (hHeld.2.1), later hBf.out (hHeld.2.2)⟩ (fun hHeld => ?_)
         clear hK K
         refine norm_ (a' := ?_) ?_ ?_
         rotate_left
         ·show Act.put _ (some 52) _ = _
          simp only [Act.put, List.setIfInBounds_toArray, List.set_cons_zero, List.set_cons_succ, i64_w, i32_w]
          rfl
         refine two_ (i := 4) (j := 6) (Ni := some 56) (Nj := some 58) #[true, true, true, true, true, true, false, false, true, false, false] #[true, true, true, true, false, true, true, false, true, false, false] rfl rfl rfl rfl (by kernel_rfl) (by decide) (by decide) (fun K hK => ?_) (fun K hK => ?_)
         ·skip
          refine Kd.R_append_rows_step k51 (w0 := V) V.heap.size (by rfl) (.tmp 52) (.tmp 55) 23 51 (.agg #[(.int .i64 0), (.int .i64 0), (.int .i64 0)]) 24 rfl Try.underlying23 info51 rfl (by decide) (by omega) a8 [] (o.take t) Ao _ _ (fun _ => True) (fun _ => False) rfl rfl HOa.out (Kd.C_below HCt.out (below_then a3.out a3.out.size a5.out)) (fun _ _ h => h) (fun _ h => h.elim) (fun _ _ => trivial) a5.out a5.out.size (by have := HTL.out; have := HDL.out; simp only [List.length_nil, List.length_append, List.length_cons]; omega) ?_
          intro a4 d4 ho hb hg hat
          have f5 := Aside0.mk (show Kd.R k51 51 d4 V.heap.size (fun _ => True) a4 (o.take t) from ho)
          have a2 := Aside0.mk hb
          clear ho hb hg hat
          refine hK.out _ _ ⟨later a2.out ((blk_cell a0.out 0).trans rfl), later a2.out ((blk_cell a0.out 1).trans rfl), later a2.out ((blk_cell a0.out 2).trans rfl)⟩ (fun hHeld => ?_)
          clear hK K
          refine norm_ (a' := ?_) ?_ ?_
          rotate_left
          ·show Act.put _ (some 56) _ = _
           simp only [Act.put, List.setIfInBounds_toArray, List.set_cons_zero, List.set_cons_succ, i64_w, i32_w]
           rfl
          refine one_ (i := 6) (N := some 58) #[true, true, true, true, true, true, true, false, true, false, false] rfl rfl (by kernel_rfl) (by decide) (fun K hK => ?_)
          refine Kd.R_lit_step k51 _ 51 ?hg (N := 58) ?hd (xs := ([x] : List Ed)) (inner := [.int .i64 x.f0, .int .i64 x.f1, .int .i64 x.f2]) (ok := fun _ => True) (okp := fun _ => True) ?hr ?hp (fun _ hk => hk) trivial (Below.refl _ _) (Nat.le_refl _) (by simp) ?_; (case hd => rfl); (case hg => rfl); (case hr => first | (go_simp; done) | (go_simp; rfl)); (case hp => exact (Reps.c3 (show Kd.M k51 _ _ _ x [.int .i64 x.f0, .int .i64 x.f1, .int .i64 x.f2] from k51_mkM _ _ _ x) (Reps.none _ _)))
          intro b3 d1 ho hb hg_ hn_
          have a6 := Aside0.mk (Kd.R_lower (base' := V.heap.size) ho a2.out.size)
          have a9 := Aside0.mk (Kd.R_below f5.out hb)
          have a1 := Aside0.mk (below_step a2.out hb)
          have hBf := Aside0.mk hb
          clear ho hb hg_ hn_
          refine hK.out _ _ ⟨later hBf.out (hHeld.1), later hBf.out (hHeld.2.1), later hBf.out (hHeld.2.2)⟩ (fun hHeld => ?_)
          clear hK K
          refine norm_ (a' := ?_) ?_ ?_
          rotate_left
          ·show Act.put _ (some 58) _ = _
           simp only [Act.put, List.setIfInBounds_toArray, List.set_cons_zero, List.set_cons_succ, i64_w, i32_w]
           rfl
          exact norm_ (by simp only [putAll, Act.put, List.setIfInBounds_toArray, List.set_cons_zero, List.set_cons_succ]) (hCont (a8, a4, b3) _ ⟨hHeld, a9.out, a6.out, a1.out⟩)
         ·skip
          refine Kd.R_lit_step k51 _ 51 ?hg (N := 58) ?hd (xs := ([x] : List Ed)) (inner := [.int .i64 x.f0, .int .i64 x.f1, .int .i64 x.f2]) (ok := fun _ => True) (okp := fun _ => True) ?hr ?hp (fun _ hk => hk) trivial (Below.refl _ _) (Nat.le_refl _) (by simp) ?_; (case hd => rfl); (case hg => rfl); (case hr => first | (go_simp; done) | (go_simp; rfl)); (case hp => exact (Reps.c3 (show Kd.M k51 _ _ _ x [.int .i64 x.f0, .int .i64 x.f1, .int .i64 x.f2] from k51_mkM _ _ _ x) (Reps.none _ _)))
          intro b3 d4 ho hb hg_ hn_
          have b8 := Aside0.mk (Kd.R_lower (base' := V.heap.size) (Kd.R_new' ho (fun k hk => Kd.R_lt HOa.out k hk)) a5.out.size)
          have HOa' := Aside0.mk (Kd.R_below HOa.out hb)
          clear HOa
          have HOa := HOa'
          clear HOa'
          have a2 := Aside0.mk (below_step a5.out hb)
          have hBf := Aside0.mk hb
          clear ho hb hg_ hn_
          refine hK.out _ _ ⟨later hBf.out (hHeld.1), later hBf.out (hHeld.2.1), later hBf.out (hHeld.2.2)⟩ (fun hHeld => ?_)
          clear hK K
          refine norm_ (a' := ?_) ?_ ?_
          rotate_left
          ·show Act.put _ (some 58) _ = _
           simp only [Act.put, List.setIfInBounds_toArray, List.set_cons_zero, List.set_cons_succ, i64_w, i32_w]
           rfl
          refine one_ (i := 4) (N := some 56) #[true, true, true, true, true, true, true, false, true, false, false] rfl rfl (by kernel_rfl) (by decide) (fun K hK => ?_)
          refine Kd.R_append_rows_step k51 (w0 := V) V.heap.size (by rfl) (.tmp 52) (.tmp 55) 23 51 (.agg #[(.int .i64 0), (.int .i64 0), (.int .i64 0)]) 24 rfl Try.underlying23 info51 rfl (by decide) (by omega) a8 [] (o.take t) Ao _ _ (fun _ => True) (fun _ => False) rfl rfl HOa.out (Kd.C_below HCt.out (below_then a3.out a3.out.size a2.out)) (fun _ _ h => h) (fun _ h => h.elim) (fun _ _ => trivial) a2.out a2.out.size (by have := HTL.out; have := HDL.out; simp only [List.length_nil, List.length_append, List.length_cons]; omega) ?_
          intro a4 d1 ho hb hg hat
          have a9 := Aside0.mk (show Kd.R k51 51 d1 V.heap.size (fun _ => True) a4 (o.take t) from ho)
          have a6 := Aside0.mk (Kd.R_mono (Kd.R_grown b8.out hg (fun _ hk => hk.2)) (fun _ _ => trivial))
          have a1 := Aside0.mk hb
          clear ho hb hg hat
          refine hK.out _ _ ⟨later a1.out ((blk_cell a0.out 0).trans rfl), later a1.out ((blk_cell a0.out 1).trans rfl), later a1.out ((blk_cell a0.out 2).trans rfl)⟩ (fun hHeld => ?_)
          clear hK K
          refine norm_ (a' := ?_) ?_ ?_
          rotate_left
          ·show Act.put _ (some 56) _ = _
           simp only [Act.put, List.setIfInBounds_toArray, List.set_cons_zero, List.set_cons_succ, i64_w, i32_w]
           rfl
          exact norm_ (by simp only [putAll, Act.put, List.setIfInBounds_toArray, List.set_cons_zero, List.set_cons_succ]) (hCont (a8, a4, b3) _ ⟨hHeld, a9.out, a6.out, a1.out⟩)
        ·skip
         refine Kd.R_lit_step k51 _ 51 ?hg (N := 58) ?hd (xs := ([x] : List Ed)) (inner := [.int .i64 x.f0, .int .i64 x.f1, .int .i64 x.f2]) (ok := fun _ => True) (okp := fun _ => True) ?hr ?hp (fun _ hk => hk) trivial (Below.refl _ _) (Nat.le_refl _) (by simp) ?_; (case hd => rfl); (case hg => rfl); (case hr => first | (go_simp; done) | (go_simp; rfl)); (case hp => exact (Reps.c3 (show Kd.M k51 _ _ _ x [.int .i64 x.f0, .int .i64 x.f1, .int .i64 x.f2] from k51_mkM _ _ _ x) (Reps.none _ _)))
         intro b3 h5 ho hb hg_ hn_
         have f8 := Aside0.mk (Kd.R_lower (base' := V.heap.size) ho HV.out.size)
         have a5 := Aside0.mk (below_step HV.out hb)
         have hBf := Aside0.mk hb
         clear ho hb hg_ hn_
         refine hK.out _ _ ⟨later hBf.out (hHeld.1), later hBf.out (hHeld.2.1), later hBf.out (hHeld.2.2)⟩ (fun hHeld => ?_)
         clear hK K
         refine norm_ (a' := ?_) ?_ ?_
         rotate_left
         ·show Act.put _ (some 58) _ = _
          simp only [Act.put, List.setIfInBounds_toArray, List.set_cons_zero, List.set_cons_succ, i64_w, i32_w]
          rfl
         refine one_ (i := 0) (N := some 52) #[true, true, true, true, false, true, true, false, true, false, false] rfl rfl (by kernel_rfl) (by decide) (fun K hK => ?_)
         refine Kd.R_lit_step k51 _ 51 ?hg (N := 52) ?hd (xs := ([] : List Ed)) (inner := []) (ok := fun _ => True) (okp := fun _ => True) ?hr ?hp (fun _ hk => hk) trivial (Below.refl _ _) (Nat.le_refl _) (by simp) ?_; (case hd => rfl); (case hg => rfl); (case hr => first | (go_simp; done) | (go_simp; rfl)); (case hp => exact (Reps.none _ _))
         intro a8 d4 ho hb hg_ hn_
         have HOa := Aside0.mk (Kd.R_lower (base' := V.heap.size) ho a5.out.size)
         have b8 := Aside0.mk (Kd.R_elder' f8.out (Kd.R_base ho) hb)
         have a2 := Aside0.mk (below_step a5.out hb)
         have hBf := Aside0.mk hb
         clear ho hb hg_ hn_
         refine hK.out _ _ ⟨later hBf.out (hHeld.1), later hBf.out (hHeld.2.1), later hBf.out (hHeld.2.2)⟩ (fun hHeld => ?_)
         clear hK K
         refine norm_ (a' := ?_) ?_ ?_
         rotate_left
         ·show Act.put _ (some 52) _ = _
          simp only [Act.put, List.setIfInBounds_toArray, List.set_cons_zero, List.set_cons_succ, i64_w, i32_w]
          rfl
         refine one_ (i := 4) (N := some 56) #[true, true, true, true, true, true, true, false, true, false, false] rfl rfl (by kernel_rfl) (by decide) (fun K hK => ?_)
         refine Kd.R_append_rows_step k51 (w0 := V) V.heap.size (by rfl) (.tmp 52) (.tmp 55) 23 51 (.agg #[(.int .i64 0), (.int .i64 0), (.int .i64 0)]) 24 rfl Try.underlying23 info51 rfl (by decide) (by omega) a8 [] (o.take t) Ao _ _ (fun _ => True) (fun _ => False) rfl rfl HOa.out (Kd.C_below HCt.out (below_then a3.out a3.out.size a2.out)) (fun _ _ h => h) (fun _ h => h.elim) (fun _ _ => trivial) a2.out a2.out.size (by have := HTL.out; have := HDL.out; simp only [List.length_nil, List.length_append, List.length_cons]; omega) ?_
         intro a4 d1 ho hb hg hat
         have a9 := Aside0.mk (show Kd.R k51 51 d1 V.heap.size (fun _ => True) a4 (o.take t) from ho)
         have a6 := Aside0.mk (Kd.R_mono (Kd.R_grown b8.out hg (fun _ hk => hk.2)) (fun _ _ => trivial))
         have a1 := Aside0.mk hb
         clear ho hb hg hat
         refine hK.out _ _ ⟨later a1.out ((blk_cell a0.out 0).trans rfl), later a1.out ((blk_cell a0.out 1).trans rfl), later a1.out ((blk_cell a0.out 2).trans rfl)⟩ (fun hHeld => ?_)
         clear hK K
         refine norm_ (a' := ?_) ?_ ?_
         rotate_left
         ·show Act.put _ (some 56) _ = _
          simp only [Act.put, List.setIfInBounds_toArray, List.set_cons_zero, List.set_cons_succ, i64_w, i32_w]
          rfl
         exact norm_ (by simp only [putAll, Act.put, List.setIfInBounds_toArray, List.set_cons_zero, List.set_cons_succ]) (hCont (a8, a4, b3) _ ⟨hHeld, a9.out, a6.out, a1.out⟩)
       rintro ⟨i5, a4, b3⟩ w5 ⟨hHeld, d6, b7, e8⟩
       have f6 := Aside0.mk d6
       obtain ⟨h3, i7, g4⟩ := Kd.R_slice b7
       subst g4
       have f7 := Aside0.mk ((Kd.R_reads' b7).2.2)
       have e7 := Aside0.mk e8
       clear d6 b7 e8
       refine norm_ (a' := ?_) ?_ ?_
       rotate_left
       ·simp only [putAll, Act.put, List.setIfInBounds_toArray, List.set_cons_zero, List.set_cons_succ]
        rfl
       refine one_ (i := 7) (N := some 59) #[true, true, true, true, true, true, true, true, true, false, false] rfl rfl (by kernel_rfl) (by decide) (fun K hK => ?_)
       refine Kd.R_append_rows_step k51 (w0 := V) V.heap.size (by rfl) (.tmp 56) (.tmp 58) 23 51 (.agg #[(.int .i64 0), (.int .i64 0), (.int .i64 0)]) 24 rfl Try.underlying23 info51 rfl (by decide) (by omega) a4 (o.take t) [x] h3 _ _ (fun _ => True) (fun _ => False) rfl rfl f6.out f7.out (fun _ _ h => h) (fun _ h => h.elim) (fun _ _ => trivial) e7.out e7.out.size (by have := HTL.out; have := HDL.out; simp only [List.length_nil, List.length_append, List.length_cons]; omega) ?_
       intro g9 w6 ho hb hg hat
       have f3 := Aside0.mk ho
       have b4 := Aside0.mk hb
       clear ho hb hg hat
       refine hK.out _ _ ⟨later b4.out ((blk_cell a0.out 0).trans rfl), later b4.out ((blk_cell a0.out 1).trans rfl), later b4.out ((blk_cell a0.out 2).trans rfl)⟩ (fun hHeld => ?_)
       clear hK K
       refine norm_ (a' := ?_) ?_ ?_
       rotate_left
       ·show Act.put _ (some 59) _ = _
        simp only [Act.put, List.setIfInBounds_toArray, List.set_cons_zero, List.set_cons_succ, i64_w, i32_w]
        rfl
       refine one_ (i := 9) (N := some 61) #[true, true, true, true, true, true, true, true, true, true, false] rfl rfl (by kernel_rfl) (by decide) (fun K hK => ?_)
       refine Kd.R_append_rows_step k51 (w0 := V) V.heap.size (by rfl) (.tmp 59) (.tmp 60) 23 51 (.agg #[(.int .i64 0), (.int .i64 0), (.int .i64 0)]) 24 rfl Try.underlying23 info51 rfl (by decide) (by omega) g9 (o.take t ++ [x]) (o.drop t) e6 _ _ (fun _ => True) (fun _ => False) rfl rfl f3.out (Kd.C_below (show Kd.C k51 V e6 (o.length - t) (o.drop t) by have := (Kd.R_reads' e4.out).2.2; rwa [List.length_drop] at this) b4.out) (fun _ _ h => h) (fun _ h => h.elim) (fun _ _ => trivial) b4.out b4.out.size (by have := HTL.out; have := HDL.out; simp only [List.length_nil, List.length_append, List.length_cons]; omega) ?_
       intro i6 w7 ho hb hg hat
       have g3 := Aside0.mk ho
       have d0 := Aside0.mk hb
       clear ho hb hg hat
       refine hK.out _ _ ⟨later d0.out ((blk_cell a0.out 0).trans rfl), later d0.out ((blk_cell a0.out 1).trans rfl), later d0.out ((blk_cell a0.out 2).trans rfl)⟩ (fun hHeld => ?_)
       clear hK K
       refine norm_ (a' := ?_) ?_ ?_
       rotate_left
       ·show Act.put _ (some 61) _ = _
        simp only [Act.put, List.setIfInBounds_toArray, List.set_cons_zero, List.set_cons_succ, i64_w, i32_w]
        rfl
       refine pure_ (i := 10) (N := some 3) (v := ?_) (a' := ?_) #[true, true, true, true, true, true, true, true, true, true, true] rfl rfl (by kernel_rfl) (fun _ _ _ h => h) (Or.inl ⟨by rfl, ?_⟩) ?_ ?_
       rotate_left
       ·intro w'
        go_simp
        with_reducible rfl
       rotate_left
       ·simp only [Act.put, List.setIfInBounds_toArray, List.set_cons_zero, List.set_cons_succ, i64_w, i32_w]
        rfl
       refine done_ (by kernel_rfl) ?_
       have HL := Aside0.mk (show (o.take t ++ [x]) ++ o.drop t = insE x o by rw [HIns.out]; simp)
       have HF := Aside0.mk (below_then a3.out a3.out.size d0.out)
       have h8 : w.heap.size ≤ V.heap.size := Nat.le_trans a7.out.size a3.out.size
       go_wp2
       go_roundw
       case rel => exact ⟨k + 1, by omega, by go_num, ⟨by rw [HN.out, ← HL.out]; exact Kd.R_lower g3.out h8⟩, ⟨HX.out.below HF.out⟩, ⟨blk_below HY.out HF.out⟩, ⟨below_then a7.out a7.out.size HF.out⟩⟩
       case measure => simp [intOf]; omega
  ·have ek : es.take k = es := List.take_of_length_le (by omega)
   rw [ek] at HO ⊢
   clear ek
   obtain ⟨o, ho⟩ : ∃ o, o = sortE es := ⟨_, rfl⟩
   rw [← ho] at HO ⊢
   have HOE := Aside0.mk ho
   clear ho
   have b0 := HX.out.c0
   have b1 := HX.out.c1
   have y0 := (blk_cell HY.out 0).trans rfl
   have y1 := (blk_cell HY.out 1).trans rfl
   have y2 := (blk_cell HY.out 2).trans rfl
   have q0 := blk_frozen HY.out 0
   have q1 := blk_frozen HY.out 1
   have q2 := blk_frozen HY.out 2
   go_wp2
   have i3 := blk_put HY.out 0 (.int .i64 n) rfl
   have h9 := blk_put i3 1 (.slice A1 m1 c1) rfl
   refine bodyPost_ret (results_cell_row rfl _ _ (w.heap.size + 1) 25 #[.int .i64 n, .slice A1 m1 c1, .slice Ao o.length co] (0, 0) _ rfl (blk_put h9 2 (.slice Ao o.length co) rfl) Try.underlying25 rfl (by kernel_rfl)) rfl ?_
   exact ⟨_, rfl, by rw [← HOE.out]; exact Kd.R_set (Kd.R_set (Kd.R_set HO.out HY.out (by decide) 0 _) i3 (by decide) 1 _) h9 (by decide) 2 _, below_set (below_set (below_set a7.out (by omega)) (by omega)) (by omega)⟩
end Go.Proofs.Ythaaockbapbooaa.H
namespace Go.Proofs.Ythaaockbapbooaa.Pr
open Go.RowKit Go.Proofs.YthaaockbapbooaaW.PrintWords Go.Proofs.YthaaockbapbooaaW.PrintLast Go.Proofs.YthaaockbapbooaaW.PrintMore
attribute [local go_sem] max2_int min2_int max_two min_two max_three min_three max_four min_four
set_option linter.unusedVariables false
set_option linter.unusedSimpArgs false
structure S25 where
  f0 : Int
  f1 : (List ByteArray)
  f2 : (List S51)
def z25 : S25 := ⟨(0 : Int), ([] : List ByteArray), ([] : List S51)⟩
end Go.Proofs.Ythaaockbapbooaa.Pr
set_option linter.unusedVariables false
set_option linter.unusedSimpArgs false
namespace Go.Proofs.Ythaaockbapbooaa.H
open Go.RowKit Go.Proofs.Ythaaockbapbooaa.Pr Go.Proofs.YthaaockbapbooaaW.PrintWords Go.Proofs.Ythaaockbapbooaa.Sem
theorem Ev.pos {α : Type} {c : Prop} [Decidable c] {a b : Nat → Option α} {r : α} (h : c) (e : Ev a r) : Ev (fun k => if c then a k else b k) r := by
 simp only [if_pos h]
 exact e
theorem Ev.neg {α : Type} {c : Prop} [Decidable c] {a b : Nat → Option α} {r : α} (h : ¬ c) (e : Ev b r) : Ev (fun k => if c then a k else b k) r := by
 simp only [if_neg h]
 exact e
theorem w1n {k : Nat} (h1 : (k : Int) < 4611686018427387904) : wrap64 ((k : Int) + 1) = ((k + 1 : Nat) : Int) := by unfold wrap64; omega
end Go.Proofs.Ythaaockbapbooaa.H
set_option linter.unusedVariables false
set_option linter.unusedSimpArgs false
namespace Go.Proofs.Ythaaockbapbooaa.H
open Go.RowKit Go.Proofs.Ythaaockbapbooaa.Pr Go.Proofs.YthaaockbapbooaaW.PrintWords Go.Proofs.Ythaaockbapbooaa.Sem Go.Proofs.YthaaockbapbooaaW.PrintLast
abbrev QU (w : World) (base : Nat) (v : Value) (xs : List Int) : Prop := Kd.Q (Kd.int .i64) 3 w base (fun _ => True) v xs
def placesTo (t : List Bool) (k : Nat) : List Int := ((List.range k).filter fun i => t.getD i false).map fun i => ((i : Nat) : Int)
theorem placesTo_all {t : List Bool} {n : Nat} (h : t.length = n) : placesTo t n = placesT t := by unfold placesTo placesT; rw [h]
theorem placesTo_succ (t : List Bool) (k : Nat) : placesTo t (k + 1) = placesTo t k ++ (if t.getD k false then [(k : Int)] else []) := by
 unfold placesTo
 rw [List.range_succ, List.filter_append, List.map_append]
 congr 1
 cases h : t.getD k false with
 | true => simp only [List.filter_cons, h, if_true, List.filter_nil, List.map_cons, List.map_nil]
 | false => simp only [List.filter_cons, h, Bool.false_eq_true, if_false, List.filter_nil, List.map_nil]
theorem placesTo_len (t : List Bool) (k : Nat) : (placesTo t k).length ≤ k := by
 unfold placesTo
 rw [List.length_map]
 have := List.length_filter_le (fun i => t.getD i false) (List.range k)
 simpa using this
structure RS (w wr : World) (n : Nat) (v1 v2 : Value) (g cT : Nat) (T : List Bool) (q : Value) (L : List Int) : Prop where
  box : BoxL wr w.heap.size n v1 v2
  met : Kd.R Kd.bool 4 wr w.heap.size (fun _ => True) (.slice (some ⟨g, 0, none⟩) n cT) T
  que : QU wr w.heap.size q L
  below : Below w.heap.size w wr
theorem RS.on {w wr wr' : World} {n : Nat} {v1 v2 : Value} {g cT : Nat} {T : List Bool} {q : Value} {L : List Int} (h : RS w wr n v1 v2 g cT T q L) (hb : Below wr.heap.size wr wr') : RS w wr' n v1 v2 g cT T q L :=
 ⟨blk_below h.box hb, Kd.R_below h.met hb, Kd.Q_below h.que hb, below_then h.below h.below.size hb⟩
theorem RS.set {w wr : World} {n : Nat} {v1 v2 : Value} {g cT : Nat} {T : List Bool} {q : Value} {L : List Int} (h : RS w wr n v1 v2 g cT T q L) (j : Nat) : RS w (wr.setCell ⟨g, j, none⟩ (.bool true)) n v1 v2 g cT (T.set j true) q L := by
 have hp := Kd.R_putg h.met (j : Int) true
 rw [Int.toNat_natCast] at hp
 exact ⟨blk_grown h.box hp.2 (Kd.R_ne h.met h.box (by decide)), hp.1, Kd.Q_over' h.que (Kd.R_typed h.met) (by decide) hp.2, h.below.grown hp.2 h.below.size (fun k hk => Kd.R_base h.met k hk)⟩
theorem RS.app {w wr wr' : World} {n : Nat} {v1 v2 : Value} {g cT : Nat} {T : List Bool} {q q' : Value} {L L' : List Int} (h : RS w wr n v1 v2 g cT T q L) (hq : QU wr' w.heap.size q' L') (hb : Below w.heap.size w wr') (hg : wr.grownBy wr' q.ownBlock) : RS w wr' n v1 v2 g cT T q' L' :=
 ⟨blk_grown h.box hg (Kd.Q_ne h.que h.box (by decide)), Kd.R_over' h.met (Kd.Q_typed h.que) (by decide) hg, hq, hb⟩
theorem RS.fresh {w wr : World} {n : Nat} {v1 v2 : Value} {g cT : Nat} {T : List Bool} {q : Value} {L : List Int} (h : RS w wr n v1 v2 g cT T q L) (m : Nat) (x y z : Value) (t : TypeId) : ((wr.alloc (.cells #[x, y, z] t)).setCell ⟨g, m, none⟩ (.bool true)).cell? ⟨wr.heap.size, 2, none⟩ = some z := by
 have h2 := h.on (below_alloc (Below.refl wr.heap.size wr) (.cells #[x, y, z] t))
 have hp := (Kd.R_putg h2.met (m : Int) true).2
 rw [Int.toNat_natCast] at hp
 have hlt : g < wr.heap.size := Kd.R_lt h.met g rfl
 exact (blk_cell (blk_grown (blk_new wr (.cells #[x, y, z] t)) hp (by intro e; simp [Value.ownBlock] at e; omega)) 2).trans rfl
set_option maxHeartbeats 16000000 in
set_option maxRecDepth 100000 in
theorem reached_yes (n v : Nat) (ls : List ByteArray) (es : List Ed) (A1 A2 : Option Addr) (c1 c2 : Nat) (w : World) (hr1 : Kd.C Kd.string w A1 ls.length ls) (hr2 : Kd.C k51 w A2 es.length es) (hc2 : es.length ≤ c2) (hm : mayR n ls es = true) (hv : v < n) :
  Calls Try.prog 34 #[.agg #[.int .i64 (n : Int), .slice A1 ls.length c1, .slice A2 es.length c2], .int .i64 (v : Int)] w fun e w' => ∃ v0 : Value, e = .returned v0 ∧ Kd.R (Kd.int .i64) 3 w' w.heap.size (fun _ => True) v0 (reachL n es (v : Int)) ∧ Below w.heap.size w w' := by
 have HB := Aside0.mk (Below.refl w.heap.size w)
 have HC : ∀ W, Below w.heap.size w W → Calls Try.prog 27 #[.agg #[.int .i64 (n : Int), .slice A1 ls.length c1, .slice A2 es.length c2]] W fun e w' => e = .returned (.int .i64 0) ∧ Below W.heap.size W w' := fun W hW =>
  check_yes n ls es A1 A2 c1 c2 W (Kd.C_below hr1 hW) (Kd.C_below hr2 hW) (by rw [may_same]; exact hm)
 have HC' := Lib.hid HC
 have b6 := Aside0.mk hr2
 have HL := Aside0.mk hc2
 have HES := Aside0.mk (lt_in hm)
 have HFS := Aside0.mk (lt_from hm)
 have HEL := Aside0.mk (lt_len hm)
 have hn := lt_n hm
 have HT := Aside0.mk (reach_tells (n := n) (es := es) (v := (v : Int)) (fun e he => by have := lt_in hm e he; omega) (by omega) (by omega))
 have HS0 := Aside0.mk (RI.start (es := es) hv (lt_in hm))
 have v0 : (0 : Int) ≤ (v : Int) := by omega
 have v1 : (v : Int) < (n : Int) := by omega
 have n0 : (0 : Int) ≤ (n : Int) := by omega
 clear HC hr1 hr2 hm hc2
 go_enter Try.func34, Try.ntmps34
 go_wp2_with fail
 refine (HC'.out _ (below_alloc HB.out _)).mono ?_
 rintro e w1 ⟨rfl, hB⟩
 have a3 := Aside0.mk (below_then (below_alloc HB.out _) (by simp) hB)
 have HX := Aside0.mk (show BoxL w1 w.heap.size n (.slice A1 ls.length c1) (.slice A2 es.length c2) from blk_below (blk_new w _) hB)
 have b0 := HX.out.c0
 clear hB
 go_upto_region 5 with (((with_reducible refine gate_dst (N := 27) rfl ?_); refine Kd.R_make Kd.bool _ 4 rfl (N := 27) rfl 55 _ _ rfl (n : Int) rfl rfl Try.underlying55 (.bool false) 1 info4 rfl (by decide) (by omega) false (ok := fun _ => True) (okp := fun _ => True) rfl (fun _ hk => hk) trivial (by omega) (by rw [Int.toNat_natCast]; omega) (Below.refl _ _) (Nat.le_refl _) ?_; intro v2 w2 ho hb hg hnew; clear hg hnew; rw [Int.toNat_natCast] at ho; obtain ⟨g, cT, b4, _⟩ := Kd.R_form ho (by rw [List.length_replicate]; omega); rw [List.length_replicate] at b4; subst b4; have HO := Aside0.mk ho; have a6 := Aside0.mk hb; obtain ⟨b2, b3⟩ := Kd.R_celln false HO.out (v : Int) v0 v1; rw [Int.toNat_natCast] at b2 b3; clear ho hb))
 have b1 := Aside0.mk (blk_below HX.out a6.out : BoxL w2 w.heap.size n (.slice A1 ls.length c1) (.slice A2 es.length c2))
 have HS1 := Aside0.mk ((RS.mk b1.out (Kd.R_lower HO.out a3.out.size) (Kd.Q_nil _ _ _ _ _) (below_then a3.out a3.out.size a6.out) : RS w w2 n (.slice A1 ls.length c1) (.slice A2 es.length c2) g cT (List.replicate n false) (.slice none 0 0) []).set v)
 generalize w2.setCell ⟨g, v, none⟩ (.bool true) = w3 at HS1 ⊢
 clear HX b1 a3 a6 HO b2 b3 b0
 go_wp2_with (((with_reducible refine gate_dst (N := 32) rfl ?_); refine Kd.R_lit (Kd.int .i64) _ 3 ?hg (N := 32) ?hd (xs := [(v : Int)]) (inner := [.int .i64 (v : Int)]) (ok := fun _ => True) (okp := fun _ => True) ?hr ?hp (fun _ hk => hk) trivial (Below.refl _ _) (Nat.le_refl _) (by simp) ?_; (case hd => rfl); (case hg => rfl); (case hr => first | (go_simp; done) | (go_simp; rfl)); (case hp => exact Kd.reps_scalar (enc := Value.int .i64) [(v : Int)]); intro q4 w4 ho hb hg_ hnew_; clear hg_ hnew_; have b5 := Aside0.mk (Kd.Q_of_R ho); have HS2 := Aside0.mk (HS1.out.on hb); have a0 := Aside0.mk HS1.out.below.size; clear ho hb))
 have HS := Aside0.mk (RS.mk HS2.out.box HS2.out.met (Kd.Q_lower b5.out a0.out) HS2.out.below : RS w w4 n (.slice A1 ls.length c1) (.slice A2 es.length c2) g cT ((List.replicate n false).set v true) q4 [(v : Int)])
 clear HS1 HS2 b5 a0
 have a9 : 2 * unmet ((List.replicate n false).set v true) + 1 ≤ 2 * n + 1 := by
  have := unmet_le ((List.replicate n false).set v true)
  rw [List.length_set, List.length_replicate] at this
  omega
 go_loopg [6] (2 * n + 1) (fun q s wr => ∃ (T : List Bool) (L : List Int), Aside0 (2 * unmet T + L.length ≤ q ∧ q ≤ 2 * n + 1) ∧ Aside0 (RI n es v T L) ∧ Aside0 (RS w wr n (.slice A1 ls.length c1) (.slice A2 es.length c2) g cT T s L))
 case atStart => exact ⟨_, [(v : Int)], ⟨a9, Nat.le_refl _⟩, HS0, HS⟩
 case round =>
  clear HS0 HS a9
  obtain ⟨T, L, HM, HI, HS⟩ := hrel
  obtain ⟨A, c, hs, hcap, hC⟩ := Kd.Q_reads HS.out.que
  subst hs
  cases L with
  | nil =>
   have HFin := Aside0.mk (show placesT T = reachL n es (v : Int) from by unfold reachL; rw [← HI.out.fin.eq HT.out])
   have HTl := Aside0.mk HI.out.len
   have a2 := Aside0.mk HS.out.met
   have a1 := Aside0.mk HS.out.below
   clear hcap hC HS HI HM
   go_wp2
   go_loopw [9, 66] (fun s i wr' => ∃ k : Nat, k ≤ n ∧ i = .int .i64 k ∧ Aside0 (Kd.R (Kd.int .i64) 3 wr' w.heap.size (fun _ => True) s (placesTo T k)) ∧ Aside0 (Kd.R Kd.bool 4 wr' w.heap.size (fun _ => True) (.slice (some ⟨g, 0, none⟩) n cT) T) ∧ Aside0 (Below w.heap.size w wr')) (fun _ i _ => n - (intOf i).toNat)
   case atStart => exact ⟨0, Nat.zero_le _, rfl, ⟨Kd.R_nil _ _ _ _ _⟩, a2, a1⟩
   case round =>
    clear a2 a1
    obtain ⟨k, hk, rfl, HA, a2, a1⟩ := hrel
    by_cases hlt : k < n
    ·have k0 : (0 : Int) ≤ (k : Int) := by omega
     have k1 : (k : Int) < (n : Int) := by omega
     obtain ⟨hm, _⟩ := Kd.R_celln false a2.out (k : Int) k0 k1
     rw [Int.toNat_natCast] at hm
     obtain ⟨b, hb⟩ : ∃ b, b = T.getD k false := ⟨_, rfl⟩
     have hm' : wr.cell? ⟨g, k, none⟩ = some (.bool b) := by rw [hb]; exact hm
     have HN := Aside0.mk (show placesTo T (k + 1) = placesTo T k ++ (if b then [(k : Int)] else []) from by rw [hb]; exact placesTo_succ T k)
     obtain ⟨L, hL⟩ : ∃ L, L = placesTo T k := ⟨_, rfl⟩
     have hLl : L.length ≤ k := by rw [hL]; exact placesTo_len T k
     rw [← hL] at HA HN
     clear hm hb hL
     cases b with
     | false =>
      go_wp2
      go_roundw
      case rel => exact ⟨k + 1, by omega, by go_num, ⟨by rw [HN.out]; simpa using HA.out⟩, a2, a1⟩
      case measure => simp [intOf]; omega
     | true =>
      go_wp2_with (at_builtin; refine Kd.R_append (Kd.int .i64) (w0 := w) w.heap.size rfl (.tmp 72) (.tmp 74) 47 3 (.int .i64 0) 8 rfl Try.underlying47 info3 rfl (by decide) (by omega) u9 L (k : Int) [.int .i64 (k : Int)] (fun _ => True) (fun _ => False) rfl rfl rfl (fun _ hk => hk.elim) (fun _ _ => trivial) HA.out a1.out a1.out.size (by omega) ?_; intro v9 w9 ho hb hg hat; have b8 := Aside0.mk ho; have d0 := Aside0.mk hb; have d1 := Aside0.mk (Kd.R_over' a2.out (Kd.R_typed HA.out) (by decide) hg); clear ho hb hg hat)
      go_roundw
      case rel => exact ⟨v9, _, _, .int .i64 ((k + 1 : Nat) : Int), ⟨k + 1, by omega, rfl, ⟨by rw [HN.out]; exact b8.out⟩⟩, rfl, rfl, rfl, by go_num⟩
      case measure => simp [intOf]; omega
    ·have ek : k = n := by omega
     subst ek
     go_wp2
     go_ret
     exact ⟨_, rfl, by rw [← HFin.out, ← placesTo_all HTl.out]; exact HA.out, a1.out⟩
  | cons x R =>
   have hx := HI.out.que x (List.mem_cons_self ..)
   obtain ⟨j, hj⟩ : ∃ j : Nat, x = (j : Int) := ⟨x.toNat, by omega⟩
   subst hj
   obtain ⟨ad, hA, h0⟩ := atI hC 0 (by simp)
   subst hA
   have h0'' : wr.cell? ad = some (.int .i64 (j : Int)) := by
    have e : ad.add 0 = ad := by cases ad; unfold Addr.add; split <;> simp_all
    rw [e] at h0
    exact h0
   have hlen : ((j : Int) :: R).length = R.length + 1 := rfl
   rw [hlen] at hcap
   obtain ⟨O, hO⟩ : ∃ O, O = outN es (j : Int) := ⟨_, rfl⟩
   have HO := Aside0.mk hO
   have HOm := Aside0.mk (show ∀ k, k < O.length → O.getD k z51 ∈ es ∧ (O.getD k z51).f0 = (j : Int) from fun k hk => by
    have : O.getD k z51 ∈ O := by rw [getD_get hk]; exact List.getElem_mem hk
    have h2 : O.getD k z51 ∈ outN es (j : Int) := by rw [← hO]; exact this
    unfold outN at h2
    rw [List.mem_filter] at h2
    exact ⟨h2.1, of_decide_eq_true h2.2⟩)
   have hOl : O.length ≤ 1000000 := by rw [hO]; exact Nat.le_trans (List.length_filter_le _ _) HEL.out
   rw [hlen] at HS ⊢
   clear hC h0 hx hO hlen
   go_wp2_with fail
   refine start_ (n := 7) (S := fun w' => w'.cell? ⟨w.heap.size, 0, none⟩ = some (.int .i64 (n : Int)) ∧ w'.cell? ⟨w.heap.size, 1, none⟩ = some (.slice A1 ls.length c1) ∧ w'.cell? ⟨w.heap.size, 2, none⟩ = some (.slice A2 es.length c2) ∧ w'.cell? ad = some (.int .i64 (j : Int))) (ds := []) #[false, false, false, false, false, false, false] (by kernel_rfl) rfl rfl ⟨HS.out.box.c0, HS.out.box.c1, HS.out.box.c2, h0''⟩ (fun hHeld => ?_)
   have HV := Aside0.mk (HS.out.on (below_drew1 (Below.refl wr.heap.size wr)))
   generalize wr.drew = V at HV hHeld ⊢
   clear h0''
   refine pure_ (i := 1) (N := some 39) (v := ?_) (a' := ?_) #[false, true, false, false, false, false, false] rfl rfl (by kernel_rfl) (fun _ _ _ h => h) (Or.inl ⟨by rfl, ?_⟩) ?_ ?_
   rotate_left
   ·intro w'
    go_simp
    with_reducible rfl
   rotate_left
   ·simp only [Act.put, List.setIfInBounds_toArray, List.set_cons_zero, List.set_cons_succ, i64_w, i32_w]
    rfl
   refine pure_ (i := 2) (N := some 40) (v := ?_) (a' := ?_) #[false, true, true, false, false, false, false] rfl rfl (by kernel_rfl) (fun _ _ _ h => h) (Or.inl ⟨by rfl, ?_⟩) ?_ ?_
   rotate_left
   ·intro w'
    go_simp
    with_reducible rfl
   rotate_left
   ·simp only [Act.put, List.setIfInBounds_toArray, List.set_cons_zero, List.set_cons_succ, i64_w, i32_w]
    rfl
   refine pure_ (i := 6) (N := some 44) (v := ?_) (a' := ?_) #[false, true, true, false, false, false, true] rfl rfl (by kernel_rfl) (fun _ _ _ h => h) (Or.inl ⟨by rfl, ?_⟩) ?_ ?_
   rotate_left
   ·intro w'
    go_simp
    with_reducible rfl
   rotate_left
   ·simp only [Act.put, List.setIfInBounds_toArray, List.set_cons_zero, List.set_cons_succ, i64_w, i32_w]
    rfl
   refine take_ (i := 0) (N := some 38) (v := ?_) (a' := ?_) #[true, true, true, false, false, false, true] rfl rfl (by kernel_rfl) (fun _ _ _ h => h) (Or.inl ⟨by rfl, ?_⟩) hHeld ?_ ?_
   rotate_left
   ·rintro w' ⟨s0, s1, s2, s3⟩
    go_simp
    with_reducible rfl
   rotate_left
   ·simp only [Act.put, List.setIfInBounds_toArray, List.set_cons_zero, List.set_cons_succ, i64_w, i32_w]
    rfl
   refine take_ (i := 3) (N := some 41) (v := ?_) (a' := ?_) #[true, true, true, true, false, false, true] rfl rfl (by kernel_rfl) (fun _ _ _ h => h) (Or.inl ⟨by rfl, ?_⟩) hHeld ?_ ?_
   rotate_left
   ·rintro w' ⟨s0, s1, s2, s3⟩
    go_simp
    with_reducible rfl
   rotate_left
   ·simp only [Act.put, List.setIfInBounds_toArray, List.set_cons_zero, List.set_cons_succ, i64_w, i32_w]
    rfl
   refine one_ (i := 4) (N := some 42) #[true, true, true, true, true, false, true] rfl rfl (by kernel_rfl) (by decide) (fun K hK => ?_)
   refine goes_ Try.func56 (by kernel_rfl) rfl #[.agg #[.int .i64 (n : Int), .slice A1 ls.length c1, .slice A2 es.length c2], .int .i64 (j : Int)] (by rfl) rfl rfl (by simp only [List.map_toArray, List.map_cons, List.map_nil]; rfl) ?_
   refine (out_any n ls es A1 A2 c1 c2 (j : Int) w _ HV.out.below b6.out HL.out HEL.out HFS.out).mono ?_
   rw [← HO.out]
   rintro e w3 ⟨Ao, co, rfl, hcl, hCO, a4⟩
   refine ⟨_, rfl, ?_⟩
   have a0 := Aside0.mk a4
   have HS3 := Aside0.mk (HV.out.on a4)
   have HCO := Aside0.mk hCO
   clear a4 hCO hcl
   refine hK.out _ _ ⟨later a0.out hHeld.1, later a0.out hHeld.2.1, later a0.out hHeld.2.2.1, later a0.out hHeld.2.2.2⟩ (fun hHeld => ?_)
   clear hK K
   refine norm_ (a' := ?_) ?_ ?_
   rotate_left
   ·show Act.put _ (some 42) _ = _
    simp only [Act.put, List.setIfInBounds_toArray, List.set_cons_zero, List.set_cons_succ, i64_w, i32_w]
    rfl
   refine pure_ (i := 5) (N := some 43) (v := ?_) (a' := ?_) #[true, true, true, true, true, true, true] rfl rfl (by kernel_rfl) (fun _ _ _ h => h) (Or.inl ⟨by rfl, ?_⟩) ?_ ?_
   rotate_left
   ·intro w'
    go_simp
    with_reducible rfl
   rotate_left
   ·simp only [Act.put, List.setIfInBounds_toArray, List.set_cons_zero, List.set_cons_succ, i64_w, i32_w]
    rfl
   refine done_ (by kernel_rfl) ?_
   have a5 := HM.out
   rw [List.length_cons] at a5
   have a8 := Aside0.mk a5
   clear HS HV HM a5
   go_wp2
   go_loopw [6, 44] (fun s i wr' => ∃ (T' : List Bool) (R' : List Int) (k : Nat), k ≤ O.length ∧ i = .int .i64 k ∧ Aside0 (RI n es v T' ((j : Int) :: R')) ∧ Aside0 (2 * unmet T' + R'.length ≤ 2 * unmet T + R.length) ∧ Aside0 (∀ t, t < k → T'.getD (O.getD t z51).f2.toNat false = true) ∧ Aside0 (RS w wr' n (.slice A1 ls.length c1) (.slice A2 es.length c2) g cT T' s ((j : Int) :: R'))) (fun _ i _ => O.length - (intOf i).toNat)
   case atStart => exact ⟨T, R, 0, Nat.zero_le _, rfl, HI, ⟨Nat.le_refl _⟩, ⟨fun t ht => by omega⟩, HS3⟩
   case round =>
    clear HI HS3
    obtain ⟨T', R', k, hk, rfl, HI, HU, HD, HS⟩ := hrel
    obtain ⟨Aq, cq, hs, hcap, hCq⟩ := Kd.Q_reads HS.out.que
    subst hs
    have hlq : ((j : Int) :: R').length = R'.length + 1 := rfl
    rw [hlq] at hcap
    by_cases hlt : k < O.length
    ·obtain ⟨ao, hAo, g0, g1, g2⟩ := atE (HCO.out _ HS.out.below) k hlt
     subst hAo
     have hy := HOm.out k hlt
     obtain ⟨y, hyy⟩ : ∃ y, y = O.getD k z51 := ⟨_, rfl⟩
     rw [← hyy] at g0 g1 g2 hy
     have HY := Aside0.mk hyy
     have hyr := HES.out y hy.1
     obtain ⟨m, hm⟩ : ∃ m : Nat, y.f2 = (m : Int) := ⟨y.f2.toNat, by omega⟩
     have m0 : (0 : Int) ≤ (m : Int) := by omega
     have m1 : (m : Int) < (n : Int) := by omega
     have HYm := Aside0.mk hy
     have a7 := Aside0.mk hm
     rw [hm] at g2
     obtain ⟨b, hb⟩ : ∃ b, b = T'.getD m false := ⟨_, rfl⟩
     have mf := fun (o : Obj) => (by
      have := Kd.R_celln false (HS.out.on (below_alloc (Below.refl wr.heap.size wr) o)).met (m : Int) m0 m1
      rw [Int.toNat_natCast] at this
      exact ⟨by rw [hb]; exact this.1, this.2⟩ : (wr.alloc o).cell? ⟨g, m, none⟩ = some (.bool b) ∧ (wr.alloc o).frozen? ⟨g, m, none⟩ = false)
     have mc := fun o => (mf o).1
     have mz := fun o => (mf o).2
     have HBb := Aside0.mk hb
     clear mf hb hyr hy hm hyy hCq hlq
     cases b with
     | true =>
      go_wp2
      go_roundw
      case rel =>
       refine ⟨T', R', k + 1, by omega, by go_num, HI, HU, ⟨fun t ht => ?_⟩, ⟨HS.out.on (below_alloc (Below.refl _ _) _)⟩⟩
       rcases Nat.lt_succ_iff_lt_or_eq.1 ht with h | rfl
       ·exact HD.out t h
       ·rw [← HY.out, a7.out, Int.toNat_natCast]; exact HBb.out.symm
      case measure => simp [intOf]; omega
     | false =>
      go_upto_region 13 with fail
      have HW := Aside0.mk ((HS.out.on (below_alloc (Below.refl wr.heap.size wr) (.cells #[.int .i64 y.f0, .int .i64 y.f1, .int .i64 (m : Int)] 51))).set m)
      have hcell := HS.out.fresh m (.int .i64 y.f0) (.int .i64 y.f1) (.int .i64 (m : Int)) 51
      have hRl : R'.length ≤ 10000 := by have := HU.out; have := a8.out; omega
      have HRl := Aside0.mk hRl
      clear g0 g1 g2 mc mz
      generalize (wr.alloc (.cells #[.int .i64 y.f0, .int .i64 y.f1, .int .i64 (m : Int)] 51)).setCell ⟨g, m, none⟩ (.bool true) = w5 at HW hcell ⊢
      go_wp2_with (at_builtin; refine Kd.Q_append (Kd.int .i64) (w0 := w) w.heap.size rfl (.tmp 58) (.tmp 61) 47 3 (.int .i64 0) 8 rfl Try.underlying47 info3 rfl (by decide) (by omega) (.slice Aq ((j : Int) :: R').length cq) ((j : Int) :: R') (m : Int) [.int .i64 (m : Int)] (fun _ => True) (fun _ => False) rfl rfl rfl (fun _ hk => hk.elim) (fun _ _ => trivial) HW.out.que HW.out.below HW.out.below.size (by simp only [List.length_cons]; omega) ?_; intro v5 w6 hq hb hg hat; have HS6 := Aside0.mk (HW.out.app hq hb hg); clear hq hb hg hat)
      go_roundw
      case rel =>
       have hput := HI.out.put HES.out HYm.out.1 (by rw [HYm.out.2]; exact (HI.out.que (j : Int) (List.mem_cons_self ..)).2.2)
       rw [a7.out, Int.toNat_natCast] at hput
       have hml : m < T'.length := by rw [HI.out.len]; omega
       refine ⟨T'.set m true, R' ++ [(m : Int)], k + 1, by omega, by go_num, ⟨hput⟩, ⟨?_⟩, ⟨fun t ht => ?_⟩, HS6⟩
       ·have := unmet_set T' m hml HBb.out.symm
        have := HU.out
        rw [List.length_append, List.length_singleton]
        omega
       ·rw [getD_set _ _ _ hml]
        rcases Nat.lt_succ_iff_lt_or_eq.1 ht with h | rfl
        ·rw [HD.out t h]; simp
        ·rw [← HY.out, a7.out, Int.toNat_natCast]; simp
      case measure => simp [intOf]; omega
    ·have ek : k = O.length := by omega
     subst ek
     obtain ⟨A', c', HP⟩ : ∃ (A' : Option Addr) (c' : Nat), Aside0 ((∀ W : World, (Instr.slice 47 (.slice Aq (R'.length + 1) cq) (some (.int .i64 1)) none none).run Try.prog W = .ok (.slice A' R'.length c') W) ∧ QU wr w.heap.size (.slice A' R'.length c') R') := by
      obtain ⟨i0, b7, _, hsz, _⟩ := info_parts info3
      have hcut := cut_from (P := Try.prog) 47 3 .i64 Try.underlying47 b7 1 hsz Aq (R'.length + 1) cq 1 (by omega) (by omega)
      have hq := Kd.Q_drop (k := 1) HS.out.que (by simp)
      exact ⟨_, _, ⟨hcut, hq⟩⟩
     have hcut := HP.out.1
     have b9 : ∀ W : World, (Instr.slice 47 (.slice Aq ((j : Int) :: R').length cq) (some (.int .i64 1)) none none).run Try.prog W = .ok (.slice A' R'.length c') W := hcut
     clear hCq
     go_wp2
     go_roundg (2 * unmet T' + R'.length)
     case measure => have := HU.out; have := a8.out; omega
     case rel =>
      refine ⟨T', R', ⟨Nat.le_refl _, by have := HU.out; have := a8.out; omega⟩, ⟨HI.out.pop fun e he hf => ?_⟩, ⟨HS.out.box, HS.out.met, HP.out.2, HS.out.below⟩⟩
      have hmem : e ∈ O := by rw [HO.out]; unfold outN; rw [List.mem_filter]; exact ⟨he, decide_eq_true hf⟩
      obtain ⟨t, ht, rfl⟩ := List.getElem_of_mem hmem
      have := HD.out t ht
      rwa [getD_get ht] at this
theorem reached_no (n : Int) (ls : List ByteArray) (es : List Ed) (A1 A2 : Option Addr) (c1 c2 : Nat) (v : Int) (w : World) (hr1 : Kd.C Kd.string w A1 ls.length ls) (hr2 : Kd.C k51 w A2 es.length es) (hm : mayR n ls es = false) :
  Calls Try.prog 34 #[.agg #[.int .i64 n, .slice A1 ls.length c1, .slice A2 es.length c2], .int .i64 v] w fun e w' => e = .returned (.slice none 0 0) ∧ Below w.heap.size w w' := by
 have HB := Aside0.mk (Below.refl w.heap.size w)
 have HC : ∀ W, Below w.heap.size w W → Calls Try.prog 27 #[.agg #[.int .i64 n, .slice A1 ls.length c1, .slice A2 es.length c2]] W fun e w' => e = .returned (.int .i64 1) ∧ Below W.heap.size W w' := fun W hW =>
  check_no n ls es A1 A2 c1 c2 W (Kd.C_below hr1 hW) (Kd.C_below hr2 hW) (by rw [may_same]; exact hm)
 have HC' := Lib.hid HC
 clear HC hr1 hr2 hm
 go_enter Try.func34, Try.ntmps34
 go_wp2_with fail
 refine (HC'.out _ (below_alloc HB.out _)).mono ?_
 rintro e w1 ⟨rfl, hB⟩
 have HB1 := Aside0.mk (below_then (below_alloc HB.out _) (by simp) hB)
 clear hB
 go_wp2
 go_ret
 exact ⟨rfl, HB1.out⟩
theorem reached_out (n : Int) (ls : List ByteArray) (es : List Ed) (A1 A2 : Option Addr) (c1 c2 : Nat) (v : Int) (w : World) (hr1 : Kd.C Kd.string w A1 ls.length ls) (hr2 : Kd.C k51 w A2 es.length es) (hm : mayR n ls es = true) (hv : v < 0 ∨ ¬ v < 0 ∧ n ≤ v) :
  Calls Try.prog 34 #[.agg #[.int .i64 n, .slice A1 ls.length c1, .slice A2 es.length c2], .int .i64 v] w fun e w' => e = .returned (.slice none 0 0) ∧ Below w.heap.size w w' := by
 have HB := Aside0.mk (Below.refl w.heap.size w)
 have HC : ∀ W, Below w.heap.size w W → Calls Try.prog 27 #[.agg #[.int .i64 n, .slice A1 ls.length c1, .slice A2 es.length c2]] W fun e w' => e = .returned (.int .i64 0) ∧ Below W.heap.size W w' := fun W hW =>
  check_yes n ls es A1 A2 c1 c2 W (Kd.C_below hr1 hW) (Kd.C_below hr2 hW) (by rw [may_same]; exact hm)
 have HC' := Lib.hid HC
 clear HC hr1 hr2 hm
 rcases hv with h | ⟨h, h2⟩
 ·go_enter Try.func34, Try.ntmps34
  go_wp2_with fail
  refine (HC'.out _ (below_alloc HB.out _)).mono ?_
  rintro e w1 ⟨rfl, hB⟩
  have HB1 := Aside0.mk (below_then (below_alloc HB.out _) (by simp) hB)
  clear hB
  go_wp2
  go_ret
  exact ⟨rfl, HB1.out⟩
 ·go_enter Try.func34, Try.ntmps34
  go_wp2_with fail
  refine (HC'.out _ (below_alloc HB.out _)).mono ?_
  rintro e w1 ⟨rfl, hB⟩
  have HB1 := Aside0.mk (below_then (below_alloc HB.out _) (by simp) hB)
  have b0 := (show BoxL w1 w.heap.size n (.slice A1 ls.length c1) (.slice A2 es.length c2) from blk_below (blk_new w _) hB).c0
  clear hB
  go_wp2
  go_ret
  exact ⟨rfl, HB1.out⟩
end Go.Proofs.Ythaaockbapbooaa.H
set_option linter.unusedVariables false
set_option linter.unusedSimpArgs false
namespace Go.Proofs.Ythaaockbapbooaa.Pr
open Go.RowKit Go.Proofs.YthaaockbapbooaaW.PrintWords Go.Proofs.YthaaockbapbooaaW.PrintLast Go.Proofs.YthaaockbapbooaaW.PrintMore
def Pxc.f (a0_0 : Int) (l0_1 : List ByteArray) (l0_2 : List S51) : Option Int := some (H.errB (H.mayR a0_0 l0_1 l0_2))
theorem Pxc.calls (a0_0 : Int) (A0_1 : Option Addr) (c0_1 : Nat) (l0_1 : List ByteArray) (A0_2 : Option Addr) (c0_2 : Nat) (l0_2 : List S51) (r : Int) (w : World) (hr0_1 : Kd.C Kd.string w A0_1 l0_1.length l0_1) (hc0_1 : l0_1.length ≤ c0_1) (hr0_2 : Kd.C k51 w A0_2 l0_2.length l0_2) (hc0_2 : l0_2.length ≤ c0_2) (h : Pxc.f a0_0 l0_1 l0_2 = some r) :
  Calls Try.prog 27 #[.agg #[.int .i64 a0_0, .slice A0_1 l0_1.length c0_1, .slice A0_2 l0_2.length c0_2]] w fun e w' => e = .returned (.int .i64 r) ∧ Below w.heap.size w w' := by
 have e : H.errB (H.mayR a0_0 l0_1 l0_2) = r := by simpa [Pxc.f] using h
 subst e
 rw [← H.may_same]
 exact H.check_any a0_0 l0_1 l0_2 A0_1 A0_2 c0_1 c0_2 w hr0_1 hr0_2
def Pxd.f (a0_0 : Int) (l0_1 : List ByteArray) (l0_2 : List S51) : Option (Int × List ByteArray × List S51 × Int) :=
 if l0_2.length ≤ 1000000 ∧ l0_1.length ≤ 1000000 then some (if H.mayR a0_0 l0_1 (Sem.sortE l0_2) then (a0_0, l0_1, Sem.sortE l0_2, 0) else (0, [], [], 1)) else none
theorem Pxd.calls (a0_0 : Int) (A0_1 : Option Addr) (c0_1 : Nat) (l0_1 : List ByteArray) (A0_2 : Option Addr) (c0_2 : Nat) (l0_2 : List S51) (r1 : Int) (r2 : List ByteArray) (r3 : List S51) (r4 : Int) (w : World) (hr0_1 : Kd.C Kd.string w A0_1 l0_1.length l0_1) (hc0_1 : l0_1.length ≤ c0_1) (hr0_2 : Kd.C k51 w A0_2 l0_2.length l0_2) (hc0_2 : l0_2.length ≤ c0_2) (h : Pxd.f a0_0 l0_1 l0_2 = some (r1, r2, r3, r4)) :
  Calls Try.prog 25 #[.agg #[.int .i64 a0_0, .slice A0_1 l0_1.length c0_1, .slice A0_2 l0_2.length c0_2]] w fun e w' => ∃ v1_ v2_ : Value, e = .returned (.tuple #[.agg #[.int .i64 r1, v1_, v2_], .int .i64 r4]) ∧ Kd.R Kd.string 9 w' w.heap.size (fun _ => True) v1_ r2 ∧ Kd.R k51 51 w' w.heap.size (fun _ => True) v2_ r3 ∧ Below w.heap.size w w' := by
 unfold Pxd.f at h
 split at h
 ·rename_i hn
  simp only [Option.some.injEq] at h
  exact H.sort_any a0_0 l0_1 l0_2 A0_1 A0_2 c0_1 c0_2 w hr0_1 hc0_1 hr0_2 hc0_2 hn.2 hn.1 h
 ·cases h
def Pxg.f (a0_0 : Int) (l0_1 : List ByteArray) (l0_2 : List S51) (a1 : Int) : Option (List S51) := some (if H.mayR a0_0 l0_1 l0_2 then Sem.outN l0_2 a1 else [])
theorem Pxg.calls (a0_0 : Int) (A0_1 : Option Addr) (c0_1 : Nat) (l0_1 : List ByteArray) (A0_2 : Option Addr) (c0_2 : Nat) (l0_2 : List S51) (a1 : Int) (r : List S51) (w : World) (hr0_1 : Kd.C Kd.string w A0_1 l0_1.length l0_1) (hc0_1 : l0_1.length ≤ c0_1) (hr0_2 : Kd.C k51 w A0_2 l0_2.length l0_2) (hc0_2 : l0_2.length ≤ c0_2) (h : Pxg.f a0_0 l0_1 l0_2 a1 = some r) :
  Calls Try.prog 30 #[.agg #[.int .i64 a0_0, .slice A0_1 l0_1.length c0_1, .slice A0_2 l0_2.length c0_2], .int .i64 a1] w fun e w' => ∃ v0_ : Value, e = .returned (v0_) ∧ Kd.R k51 51 w' w.heap.size (fun _ => True) v0_ r ∧ Below w.heap.size w w' := by
 unfold Pxg.f at h
 simp only [Option.some.injEq] at h
 subst h
 cases hm : H.mayR a0_0 l0_1 l0_2 with
 | false => exact (H.lout_no a0_0 l0_1 l0_2 A0_1 A0_2 c0_1 c0_2 a1 w hr0_1 hr0_2 hm).mono fun e w' ⟨he, hb⟩ => ⟨_, he, Kd.R_nil _ _ _ _ _, hb⟩
 | true => exact H.lout_yes a0_0 l0_1 l0_2 A0_1 A0_2 c0_1 c0_2 a1 w hr0_1 hr0_2 hc0_2 hm (H.lt_len hm) (H.lt_from hm)
def Pxa.f (a0_0 : Int) (l0_1 : List ByteArray) (l0_2 : List S51) (a1 : Int) : Option (List Int) := some (if H.mayR a0_0 l0_1 l0_2 ∧ 0 ≤ a1 ∧ a1 < a0_0 then Sem.reachL a0_0.toNat l0_2 a1 else [])
theorem Pxa.calls (a0_0 : Int) (A0_1 : Option Addr) (c0_1 : Nat) (l0_1 : List ByteArray) (A0_2 : Option Addr) (c0_2 : Nat) (l0_2 : List S51) (a1 : Int) (r : List Int) (w : World) (hr0_1 : Kd.C Kd.string w A0_1 l0_1.length l0_1) (hc0_1 : l0_1.length ≤ c0_1) (hr0_2 : Kd.C k51 w A0_2 l0_2.length l0_2) (hc0_2 : l0_2.length ≤ c0_2) (h : Pxa.f a0_0 l0_1 l0_2 a1 = some r) :
  Calls Try.prog 34 #[.agg #[.int .i64 a0_0, .slice A0_1 l0_1.length c0_1, .slice A0_2 l0_2.length c0_2], .int .i64 a1] w fun e w' => ∃ v0_ : Value, e = .returned (v0_) ∧ Kd.R (Kd.int .i64) 3 w' w.heap.size (fun _ => True) v0_ r ∧ Below w.heap.size w w' := by
 unfold Pxa.f at h
 simp only [Option.some.injEq] at h
 subst h
 cases hm : H.mayR a0_0 l0_1 l0_2 with
 | false =>
  rw [if_neg (by simp)]
  exact (H.reached_no a0_0 l0_1 l0_2 A0_1 A0_2 c0_1 c0_2 a1 w hr0_1 hr0_2 hm).mono fun e w' ⟨he, hb⟩ => ⟨_, he, Kd.R_nil _ _ _ _ _, hb⟩
 | true =>
  by_cases hv : 0 ≤ a1 ∧ a1 < a0_0
  ·rw [if_pos ⟨rfl, hv⟩]
   obtain ⟨n, rfl⟩ : ∃ n : Nat, a0_0 = (n : Int) := ⟨a0_0.toNat, by omega⟩
   obtain ⟨v, rfl⟩ : ∃ v : Nat, a1 = (v : Int) := ⟨a1.toNat, by omega⟩
   rw [Int.toNat_natCast]
   exact H.reached_yes n v l0_1 l0_2 A0_1 A0_2 c0_1 c0_2 w hr0_1 hr0_2 hc0_2 hm (by omega)
  ·rw [if_neg (fun h => hv h.2)]
   exact (H.reached_out a0_0 l0_1 l0_2 A0_1 A0_2 c0_1 c0_2 a1 w hr0_1 hr0_2 hm (by omega)).mono fun e w' ⟨he, hb⟩ => ⟨_, he, Kd.R_nil _ _ _ _ _, hb⟩
end Go.Proofs.Ythaaockbapbooaa.Pr
