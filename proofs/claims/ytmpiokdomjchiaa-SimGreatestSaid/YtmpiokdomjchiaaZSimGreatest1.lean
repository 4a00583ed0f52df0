/-
  Parts of the proof of SimGreatest (joined by wip/tools/bundle.py), part 1: plain words and walks of the functions that the law reaches.
-/
import Derived.Test.YtmpiokdomjchiaaProg
import Derived.Below
import Derived.Deep.Draws
import Derived.Deep.AppendLies
import Derived.Maps.AppendAt
import Derived.OwnWalk
import Derived.Laws.BytesArg
import Derived.Laws.MakeOwn
import Derived.Laws.OwnMore
import Derived.Deep.OwnRows
import Derived.Tactics
import Derived.Lib.ConvBytes
import Derived.Laws.Slices
import Derived.WalkKit
import Derived.KernelRfl
import Derived.RowKit3
import Derived.Deep.LoopGhost
import Derived.Deep.QuietTactic
import Derived.BigQuiet
import Derived.WideLaws
import Derived.Deep.DeepCutAuto
import Derived.Deep.CutBlock
import Derived.Deep.RegionHeld3
import Derived.Laws.Rows
import Derived.Lib.AppendStr
import Derived.ArgAppend
import Derived.Laws.IdiomCopy
import Derived.OrdersHeld
import Derived.Laws.BitsLemmas
import Derived.RowKit
import Derived.Test.YtmpiokdomjchiaaWWords
import Derived.Test.YtmpiokdomjchiaaWLast
import Derived.Test.YtmpiokdomjchiaaWTab
import Derived.Test.YtmpiokdomjchiaaWZeros
import Derived.Test.YtmpiokdomjchiaaWShare
import Derived.Test.YtmpiokdomjchiaaWRepsOne
import Derived.Test.YtmpiokdomjchiaaWGuard
import Derived.Test.YtmpiokdomjchiaaWMore
import Derived.WalkSpells
import Derived.Lib.Hide
import Derived.Maps.OwnSet
import Derived.WideKeyPair
import Derived.DeepKeys4
import Derived.Lib.SmallJoins
import Derived.Shelf.Small.Wraps
import Derived.Shelf.Sort.Plain
import Derived.Shelf.Bits.Mul64
import Derived.Shelf.Slices.Turned
import Derived.Shelf.Slices.Equal
import Derived.Ground.Names2Prog
import Derived.Shelf.Slices.ReverseS
import Derived.Shelf.Slices.CompactS
import Derived.Shelf.Slices.Cells
import Derived.Shelf.Slices.In.SortNone
import Derived.Shelf.Slices.Empties2
import Derived.Sort.OwnSorted
import Derived.Lib.OwnBridge
import Derived.Outline
import Derived.WalkLawsBesides
import Derived.Laws.Bits64b
import Derived.Deep.MidRow
import Derived.Laws.BitsAllLaws
import Derived.Laws.CopyOwn
import Derived.Lib.SlicesS
import Derived.Test.YtmpiokdomjchiaaRows
import Derived.ProofKit
import Derived.OpenShut
import Derived.ShutString
import Derived.ChangeOld
import Derived.SizedLaws
namespace Go.Proofs.Ytmpiokdomjchiaa.Pr
open Go.RowKit Go.Proofs.YtmpiokdomjchiaaW.PrintWords Go.Proofs.YtmpiokdomjchiaaW.PrintLast Go.Proofs.YtmpiokdomjchiaaW.PrintMore
attribute [local go_sem] max2_int min2_int max_two min_two max_three min_three max_four min_four
set_option linter.unusedVariables false
set_option linter.unusedSimpArgs false
def errW : Option Int → Value
 | none => .nilIface
 | some c => .iface 0 (.int .i64 c)
theorem errW_none : errW none = .nilIface := rfl
theorem errW_some (c : Int) : errW (some c) = .iface 0 (.int .i64 c) := rfl
theorem info3 : (Try.prog.info? 3).map (fun i => (i.zero, i.size, i.bytes)) = some (some (.int .i64 0), 1, 8) := by kernel_rfl
theorem info4 : (Try.prog.info? 4).map (fun i => (i.zero, i.size, i.bytes)) = some (some (.bool false), 1, 1) := by kernel_rfl
theorem info9 : (Try.prog.info? 9).map (fun i => (i.zero, i.size, i.bytes)) = some (some (.string ⟨#[]⟩), 1, 16) := by kernel_rfl
theorem info31 : (Try.prog.info? 31).map (fun i => (i.zero, i.size, i.bytes)) = some (some (.agg #[(.int .i64 0), (.int .i64 0)]), 2, 16) := by kernel_rfl
structure S81 where
  f0 : Int
  f1 : Int
  f2 : Int
def z81 : S81 := ⟨(0 : Int), (0 : Int), (0 : Int)⟩
def k81 : Kd S81 := Kd.iso (Kd.pair (Kd.int .i64) (Kd.pair (Kd.int .i64) (Kd.int .i64))) (fun x : S81 => (x.f0, x.f1, x.f2))
theorem k81_open {w : World} {x : S81} {cs : List Value} (h : k81.K w x cs) : cs = [.int .i64 x.f0, .int .i64 x.f1, .int .i64 x.f2] := by
 obtain ⟨_, _, rfl, rfl, ⟨_, _, rfl, rfl, rfl⟩⟩ := h
 exact rfl
theorem k81_mk (w : World) (x : S81)  : k81.K w x [.int .i64 x.f0, .int .i64 x.f1, .int .i64 x.f2] := ⟨[.int .i64 x.f0], [.int .i64 x.f1, .int .i64 x.f2], rfl, rfl, ⟨[.int .i64 x.f1], [.int .i64 x.f2], rfl, rfl, rfl⟩⟩
theorem k81_mkM (w : World) (base : Nat) (ok : Nat → Prop) (x : S81)  : k81.M w base ok x [.int .i64 x.f0, .int .i64 x.f1, .int .i64 x.f2] := ⟨[.int .i64 x.f0], [.int .i64 x.f1, .int .i64 x.f2], rfl, rfl, ⟨[.int .i64 x.f1], [.int .i64 x.f2], rfl, rfl, rfl⟩⟩
def rd_T81 (xs : List S81) (i : Int) : S81 := xs.getD i.toNat z81
theorem at_T81 {w : World} {A : Option Addr} {n : Nat} {xs : List S81} (h : Kd.C k81 w A n xs) (i : Int) (h0 : 0 ≤ i) (h1 : i < n) : ∃ ad , A = some ad ∧ w.cell? (ad.add (i.toNat * 3)) = some (.int .i64 (rd_T81 xs i).f0) ∧ w.cell? ⟨(ad.add (i.toNat * 3)).block, (ad.add (i.toNat * 3)).off + 1, none⟩ = some (.int .i64 (rd_T81 xs i).f1) ∧ w.cell? ⟨(ad.add (i.toNat * 3)).block, (ad.add (i.toNat * 3)).off + 2, none⟩ = some (.int .i64 (rd_T81 xs i).f2) := by
 obtain ⟨ad, c, e, _, hK, hc0⟩ := Kd.C_get h z81 i h0 h1
 have hc : ∀ j u, c[j]? = some u → w.cell? (ad.add (i.toNat * 3 + j)) = some u := hc0
 obtain rfl := k81_open hK
 exact ⟨ad, e, hc 0 _ rfl, by rw [← add_field _ _ 1 (by omega)]; exact hc 1 _ rfl, by rw [← add_field _ _ 2 (by omega)]; exact hc 2 _ rfl⟩
structure S31 where
  f0 : Int
  f1 : Int
def z31 : S31 := ⟨(0 : Int), (0 : Int)⟩
def k31 : Kd S31 := Kd.iso (Kd.pair (Kd.int .i64) (Kd.int .i64)) (fun x : S31 => (x.f0, x.f1))
theorem k31_open {w : World} {x : S31} {cs : List Value} (h : k31.K w x cs) : cs = [.int .i64 x.f0, .int .i64 x.f1] := by
 obtain ⟨_, _, rfl, rfl, rfl⟩ := h
 exact rfl
theorem k31_mk (w : World) (x : S31)  : k31.K w x [.int .i64 x.f0, .int .i64 x.f1] := ⟨[.int .i64 x.f0], [.int .i64 x.f1], rfl, rfl, rfl⟩
theorem k31_mkM (w : World) (base : Nat) (ok : Nat → Prop) (x : S31)  : k31.M w base ok x [.int .i64 x.f0, .int .i64 x.f1] := ⟨[.int .i64 x.f0], [.int .i64 x.f1], rfl, rfl, rfl⟩
def rd_T31 (xs : List S31) (i : Int) : S31 := xs.getD i.toNat z31
theorem at_T31 {w : World} {A : Option Addr} {n : Nat} {xs : List S31} (h : Kd.C k31 w A n xs) (i : Int) (h0 : 0 ≤ i) (h1 : i < n) : ∃ ad , A = some ad ∧ w.cell? (ad.add (i.toNat * 2)) = some (.int .i64 (rd_T31 xs i).f0) ∧ w.cell? ⟨(ad.add (i.toNat * 2)).block, (ad.add (i.toNat * 2)).off + 1, none⟩ = some (.int .i64 (rd_T31 xs i).f1) := by
 obtain ⟨ad, c, e, _, hK, hc0⟩ := Kd.C_get h z31 i h0 h1
 have hc : ∀ j u, c[j]? = some u → w.cell? (ad.add (i.toNat * 2 + j)) = some u := hc0
 obtain rfl := k31_open hK
 exact ⟨ad, e, hc 0 _ rfl, by rw [← add_field _ _ 1 (by omega)]; exact hc 1 _ rfl⟩
end Go.Proofs.Ytmpiokdomjchiaa.Pr
set_option linter.unusedVariables false
set_option linter.unusedSimpArgs false
namespace Go.Proofs.Ytmpiokdomjchiaa.Sem
open Go.Proofs.Ytmpiokdomjchiaa.Pr
abbrev Ed := S81
def cmpI (x y : Int) : Int := if x < y then -1 else if y < x then 1 else 0
def orL : List Int → Int
 | [] => 0
 | x :: r => if x != 0 then x else orL r
theorem orL_zero : ∀ (xs : List Int), (∀ j, j < xs.length → (xs.getD j 0 != 0) = false) → orL xs = 0
 | [], _ => rfl
 | x :: r, h => by
  have h0 := h 0 (by simp)
  simp only [List.getD_cons_zero] at h0
  simp only [orL, h0, Bool.false_eq_true, if_false]
  exact orL_zero r (fun j hj => by have := h (j + 1) (by simp; omega); simpa using this)
theorem orL_at : ∀ (xs : List Int) (k : Nat), (∀ j, j < k → (xs.getD j 0 != 0) = false) → k < xs.length → (xs.getD k 0 != 0) = true → orL xs = xs.getD k 0
 | [], k, _, h, _ => by simp at h
 | x :: r, 0, _, _, h => by simp only [List.getD_cons_zero] at h; simp [orL, h]
 | x :: r, k + 1, h, hl, hk => by
  have h0 := h 0 (by omega)
  simp only [List.getD_cons_zero] at h0
  simp only [orL, h0, Bool.false_eq_true, if_false]
  rw [orL_at r k (fun j hj => by have := h (j + 1) (by omega); simpa using this) (by simpa using hl) (by simpa using hk)]
  simp
def cmpE (a b : Ed) : Int := orL [cmpI a.f0 b.f0, cmpI a.f1 b.f1, cmpI a.f2 b.f2]
def elt (a b : Ed) : Prop := a.f0 < b.f0 ∨ a.f0 = b.f0 ∧ (a.f1 < b.f1 ∨ a.f1 = b.f1 ∧ a.f2 < b.f2)
instance (a b : Ed) : Decidable (elt a b) := by unfold elt; infer_instance
theorem cmpE_neg (a b : Ed) : cmpE a b < 0 ↔ elt a b := by
 unfold cmpE orL orL orL orL cmpI elt
 repeat' split
 all_goals simp_all
 all_goals omega
def idxP {α : Type} (p : α → Bool) : List α → Int
 | [] => -1
 | x :: r => if p x then 0 else if idxP p r < 0 then -1 else idxP p r + 1
theorem idxP_none {α : Type} (p : α → Bool) (d : α) : ∀ (xs : List α), (∀ j, j < xs.length → p (xs.getD j d) = false) → idxP p xs = -1
 | [], _ => rfl
 | x :: r, h => by
  have h0 := h 0 (by simp)
  simp only [List.getD_cons_zero] at h0
  have ih := idxP_none p d r (fun j hj => by have := h (j + 1) (by simp; omega); simpa using this)
  simp [idxP, h0, ih]
theorem idxP_at {α : Type} (p : α → Bool) (d : α) : ∀ (xs : List α) (k : Nat), (∀ j, j < k → p (xs.getD j d) = false) → k < xs.length → p (xs.getD k d) = true → idxP p xs = (k : Int)
 | [], k, _, h, _ => by simp at h
 | x :: r, 0, _, _, h => by simp only [List.getD_cons_zero] at h; simp [idxP, h]
 | x :: r, k + 1, h, hl, hk => by
  have h0 := h 0 (by omega)
  simp only [List.getD_cons_zero] at h0
  have ih := idxP_at p d r k (fun j hj => by have := h (j + 1) (by omega); simpa using this) (by simpa using hl) (by simpa using hk)
  simp only [idxP, h0, ih]
  rw [if_neg (by simp), if_neg (by omega)]
  omega
theorem idxP_nonneg {α : Type} (p : α → Bool) : ∀ (xs : List α), decide (0 ≤ idxP p xs) = xs.any p
 | [] => rfl
 | x :: r => by
  have ih := idxP_nonneg p r
  cases hx : p x with
  | true => simp [idxP, hx]
  | false =>
   simp only [idxP, hx, List.any_cons, Bool.false_or]
   rw [← ih]
   simp only [Bool.false_eq_true, if_false]
   split
   ·rename_i h; rw [decide_eq_false (by omega), decide_eq_false (by omega)]
   ·rename_i h; rw [decide_eq_true (by omega), decide_eq_true (by omega)]
def tooLong (s : ByteArray) : Bool := decide (200 < s.size)
def okAt (n nl : Int) (es : List Ed) (k : Nat) : Bool :=
 decide (0 ≤ (es.getD k z81).f0 ∧ (es.getD k z81).f0 < n) && (decide (0 ≤ (es.getD k z81).f2 ∧ (es.getD k z81).f2 < n) &&
  (decide (0 ≤ (es.getD k z81).f1) && (decide ((es.getD k z81).f1 < nl) && (decide (k = 0) || decide (cmpE (es.getD (k - 1) z81) (es.getD k z81) < 0)))))
end Go.Proofs.Ytmpiokdomjchiaa.Sem
set_option linter.unusedVariables false
set_option linter.unusedSimpArgs false
namespace Go.Proofs.Ytmpiokdomjchiaa.H
open Go.RowKit Go.Proofs.Ytmpiokdomjchiaa.Pr Go.Proofs.YtmpiokdomjchiaaW.PrintWords Go.Proofs.Ytmpiokdomjchiaa.Sem
theorem ret_int {k : IntKind} {a b : Int} (h : a = b) : Ending.returned (.int k a) = .returned (.int k b) := by rw [h]
theorem ret_bool {a b : Bool} (h : a = b) : Ending.returned (.bool a) = .returned (.bool b) := by rw [h]
theorem atE {w : World} {A : Option Addr} {n : Nat} {xs : List Ed} (h : Kd.C k81 w A n xs) (k : Nat) (hk : k < n) : ∃ ad, A = some ad ∧ w.cell? (ad.add (k * 3)) = some (.int .i64 (xs.getD k z81).f0) ∧ w.cell? ⟨(ad.add (k * 3)).block, (ad.add (k * 3)).off + 1, none⟩ = some (.int .i64 (xs.getD k z81).f1) ∧ w.cell? ⟨(ad.add (k * 3)).block, (ad.add (k * 3)).off + 2, none⟩ = some (.int .i64 (xs.getD k z81).f2) :=
 at_T81 h (k : Int) (by omega) (by omega)
theorem atS {w : World} {A : Option Addr} {n : Nat} {xs : List ByteArray} (h : Kd.C Kd.string w A n xs) (k : Nat) (hk : k < n) : ∃ ad, A = some ad ∧ w.cell? (ad.add k) = some (.string (xs.getD k ByteArray.empty)) := by
 obtain ⟨ad, e, hc⟩ := Kd.at_string h (k : Int) (by omega) (by omega)
 exact ⟨ad, e, by simpa [rdOf] using hc⟩
theorem atI {w : World} {A : Option Addr} {n : Nat} {q : IntKind} {xs : List Int} (h : (Kd.int q).C w A n xs) (k : Nat) (hk : k < n) : ∃ ad, A = some ad ∧ w.cell? (ad.add k) = some (.int q (xs.getD k 0)) := by
 obtain ⟨ad, e, hc⟩ := Kd.at_int h (k : Int) (by omega) (by omega)
 exact ⟨ad, e, by simpa [rd] using hc⟩
theorem later {w w1 : World} (hb : Below w.heap.size w w1) {a : Addr} {v : Value} (h : w.cell? a = some v) : w1.cell? a = some v := (hb.cell (World.block_lt_of_cell? w a h)).trans h
theorem C_len {α : Type} {d : Kd α} {w : World} {A : Option Addr} {n : Nat} {xs : List α} (h : d.C w A n xs) : n ≤ 9223372036854775807 := h.2.1
end Go.Proofs.Ytmpiokdomjchiaa.H
set_option linter.unusedVariables false
set_option linter.unusedSimpArgs false
namespace Go.Proofs.Ytmpiokdomjchiaa.H
open Go.RowKit Go.Proofs.Ytmpiokdomjchiaa.Pr Go.Proofs.YtmpiokdomjchiaaW.PrintWords Go.Proofs.Ytmpiokdomjchiaa.Sem
open Go.Maps (Keyed)
theorem laid_out : laidOutB Try.prog = true := by kernel_rfl
theorem pair_arr : WideMaps.ArrKey Try.prog 31 3 2 := ⟨Try.underlying31, by kernel_rfl, by kernel_rfl, by kernel_rfl⟩
theorem pair_keyed : Keyed Try.prog 31 := Keyed.of_law (deep_law_laid laid_out (m := 2) (by omega) (of_decide_eq_true (by kernel_rfl)) (by kernel_rfl) (by rw [Try.underlying31]))
def pk (a b : Int) : Lit := .string (keyBytes [.int .i64 a, .int .i64 b])
def i64ok (a : Int) : Prop := -9223372036854775808 ≤ a ∧ a ≤ 9223372036854775807
theorem wf_ok {a : Int} (h : i64ok a) : (Lit.int .i64 a).wf = true := by
 unfold i64ok at h
 exact WalkArith.wf_i64 (by omega)
theorem pk_key {a b : Int} (ha : i64ok a) (hb : i64ok b) : keyOf Try.prog 31 (.agg #[.int .i64 a, .int .i64 b]) = some (pk a b) :=
 WideMaps.keyOf_pair pair_arr Try.underlying3 ⟨_, rfl⟩ (wf_ok ha) (wf_ok hb)
theorem pk_ne {a b a' b' : Int} (ha : i64ok a) (hb : i64ok b) (ha' : i64ok a') (hb' : i64ok b') (h : ¬ (a = a' ∧ b = b')) : pk a b ≠ pk a' b' := by
 intro e
 have h1 := pk_key ha hb
 rw [e] at h1
 have := pair_keyed.inj h1 (pk_key ha' hb')
 simp only [Value.agg.injEq, Array.mk.injEq, List.cons.injEq, Value.int.injEq, true_and, and_true] at this
 exact h this
def bit (b : Bool) : Int := if b then 1 else 0
def PM (w : World) (m n : Nat) (S : Int → Int → Bool) : Prop :=
 ∃ D : DataW Unit, w.ownsMap Try.prog 31 (plainElem Try.prog 3) m n D ∧ ∀ a b, i64ok a → i64ok b → D.atKey (pk a b) (.lit (.int .i64 0)) = .lit (.int .i64 (bit (S a b)))
def withP (S : Int → Int → Bool) (a b : Int) : Int → Int → Bool := fun x y => S x y || (decide (x = a) && decide (y = b))
def lessP (S : Int → Int → Bool) (a b : Int) : Int → Int → Bool := fun x y => S x y && !(decide (x = a) && decide (y = b))
section
variable {w w1 : World} {m n : Nat} {S : Int → Int → Bool}
theorem PM.lt (h : PM w m n S) : m < w.heap.size := by obtain ⟨D, h, _⟩ := h; exact h.lt
theorem PM.blk (h : PM w m n S) : ∃ es c, w.heap[m]? = some (.map es c) := by obtain ⟨D, ⟨es, c, hb, _⟩, _⟩ := h; exact ⟨es, c, hb⟩
theorem PM.same (h : PM w m n S) (hb : w1.heap[m]? = w.heap[m]?) : PM w1 m n S := by
 obtain ⟨D, ⟨es, c, hbl, r⟩, h2⟩ := h
 exact ⟨D, ⟨es, c, hb.trans hbl, r⟩, h2⟩
theorem PM.below (h : PM w m n S) (hb : Below w.heap.size w w1) : PM w1 m n S := h.same (hb.block m h.lt)
theorem PM.grown (h : PM w m n S) {row : Option Nat} (hr : ∀ b, row = some b → ∃ c t fr, w.heap[b]? = some (.cells c t fr)) (hg : w.grownBy w1 row) : PM w1 m n S := by
 refine h.same (hg.block m h.lt ?_)
 intro e
 obtain ⟨c, t, fr, hc⟩ := hr m e.symm
 obtain ⟨es, c', hb⟩ := h.blk
 rw [hc] at hb
 cases hb
theorem PM.made (w : World) : PM (w.alloc (.map #[] 0)) w.heap.size 0 (fun _ _ => false) :=
 ⟨.map [], World.ownsMap_made _ _ _ _, fun a b _ _ => rfl⟩
theorem PM.look (h : PM w m n S) {a b : Int} (ha : i64ok a) (hb : i64ok b) : (Instr.lookup 91 (.map (some m)) (.agg #[.int .i64 a, .int .i64 b]) false).run Try.prog w = .ok (.int .i64 (bit (S a b))) w := by
 obtain ⟨D, h1, h2⟩ := h
 obtain ⟨c, hrun, hat, _⟩ := h1.lookup_int pair_keyed Try.underlying91 Try.underlying3 (by kernel_rfl) (pk_key ha hb)
 rw [h2 a b ha hb] at hat
 cases hat
 exact hrun
theorem PM.put (h : PM w m n S) {a b : Int} (ha : i64ok a) (hb : i64ok b) (hn : n < maxLen) : ∃ w1, (Instr.mapUpdate 91 (.map (some m)) (.agg #[.int .i64 a, .int .i64 b]) (.int .i64 1)).run Try.prog w = .ok () w1 ∧ PM w1 m (n + 1) (withP S a b) ∧ w.grownBy w1 (some m) := by
 obtain ⟨D, h1, h2⟩ := h
 obtain ⟨w1, hrun, ho, hg⟩ := h1.update pair_keyed Try.underlying91 hn (pk_key ha hb) (plainElem_int (a := 1) Try.underlying3 (by decide))
 refine ⟨w1, hrun, ⟨_, ho, fun x y hx hy => ?_⟩, hg⟩
 unfold withP
 by_cases e : x = a ∧ y = b
 ·obtain ⟨rfl, rfl⟩ := e
  rw [Maps.atKey_put_same h1.isMap (pair_keyed.key (pk_key ha hb))]
  simp [bit]
 ·rw [Maps.atKey_put_other (pk_ne hx hy ha hb e), h2 x y hx hy]
  have : (decide (x = a) && decide (y = b)) = false := by simpa using e
  rw [this, Bool.or_false]
end
end Go.Proofs.Ytmpiokdomjchiaa.H
set_option linter.unusedVariables false
set_option linter.unusedSimpArgs false
set_option maxRecDepth 100000
namespace Go.Proofs.Ytmpiokdomjchiaa.H
open Go.RowKit Go.Proofs.Ytmpiokdomjchiaa.Pr Go.Proofs.YtmpiokdomjchiaaW.PrintWords Go.Proofs.Ytmpiokdomjchiaa.Sem
open Go.ChangeShapes Go.WideShapes Go.Deep Go.Joins
instance : Inhabited Ed := ⟨z81⟩
instance : Inhabited S31 := ⟨z31⟩
section
variable {H : Type} {enc : TypeId × Value → H} {w : World} {base : Nat} {spare : Nat → Bool} {held : Bool}
theorem C_of_trod {α : Type} [Inhabited α] {d : Kd α} {t e : TypeId} {fuel : Nat} {v : Value} {x : DataW H × List MemPlace} (ht : Try.prog.underlying t = some (.slice e)) (hc : Try.prog.cellsOf e = d.sz)
  (hel : ∀ n cs y, DataW.trod enc Try.prog w base spare held n e cs = some y → cs.length = d.sz → ∃ a : α, d.K w a cs) (h : DataW.trod enc Try.prog w base spare held fuel t [v] = some x) :
  ∃ A xs c, v = .slice A xs.length c ∧ d.C w A xs.length xs := by
 rcases open_slice ht h with ⟨hcs, _⟩ | ⟨a, len, cap, m, n, D, Pl, hcs, hb, hl, hm, hmm, _, hx⟩
 ·have hv : v = .slice none 0 0 := by simpa using hcs
  exact ⟨none, [], 0, hv, Kd.C_nil _ _⟩
 ·have hv : v = .slice (some a) len cap := by simpa using hcs
  have hlm : len ≤ m := by rw [hmm]; split <;> omega
  have each : ∀ i, i < len → ∃ y : α × List Value, y.2.length = d.sz ∧ d.K w y.1 y.2 ∧ ∀ j u, y.2[j]? = some u → w.cell? (a.add (i * d.sz + j)) = some u := by
   intro i hi
   obtain ⟨cs', h1, h2⟩ := hx i (by omega)
   obtain ⟨_, hlen, hcell⟩ := World.cells?_some h1
   rw [hc] at hlen hcell
   obtain ⟨z, hz⟩ := hel n cs' _ h2 hlen
   refine ⟨(z, cs'), hlen, hz, fun j u hj => ?_⟩
   have hjl := (List.getElem?_eq_some_iff.1 hj).1
   have := hcell j (by rw [← hlen]; exact hjl)
   rw [Go.Deep.add_add] at this
   rw [this]
   exact hj
  obtain ⟨q, hq⟩ := choose_lt each
  refine ⟨some a, (List.range len).map fun i => (q i).1, cap, by rw [hv]; simp, rfl, by simp; unfold maxLen at hm; omega, fun _ => ⟨a, rfl, fun j p hj => ?_⟩⟩
  have hjl : j < len := by simpa using (List.getElem?_eq_some_iff.1 hj).1
  have hp : p = (q j).1 := by simpa [hjl, eq_comm] using hj
  subst hp
  exact ⟨(q j).2, (hq j hjl).1, (hq j hjl).2.1, (hq j hjl).2.2⟩
theorem el_string : ∀ n cs y, DataW.trod enc Try.prog w base spare held n 9 cs = some y → cs.length = 1 → ∃ a : ByteArray, Kd.string.K w a cs := by
 intro n cs y h hl
 match cs, hl with
 | [c], _ =>
  obtain ⟨s, h1, _, _⟩ := DataW.trod_string Try.underlying9 h
  have : c = .string s := by simpa using h1
  subst this
  exact ⟨s, rfl⟩
theorem el_edge : ∀ n cs y, DataW.trod enc Try.prog w base spare held n 81 cs = some y → cs.length = 3 → ∃ a : Ed, k81.K w a cs := by
 intro n cs y h hl
 obtain ⟨y0, y1, y2, m, _, _, h0, h1, h2⟩ := trod_struct3 Try.underlying81 h
 match cs, hl with
 | [c0, c1, c2], _ =>
  rw [show Try.prog.cellsOf 3 = 1 by kernel_rfl] at h0 h1 h2
  obtain ⟨a0, e0, _, _⟩ := DataW.trod_int Try.underlying3 h0
  obtain ⟨a1, e1, _, _⟩ := DataW.trod_int Try.underlying3 h1
  obtain ⟨a2, e2, _, _⟩ := DataW.trod_int Try.underlying3 h2
  have e0' : c0 = .int .i64 a0 := by simpa using e0
  have e1' : c1 = .int .i64 a1 := by simpa using e1
  have e2' : c2 = .int .i64 a2 := by simpa using e2
  subst e0' e1' e2'
  exact ⟨⟨a0, a1, a2⟩, k81_mk w ⟨a0, a1, a2⟩⟩
theorem el_pair : ∀ n cs y, DataW.trod enc Try.prog w base spare held n 31 cs = some y → cs.length = 2 → ∃ a : S31, k31.K w a cs := by
 intro n cs y h hl
 match cs, hl with
 | [c0, c1], _ =>
  cases n with
  | zero => simp [DataW.trod] at h
  | succ n =>
   rw [DataW.trod_step] at h
   unfold DataW.trodStep at h
   simp only [pair_arr.hu] at h
   rw [if_pos (by rw [pair_arr.size]; rfl)] at h
   simp only [Option.map_eq_some_iff] at h
   obtain ⟨xs, hx, e1⟩ := h
   rw [show List.range 2 = [0, 1] from rfl, List.mapM_cons, List.mapM_cons, List.mapM_nil] at hx
   simp only [bind, Option.bind_eq_some_iff, pure, Option.some.injEq, pair_arr.one] at hx
   obtain ⟨y0, h0, _, ⟨y1, h1, _, rfl, rfl⟩, rfl⟩ := hx
   obtain ⟨a, ea, rfl, wa⟩ := DataW.trod_int Try.underlying3 h0
   obtain ⟨b, eb, rfl, wb⟩ := DataW.trod_int Try.underlying3 h1
   have ea' : c0 = .int .i64 a := by simpa using ea
   have eb' : c1 = .int .i64 b := by simpa using eb
   subst ea' eb'
   exact ⟨⟨a, b⟩, k31_mk w ⟨a, b⟩⟩
end
end Go.Proofs.Ytmpiokdomjchiaa.H
set_option linter.unusedVariables false
set_option linter.unusedSimpArgs false
set_option maxRecDepth 100000
namespace Go.Proofs.Ytmpiokdomjchiaa.H
open Go.ChangeShapes Go.WideShapes Go.Deep Go.Joins Go.RowKit Go.Proofs.Ytmpiokdomjchiaa.Pr Go.Proofs.YtmpiokdomjchiaaW.PrintWords Go.Proofs.Ytmpiokdomjchiaa.Sem
section
variable {H : Type} {enc : TypeId × Value → H} {w : World} {base : Nat} {spare : Nat → Bool} {held : Bool}
theorem len_cap {t e : TypeId} {fuel : Nat} {A : Option Addr} {n c : Nat} {x : DataW H × List MemPlace} (ht : Try.prog.underlying t = some (.slice e)) (h : DataW.trod enc Try.prog w base spare held fuel t [.slice A n c] = some x) : n ≤ c := by
 rcases open_slice ht h with ⟨hcs, _⟩ | ⟨a, len, cap, m, k, D, Pl, hcs, hb, hl, hm, hmm, _, hx⟩
 ·have hv : Value.slice A n c = .slice none 0 0 := by simpa using hcs
  cases hv
  exact Nat.le_refl _
 ·have hv : Value.slice A n c = .slice (some a) len cap := by simpa using hcs
  cases hv
  exact hl
theorem open_lts2 {r : Reach} {b0 : Nat} {v : Value} {d : DataW H} {p : List MemPlace} (hv : Value.okWide Try.prog w r b0 25 v) (h : DataW.Trod enc Try.prog w base spare held 25 v d p) :
  ∃ (n : Int) (ls : List ByteArray) (es : List Ed) (A1 A2 : Option Addr) (c1 c2 : Nat), v = .agg #[.int .i64 n, .slice A1 ls.length c1, .slice A2 es.length c2] ∧ (Lit.int .i64 n).wf = true ∧ Kd.C Kd.string w A1 ls.length ls ∧ ls.length ≤ c1 ∧ Kd.C k81 w A2 es.length es ∧ es.length ≤ c2 := by
 obtain ⟨v0, v1, v2, y0, y1, y2, m, rfl, _, _, h0, h1, h2⟩ := open_agg3 Try.underlying25 (by kernel_rfl) (by kernel_rfl) hv h
 obtain ⟨n, e0, _, wn⟩ := DataW.trod_int Try.underlying3 h0
 have e0' : v0 = .int .i64 n := by simpa using e0
 subst e0'
 obtain ⟨A1, ls, c1, rfl, hC1⟩ := C_of_trod (d := Kd.string) Try.underlying22 (by kernel_rfl) el_string h1
 obtain ⟨A2, es, c2, rfl, hC2⟩ := C_of_trod (d := k81) Try.underlying23 (by kernel_rfl) el_edge h2
 exact ⟨n, ls, es, A1, A2, c1, c2, rfl, wn, hC1, len_cap Try.underlying22 h1, hC2, len_cap Try.underlying23 h2⟩
theorem open_row2 {α : Type} [Inhabited α] {dk : Kd α} {t e : TypeId} {r : Reach} {b0 : Nat} {v : Value} {d : DataW H} {p : List MemPlace} (ht : Try.prog.underlying t = some (.slice e)) (hc : Try.prog.cellsOf e = dk.sz)
  (hel : ∀ n cs y, DataW.trod enc Try.prog w base spare held n e cs = some y → cs.length = dk.sz → ∃ a : α, dk.K w a cs) (hv : Value.okWide Try.prog w r b0 t v) (h : DataW.Trod enc Try.prog w base spare held t v d p) :
  ∃ A xs c, v = .slice A xs.length c ∧ dk.C w A xs.length xs ∧ xs.length ≤ c := by
 obtain ⟨a, len, cap, rfl⟩ := okWide_slice ht hv
 obtain ⟨fuel, hf⟩ := h
 have hf' : DataW.trod enc Try.prog w base spare held fuel t [.slice a len cap] = some (d, p) := by simpa [Value.cells] using hf
 obtain ⟨A, xs, c, hv, hC⟩ := C_of_trod ht hc hel hf'
 refine ⟨A, xs, c, hv, hC, ?_⟩
 cases hv
 exact len_cap ht hf'
end
end Go.Proofs.Ytmpiokdomjchiaa.H
namespace Go.Proofs.Ytmpiokdomjchiaa.Pr
open Go.RowKit Go.Proofs.YtmpiokdomjchiaaW.PrintWords Go.Proofs.YtmpiokdomjchiaaW.PrintLast Go.Proofs.YtmpiokdomjchiaaW.PrintMore
attribute [local go_sem] max2_int min2_int max_two min_two max_three min_three max_four min_four
set_option linter.unusedVariables false
set_option linter.unusedSimpArgs false
theorem info81 : (Try.prog.info? 81).map (fun i => (i.zero, i.size, i.bytes)) = some (some (.agg #[(.int .i64 0), (.int .i64 0), (.int .i64 0)]), 3, 24) := by kernel_rfl
end Go.Proofs.Ytmpiokdomjchiaa.Pr
set_option linter.unusedVariables false
set_option linter.unusedSimpArgs false
namespace Go.Proofs.Ytmpiokdomjchiaa.H
open Go.RowKit Go.Proofs.Ytmpiokdomjchiaa.Pr Go.Proofs.YtmpiokdomjchiaaW.PrintWords Go.Proofs.Ytmpiokdomjchiaa.Sem
theorem isNaN (x : Int) (w : World) : Calls Try.prog 141 #[.int .i64 x] w fun e w' => e = .returned (.bool false) ∧ w = w' := by
 have h : (x != x) = false := by simp
 go_enter Try.func141, Try.ntmps141
 go_wp2
 go_ret
 exact ⟨rfl, rfl⟩
theorem compare_lt (x y : Int) (w : World) (h : x < y) : Calls Try.prog 124 #[.int .i64 x, .int .i64 y] w fun e w' => e = .returned (.int .i64 (-1)) ∧ w = w' := by
 go_enter Try.func124, Try.ntmps124
 go_wp2_with (go_at_call 141; refine (isNaN _ _).mono ?_; rintro e w' ⟨rfl, rfl⟩)
 go_ret
 exact ⟨rfl, rfl⟩
theorem compare_gt (x y : Int) (w : World) (h : y < x) (h2 : ¬ x < y) : Calls Try.prog 124 #[.int .i64 x, .int .i64 y] w fun e w' => e = .returned (.int .i64 1) ∧ w = w' := by
 go_enter Try.func124, Try.ntmps124
 go_wp2_with (go_at_call 141; refine (isNaN _ _).mono ?_; rintro e w' ⟨rfl, rfl⟩)
 go_ret
 exact ⟨rfl, rfl⟩
theorem compare_eq (x y : Int) (w : World) (h : ¬ y < x) (h2 : ¬ x < y) : Calls Try.prog 124 #[.int .i64 x, .int .i64 y] w fun e w' => e = .returned (.int .i64 0) ∧ w = w' := by
 go_enter Try.func124, Try.ntmps124
 go_wp2_with (go_at_call 141; refine (isNaN _ _).mono ?_; rintro e w' ⟨rfl, rfl⟩)
 go_ret
 exact ⟨rfl, rfl⟩
theorem compare_any (x y : Int) (w : World) : Calls Try.prog 124 #[.int .i64 x, .int .i64 y] w fun e w' => e = .returned (.int .i64 (cmpI x y)) ∧ w = w' := by
 unfold cmpI
 by_cases h : x < y
 ·rw [if_pos h]; exact compare_lt x y w h
 ·rw [if_neg h]
  by_cases h' : y < x
  ·rw [if_pos h']; exact compare_gt x y w h' h
  ·rw [if_neg h']; exact compare_eq x y w h' h
theorem or_any (xs : List Int) (b c : Nat) (w : World) (hn : xs.length ≤ 1000) (hc : ∀ j, j < xs.length → w.cell? ⟨b, j, none⟩ = some (.int .i64 (xs.getD j 0))) :
  Calls Try.prog 123 #[.slice (some ⟨b, 0, none⟩) xs.length c] w fun e w' => e = .returned (.int .i64 (orL xs)) ∧ w = w' := by
 have HC := Lib.hid hc; clear hc
 go_enter Try.func123, Try.ntmps123
 go_wp2
 go_loop [8] (fun i => ∃ k : Nat, k ≤ xs.length ∧ i = .int .i64 k ∧ Aside0 (∀ j, j < k → (xs.getD j 0 != 0) = false)) (fun i => xs.length - (intOf i).toNat)
 case atStart => exact ⟨0, Nat.zero_le _, rfl, ⟨fun j hj => by omega⟩⟩
 case round =>
  obtain ⟨k, hk, rfl, hz⟩ := hrel
  by_cases hlt : k < xs.length
  ·have h1 := HC.out k hlt
   obtain ⟨y, hy⟩ : ∃ y, y = xs.getD k 0 := ⟨_, rfl⟩
   rw [← hy] at h1
   have HY := Lib.hid hy; clear hy
   cases hb : (y != 0) with
   | true =>
    go_wp2
    go_ret
    exact ⟨ret_int (by rw [HY.out]; exact (orL_at xs k hz.out hlt (by rw [← HY.out]; exact hb)).symm), rfl⟩
   | false =>
    go_wp2
    go_round
    case rel => exact ⟨k + 1, by omega, by go_num, ⟨fun j hj => by rcases Nat.lt_succ_iff_lt_or_eq.1 hj with h | rfl; exact hz.out j h; rw [← HY.out]; exact hb⟩⟩
    case measure => simp [intOf]; omega
  ·go_wp2
   go_ret
   exact ⟨ret_int (orL_zero xs (fun j hj => hz.out j (by omega))).symm, rfl⟩
set_option maxRecDepth 100000 in
theorem compareE (a b : Ed) (w : World) : Calls Try.prog 102 #[.agg #[.int .i64 a.f0, .int .i64 a.f1, .int .i64 a.f2], .agg #[.int .i64 b.f0, .int .i64 b.f1, .int .i64 b.f2]] w fun e w' => e = .returned (.int .i64 (cmpE a b)) ∧ Below w.heap.size w w' := by
 have HB := Aside0.mk (Below.refl w.heap.size w)
 go_enter Try.func102, Try.ntmps102
 go_wp2_with fail
 go_region_held3 (fun w' => w'.cell? ⟨w.heap.size, 0, none⟩ = some (.int .i64 a.f0) ∧ w'.cell? ⟨w.heap.size, 1, none⟩ = some (.int .i64 a.f1) ∧ w'.cell? ⟨w.heap.size, 2, none⟩ = some (.int .i64 a.f2) ∧ w'.cell? ⟨w.heap.size + 1, 0, none⟩ = some (.int .i64 b.f0) ∧ w'.cell? ⟨w.heap.size + 1, 1, none⟩ = some (.int .i64 b.f1) ∧ w'.cell? ⟨w.heap.size + 1, 2, none⟩ = some (.int .i64 b.f2))
  (first | go_keep)
  (first
   | (go_at_call 124; refine (compare_any _ _ _).mono ?_; rintro e w' ⟨rfl, rfl⟩)
   | (go_at_call 123; refine (or_any [cmpI a.f0 b.f0, cmpI a.f1 b.f1, cmpI a.f2 b.f2] _ _ _ (by simp) (by intro j hj; match j, hj with | 0, _ => go_simp | 1, _ => go_simp | 2, _ => go_simp)).mono ?_; rintro e w' ⟨rfl, rfl⟩))
 go_wp2
 go_ret
 exact ⟨rfl, by repeat (first | exact HB.out | apply below_alloc | apply pw_below_drewN | apply below_drew)⟩
theorem long_any (s : ByteArray) (b : Bool) (hb : tooLong s = b) (w : World) : Calls Try.prog 121 #[.string s] w fun e w' => e = .returned (.bool b) ∧ w = w' := by
 unfold tooLong at hb
 cases b with
 | true =>
  have h : (200 : Int) < (s.size : Int) := by have := of_decide_eq_true hb; omega
  clear hb
  go_enter Try.func121, Try.ntmps121
  go_wp2
  go_ret
  exact ⟨ret_bool (by simp), rfl⟩
 | false =>
  have h : ¬ (200 : Int) < (s.size : Int) := by have := of_decide_eq_false hb; omega
  clear hb
  go_enter Try.func121, Try.ntmps121
  go_wp2
  go_ret
  exact ⟨ret_bool (by simp), rfl⟩
theorem idxLong (ls : List ByteArray) (A : Option Addr) (c : Nat) (w : World) (hr : Kd.C Kd.string w A ls.length ls) :
  Calls Try.prog 137 #[.slice A ls.length c, .func (.func 121) #[] #[]] w fun e w' => e = .returned (.int .i64 (idxP tooLong ls)) ∧ w = w' := by
 have hl := C_len hr
 have HR := Lib.hid hr; clear hr
 go_enter Try.func137, Try.ntmps137
 go_wp2
 go_loop [8] (fun i => ∃ k : Nat, k ≤ ls.length ∧ i = .int .i64 k ∧ Aside0 (∀ j, j < k → tooLong (ls.getD j ByteArray.empty) = false)) (fun i => ls.length - (intOf i).toNat)
 case atStart => exact ⟨0, Nat.zero_le _, rfl, ⟨fun j hj => by omega⟩⟩
 case round =>
  obtain ⟨k, hk, rfl, hz⟩ := hrel
  by_cases hlt : k < ls.length
  ·obtain ⟨ad, hA, h1⟩ := atS HR.out k hlt
   subst hA
   obtain ⟨s, hs⟩ : ∃ s, s = ls.getD k ByteArray.empty := ⟨_, rfl⟩
   rw [← hs] at h1
   have HS := Lib.hid hs; clear hs
   cases hb : tooLong s with
   | true =>
    have HT := Lib.hid hb; clear hb
    go_wp2_with (go_at_call 121; refine (long_any _ _ HT.out _).mono ?_; rintro e w' ⟨rfl, rfl⟩)
    go_ret
    exact ⟨ret_int (idxP_at tooLong ByteArray.empty ls k hz.out hlt (by rw [← HS.out]; exact HT.out)).symm, rfl⟩
   | false =>
    have HT := Lib.hid hb; clear hb
    go_wp2_with (go_at_call 121; refine (long_any _ _ HT.out _).mono ?_; rintro e w' ⟨rfl, rfl⟩)
    go_round
    case rel => exact ⟨k + 1, by omega, by go_num, ⟨fun j hj => by rcases Nat.lt_succ_iff_lt_or_eq.1 hj with h | rfl; exact hz.out j h; rw [← HS.out]; exact HT.out⟩⟩
    case measure => simp [intOf]; omega
  ·go_wp2
   go_ret
   exact ⟨ret_int (idxP_none tooLong ByteArray.empty ls (fun j hj => hz.out j (by omega))).symm, rfl⟩
theorem anyLong (ls : List ByteArray) (A : Option Addr) (c : Nat) (w : World) (hr : Kd.C Kd.string w A ls.length ls) :
  Calls Try.prog 120 #[.slice A ls.length c, .func (.func 121) #[] #[]] w fun e w' => e = .returned (.bool (ls.any tooLong)) ∧ w = w' := by
 have HR := Lib.hid hr; clear hr
 have H := Lib.hid (idxP_nonneg tooLong ls)
 generalize idxP tooLong ls = n at H
 have H2 := Lib.hid (idxLong ls A c w HR.out)
 go_enter Try.func120, Try.ntmps120
 go_wp2_with (go_at_call 137; refine H2.out.mono ?_; rintro e w' ⟨rfl, rfl⟩)
 go_ret
 exact ⟨ret_bool (idxP_nonneg tooLong ls), rfl⟩
theorem node_any (i n : Int) (p : Addr) (w : World) (h0 : w.cell? p = some (.int .i64 n)) :
  Calls Try.prog 101 #[.int .i64 i, .pointer (some p)] w fun e w' => e = .returned (.bool (decide (0 ≤ i ∧ i < n))) ∧ w = w' := by
 by_cases a : 0 ≤ i
 ·by_cases b : i < n
  ·go_enter Try.func101, Try.ntmps101
   go_wp2
   go_ret
   exact ⟨ret_bool (by simp [a, b]), rfl⟩
  ·go_enter Try.func101, Try.ntmps101
   go_wp2
   go_ret
   exact ⟨ret_bool (by simp [b]), rfl⟩
 ·go_enter Try.func101, Try.ntmps101
  go_wp2
  go_ret
  exact ⟨ret_bool (by simp; omega), rfl⟩
end Go.Proofs.Ytmpiokdomjchiaa.H
namespace Go.Proofs
open Go.Shelf
def Try.lays190_ren : Go.Shelf.Ren := ⟨fun | 190 => 139 | 125 => 148 | 258 => 147 | 128 => 160 | 129 => 161 | 302 => 151 | 303 => 152 | 304 => 153 | 305 => 154 | 306 => 155 | 307 => 156 | 308 => 157 | 309 => 158 | 310 => 159 | 333 => 163 | 329 => 164 | 330 => 165 | 334 => 166 | 335 => 167 | 336 => 168 | 344 => 170 | n => n, fun | 31 => 22 | 9 => 9 | 3 => 3 | 46 => 153 | 0 => 0 | 51 => 194 | 53 => 100 | 4 => 4 | 183 => 207 | 182 => 206 | 131 => 182 | 5 => 5 | 218 => 215 | 222 => 219 | 228 => 221 | 229 => 180 | n => n, fun | n => n⟩
theorem Try.lays190 : Go.Proofs.Lays.n190 Try.prog Try.lays190_ren := {
 mixed := by kernel_rfl
 f125 := Try.func148.trans (congrArg some (by kernel_rfl))
 f128 := Try.func160.trans (congrArg some (by kernel_rfl))
 f129 := Try.func161.trans (congrArg some (by kernel_rfl))
 f190 := Try.func139.trans (congrArg some (by kernel_rfl))
 f258 := Try.func147.trans (congrArg some (by kernel_rfl))
 f302 := Try.func151.trans (congrArg some (by kernel_rfl))
 f303 := Try.func152.trans (congrArg some (by kernel_rfl))
 f304 := Try.func153.trans (congrArg some (by kernel_rfl))
 f305 := Try.func154.trans (congrArg some (by kernel_rfl))
 f306 := Try.func155.trans (congrArg some (by kernel_rfl))
 f307 := Try.func156.trans (congrArg some (by kernel_rfl))
 f308 := Try.func157.trans (congrArg some (by kernel_rfl))
 f309 := Try.func158.trans (congrArg some (by kernel_rfl))
 f310 := Try.func159.trans (congrArg some (by kernel_rfl))
 f329 := Try.func164.trans (congrArg some (by kernel_rfl))
 f330 := Try.func165.trans (congrArg some (by kernel_rfl))
 f333 := Try.func163.trans (congrArg some (by kernel_rfl))
 f334 := Try.func166.trans (congrArg some (by kernel_rfl))
 f335 := Try.func167.trans (congrArg some (by kernel_rfl))
 f336 := Try.func168.trans (congrArg some (by kernel_rfl))
 f344 := Try.func170.trans (congrArg some (by kernel_rfl))
 t0 := Try.underlying0
 a0 := Try.isAgg0
 z0 := Try.sizeOf0
 v0 := Try.zeroValue0
 t3 := Try.underlying3
 a3 := Try.isAgg3
 z3 := Try.sizeOf3
 v3 := Try.zeroValue3
 t4 := Try.underlying4
 a4 := Try.isAgg4
 z4 := Try.sizeOf4
 v4 := Try.zeroValue4
 t5 := Try.underlying5
 a5 := Try.isAgg5
 z5 := Try.sizeOf5
 v5 := Try.zeroValue5
 t9 := Try.underlying9
 a9 := Try.isAgg9
 z9 := Try.sizeOf9
 v9 := Try.zeroValue9
 t31 := Try.underlying22
 a31 := Try.isAgg22
 z31 := Try.sizeOf22
 v31 := Try.zeroValue22
 t46 := Try.underlying153
 a46 := Try.isAgg153
 z46 := Try.sizeOf153
 v46 := Try.zeroValue153
 t51 := Try.underlying194
 a51 := Try.isAgg194
 z51 := Try.sizeOf194
 v51 := Try.zeroValue194
 t53 := Try.underlying100
 a53 := Try.isAgg100
 z53 := Try.sizeOf100
 v53 := Try.zeroValue100
 t131 := Try.underlying182
 a131 := Try.isAgg182
 z131 := Try.sizeOf182
 v131 := Try.zeroValue182
 t182 := Try.underlying206
 a182 := Try.isAgg206
 z182 := Try.sizeOf206
 v182 := Try.zeroValue206
 t183 := Try.underlying207
 a183 := Try.isAgg207
 z183 := Try.sizeOf207
 v183 := Try.zeroValue207
 t218 := Try.underlying215
 a218 := Try.isAgg215
 z218 := Try.sizeOf215
 v218 := Try.zeroValue215
 t222 := Try.underlying219
 a222 := Try.isAgg219
 z222 := Try.sizeOf219
 v222 := Try.zeroValue219
 t228 := Try.underlying221
 a228 := Try.isAgg221
 z228 := Try.sizeOf221
 v228 := Try.zeroValue221
 t229 := Try.underlying180
 a229 := Try.isAgg180
 z229 := Try.sizeOf180
 v229 := Try.zeroValue180 }
open Go.Sort Go.RowKit in
theorem Try.slices_Sort_string (blk off cap : Nat) (ss : List (List UInt8)) (w : World) (hH : Holds encStr w blk off ss.toArray) (hblk : blk < w.heap.size) (hsz : ss.length < 4611686018427387904) :
  Calls Try.prog 139 #[.slice (some ⟨blk, off, none⟩) ss.length cap] w fun e w' =>
   e = .returned (.tuple #[]) ∧ ∃ n os, w' = grow (putRow encStr (Sort.ahead w n) blk off (ss.mergeSort fun x y => decide (x ≤ y)).toArray) os := Any.slices_Sort_string Try.lays190 blk off cap ss w hH hblk hsz
def Try.lays212_ren : Go.Shelf.Ren := ⟨fun | 212 => 130 | 263 => 143 | 264 => 144 | n => n, fun | 46 => 153 | 51 => 194 | 146 => 195 | 53 => 100 | 148 => 197 | n => n, fun | n => n⟩
theorem Try.lays212 : Go.Proofs.Lays.n212 Try.prog Try.lays212_ren := {
 mixed := by kernel_rfl
 f212 := Try.func130.trans (congrArg some (by kernel_rfl))
 f263 := Try.func143.trans (congrArg some (by kernel_rfl))
 f264 := Try.func144.trans (congrArg some (by kernel_rfl))
 t46 := Try.underlying153
 a46 := Try.isAgg153
 z46 := Try.sizeOf153
 v46 := Try.zeroValue153
 t51 := Try.underlying194
 a51 := Try.isAgg194
 z51 := Try.sizeOf194
 v51 := Try.zeroValue194
 t53 := Try.underlying100
 a53 := Try.isAgg100
 z53 := Try.sizeOf100
 v53 := Try.zeroValue100
 t146 := Try.underlying195
 a146 := Try.isAgg195
 z146 := Try.sizeOf195
 v146 := Try.zeroValue195
 t148 := Try.underlying197
 a148 := Try.isAgg197
 z148 := Try.sizeOf197
 v148 := Try.zeroValue197 }
open Go.RowKit Go.Lib in
theorem Try.bits_Mul (x y : Nat) (hx : x < 18446744073709551616) (hy : y < 18446744073709551616) (w : World) :
  Calls Try.prog 130 #[.int .u64 x, .int .u64 y] w fun e w' => e = .returned (.tuple #[.int .u64 ((x * y / 18446744073709551616 : Nat) : Int), .int .u64 ((x * y % 18446744073709551616 : Nat) : Int)]) ∧ w' = w := Any.bits_Mul Try.lays212 x y hx hy w
def Try.lays194_ren : Go.Shelf.Ren := ⟨fun | 194 => 140 | n => n, fun | 31 => 22 | 9 => 9 | 3 => 3 | 4 => 4 | 0 => 0 | n => n, fun | n => n⟩
theorem Try.lays194 : Go.Proofs.Lays.n194 Try.prog Try.lays194_ren := {
 mixed := by kernel_rfl
 f194 := Try.func140.trans (congrArg some (by kernel_rfl))
 t0 := Try.underlying0
 a0 := Try.isAgg0
 z0 := Try.sizeOf0
 v0 := Try.zeroValue0
 t3 := Try.underlying3
 a3 := Try.isAgg3
 z3 := Try.sizeOf3
 v3 := Try.zeroValue3
 t4 := Try.underlying4
 a4 := Try.isAgg4
 z4 := Try.sizeOf4
 v4 := Try.zeroValue4
 t9 := Try.underlying9
 a9 := Try.isAgg9
 z9 := Try.sizeOf9
 v9 := Try.zeroValue9
 t31 := Try.underlying22
 a31 := Try.isAgg22
 z31 := Try.sizeOf22
 v31 := Try.zeroValue22 }
open Go.RowKit Go.Lib Go.Sort in
theorem Try.slices_Compact_string (blk off cap : Nat) (zs : List (List UInt8)) (w : World) (hH : Holds encStr w blk off zs.toArray) (hsz : zs.length ≤ 9223372036854775807) (hcap : zs.length ≤ cap) :
  Calls Try.prog 140 #[.slice (some ⟨blk, off, none⟩) zs.length cap] w fun e w' => e = .returned (.slice (some ⟨blk, off, none⟩) (Lib.compact zs).length cap) ∧ ∃ q, w' = putRow encStr (Sort.ahead w q) blk off (Lib.compact zs ++ List.replicate (zs.length - (Lib.compact zs).length) []).toArray := Any.slices_Compact_string Try.lays194 blk off cap zs w hH hsz hcap
open Go.RowKit Go.Lib Go.Sort in
theorem Try.slices_Compact_string_empty (a : Option Addr) (cap : Nat) (w : World) :
  Calls Try.prog 140 #[.slice a 0 cap] w fun e w' => e = .returned (.slice a 0 cap) ∧ w' = w := Any.slices_Compact_string_empty Try.lays194 a cap w
open Go.RowKit Go.Sort in
theorem Try.slices_Sort_string_none (p : Option Addr) (cap : Nat) (w : World) :
  Calls Try.prog 139 #[.slice p 0 cap] w fun e w' => e = .returned (.tuple #[]) ∧ w' = w := Any.slices_Sort_string_none Try.lays190 p cap w
end Go.Proofs
set_option linter.unusedVariables false
set_option linter.unusedSimpArgs false
namespace Go.Proofs.Ytmpiokdomjchiaa.H
open Go.RowKit Go.Proofs Go.Sort Go.Proofs.Ytmpiokdomjchiaa.Pr Go.Proofs.YtmpiokdomjchiaaW.PrintWords Go.Proofs.Ytmpiokdomjchiaa.Sem
def MadeS (w : World) (xs : List ByteArray) (e : Ending) (w' : World) : Prop := ∃ v : Value, e = .returned v ∧ Kd.R Kd.string 9 w' w.heap.size (fun _ => True) v xs ∧ Below w.heap.size w w'
theorem growNil0 (w : World) : Calls Try.prog 146 #[.slice none 0 0, .int .i64 0] w (MadeS w []) := by
 go_enter Try.func146, Try.ntmps146
 go_wp2
 go_ret
 exact ⟨_, rfl, Kd.R_nil _ _ _ _ _, Below.refl _ _⟩
set_option maxRecDepth 100000 in
theorem growNil1 (n : Int) (h0 : 0 < n) (hb : n ≤ 1000000000000) (w : World) : Calls Try.prog 146 #[.slice none 0 0, .int .i64 n] w (MadeS w []) := by
 have HB := Aside0.mk (Below.refl w.heap.size w)
 have h0' : 0 ≤ n := by omega
 obtain ⟨i9, hi9, hi90, hi91, hi92⟩ := info_parts info9
 go_enter Try.func146, Try.ntmps146
 go_wp2_with (at_builtin; refine Kd.R_append_zeros Kd.string (w0 := w) w.heap.size rfl (.tmp 20) (.tmp 21) 22 3 9 (.string ⟨#[]⟩) 16 rfl Try.underlying22 Try.underlying3 info9 rfl (by decide) (by omega) (.slice none 0 0) ([] : List ByteArray) (⟨#[]⟩ : ByteArray) n (fun _ => True) rfl rfl rfl (fun _ _ => trivial) (Kd.R_nil _ _ _ _ _) h0' HB.out (Nat.le_refl _) (by simp; omega) ?_; intro v1 w1 hR hB hG hat; obtain ⟨A1, c1, hv1, hle, _⟩ := Kd.R_reads hR; have H := Aside0.mk (And.intro hR hB); clear hR hB hG hat; subst hv1; have hcut := cut_to (P := Try.prog) 22 9 .i64 Try.underlying22 hi9 A1 ([] ++ List.replicate n.toNat (⟨#[]⟩ : ByteArray)).length c1 0 (by omega) (by omega) hle)
 go_ret
 exact ⟨_, rfl, by have := Kd.R_take (m := 0) H.out.1 (by simp); simpa using this, H.out.2⟩
theorem growNil (n : Int) (h0 : 0 ≤ n) (hb : n ≤ 1000000000000) (w : World) : Calls Try.prog 146 #[.slice none 0 0, .int .i64 n] w (MadeS w []) := by
 by_cases h : n = 0
 ·subst h; exact growNil0 w
 ·exact growNil1 n (by omega) hb w
theorem concat2 (xs ys : List ByteArray) (A1 A2 : Option Addr) (c1 c2 g : Nat) (w : World) (hx : Kd.C Kd.string w A1 xs.length xs) (hy : Kd.C Kd.string w A2 ys.length ys) (hb : xs.length + ys.length ≤ 1000000000000)
  (h0 : w.cell? ⟨g, 0, none⟩ = some (.slice A1 xs.length c1)) (h1 : w.cell? ⟨g, 1, none⟩ = some (.slice A2 ys.length c2)) :
  Calls Try.prog 138 #[.slice (some ⟨g, 0, none⟩) 2 2] w (MadeS w (xs ++ ys)) := by
 have HX := Lib.hid hx; clear hx
 have HY := Lib.hid hy; clear hy
 have HB := Aside0.mk (Below.refl w.heap.size w)
 go_enter Try.func138, Try.ntmps138
 go_wp2
 go_loop [3, 11] (fun s i => ∃ k : Nat, k ≤ 2 ∧ i = .int .i64 k ∧ s = .int .i64 (if k = 0 then 0 else if k = 1 then (xs.length : Int) else xs.length + ys.length)) (fun _ i => 2 - (intOf i).toNat)
 case atStart => exact ⟨0, by omega, rfl, rfl⟩
 case round =>
  obtain ⟨k, hk, rfl, rfl⟩ := hrel
  match k, hk with
  | 0, _ =>
   go_wp2
   go_round
   case rel => exact ⟨1, by omega, by go_num, by simp⟩
   case measure => simp [intOf]
  | 1, _ =>
   go_wp2
   go_round
   case rel => exact ⟨2, by omega, by go_num, by simp⟩
   case measure => simp [intOf]
  | 2, _ =>
   have hg : (0 : Int) ≤ (xs.length : Int) + (ys.length : Int) := by omega
   have hg2 : (xs.length : Int) + (ys.length : Int) ≤ 1000000000000 := by omega
   go_wp2_with (go_at_call 146; refine (growNil _ hg hg2 _).mono ?_; rintro e w1 ⟨v, rfl, hR, hB⟩; have HR := Aside0.mk hR; have HB1 := Aside0.mk hB; clear hR hB)
   go_loopw [6, 27] (fun v i wr => ∃ k : Nat, k ≤ 2 ∧ i = .int .i64 k ∧ Aside0 (Kd.R Kd.string 9 wr w.heap.size (fun _ => True) v (if k = 0 then [] else if k = 1 then xs else xs ++ ys)) ∧ Aside0 (Below w.heap.size w wr)) (fun _ i _ => 2 - (intOf i).toNat)
   case atStart => exact ⟨0, by omega, rfl, HR, HB1⟩
   case round =>
    obtain ⟨k, hk, rfl, HRr, HBr⟩ := hrel
    clear HR HB1
    have c0 := later HBr.out h0
    have c1' := later HBr.out h1
    match k, hk with
    | 0, _ =>
     have HR0 : Aside0 (Kd.R Kd.string 9 wr w.heap.size (fun _ => True) u6 []) := HRr
     clear HRr
     go_wp2_with (at_builtin; refine Kd.R_append_row Value.string ByteArray.empty (w0 := w) w.heap.size rfl (.tmp 31) (.tmp 32) 22 9 (.string ⟨#[]⟩) 16 rfl Try.underlying22 info9 rfl (by omega) _ [] xs A1 xs.length c1 (fun _ => True) rfl rfl (fun _ _ => trivial) HR0.out (Kd.C_below HX.out HBr.out) HBr.out (HBr.out.size) (by simp; omega) ?_; intro v1 w2 hR2 hB2 _ _; have HR2 := Aside0.mk hR2; have HB2 := Aside0.mk hB2; clear hR2 hB2)
     go_roundw
     case rel => exact ⟨1, by omega, by go_num, ⟨HR2.out⟩, HB2⟩
     case measure => simp [intOf]
    | 1, _ =>
     have HR0 : Aside0 (Kd.R Kd.string 9 wr w.heap.size (fun _ => True) u6 xs) := HRr
     clear HRr
     go_wp2_with (at_builtin; refine Kd.R_append_row Value.string ByteArray.empty (w0 := w) w.heap.size rfl (.tmp 31) (.tmp 32) 22 9 (.string ⟨#[]⟩) 16 rfl Try.underlying22 info9 rfl (by omega) _ xs ys A2 ys.length c2 (fun _ => True) rfl rfl (fun _ _ => trivial) HR0.out (Kd.C_below HY.out HBr.out) HBr.out (HBr.out.size) (by omega) ?_; intro v1 w2 hR2 hB2 _ _; have HR2 := Aside0.mk hR2; have HB2 := Aside0.mk hB2; clear hR2 hB2)
     go_roundw
     case rel => exact ⟨2, by omega, by go_num, ⟨HR2.out⟩, HB2⟩
     case measure => simp [intOf]
    | 2, _ =>
     have HR0 : Aside0 (Kd.R Kd.string 9 wr w.heap.size (fun _ => True) u6 (xs ++ ys)) := HRr
     clear HRr
     go_wp2
     go_ret
     exact ⟨_, rfl, HR0.out, HBr.out⟩
def srt (xs : List ByteArray) : List ByteArray := ((xs.map fun s => s.data.toList).mergeSort fun x y => decide (x ≤ y)).map fun l => ⟨l.toArray⟩
def cmpt (xs : List ByteArray) : List ByteArray := (Lib.compact (xs.map fun s => s.data.toList)).map fun l => ⟨l.toArray⟩
theorem srt_length (xs : List ByteArray) : (srt xs).length = xs.length := by simp [srt]
theorem enc_bytes (xs : List ByteArray) : (xs.map fun s => s.data.toList).map encStr = xs.map Value.string := by
 rw [List.map_map]
 apply List.map_congr_left
 intro s _
 simp [encStr]
theorem enc_back (ls : List (List UInt8)) : ls.map encStr = (ls.map fun l => (⟨l.toArray⟩ : ByteArray)).map Value.string := by
 rw [List.map_map]
 rfl
theorem own_of_RS {w : World} {base e : Nat} {ok : Nat → Prop} {v : Value} {xs : List ByteArray} (h : Kd.R Kd.string e w base ok v xs) : w.ownsRow base e 1 v (xs.map fun s => s.data.toList).length ((xs.map fun s => s.data.toList).map encStr) := by
 rw [enc_bytes, List.length_map]
 exact Kd.own_of_R h
theorem RS_of_own {w : World} {base e n : Nat} {v : Value} {ls : List (List UInt8)} (hn : n = ls.length) (h : w.ownsRow base e 1 v n (ls.map encStr)) : Kd.R Kd.string e w base (fun _ => True) v (ls.map fun l => ⟨l.toArray⟩) :=
 Kd.R_of_own (enc := Value.string) (by rw [enc_back, hn] at h; rw [List.length_map]; exact h) (fun _ _ => trivial)
theorem sortR (base e : Nat) (v : Value) (xs : List ByteArray) (w : World) (h : Kd.R Kd.string e w base (fun _ => True) v xs) (hl : xs.length < 1000000000000) :
  Calls Try.prog 139 #[v] w fun e' w' => e' = .returned (.tuple #[]) ∧ Kd.R Kd.string e w' base (fun _ => True) v (srt xs) ∧ w.grownBy w' v.ownBlock := by
 have ho := own_of_RS h
 rcases ho.2 with ⟨hv, h0⟩ | ⟨g, cap, cur, hv, hb, hg, h1, h2, h3, h4⟩
 ·subst hv
  have hx : xs = [] := by simpa using h0
  subst hx
  refine (Try.slices_Sort_string_none none 0 w).mono ?_
  rintro e' w' ⟨rfl, rfl⟩
  refine ⟨rfl, by simpa [srt] using h, ?_⟩
  exact grown_of_below (Below.refl _ _) _
 ·subst hv
  have hH := holds_of_block (ss := xs.map fun s => s.data.toList) hg (by rw [← h4, Nat.mul_one])
  refine (Try.slices_Sort_string g 0 cap _ w hH (Array.getElem?_eq_some_iff.1 hg).1 (by rw [List.length_map]; omega)).mono ?_
  rintro e' w' ⟨rfl, n, os, rfl⟩
  refine ⟨rfl, ?_, grownBy_sorted _⟩
  have hs := ownsRow_sorted (n := n) (os := os) (ts := (xs.map fun s => s.data.toList).mergeSort fun x y => decide (x ≤ y)) (List.length_mergeSort _) hb hg h1 h2 h3
  exact RS_of_own (List.length_mergeSort _).symm hs
theorem compactR (base e : Nat) (v : Value) (xs : List ByteArray) (w : World) (h : Kd.R Kd.string e w base (fun _ => True) v xs) (hl : xs.length < 1000000000000) :
  Calls Try.prog 140 #[v] w fun e' w' => ∃ v', e' = .returned v' ∧ Kd.R Kd.string e w' base (fun _ => True) v' (cmpt xs) ∧ w.grownBy w' v.ownBlock := by
 have ho := own_of_RS h
 rcases ho.2 with ⟨hv, h0⟩ | ⟨g, cap, cur, hv, hb, hg, h1, h2, h3, h4⟩
 ·subst hv
  have hx : xs = [] := by simpa using h0
  subst hx
  refine (Try.slices_Compact_string_empty none 0 w).mono ?_
  rintro e' w' ⟨rfl, rfl⟩
  refine ⟨_, rfl, h, grown_of_below (Below.refl _ _) _⟩
 ·subst hv
  have hH := holds_of_block (ss := xs.map fun s => s.data.toList) hg (by rw [← h4, Nat.mul_one])
  refine (Try.slices_Compact_string g 0 cap _ w hH (by rw [List.length_map]; omega) h1).mono ?_
  rintro e' w' ⟨rfl, q, rfl⟩
  have hle := Lib.compact_length_le (xs.map fun s => s.data.toList)
  have hc := Lib.ownsRow_putRow (q := q) (k := (Lib.compact (xs.map fun s => s.data.toList)).length) (ys := Lib.compact (xs.map fun s => s.data.toList) ++ List.replicate ((xs.map fun s => s.data.toList).length - (Lib.compact (xs.map fun s => s.data.toList)).length) []) ho (by simp at hle ⊢; omega) hle
  rw [List.take_left] at hc
  refine ⟨_, rfl, RS_of_own rfl hc, ?_⟩
  exact grownBy_sorted (os := #[]) _
def unionS (xs ys : List ByteArray) : List ByteArray := cmpt (srt (xs ++ ys))
theorem union_any (xs ys : List ByteArray) (A1 A2 : Option Addr) (c1 c2 : Nat) (w : World) (hx : Kd.C Kd.string w A1 xs.length xs) (hy : Kd.C Kd.string w A2 ys.length ys) (hb : xs.length + ys.length < 1000000000000) :
  Calls Try.prog 122 #[.slice A1 xs.length c1, .slice A2 ys.length c2] w (MadeS w (unionS xs ys)) := by
 have HX := Lib.hid hx; clear hx
 have HY := Lib.hid hy; clear hy
 have HB := Aside0.mk (Below.refl w.heap.size w)
 go_enter Try.func122, Try.ntmps122
 go_wp2_with fail
 refine (concat2 xs ys A1 A2 c1 c2 _ _ (Kd.C_below HX.out ?_) (Kd.C_below HY.out ?_) (by omega) ?_ ?_).mono ?_
 rotate_right
 ·rintro e w1 ⟨v, rfl, hR, hB⟩
  have hR0 := Kd.R_lower (base' := w.heap.size) hR (by simp)
  have HB1 := Aside0.mk (below_then (below_alloc HB.out _) (by simp) hB)
  have HR := Aside0.mk hR0
  clear hR hB hR0
  go_wp2_with fail
  refine (sortR _ _ _ _ _ HR.out (by simp; omega)).mono ?_
  rintro e w2 ⟨rfl, hR, hG⟩
  have HR2 := Aside0.mk hR
  have HB2 := Aside0.mk (HB1.out.grown hG HB1.out.size (own_base (Kd.own_of_R HR.out)))
  clear hR hG
  go_wp2_with fail
  refine (compactR _ _ _ _ _ HR2.out (by simp [srt_length]; omega)).mono ?_
  rintro e w3 ⟨v3, rfl, hR, hG⟩
  have HR3 := Aside0.mk hR
  have HB3 := Aside0.mk (HB2.out.grown hG HB2.out.size (own_base (Kd.own_of_R HR2.out)))
  clear hR hG
  go_wp2
  go_ret
  exact ⟨_, rfl, HR3.out, HB3.out⟩
 all_goals (first | exact below_alloc HB.out _ | go_simp)
theorem list_ext_getD {α : Type} (d : α) {xs ys : List α} (hl : xs.length = ys.length) (h : ∀ j, j < xs.length → xs.getD j d = ys.getD j d) : xs = ys := by
 apply List.ext_getElem hl
 intro j h1 h2
 have := h j h1
 simpa [List.getD_eq_getElem?_getD, List.getElem?_eq_getElem h1, List.getElem?_eq_getElem h2] using this
theorem equalS (xs ys : List ByteArray) (A1 A2 : Option Addr) (c1 c2 : Nat) (w : World) (hx : Kd.C Kd.string w A1 xs.length xs) (hy : Kd.C Kd.string w A2 ys.length ys) :
  Calls Try.prog 119 #[.slice A1 xs.length c1, .slice A2 ys.length c2] w fun e w' => e = .returned (.bool (decide (xs = ys))) ∧ Drawn0 w w' := by
 by_cases hl : xs.length = ys.length
 ·have hm := C_len hx
  have hq : ((xs.length : Int) != (ys.length : Int)) = false := by rw [hl]; simp
  have HX := Lib.hid hx; clear hx
  have HY := Lib.hid hy; clear hy
  have HLn := Aside0.mk hl; clear hl
  go_enter Try.func119, Try.ntmps119
  go_wp2
  go_loopw [13] (fun i wr => ∃ k : Nat, k ≤ xs.length ∧ i = .int .i64 k ∧ Aside0 (∀ j, j < k → xs.getD j ByteArray.empty = ys.getD j ByteArray.empty) ∧ Drawn0 w wr) (fun i _ => xs.length - (intOf i).toNat)
  case atStart => exact ⟨0, Nat.zero_le _, rfl, ⟨fun j hj => by omega⟩, Drawn0.refl _⟩
  case round =>
   obtain ⟨k, hk, rfl, hz, hD⟩ := hrel
   by_cases hlt : k < xs.length
   ·obtain ⟨a1, hA1, h1⟩ := atS HX.out k hlt
    obtain ⟨a2, hA2, h2⟩ := atS HY.out k (by rw [← HLn.out]; exact hlt)
    subst hA1 hA2
    have g1 := later hD.below h1
    have g2 := later hD.below h2
    clear h1 h2
    have hlt2 : k < ys.length := by rw [← HLn.out]; exact hlt
    obtain ⟨s, hs⟩ : ∃ s, s = xs.getD k ByteArray.empty := ⟨_, rfl⟩
    obtain ⟨t, ht⟩ : ∃ t, t = ys.getD k ByteArray.empty := ⟨_, rfl⟩
    rw [← hs] at g1
    rw [← ht] at g2
    have HS := Aside0.mk hs; clear hs
    have HT := Aside0.mk ht; clear ht
    have i1 : (k : Int) < (xs.length : Int) := by omega
    have i2 : (k : Int) < (ys.length : Int) := by omega
    have i0 : (0 : Int) ≤ (k : Int) := by omega
    cases hb : (s.toList == t.toList) with
    | false =>
     go_wp2_with fail
     go_quiet (fail)
     go_wp2
     go_ret
     refine ⟨ret_bool (decide_eq_false fun he => ?_).symm, hD.step _⟩
     rw [HS.out, HT.out, he] at hb
     simp at hb
    | true =>
     go_wp2_with fail
     go_quiet (fail)
     go_wp2
     go_roundw
     case rel => exact ⟨k + 1, by omega, by go_num, ⟨fun j hj => by
      rcases Nat.lt_succ_iff_lt_or_eq.1 hj with h | rfl
      ·exact hz.out j h
      ·rw [← HS.out, ← HT.out]
       exact ByteArray.ext (Array.toList_inj.1 (by simpa [ByteArray.toList_eq] using hb))⟩, hD.step _⟩
     case measure => simp [intOf]; omega
   ·go_wp2
    go_ret
    exact ⟨ret_bool (decide_eq_true (list_ext_getD ByteArray.empty HLn.out (fun j hj => hz.out j (by omega)))).symm, hD⟩
 ·have hq : ((xs.length : Int) != (ys.length : Int)) = true := by simp; omega
  have hn : decide (xs = ys) = false := decide_eq_false fun h => hl (by rw [h])
  rw [hn]
  clear hx hy hl hn
  go_enter Try.func119, Try.ntmps119
  go_wp2
  go_ret
  exact ⟨rfl, Drawn0.refl _⟩
def namedB (ls : List ByteArray) : Bool := decide (ls.length ≤ 64) && (!ls.any tooLong && decide (ls = unionS ls []))
theorem named_any (ls : List ByteArray) (A : Option Addr) (c : Nat) (w : World) (hr : Kd.C Kd.string w A ls.length ls) :
  Calls Try.prog 100 #[.slice A ls.length c] w fun e w' => e = .returned (.bool (namedB ls)) ∧ Below w.heap.size w w' := by
 have HB := Aside0.mk (Below.refl w.heap.size w)
 have hnil := Kd.C_nil Kd.string w
 by_cases h1 : (64 : Int) < (ls.length : Int)
 ·have e1 : namedB ls = false := by unfold namedB; rw [decide_eq_false (by omega)]; rfl
  rw [e1]
  clear hr hnil e1
  go_enter Try.func100, Try.ntmps100
  go_wp2
  go_ret
  exact ⟨rfl, HB.out⟩
 ·have e0 : namedB ls = (!ls.any tooLong && decide (ls = unionS ls [])) := by unfold namedB; rw [decide_eq_true (by omega)]; rfl
  have HR := Lib.hid hr; clear hr
  have HC := Lib.hid hnil; clear hnil
  have HL := Lib.hid (anyLong ls A c w HR.out)
  cases hb : ls.any tooLong with
  | true =>
   have e1 : namedB ls = false := by rw [e0, hb]; rfl
   rw [e1]
   clear e0 e1
   rw [hb] at HL
   clear hb
   go_enter Try.func100, Try.ntmps100
   go_wp2_with (go_at_call 120; refine HL.out.mono ?_; rintro e w' ⟨rfl, rfl⟩)
   go_ret
   exact ⟨rfl, HB.out⟩
  | false =>
   have e1 : namedB ls = decide (ls = unionS ls []) := by rw [e0, hb]; rfl
   rw [e1]
   clear e0 e1
   rw [hb] at HL
   clear hb
   go_enter Try.func100, Try.ntmps100
   go_wp2_with (go_at_call 120; refine HL.out.mono ?_; rintro e w' ⟨rfl, rfl⟩)
   refine (union_any ls [] A none c 0 _ HR.out HC.out (by simp; omega)).mono ?_
   rintro e w1 ⟨v, rfl, hR, hB⟩
   obtain ⟨B1, c1, hv, hle, hC⟩ := Kd.R_reads hR
   subst hv
   have HB1 := Aside0.mk hB
   have HC1 := Aside0.mk hC
   clear hR hB hC
   go_wp2_with fail
   refine (equalS ls (unionS ls []) A B1 c c1 _ (Kd.C_below HR.out HB1.out) HC1.out).mono ?_
   rintro e w2 ⟨rfl, hD⟩
   have HB2 := Aside0.mk (below_then HB1.out HB1.out.size hD.below)
   clear hD
   go_wp2
   go_ret
   exact ⟨rfl, HB2.out⟩
end Go.Proofs.Ytmpiokdomjchiaa.H
set_option linter.unusedVariables false
set_option linter.unusedSimpArgs false
namespace Go.Proofs.Ytmpiokdomjchiaa.H
open Go.RowKit Go.Proofs.Ytmpiokdomjchiaa.Pr Go.Proofs.YtmpiokdomjchiaaW.PrintWords Go.Proofs.Ytmpiokdomjchiaa.Sem
theorem node_is (i n : Int) (b : Bool) (hb : decide (0 ≤ i ∧ i < n) = b) (p : Addr) (w : World) (h0 : w.cell? p = some (.int .i64 n)) :
  Calls Try.prog 101 #[.int .i64 i, .pointer (some p)] w fun e w' => e = .returned (.bool b) ∧ w = w' := by
 subst hb
 exact node_any i n p w h0
theorem compare_is (a b : Ed) (r : Bool) (hr : decide (cmpE a b < 0) = r) (w : World) : Calls Try.prog 102 #[.agg #[.int .i64 a.f0, .int .i64 a.f1, .int .i64 a.f2], .agg #[.int .i64 b.f0, .int .i64 b.f1, .int .i64 b.f2]] w fun e w' => ∃ z : Int, e = .returned (.int .i64 z) ∧ Aside0 (decide (z < 0) = r) ∧ Below w.heap.size w w' :=
 (compareE a b w).mono fun e w' ⟨he, hb⟩ => ⟨_, he, ⟨hr⟩, hb⟩
def mayB (n : Int) (ls : List ByteArray) (es : List Ed) : Bool :=
 decide (1 ≤ n) && (decide (n ≤ 2048) && (namedB ls && (decide (es.length ≤ 1000000) && (List.range es.length).all (okAt n ls.length es))))
def errB (b : Bool) : Int := if b then 0 else 1
def BoxL (w : World) (b : Nat) (n : Int) (v1 v2 : Value) : Prop := w.heap[b]? = some (.cells #[.int .i64 n, v1, v2] 25 (0, 0))
theorem BoxL.c0 {w : World} {b : Nat} {n : Int} {v1 v2 : Value} (h : BoxL w b n v1 v2) : w.cell? ⟨b, 0, none⟩ = some (.int .i64 n) := (blk_cell h 0).trans rfl
theorem BoxL.c1 {w : World} {b : Nat} {n : Int} {v1 v2 : Value} (h : BoxL w b n v1 v2) : w.cell? ⟨b, 1, none⟩ = some v1 := (blk_cell h 1).trans rfl
theorem BoxL.c2 {w : World} {b : Nat} {n : Int} {v1 v2 : Value} (h : BoxL w b n v1 v2) : w.cell? ⟨b, 2, none⟩ = some v2 := (blk_cell h 2).trans rfl
theorem BoxL.below {w w1 : World} {b : Nat} {n : Int} {v1 v2 : Value} (h : BoxL w b n v1 v2) (hb : Below w.heap.size w w1) : BoxL w1 b n v1 v2 := blk_below h hb
theorem check_size (n : Int) (ls : List ByteArray) (es : List Ed) (A1 A2 : Option Addr) (c1 c2 : Nat) (w : World) (h : n < 1 ∨ 2048 < n) :
  Calls Try.prog 66 #[.agg #[.int .i64 n, .slice A1 ls.length c1, .slice A2 es.length c2]] w fun e w' => e = .returned (.int .i64 1) ∧ Below w.heap.size w w' := by
 have HB := Aside0.mk (Below.refl w.heap.size w)
 rcases h with h | h
 ·go_enter Try.func66, Try.ntmps66
  go_wp2
  go_ret
  exact ⟨rfl, below_alloc HB.out _⟩
 ·have h' : ¬ n < 1 := by omega
  go_enter Try.func66, Try.ntmps66
  go_wp2
  go_ret
  exact ⟨rfl, below_alloc HB.out _⟩
theorem check_named (n : Int) (ls : List ByteArray) (es : List Ed) (A1 A2 : Option Addr) (c1 c2 : Nat) (w : World) (h0 : ¬ n < 1) (h1 : ¬ 2048 < n) (hr1 : Kd.C Kd.string w A1 ls.length ls) (h : namedB ls = false) :
  Calls Try.prog 66 #[.agg #[.int .i64 n, .slice A1 ls.length c1, .slice A2 es.length c2]] w fun e w' => e = .returned (.int .i64 1) ∧ Below w.heap.size w w' := by
 have HB := Aside0.mk (Below.refl w.heap.size w)
 have HN : ∀ W, Below w.heap.size w W → Calls Try.prog 100 #[.slice A1 ls.length c1] W fun e w' => e = .returned (.bool false) ∧ Below W.heap.size W w' := fun W hW => by
  have := named_any ls A1 c1 W (Kd.C_below hr1 hW)
  rwa [h] at this
 have HN' := Lib.hid HN
 clear HN hr1 h
 go_enter Try.func66, Try.ntmps66
 go_wp2_with (go_at_call 100; refine (HN'.out _ (below_alloc HB.out _)).mono ?_; rintro e w1 ⟨rfl, hB⟩; have HB1 := Aside0.mk (below_then (below_alloc HB.out _) (by simp) hB); clear hB)
 go_ret
 exact ⟨rfl, HB1.out⟩
theorem bad_at {n nl : Int} {es : List Ed} {k : Nat} (hk : k < es.length) (h : okAt n nl es k = false) : 1 = errB ((List.range es.length).all (okAt n nl es)) := by
 have : (List.range es.length).all (okAt n nl es) = false := by
  rw [Bool.eq_false_iff]
  intro he
  have := List.all_eq_true.1 he k (List.mem_range.2 hk)
  rw [h] at this
  cases this
 rw [this]; rfl
theorem quiet_same {P : Program} {f : FuncId} {args : Array Value} {w : World} {n : Nat} {v : Value} (h : Calls P f args (w.drewN n) fun e w' => e = .returned v ∧ w.drewN n = w') : Calls P f args (w.drewN n) fun e w'' => e = .returned v ∧ ∃ m, w'' = w.drewN m :=
 h.mono fun _ _ ⟨he, hw⟩ => ⟨he, n, hw.symm⟩
set_option maxHeartbeats 8000000 in
set_option maxRecDepth 100000 in
theorem check_main (n : Int) (ls : List ByteArray) (es : List Ed) (A1 A2 : Option Addr) (c1 c2 : Nat) (w : World) (h0 : ¬ n < 1) (h1 : ¬ 2048 < n) (hr1 : Kd.C Kd.string w A1 ls.length ls) (hr2 : Kd.C k81 w A2 es.length es) (h : namedB ls = true) :
  Calls Try.prog 66 #[.agg #[.int .i64 n, .slice A1 ls.length c1, .slice A2 es.length c2]] w fun e w' => e = .returned (.int .i64 (errB (decide (es.length ≤ 1000000) && (List.range es.length).all (okAt n ls.length es)))) ∧ Below w.heap.size w w' := by
 have HB := Aside0.mk (Below.refl w.heap.size w)
 have HN : ∀ W, Below w.heap.size w W → Calls Try.prog 100 #[.slice A1 ls.length c1] W fun e w' => e = .returned (.bool true) ∧ Below W.heap.size W w' := fun W hW => by
  have := named_any ls A1 c1 W (Kd.C_below hr1 hW)
  rwa [h] at this
 have HN' := Lib.hid HN
 have hm := C_len hr2
 have HR := Aside0.mk hr2
 clear HN hr1 h hr2
 by_cases hl : (1000000 : Int) < (es.length : Int)
 ·have e1 : errB (decide (es.length ≤ 1000000) && (List.range es.length).all (okAt n ls.length es)) = 1 := by rw [decide_eq_false (by omega)]; rfl
  rw [e1]; clear e1
  go_enter Try.func66, Try.ntmps66
  go_wp2_with fail
  refine (HN'.out _ (below_alloc HB.out _)).mono ?_; rintro e w1 ⟨rfl, hB⟩
  have HX : BoxL w1 w.heap.size n (.slice A1 ls.length c1) (.slice A2 es.length c2) := blk_below (blk_new w _) hB
  have HB1 := Aside0.mk (below_then (below_alloc HB.out _) (by simp) hB)
  have b2 := HX.c2
  clear hB HX
  go_wp2
  go_ret
  exact ⟨rfl, HB1.out⟩
 ·have e1 : errB (decide (es.length ≤ 1000000) && (List.range es.length).all (okAt n ls.length es)) = errB ((List.range es.length).all (okAt n ls.length es)) := by rw [decide_eq_true (by omega)]; rfl
  rw [e1]; clear e1
  go_enter Try.func66, Try.ntmps66
  go_wp2_with fail
  refine (HN'.out _ (below_alloc HB.out _)).mono ?_; rintro e w1 ⟨rfl, hB⟩
  have HX := Aside0.mk (show BoxL w1 w.heap.size n (.slice A1 ls.length c1) (.slice A2 es.length c2) from blk_below (blk_new w _) hB)
  have HB1 := Aside0.mk (below_then (below_alloc HB.out _) (by simp) hB)
  have b2 := HX.out.c2
  clear hB
  go_wp2
  clear b2
  go_loopw [30] (fun i wr => ∃ k : Nat, k ≤ es.length ∧ i = .int .i64 k ∧ Aside0 (∀ j, j < k → okAt n ls.length es j = true) ∧ Aside0 (BoxL wr w.heap.size n (.slice A1 ls.length c1) (.slice A2 es.length c2)) ∧ Aside0 (Below w.heap.size w wr)) (fun i _ => es.length - (intOf i).toNat)
  case atStart => exact ⟨0, Nat.zero_le _, rfl, ⟨fun j hj => by omega⟩, HX, HB1⟩
  case round =>
   obtain ⟨k, hk, rfl, hz, HXr, HBr⟩ := hrel
   clear HX HB1
   by_cases hlt : k < es.length
   ·obtain ⟨ad, hA, g0, g1, g2⟩ := atE HR.out k hlt
    subst hA
    replace g0 := later HBr.out g0
    replace g1 := later HBr.out g1
    replace g2 := later HBr.out g2
    obtain ⟨x, hx⟩ : ∃ x, x = es.getD k z81 := ⟨_, rfl⟩
    rw [← hx] at g0 g1 g2
    have hx' := Aside0.mk hx; clear hx
    go_wp2_with fail
    have b0 : ∀ o, (wr.alloc o).cell? ⟨w.heap.size, 0, none⟩ = some (.int .i64 n) := fun o => (HXr.out.below (below_alloc (Below.refl _ _) o)).c0
    have b1 : ∀ o, (wr.alloc o).cell? ⟨w.heap.size, 1, none⟩ = some (.slice A1 ls.length c1) := fun o => (HXr.out.below (below_alloc (Below.refl _ _) o)).c1
    cases hF : decide (0 ≤ x.f0 ∧ x.f0 < n) with
    | false =>
     have HF := Aside0.mk hF; clear hF
     go_quiet ((first | (go_at_call_of 101 (x.f0); exact quiet_same (node_is x.f0 n _ HF.out _ _ (by go_simp)))))
     go_wp2
     go_ret
     exact ⟨ret_int (bad_at hlt (by unfold okAt; rw [← hx'.out]; rw [HF.out]; rfl)), by repeat (first | exact HBr.out | apply below_alloc | apply pw_below_drewN | apply below_drew)⟩
    | true =>
     have HF := Aside0.mk hF; clear hF
     cases hT : decide (0 ≤ x.f2 ∧ x.f2 < n) with
     | false =>
      have HT := Aside0.mk hT; clear hT
      go_quiet ((first | (go_at_call_of 101 (x.f0); exact quiet_same (node_is x.f0 n _ HF.out _ _ (by go_simp))) | (go_at_call_of 101 (x.f2); exact quiet_same (node_is x.f2 n _ HT.out _ _ (by go_simp)))))
      go_wp2
      go_ret
      exact ⟨ret_int (bad_at hlt (by unfold okAt; rw [← hx'.out]; rw [HF.out, HT.out]; rfl)), by repeat (first | exact HBr.out | apply below_alloc | apply pw_below_drewN | apply below_drew)⟩
     | true =>
      have HT := Aside0.mk hT; clear hT
      by_cases hL : x.f1 < 0
      ·have HL := Aside0.mk (show decide (0 ≤ x.f1) = false by rw [decide_eq_false (by omega)])
       go_quiet ((first | (go_at_call_of 101 (x.f0); exact quiet_same (node_is x.f0 n _ HF.out _ _ (by go_simp))) | (go_at_call_of 101 (x.f2); exact quiet_same (node_is x.f2 n _ HT.out _ _ (by go_simp)))))
       go_wp2
       go_ret
       exact ⟨ret_int (bad_at hlt (by unfold okAt; rw [← hx'.out]; rw [HF.out, HT.out, HL.out]; rfl)), by repeat (first | exact HBr.out | apply below_alloc | apply pw_below_drewN | apply below_drew)⟩
      ·have HL := Aside0.mk (show decide (0 ≤ x.f1) = true by rw [decide_eq_true (by omega)])
       by_cases hM : (ls.length : Int) ≤ x.f1
       ·have HM := Aside0.mk (show decide (x.f1 < (ls.length : Int)) = false by rw [decide_eq_false (by omega)])
        go_quiet ((first | (go_at_call_of 101 (x.f0); exact quiet_same (node_is x.f0 n _ HF.out _ _ (by go_simp))) | (go_at_call_of 101 (x.f2); exact quiet_same (node_is x.f2 n _ HT.out _ _ (by go_simp)))))
        go_wp2
        go_ret
        exact ⟨ret_int (bad_at hlt (by unfold okAt; rw [← hx'.out]; rw [HF.out, HT.out, HL.out, HM.out]; rfl)), by repeat (first | exact HBr.out | apply below_alloc | apply pw_below_drewN | apply below_drew)⟩
       ·have HM := Aside0.mk (show decide (x.f1 < (ls.length : Int)) = true by rw [decide_eq_true (by omega)])
        by_cases hK : k = 0
        ·subst hK
         go_quiet ((first | (go_at_call_of 101 (x.f0); exact quiet_same (node_is x.f0 n _ HF.out _ _ (by go_simp))) | (go_at_call_of 101 (x.f2); exact quiet_same (node_is x.f2 n _ HT.out _ _ (by go_simp)))))
         go_wp2
         go_roundw
         case rel => exact ⟨1, by omega, by go_num, ⟨fun j hj => by obtain rfl : j = 0 := (by omega); unfold okAt; rw [← hx'.out, HF.out, HT.out, HL.out, HM.out]; rfl⟩, ⟨HXr.out.below (by repeat (first | exact Below.refl _ _ | apply below_alloc | apply pw_below_drewN | apply below_drew))⟩, ⟨by repeat (first | exact HBr.out | apply below_alloc | apply pw_below_drewN | apply below_drew)⟩⟩
         case measure => simp [intOf]; omega
        ·have hK' : (0 : Int) < (k : Int) := by omega
         obtain ⟨ad', hA', p0, p1, p2⟩ := atE HR.out (k - 1) (by omega)
         cases hA'
         replace p0 := later HBr.out p0
         replace p1 := later HBr.out p1
         replace p2 := later HBr.out p2
         obtain ⟨y, hy⟩ : ∃ y, y = es.getD (k - 1) z81 := ⟨_, rfl⟩
         rw [← hy] at p0 p1 p2
         have hy' := Aside0.mk hy
         clear hy
         have q0 := fun o => later (below_alloc (Below.refl wr.heap.size wr) o) p0
         have q1 := fun o => later (below_alloc (Below.refl wr.heap.size wr) o) p1
         have q2 := fun o => later (below_alloc (Below.refl wr.heap.size wr) o) p2
         clear p0 p1 p2
         have i0 : (0 : Int) ≤ (k : Int) - 1 := by omega
         have d1 : decide (x.f1 < 0) = false := decide_eq_false hL
         have d2 : decide ((ls.length : Int) ≤ x.f1) = false := decide_eq_false hM
         have hw1 : IntKind.i64.wrap ((k : Int) - 1) = (k : Int) - 1 := by rw [IntKind.wrap_i64]; omega
         have hw2 : ((k : Int) - 1).toNat = k - 1 := by omega
         have j0 : (1 : Int) ≤ (k : Int) := by omega
         have j1 : (k : Int) < (es.length : Int) + 1 := by omega
         have j2 : 1 ≤ k := by omega
         have j3 : k - 1 < es.length := by omega
         have j4 : (k : Int) ≤ (es.length : Int) := by omega
         have d4 : decide (0 < k) = true := decide_eq_true (by omega)
         have d3 : decide ((0 : Int) < (k : Int)) = true := decide_eq_true hK'
         have i1 : (k : Int) - 1 < (es.length : Int) := by omega
         have b2 : ∀ o, (wr.alloc o).cell? ⟨w.heap.size, 2, none⟩ = some (.slice (some ad) es.length c2) := fun o => (HXr.out.below (below_alloc (Below.refl _ _) o)).c2
         go_region_held3 (fun w' => w'.cell? ⟨w.heap.size, 0, none⟩ = some (.int .i64 n) ∧ w'.cell? ⟨w.heap.size, 1, none⟩ = some (.slice A1 ls.length c1) ∧ w'.cell? ⟨w.heap.size, 2, none⟩ = some (.slice (some ad) es.length c2) ∧ w'.cell? ⟨wr.heap.size, 0, none⟩ = some (.int .i64 x.f0) ∧ w'.cell? ⟨wr.heap.size, 1, none⟩ = some (.int .i64 x.f1) ∧ w'.cell? ⟨wr.heap.size, 2, none⟩ = some (.int .i64 x.f2) ∧ w'.cell? (ad.add ((k - 1) * 3)) = some (.int .i64 y.f0) ∧ w'.cell? ⟨(ad.add ((k - 1) * 3)).block, (ad.add ((k - 1) * 3)).off + 1, none⟩ = some (.int .i64 y.f1) ∧ w'.cell? ⟨(ad.add ((k - 1) * 3)).block, (ad.add ((k - 1) * 3)).off + 2, none⟩ = some (.int .i64 y.f2)) (first | go_keep | (refine ⟨later hB ?_, later hB ?_, later hB ?_, later hB ?_, later hB ?_, later hB ?_, later hB ?_, later hB ?_, later hB ?_⟩ <;> go_keep)) (first | (go_at_call_of 101 (x.f0); refine (node_is x.f0 n _ HF.out _ _ (by go_keep)).mono ?_; rintro e w' ⟨rfl, rfl⟩) | (go_at_call_of 101 (x.f2); refine (node_is x.f2 n _ HT.out _ _ (by go_keep)).mono ?_; rintro e w' ⟨rfl, rfl⟩) | (go_at_call 102; refine (compare_is y x _ rfl _).mono ?_; rintro e w' ⟨z, rfl, hz', hB⟩))
         clear hw1 hw2 j0 j1 j2 j3 j4 q0 q1 q2
         have HW := Aside0.mk (below_then (show Below w.heap.size w _ by repeat (first | exact HBr.out | apply below_alloc | apply pw_below_drewN | apply below_drew)) (below_size (by repeat (first | exact HBr.out | apply below_alloc | apply pw_below_drewN | apply below_drew))) hB)
         have HXw := Aside0.mk ((HXr.out.below (show Below wr.heap.size wr _ by repeat (first | exact Below.refl _ _ | apply below_alloc | apply pw_below_drewN | apply below_drew))).below hB)
         clear hB
         by_cases hneg : z < 0
         ·have HC := Aside0.mk (show decide (cmpE y x < 0) = true by rw [← hz'.out]; exact decide_eq_true hneg)
          go_wp2
          go_roundw
          case rel => exact ⟨k + 1, by omega, by go_num, ⟨fun j hj => by
           rcases Nat.lt_succ_iff_lt_or_eq.1 hj with h | rfl
           ·exact hz.out j h
           ·unfold okAt; rw [← hx'.out, ← hy'.out, HF.out, HT.out, HL.out, HM.out, HC.out]; simp⟩, HXw, HW⟩
          case measure => simp [intOf]; omega
         ·have HC := Aside0.mk (show decide (cmpE y x < 0) = false by rw [← hz'.out]; exact decide_eq_false hneg)
          go_wp2
          go_ret
          exact ⟨ret_int (bad_at hlt (by unfold okAt; rw [← hx'.out, ← hy'.out, HF.out, HT.out, HL.out, HM.out, HC.out, decide_eq_false hK]; rfl)), HW.out⟩
   ·go_wp2
    go_ret
    refine ⟨ret_int ?_, HBr.out⟩
    have : (List.range es.length).all (okAt n ls.length es) = true := List.all_eq_true.2 fun j hj => hz.out j (by have := List.mem_range.1 hj; omega)
    rw [this]; rfl
theorem check_any (n : Int) (ls : List ByteArray) (es : List Ed) (A1 A2 : Option Addr) (c1 c2 : Nat) (w : World) (hr1 : Kd.C Kd.string w A1 ls.length ls) (hr2 : Kd.C k81 w A2 es.length es) :
  Calls Try.prog 66 #[.agg #[.int .i64 n, .slice A1 ls.length c1, .slice A2 es.length c2]] w fun e w' => e = .returned (.int .i64 (errB (mayB n ls es))) ∧ Below w.heap.size w w' := by
 unfold mayB
 by_cases h0 : n < 1
 ·rw [decide_eq_false (by omega)]
  exact check_size n ls es A1 A2 c1 c2 w (.inl h0)
 ·rw [decide_eq_true (show 1 ≤ n by omega), Bool.true_and]
  by_cases h1 : 2048 < n
  ·rw [decide_eq_false (by omega)]
   exact check_size n ls es A1 A2 c1 c2 w (.inr h1)
  ·rw [decide_eq_true (show n ≤ 2048 by omega), Bool.true_and]
   cases h : namedB ls with
   | false => exact check_named n ls es A1 A2 c1 c2 w h0 h1 hr1 h
   | true =>
    rw [Bool.true_and]
    exact check_main n ls es A1 A2 c1 c2 w h0 h1 hr1 hr2 h
theorem check_yes (n : Int) (ls : List ByteArray) (es : List Ed) (A1 A2 : Option Addr) (c1 c2 : Nat) (w : World) (hr1 : Kd.C Kd.string w A1 ls.length ls) (hr2 : Kd.C k81 w A2 es.length es) (h : mayB n ls es = true) :
  Calls Try.prog 66 #[.agg #[.int .i64 n, .slice A1 ls.length c1, .slice A2 es.length c2]] w fun e w' => e = .returned (.int .i64 0) ∧ Below w.heap.size w w' := by
 have := check_any n ls es A1 A2 c1 c2 w hr1 hr2
 rwa [h] at this
theorem check_no (n : Int) (ls : List ByteArray) (es : List Ed) (A1 A2 : Option Addr) (c1 c2 : Nat) (w : World) (hr1 : Kd.C Kd.string w A1 ls.length ls) (hr2 : Kd.C k81 w A2 es.length es) (h : mayB n ls es = false) :
  Calls Try.prog 66 #[.agg #[.int .i64 n, .slice A1 ls.length c1, .slice A2 es.length c2]] w fun e w' => e = .returned (.int .i64 1) ∧ Below w.heap.size w w' := by
 have := check_any n ls es A1 A2 c1 c2 w hr1 hr2
 rwa [h] at this
end Go.Proofs.Ytmpiokdomjchiaa.H
set_option linter.unusedVariables false
set_option linter.unusedSimpArgs false
namespace Go.Proofs.Ytmpiokdomjchiaa.H
open Go.RowKit Go.Proofs.Ytmpiokdomjchiaa.Pr Go.Proofs.YtmpiokdomjchiaaW.PrintWords Go.Proofs.Ytmpiokdomjchiaa.Sem
theorem info81 : (Try.prog.info? 81).map (fun i => (i.zero, i.size, i.bytes)) = some (some (.agg #[(.int .i64 0), (.int .i64 0), (.int .i64 0)]), 3, 24) := by kernel_rfl
abbrev nilS : Value := .slice none 0 0
structure Tab {α : Type} (d : Kd α) (e T : Nat) (w : World) (base g : Nat) (vs : List Value) (xss : List (List α)) : Prop where
  len : vs.length = xss.length
  blk : w.heap[g]? = some (.cells vs.toArray T (0, 0))
  row : ∀ i, i < vs.length → d.R e w base (fun _ => True) (vs.getD i nilS) (xss.getD i [])
  apart : ∀ i j k, i < vs.length → j < vs.length → (vs.getD i nilS).ownBlock = some k → (vs.getD j nilS).ownBlock = some k → i = j
section
variable {α : Type} {d : Kd α} {e T : Nat} {w w1 : World} {base g : Nat} {vs : List Value} {xss : List (List α)}
theorem Tab.lt (h : Tab d e T w base g vs xss) : g < w.heap.size := (Array.getElem?_eq_some_iff.1 h.blk).1
theorem Tab.below (h : Tab d e T w base g vs xss) (hb : Below w.heap.size w w1) : Tab d e T w1 base g vs xss :=
 ⟨h.len, (hb.block g h.lt).trans h.blk, fun i hi => Kd.R_below (h.row i hi) hb, h.apart⟩
theorem Tab.grown (hE : d.E = []) (h : Tab d e T w base g vs xss) {b : Nat} {o : Obj} (hb : w.heap[b]? = some o) (ho : ∀ c t fr, o = .cells c t fr → t ≠ T ∧ t ≠ e) (hg : w.grownBy w1 (some b)) : Tab d e T w1 base g vs xss := by
 have hbg : some g ≠ some b := by
  intro hh
  cases hh
  rw [h.blk] at hb
  cases hb
  exact (ho _ _ _ rfl).1 rfl
 refine ⟨h.len, (hg.block g h.lt hbg).trans h.blk, fun i hi => Kd.R_grown1 (h.row i hi) hE hg ?_, h.apart⟩
 intro hh
 obtain ⟨cells, hc⟩ := Kd.R_typed (h.row i hi) b hh.symm
 rw [hc] at hb
 cases hb
 exact (ho _ _ _ rfl).2 rfl
theorem Tab.start (n : Nat) (hblk : w.heap[g]? = some (.cells (madeCells #[nilS] n) T (0, 0))) : Tab d e T w base g (List.replicate n nilS) (List.replicate n []) where
 len := by simp
 blk := by
  rw [hblk, ← toList_madeCells_one]
 row := fun i hi => by
  have hi' : i < n := by simpa using hi
  rw [show (List.replicate n nilS).getD i nilS = nilS by simp [List.getD_eq_getElem?_getD, List.getElem?_replicate, hi'], show (List.replicate n ([] : List α)).getD i [] = [] by simp [List.getD_eq_getElem?_getD, List.getElem?_replicate, hi']]
  exact Kd.R_nil _ _ _ _ _
 apart := fun i j k hi hj hk => by
  have hi' : i < n := by simpa using hi
  rw [show (List.replicate n nilS).getD i nilS = nilS by simp [List.getD_eq_getElem?_getD, List.getElem?_replicate, hi']] at hk
  simp [nilS, Value.ownBlock] at hk
theorem Tab.cell (h : Tab d e T w base g vs xss) (i : Nat) (hi : i < xss.length) : w.cell? ⟨g, i, none⟩ = some (vs.getD i nilS) := by
 have h1 := blk_cell h.blk i
 rw [h1]
 have : i < vs.length := by rw [h.len]; exact hi
 simp [List.getD_eq_getElem?_getD, List.getElem?_eq_getElem this]
theorem Tab.read (h : Tab d e T w base g vs xss) (i : Nat) (hi : i < xss.length) : ∃ A c, vs.getD i nilS = .slice A (xss.getD i []).length c ∧ w.cell? ⟨g, i, none⟩ = some (.slice A (xss.getD i []).length c) ∧ d.C w A (xss.getD i []).length (xss.getD i []) := by
 obtain ⟨A, c, hv, _, hC⟩ := Kd.R_reads (h.row i (by rw [h.len]; exact hi))
 exact ⟨A, c, hv, by rw [h.cell i hi, hv], hC⟩
theorem Tab.frozen {b? : Option Nat} (h : Tab d e T w base g vs xss) (i : Nat) (hg : w.grownBy w1 b?) (hne : some g ≠ b?) : w1.frozen? ⟨g, i, none⟩ = false := by
 unfold World.frozen?
 simp only [(hg.block g h.lt hne).trans h.blk]
 simp
theorem Tab.put (hE : d.E = []) (hT : e ≠ T) (h : Tab d e T w base g vs xss) (i : Nat) (hi : i < xss.length) {v1 : Value} {ys : List α} (hR : d.R e w1 base (fun _ => True) v1 ys) (hg : w.grownBy w1 (vs.getD i nilS).ownBlock)
  (hat : v1.ownBlock = (vs.getD i nilS).ownBlock ∨ ∃ b, v1.ownBlock = some b ∧ w.heap.size ≤ b) : Tab d e T (w1.setCell ⟨g, i, none⟩ v1) base g (vs.set i v1) (xss.set i ys) := by
 have hi' : i < vs.length := by rw [h.len]; exact hi
 have hrow : ∀ j, j < vs.length → some g ≠ (vs.getD j nilS).ownBlock := fun j hj => Kd.R_ne (h.row j hj) h.blk hT
 have hgb : w1.heap[g]? = some (.cells vs.toArray T (0, 0)) := (hg.block g h.lt (hrow i hi')).trans h.blk
 have hset : (w1.setCell ⟨g, i, none⟩ v1).heap[g]? = some (.cells (vs.set i v1).toArray T (0, 0)) := by
  simp [World.setCell, Array.getElem?_modify, hgb]
 have hv1 : some g ≠ v1.ownBlock := Kd.R_ne hR hgb hT
 have gd : ∀ j, j < vs.length → (vs.set i v1).getD j nilS = if j = i then v1 else vs.getD j nilS := by
  intro j hj
  by_cases e0 : j = i
  ·subst e0; simp [List.getD_eq_getElem?_getD, List.getElem?_set, hj]
  ·rw [if_neg e0]; simp [List.getD_eq_getElem?_getD, List.getElem?_set, Ne.symm e0]
 have gx : ∀ j, j < vs.length → (xss.set i ys).getD j [] = if j = i then ys else xss.getD j [] := by
  intro j hj
  rw [h.len] at hj
  by_cases e0 : j = i
  ·subst e0; simp [List.getD_eq_getElem?_getD, List.getElem?_set, hj]
  ·rw [if_neg e0]; simp [List.getD_eq_getElem?_getD, List.getElem?_set, Ne.symm e0]
 refine ⟨by simp [h.len], hset, fun j hj => ?_, fun j k b hj hk hjb hkb => ?_⟩
 ·have hj' : j < vs.length := by simpa using hj
  rw [gd j hj', gx j hj']
  by_cases e0 : j = i
  ·rw [if_pos e0, if_pos e0]
   exact Kd.R_mono (Kd.R_far (Kd.R_far1 hR hE hv1) (fun k hk => hk.2) v1) (fun _ _ => trivial)
  ·rw [if_neg e0, if_neg e0]
   have hne : (vs.getD i nilS).ownBlock ≠ (vs.getD j nilS).ownBlock ∨ (vs.getD i nilS).ownBlock = none := by
    cases hb : (vs.getD i nilS).ownBlock with
    | none => exact .inr rfl
    | some b =>
     left
     intro hh
     exact e0 (h.apart j i b hj' hi' hh.symm hb)
   have hR1 : d.R e w1 base (fun _ => True) (vs.getD j nilS) (xss.getD j []) :=
    Kd.R_grown2 (h.row j hj') hE hg (fun k hk hh => e0 (h.apart j i k hj' hi' hh.symm hk))
   exact Kd.R_mono (Kd.R_far (Kd.R_far1 hR1 hE (hrow j hj')) (fun k hk => hk.2) v1) (fun _ _ => trivial)
 ·have hj' : j < vs.length := by simpa using hj
  have hk' : k < vs.length := by simpa using hk
  rw [gd j hj'] at hjb
  rw [gd k hk'] at hkb
  have key : ∀ m, m < vs.length → m ≠ i → (vs.getD m nilS).ownBlock = some b → v1.ownBlock = some b → False := by
   intro m hm hmi h1 h2
   rcases hat with hat | ⟨b', hb', hlt⟩
   ·exact hmi (h.apart m i b hm hi' h1 (by rw [← hat]; exact h2))
   ·rw [h2] at hb'
    cases hb'
    exact absurd (Kd.R_lt (h.row m hm) b h1) (Nat.not_lt.2 hlt)
  by_cases ej : j = i <;> by_cases ek : k = i
  ·rw [ej, ek]
  ·rw [if_pos ej] at hjb; rw [if_neg ek] at hkb
   exact (key k hk' ek hkb hjb).elim
  ·rw [if_neg ej] at hjb; rw [if_pos ek] at hkb
   exact (key j hj' ej hjb hkb).elim
  ·rw [if_neg ej] at hjb; rw [if_neg ek] at hkb
   exact h.apart j k b hj' hk' hjb hkb
end
end Go.Proofs.Ytmpiokdomjchiaa.H
set_option linter.unusedVariables false
set_option linter.unusedSimpArgs false
namespace Go.Proofs.Ytmpiokdomjchiaa.H
open Go.RowKit Go.Proofs.Ytmpiokdomjchiaa.Pr Go.Proofs.YtmpiokdomjchiaaW.PrintWords Go.Proofs.Ytmpiokdomjchiaa.Sem
theorem ahead_any (a b : Ed) (r : Bool) (hr : decide (elt a b) = r) (w : World) : Calls Try.prog 67 #[.agg #[.int .i64 a.f0, .int .i64 a.f1, .int .i64 a.f2], .agg #[.int .i64 b.f0, .int .i64 b.f1, .int .i64 b.f2]] w fun e w' => e = .returned (.bool r) ∧ Below w.heap.size w w' := by
 have HB := Aside0.mk (Below.refl w.heap.size w)
 by_cases h0 : a.f0 = b.f0
 ·by_cases h1 : a.f1 = b.f1
  ·have d0 : (a.f0 != b.f0) = false := by simp [h0]
   have d1 : (a.f1 != b.f1) = false := by simp [h1]
   have e : decide (a.f2 < b.f2) = r := by rw [← hr]; unfold elt; apply decide_eq_decide.2; omega
   have HE := Aside0.mk e
   clear h0 h1 hr e
   go_enter Try.func67, Try.ntmps67
   go_wp2
   go_ret
   exact ⟨ret_bool HE.out, by repeat (first | exact HB.out | apply below_alloc | apply pw_below_drewN | apply below_drew)⟩
  ·have d0 : (a.f0 != b.f0) = false := by simp [h0]
   have d1 : (a.f1 != b.f1) = true := by simp [h1]
   have e : decide (a.f1 < b.f1) = r := by rw [← hr]; unfold elt; apply decide_eq_decide.2; omega
   have HE := Aside0.mk e
   clear h0 h1 hr e
   go_enter Try.func67, Try.ntmps67
   go_wp2
   go_ret
   exact ⟨ret_bool HE.out, by repeat (first | exact HB.out | apply below_alloc | apply pw_below_drewN | apply below_drew)⟩
 ·have d0 : (a.f0 != b.f0) = true := by simp [h0]
  have e : decide (a.f0 < b.f0) = r := by rw [← hr]; unfold elt; apply decide_eq_decide.2; omega
  have HE := Aside0.mk e
  clear h0 hr e
  go_enter Try.func67, Try.ntmps67
  go_wp2
  go_ret
  exact ⟨ret_bool HE.out, by repeat (first | exact HB.out | apply below_alloc | apply pw_below_drewN | apply below_drew)⟩
def labAt (ls : List ByteArray) (i : Nat) : Bool := !tooLong (ls.getD i ByteArray.empty) && (decide (i = 0) || Op.bytesLess (ls.getD (i - 1) ByteArray.empty).toList (ls.getD i ByteArray.empty).toList)
def okAt' (n nl : Int) (es : List Ed) (k : Nat) : Bool :=
 decide (0 ≤ (es.getD k z81).f0 ∧ (es.getD k z81).f0 < n) && (decide (0 ≤ (es.getD k z81).f2 ∧ (es.getD k z81).f2 < n) &&
  (decide (0 ≤ (es.getD k z81).f1) && (decide ((es.getD k z81).f1 < nl) && (decide (k = 0) || decide (elt (es.getD (k - 1) z81) (es.getD k z81))))))
def mayR (n : Int) (ls : List ByteArray) (es : List Ed) : Bool :=
 decide (1 ≤ n) && (decide (n ≤ 2048) && (decide (ls.length ≤ 64) && (decide (es.length ≤ 1000000) && ((List.range ls.length).all (labAt ls) && (List.range es.length).all (okAt' n ls.length es)))))
theorem all_bad {p : Nat → Bool} {m k : Nat} (hk : k < m) (h : p k = false) : (List.range m).all p = false := by
 rw [Bool.eq_false_iff]
 intro he
 have := List.all_eq_true.1 he k (List.mem_range.2 hk)
 rw [h] at this
 cases this
theorem all_good {p : Nat → Bool} {m k : Nat} (hk : ¬ k < m) (h : ∀ j, j < k → p j = true) : (List.range m).all p = true :=
 List.all_eq_true.2 fun j hj => h j (by have := List.mem_range.1 hj; omega)
theorem may_size (n : Int) (ls : List ByteArray) (es : List Ed) (A1 A2 : Option Addr) (c1 c2 : Nat) (w : World) (h : n < 1 ∨ 2048 < n ∨ 64 < ls.length ∨ 1000000 < es.length) :
  Calls Try.prog 21 #[.agg #[.int .i64 n, .slice A1 ls.length c1, .slice A2 es.length c2]] w fun e w' => e = .returned (.bool false) ∧ Below w.heap.size w w' := by
 have HB := Aside0.mk (Below.refl w.heap.size w)
 by_cases h0 : n < 1
 ·clear h
  go_enter Try.func21, Try.ntmps21
  go_wp2
  go_ret
  exact ⟨rfl, below_alloc HB.out _⟩
 ·by_cases h1 : 2048 < n
  ·clear h
   go_enter Try.func21, Try.ntmps21
   go_wp2
   go_ret
   exact ⟨rfl, below_alloc HB.out _⟩
  ·by_cases h2 : (64 : Int) < (ls.length : Int)
   ·clear h
    go_enter Try.func21, Try.ntmps21
    go_wp2
    go_ret
    exact ⟨rfl, below_alloc HB.out _⟩
   ·have h3 : (1000000 : Int) < (es.length : Int) := by omega
    clear h
    go_enter Try.func21, Try.ntmps21
    go_wp2
    go_ret
    exact ⟨rfl, below_alloc HB.out _⟩
set_option maxHeartbeats 8000000 in
set_option maxRecDepth 100000 in
theorem may_main (n : Int) (ls : List ByteArray) (es : List Ed) (A1 A2 : Option Addr) (c1 c2 : Nat) (w : World) (h0 : ¬ n < 1) (h1 : ¬ 2048 < n) (h2 : ¬ (64 : Int) < (ls.length : Int)) (h3 : ¬ (1000000 : Int) < (es.length : Int)) (hr1 : Kd.C Kd.string w A1 ls.length ls) (hr2 : Kd.C k81 w A2 es.length es) :
  Calls Try.prog 21 #[.agg #[.int .i64 n, .slice A1 ls.length c1, .slice A2 es.length c2]] w fun e w' => e = .returned (.bool ((List.range ls.length).all (labAt ls) && (List.range es.length).all (okAt' n ls.length es))) ∧ Below w.heap.size w w' := by
 have HR1 := Aside0.mk hr1
 have HR := Aside0.mk hr2
 clear hr1 hr2
 have HB0 := Aside0.mk (Below.refl w.heap.size w)
 go_enter Try.func21, Try.ntmps21
 go_wp2
 go_loopw [3] (fun i wr => ∃ k : Nat, k ≤ ls.length ∧ i = .int .i64 k ∧ Aside0 (∀ j, j < k → labAt ls j = true) ∧ Aside0 (BoxL wr w.heap.size n (.slice A1 ls.length c1) (.slice A2 es.length c2)) ∧ Aside0 (Below w.heap.size w wr)) (fun i _ => ls.length - (intOf i).toNat)
 case atStart => exact ⟨0, Nat.zero_le _, rfl, ⟨fun j hj => by omega⟩, ⟨blk_new w _⟩, ⟨below_alloc HB0.out _⟩⟩
 case round =>
  obtain ⟨k, hk, rfl, hz, HXr, HBr⟩ := hrel
  have b1 := HXr.out.c1
  by_cases hlt : k < ls.length
  ·obtain ⟨ad, hA, g0⟩ := atS HR1.out k hlt
   subst hA
   replace g0 := later HBr.out g0
   obtain ⟨s, hs⟩ : ∃ s, s = ls.getD k ByteArray.empty := ⟨_, rfl⟩
   rw [← hs] at g0
   have hs' := Aside0.mk hs; clear hs
   by_cases hL : (200 : Int) < (s.size : Int)
   ·have hL' := Aside0.mk (show tooLong s = true from decide_eq_true (by omega))
    have d1 : decide ((200 : Int) < (s.size : Int)) = true := decide_eq_true hL
    have d2 : decide (200 < s.size) = true := decide_eq_true (by omega)
    go_wp2_with fail
    go_quiet (fail)
    go_wp2
    go_ret
    exact ⟨ret_bool (by rw [all_bad hlt (show labAt ls k = false by unfold labAt; rw [← hs'.out, hL'.out]; rfl)]; rfl), by repeat (first | exact HBr.out | apply below_alloc | apply pw_below_drewN | apply below_drew)⟩
   ·have hL' := Aside0.mk (show tooLong s = false from decide_eq_false (by omega))
    have d1 : decide ((200 : Int) < (s.size : Int)) = false := decide_eq_false hL
    have d2 : decide (200 < s.size) = false := decide_eq_false (by omega)
    by_cases hK : k = 0
    ·have hK' := Aside0.mk hK
     have d3 : decide ((0 : Int) < (k : Int)) = false := decide_eq_false (by omega)
     have d4 : decide (0 < k) = false := decide_eq_false (by omega)
     clear hK
     go_wp2_with fail
     go_quiet (fail)
     go_wp2
     go_roundw
     case rel => exact ⟨k + 1, by omega, by go_num, ⟨fun j hj => by
      rcases Nat.lt_succ_iff_lt_or_eq.1 hj with h | rfl
      ·exact hz.out j h
      ·unfold labAt; rw [← hs'.out, hL'.out, decide_eq_true hK'.out]; rfl⟩, ⟨HXr.out.below (by repeat (first | exact Below.refl _ _ | apply below_alloc | apply pw_below_drewN | apply below_drew))⟩, ⟨by repeat (first | exact HBr.out | apply below_alloc | apply pw_below_drewN | apply below_drew)⟩⟩
     case measure => simp [intOf]; omega
    ·obtain ⟨ad', hA', p0⟩ := atS HR1.out (k - 1) (by omega)
     cases hA'
     replace p0 := later HBr.out p0
     obtain ⟨t, ht⟩ : ∃ t, t = ls.getD (k - 1) ByteArray.empty := ⟨_, rfl⟩
     rw [← ht] at p0
     have ht' := Aside0.mk ht; clear ht
     have d3 : decide ((0 : Int) < (k : Int)) = true := decide_eq_true (by omega)
     have d4 : decide (0 < k) = true := decide_eq_true (by omega)
     have i0 : (0 : Int) ≤ (k : Int) - 1 := by omega
     have i1 : (k : Int) - 1 < (ls.length : Int) := by omega
     have j0 : (1 : Int) ≤ (k : Int) := by omega
     have j1 : (k : Int) < (ls.length : Int) + 1 := by omega
     have j2 : 1 ≤ k := by omega
     have j3 : k - 1 < ls.length := by omega
     have j4 : (k : Int) ≤ (ls.length : Int) := by omega
     have i3 : (k : Int) < (ls.length : Int) := by omega
     have i4 : (0 : Int) ≤ (k : Int) := by omega
     have hw1 : IntKind.i64.wrap ((k : Int) - 1) = (k : Int) - 1 := by rw [IntKind.wrap_i64]; omega
     have hw2 : ((k : Int) - 1).toNat = k - 1 := by omega
     cases hb : Op.bytesLess t.toList s.toList with
     | true =>
      go_wp2_with fail
      go_quiet (fail)
      clear hw1 hw2 i0 i1 i3 i4 j0 j1 j2 j3 j4
      go_wp2
      go_roundw
      case rel => exact ⟨k + 1, by omega, by go_num, ⟨fun j hj => by
       rcases Nat.lt_succ_iff_lt_or_eq.1 hj with h | rfl
       ·exact hz.out j h
       ·unfold labAt; rw [← hs'.out, ← ht'.out, hL'.out, hb]; simp⟩, ⟨HXr.out.below (by repeat (first | exact Below.refl _ _ | apply below_alloc | apply pw_below_drewN | apply below_drew))⟩, ⟨by repeat (first | exact HBr.out | apply below_alloc | apply pw_below_drewN | apply below_drew)⟩⟩
      case measure => simp [intOf]; omega
     | false =>
      go_wp2_with fail
      go_quiet (fail)
      clear hw1 hw2 i0 i1 i3 i4 j0 j1 j2 j3 j4
      go_wp2
      go_ret
      exact ⟨ret_bool (by rw [all_bad hlt (show labAt ls k = false by unfold labAt; rw [← hs'.out, ← ht'.out, hL'.out, hb, decide_eq_false hK]; rfl)]; rfl), by repeat (first | exact HBr.out | apply below_alloc | apply pw_below_drewN | apply below_drew)⟩
  ·have HG := Aside0.mk (all_good hlt hz.out)
   clear hz
   go_wp2
   go_loopw [4] (fun i wr2 => ∃ k : Nat, k ≤ es.length ∧ i = .int .i64 k ∧ Aside0 (∀ j, j < k → okAt' n ls.length es j = true) ∧ Aside0 (BoxL wr2 w.heap.size n (.slice A1 ls.length c1) (.slice A2 es.length c2)) ∧ Aside0 (Below w.heap.size w wr2)) (fun i _ => es.length - (intOf i).toNat)
   case atStart => exact ⟨0, Nat.zero_le _, rfl, ⟨fun j hj => by omega⟩, HXr, HBr⟩
   case round =>
    clear HXr HBr hlt hk b1
    obtain ⟨k, hk, rfl, hz, HXr, HBr⟩ := hrel
    have b2' := HXr.out.c2
    by_cases hlt : k < es.length
    ·obtain ⟨ad, hA, g0, g1, g2⟩ := atE HR.out k hlt
     subst hA
     replace g0 := later HBr.out g0
     replace g1 := later HBr.out g1
     replace g2 := later HBr.out g2
     obtain ⟨x, hx⟩ : ∃ x, x = es.getD k z81 := ⟨_, rfl⟩
     rw [← hx] at g0 g1 g2
     have hx' := Aside0.mk hx; clear hx
     go_wp2_with fail
     have b0 : ∀ o, (wr.alloc o).cell? ⟨w.heap.size, 0, none⟩ = some (.int .i64 n) := fun o => (HXr.out.below (below_alloc (Below.refl _ _) o)).c0
     have b1 : ∀ o, (wr.alloc o).cell? ⟨w.heap.size, 1, none⟩ = some (.slice A1 ls.length c1) := fun o => (HXr.out.below (below_alloc (Below.refl _ _) o)).c1
     have b2 : ∀ o, (wr.alloc o).cell? ⟨w.heap.size, 2, none⟩ = some (.slice (some ad) es.length c2) := fun o => (HXr.out.below (below_alloc (Below.refl _ _) o)).c2
     clear b2'
     by_cases h0_ : x.f0 < 0
     ·have d0_ : decide (x.f0 < 0) = true := decide_eq_true h0_
      have P0 := Aside0.mk (show decide (0 ≤ x.f0 ∧ x.f0 < n) = false from decide_eq_false (by omega))
      go_quiet (fail)
      go_wp2
      go_ret
      exact ⟨ret_bool (by rw [all_bad hlt (show okAt' n ls.length es k = false by unfold okAt'; rw [← hx'.out, P0.out]; rfl)]; simp), by repeat (first | exact HBr.out | apply below_alloc | apply pw_below_drewN | apply below_drew)⟩
     ·have d0_ : decide (x.f0 < 0) = false := decide_eq_false h0_
      by_cases h1_ : n ≤ x.f0
      ·have d1_ : decide (n ≤ x.f0) = true := decide_eq_true h1_
       have P0 := Aside0.mk (show decide (0 ≤ x.f0 ∧ x.f0 < n) = false from decide_eq_false (by omega))
       go_quiet (fail)
       go_wp2
       go_ret
       exact ⟨ret_bool (by rw [all_bad hlt (show okAt' n ls.length es k = false by unfold okAt'; rw [← hx'.out, P0.out]; rfl)]; simp), by repeat (first | exact HBr.out | apply below_alloc | apply pw_below_drewN | apply below_drew)⟩
      ·have d1_ : decide (n ≤ x.f0) = false := decide_eq_false h1_
       have P0 := Aside0.mk (show decide (0 ≤ x.f0 ∧ x.f0 < n) = true from decide_eq_true (by omega))
       by_cases h2_ : x.f2 < 0
       ·have d2_ : decide (x.f2 < 0) = true := decide_eq_true h2_
        have P1 := Aside0.mk (show decide (0 ≤ x.f2 ∧ x.f2 < n) = false from decide_eq_false (by omega))
        go_quiet (fail)
        go_wp2
        go_ret
        exact ⟨ret_bool (by rw [all_bad hlt (show okAt' n ls.length es k = false by unfold okAt'; rw [← hx'.out, P0.out, P1.out]; rfl)]; simp), by repeat (first | exact HBr.out | apply below_alloc | apply pw_below_drewN | apply below_drew)⟩
       ·have d2_ : decide (x.f2 < 0) = false := decide_eq_false h2_
        by_cases h3_ : n ≤ x.f2
        ·have d3_ : decide (n ≤ x.f2) = true := decide_eq_true h3_
         have P1 := Aside0.mk (show decide (0 ≤ x.f2 ∧ x.f2 < n) = false from decide_eq_false (by omega))
         go_quiet (fail)
         go_wp2
         go_ret
         exact ⟨ret_bool (by rw [all_bad hlt (show okAt' n ls.length es k = false by unfold okAt'; rw [← hx'.out, P0.out, P1.out]; rfl)]; simp), by repeat (first | exact HBr.out | apply below_alloc | apply pw_below_drewN | apply below_drew)⟩
        ·have d3_ : decide (n ≤ x.f2) = false := decide_eq_false h3_
         have P1 := Aside0.mk (show decide (0 ≤ x.f2 ∧ x.f2 < n) = true from decide_eq_true (by omega))
         by_cases h4_ : x.f1 < 0
         ·have d4_ : decide (x.f1 < 0) = true := decide_eq_true h4_
          have P2 := Aside0.mk (show decide (0 ≤ x.f1) = false from decide_eq_false (by omega))
          go_quiet (fail)
          go_wp2
          go_ret
          exact ⟨ret_bool (by rw [all_bad hlt (show okAt' n ls.length es k = false by unfold okAt'; rw [← hx'.out, P0.out, P1.out, P2.out]; rfl)]; simp), by repeat (first | exact HBr.out | apply below_alloc | apply pw_below_drewN | apply below_drew)⟩
         ·have d4_ : decide (x.f1 < 0) = false := decide_eq_false h4_
          have P2 := Aside0.mk (show decide (0 ≤ x.f1) = true from decide_eq_true (by omega))
          by_cases h5_ : (ls.length : Int) ≤ x.f1
          ·have d5_ : decide ((ls.length : Int) ≤ x.f1) = true := decide_eq_true h5_
           have P3 := Aside0.mk (show decide (x.f1 < (ls.length : Int)) = false from decide_eq_false (by omega))
           go_quiet (fail)
           go_wp2
           go_ret
           exact ⟨ret_bool (by rw [all_bad hlt (show okAt' n ls.length es k = false by unfold okAt'; rw [← hx'.out, P0.out, P1.out, P2.out, P3.out]; rfl)]; simp), by repeat (first | exact HBr.out | apply below_alloc | apply pw_below_drewN | apply below_drew)⟩
          ·have d5_ : decide ((ls.length : Int) ≤ x.f1) = false := decide_eq_false h5_
           have P3 := Aside0.mk (show decide (x.f1 < (ls.length : Int)) = true from decide_eq_true (by omega))
           by_cases hK : k = 0
           ·have hK' := Aside0.mk hK
            have d7 : decide ((0 : Int) < (k : Int)) = false := decide_eq_false (by omega)
            have d8 : decide (0 < k) = false := decide_eq_false (by omega)
            clear hK
            go_quiet (fail)
            go_wp2
            go_roundw
            case rel => exact ⟨k + 1, by omega, by go_num, ⟨fun j hj => by
             rcases Nat.lt_succ_iff_lt_or_eq.1 hj with h | rfl
             ·exact hz.out j h
             ·unfold okAt'; rw [← hx'.out, P0.out, P1.out, P2.out, P3.out, decide_eq_true hK'.out]; rfl⟩, ⟨HXr.out.below (by repeat (first | exact Below.refl _ _ | apply below_alloc | apply pw_below_drewN | apply below_drew))⟩, ⟨by repeat (first | exact HBr.out | apply below_alloc | apply pw_below_drewN | apply below_drew)⟩⟩
            case measure => simp [intOf]; omega
           ·obtain ⟨ad', hA', p0, p1, p2⟩ := atE HR.out (k - 1) (by omega)
            cases hA'
            replace p0 := later HBr.out p0
            replace p1 := later HBr.out p1
            replace p2 := later HBr.out p2
            obtain ⟨y, hy⟩ : ∃ y, y = es.getD (k - 1) z81 := ⟨_, rfl⟩
            rw [← hy] at p0 p1 p2
            have hy' := Aside0.mk hy
            clear hy
            have q0 := fun o => later (below_alloc (Below.refl wr.heap.size wr) o) p0
            have q1 := fun o => later (below_alloc (Below.refl wr.heap.size wr) o) p1
            have q2 := fun o => later (below_alloc (Below.refl wr.heap.size wr) o) p2
            clear p0 p1 p2
            have d7 : decide ((0 : Int) < (k : Int)) = true := decide_eq_true (by omega)
            have d8 : decide (0 < k) = true := decide_eq_true (by omega)
            have i0 : (0 : Int) ≤ (k : Int) - 1 := by omega
            have i1 : (k : Int) - 1 < (es.length : Int) := by omega
            have j0 : (1 : Int) ≤ (k : Int) := by omega
            have j1 : (k : Int) < (es.length : Int) + 1 := by omega
            have j2 : 1 ≤ k := by omega
            have j3 : k - 1 < es.length := by omega
            have j4 : (k : Int) ≤ (es.length : Int) := by omega
            have hw1 : IntKind.i64.wrap ((k : Int) - 1) = (k : Int) - 1 := by rw [IntKind.wrap_i64]; omega
            have hw2 : ((k : Int) - 1).toNat = k - 1 := by omega
            cases hC : decide (elt y x) with
            | true =>
             have HC := Aside0.mk hC; clear hC
             go_region_held3 (fun w' => w'.cell? ⟨w.heap.size, 0, none⟩ = some (.int .i64 n) ∧ w'.cell? ⟨w.heap.size, 1, none⟩ = some (.slice A1 ls.length c1) ∧ w'.cell? ⟨w.heap.size, 2, none⟩ = some (.slice (some ad) es.length c2) ∧ w'.cell? ⟨wr.heap.size, 0, none⟩ = some (.int .i64 x.f0) ∧ w'.cell? ⟨wr.heap.size, 1, none⟩ = some (.int .i64 x.f1) ∧ w'.cell? ⟨wr.heap.size, 2, none⟩ = some (.int .i64 x.f2) ∧ w'.cell? (ad.add ((k - 1) * 3)) = some (.int .i64 y.f0) ∧ w'.cell? ⟨(ad.add ((k - 1) * 3)).block, (ad.add ((k - 1) * 3)).off + 1, none⟩ = some (.int .i64 y.f1) ∧ w'.cell? ⟨(ad.add ((k - 1) * 3)).block, (ad.add ((k - 1) * 3)).off + 2, none⟩ = some (.int .i64 y.f2)) (first | go_keep | (refine ⟨later hB ?_, later hB ?_, later hB ?_, later hB ?_, later hB ?_, later hB ?_, later hB ?_, later hB ?_, later hB ?_⟩ <;> go_keep)) (first | (go_at_call 67; refine (ahead_any y x _ HC.out _).mono ?_; rintro e w' ⟨rfl, hB⟩))
             clear hw1 hw2 i0 i1 j0 j1 j2 j3 j4 q0 q1 q2 b0 b1 b2
             have HW := Aside0.mk (below_then (show Below w.heap.size w _ by repeat (first | exact HBr.out | apply below_alloc | apply pw_below_drewN | apply below_drew)) (below_size (by repeat (first | exact HBr.out | apply below_alloc | apply pw_below_drewN | apply below_drew))) hB)
             have HXw := Aside0.mk ((HXr.out.below (show Below wr.heap.size wr _ by repeat (first | exact Below.refl _ _ | apply below_alloc | apply pw_below_drewN | apply below_drew))).below hB)
             clear hB
             go_wp2
             go_roundw
             case rel => exact ⟨k + 1, by omega, by go_num, ⟨fun j hj => by
              rcases Nat.lt_succ_iff_lt_or_eq.1 hj with h | rfl
              ·exact hz.out j h
              ·unfold okAt'; rw [← hx'.out, ← hy'.out, P0.out, P1.out, P2.out, P3.out, HC.out]; simp⟩, HXw, HW⟩
             case measure => simp [intOf]; omega
            | false =>
             have HC := Aside0.mk hC; clear hC
             go_region_held3 (fun w' => w'.cell? ⟨w.heap.size, 0, none⟩ = some (.int .i64 n) ∧ w'.cell? ⟨w.heap.size, 1, none⟩ = some (.slice A1 ls.length c1) ∧ w'.cell? ⟨w.heap.size, 2, none⟩ = some (.slice (some ad) es.length c2) ∧ w'.cell? ⟨wr.heap.size, 0, none⟩ = some (.int .i64 x.f0) ∧ w'.cell? ⟨wr.heap.size, 1, none⟩ = some (.int .i64 x.f1) ∧ w'.cell? ⟨wr.heap.size, 2, none⟩ = some (.int .i64 x.f2) ∧ w'.cell? (ad.add ((k - 1) * 3)) = some (.int .i64 y.f0) ∧ w'.cell? ⟨(ad.add ((k - 1) * 3)).block, (ad.add ((k - 1) * 3)).off + 1, none⟩ = some (.int .i64 y.f1) ∧ w'.cell? ⟨(ad.add ((k - 1) * 3)).block, (ad.add ((k - 1) * 3)).off + 2, none⟩ = some (.int .i64 y.f2)) (first | go_keep | (refine ⟨later hB ?_, later hB ?_, later hB ?_, later hB ?_, later hB ?_, later hB ?_, later hB ?_, later hB ?_, later hB ?_⟩ <;> go_keep)) (first | (go_at_call 67; refine (ahead_any y x _ HC.out _).mono ?_; rintro e w' ⟨rfl, hB⟩))
             clear hw1 hw2 i0 i1 j0 j1 j2 j3 j4 q0 q1 q2 b0 b1 b2
             have HW := Aside0.mk (below_then (show Below w.heap.size w _ by repeat (first | exact HBr.out | apply below_alloc | apply pw_below_drewN | apply below_drew)) (below_size (by repeat (first | exact HBr.out | apply below_alloc | apply pw_below_drewN | apply below_drew))) hB)
             have HXw := Aside0.mk ((HXr.out.below (show Below wr.heap.size wr _ by repeat (first | exact Below.refl _ _ | apply below_alloc | apply pw_below_drewN | apply below_drew))).below hB)
             clear hB
             go_wp2
             go_ret
             exact ⟨ret_bool (by rw [all_bad hlt (show okAt' n ls.length es k = false by unfold okAt'; rw [← hx'.out, ← hy'.out, P0.out, P1.out, P2.out, P3.out, HC.out, decide_eq_false hK]; rfl)]; simp), HW.out⟩
    ·have HG2 := Aside0.mk (all_good hlt hz.out)
     go_wp2
     go_ret
     exact ⟨ret_bool (by rw [HG.out, HG2.out]; rfl), HBr.out⟩
theorem may_any (n : Int) (ls : List ByteArray) (es : List Ed) (A1 A2 : Option Addr) (c1 c2 : Nat) (w : World) (hr1 : Kd.C Kd.string w A1 ls.length ls) (hr2 : Kd.C k81 w A2 es.length es) :
  Calls Try.prog 21 #[.agg #[.int .i64 n, .slice A1 ls.length c1, .slice A2 es.length c2]] w fun e w' => e = .returned (.bool (mayR n ls es)) ∧ Below w.heap.size w w' := by
 unfold mayR
 by_cases h : n < 1 ∨ 2048 < n ∨ 64 < ls.length ∨ 1000000 < es.length
 ·have : (decide (1 ≤ n) && (decide (n ≤ 2048) && (decide (ls.length ≤ 64) && (decide (es.length ≤ 1000000) && ((List.range ls.length).all (labAt ls) && (List.range es.length).all (okAt' n ls.length es)))))) = false := by
   rcases h with h | h | h | h
   ·rw [decide_eq_false (show ¬ 1 ≤ n by omega)]; rfl
   ·rw [decide_eq_false (show ¬ n ≤ 2048 by omega)]; simp
   ·rw [decide_eq_false (show ¬ ls.length ≤ 64 by omega)]; simp
   ·rw [decide_eq_false (show ¬ es.length ≤ 1000000 by omega)]; simp
  rw [this]
  exact may_size n ls es A1 A2 c1 c2 w h
 ·rw [decide_eq_true (show 1 ≤ n by omega), decide_eq_true (show n ≤ 2048 by omega), decide_eq_true (show ls.length ≤ 64 by omega), decide_eq_true (show es.length ≤ 1000000 by omega)]
  exact may_main n ls es A1 A2 c1 c2 w (by omega) (by omega) (by omega) (by omega) hr1 hr2
end Go.Proofs.Ytmpiokdomjchiaa.H
set_option linter.unusedVariables false
set_option linter.unusedSimpArgs false
namespace Go.Proofs.Ytmpiokdomjchiaa.H
open Go.RowKit Go.Proofs.Ytmpiokdomjchiaa.Pr Go.Proofs.YtmpiokdomjchiaaW.PrintWords Go.Proofs.Ytmpiokdomjchiaa.Sem
theorem bytesLess_lt : ∀ (x y : List UInt8), Op.bytesLess x y = decide (x < y)
 | [], [] => by simp [Op.bytesLess]
 | _ :: _, [] => by simp [Op.bytesLess]
 | [], _ :: _ => by simp [Op.bytesLess]
 | a :: x, b :: y => by
  rw [Op.bytesLess, bytesLess_lt x y]
  simp only [List.cons_lt_cons_iff]
  by_cases h1 : a < b <;> by_cases h2 : a = b <;> by_cases h3 : x < y <;> simp [h1, h2, h3]
theorem okAt_same (n nl : Int) (es : List Ed) (k : Nat) : okAt n nl es k = okAt' n nl es k := by
 unfold okAt okAt'
 rw [decide_eq_decide.2 (cmpE_neg _ _)]
theorem compact_sub (zs : List (List UInt8)) : List.Sublist (Lib.compact zs) zs := by
 unfold Lib.compact Lib.compactUpTo
 have h := (List.filter_sublist (p := Lib.keeps zs.toArray) (l := List.range zs.length)).map (zs.toArray[·]!)
 have e := Lib.range_map_get zs.toArray
 simp only [List.size_toArray] at e
 rw [e] at h
 simpa using h
theorem back_inj {xs ys : List (List UInt8)} (h : (xs.map fun l => (⟨l.toArray⟩ : ByteArray)) = ys.map fun l => ⟨l.toArray⟩) : xs = ys := by
 have := congrArg (List.map fun s : ByteArray => s.data.toList) h
 simpa [List.map_map, Function.comp_def] using this
theorem back_fwd (ls : List ByteArray) : ((ls.map fun s => s.data.toList).map fun l => (⟨l.toArray⟩ : ByteArray)) = ls := by
 rw [List.map_map]
 simp [Function.comp_def]
theorem union_nil (ls : List ByteArray) : unionS ls [] = (Lib.compact ((ls.map fun s => s.data.toList).mergeSort fun x y => decide (x ≤ y))).map fun l => ⟨l.toArray⟩ := by
 unfold unionS cmpt srt
 rw [List.append_nil]
 congr 2
 rw [List.map_map]
 simp [Function.comp_def]
theorem rising_iff (L : List (List UInt8)) : L = Lib.compact (L.mergeSort fun x y => decide (x ≤ y)) ↔ ∀ k, 0 < k → k < L.length → L.getD (k - 1) [] < L.getD k [] := by
 have tr : ∀ a b c : List UInt8, decide (a ≤ b) = true → decide (b ≤ c) = true → decide (a ≤ c) = true := by
  intro a b c h1 h2
  simp only [decide_eq_true_eq] at h1 h2 ⊢
  exact List.le_trans h1 h2
 have tot : ∀ a b : List UInt8, (decide (a ≤ b) || decide (b ≤ a)) = true := by
  intro a b
  simp only [Bool.or_eq_true, decide_eq_true_eq]
  exact List.le_total a b
 constructor
 ·intro h
  have hlen : (L.mergeSort fun x y => decide (x ≤ y)).length ≤ (Lib.compact (L.mergeSort fun x y => decide (x ≤ y))).length := by
   rw [← h, List.length_mergeSort]
   exact Nat.le_refl _
  have he := (compact_sub (L.mergeSort fun x y => decide (x ≤ y))).eq_of_length_le hlen
  have hs : L = L.mergeSort fun x y => decide (x ≤ y) := h.trans he
  have hp : L.Pairwise fun x y => x ≤ y := by
   have := List.pairwise_mergeSort (le := fun x y : List UInt8 => decide (x ≤ y)) tr tot L
   rw [← hs] at this
   exact this.imp (by intro a b h; simpa using h)
  intro k h0 hk
  have hle : L.getD (k - 1) [] ≤ L.getD k [] := by
   rw [List.getD_eq_getElem?_getD, List.getD_eq_getElem?_getD, List.getElem?_eq_getElem hk, List.getElem?_eq_getElem (show k - 1 < L.length by omega)]
   exact List.pairwise_iff_getElem.1 hp (k - 1) k (by omega) hk (by omega)
  have hne : L.getD k [] ≠ L.getD (k - 1) [] := by
   intro e
   have hkeep : Lib.keeps L.toArray k = false := by
    apply Lib.keeps_neg h0
    rw [getElem!_pos _ _ (by simpa using hk), getElem!_pos _ _ (by simp; omega)]
    rw [List.getD_eq_getElem?_getD, List.getD_eq_getElem?_getD, List.getElem?_eq_getElem hk, List.getElem?_eq_getElem (show k - 1 < L.length by omega)] at e
    simpa using e
   have hl2 : (Lib.compact L).length < L.length := by
    unfold Lib.compact Lib.compactUpTo
    rw [List.length_map]
    have := List.length_filter_lt_length_iff_exists (p := Lib.keeps L.toArray) (l := List.range L.length)
    have h2 := this.2 ⟨k, List.mem_range.2 hk, by simp [hkeep]⟩
    simpa using h2
   rw [hs] at hl2
   rw [he] at hl2
   exact Nat.lt_irrefl _ hl2
  exact Std.lt_of_le_of_ne hle (fun e => hne e.symm)
 ·intro h
  have hp : L.Pairwise fun x y => x < y := by
   rw [List.pairwise_iff_getElem]
   intro i j hi hj hij
   induction j with
   | zero => omega
   | succ j ih =>
    have hs := h (j + 1) (by omega) hj
    rw [List.getD_eq_getElem?_getD, List.getD_eq_getElem?_getD, List.getElem?_eq_getElem hj, List.getElem?_eq_getElem (show j + 1 - 1 < L.length by omega)] at hs
    simp only [Nat.add_sub_cancel, Option.getD_some] at hs
    by_cases e : i = j
    ·subst e; exact hs
    ·exact List.lt_trans (ih (by omega) (by omega)) hs
  have hm : (L.mergeSort fun x y => decide (x ≤ y)) = L := by
   apply List.mergeSort_of_pairwise
   exact hp.imp (by intro a b h; simpa using List.le_of_lt h)
  rw [hm]
  refine (Lib.compact_all L fun j hj => ?_).symm
  by_cases h0 : j = 0
  ·subst h0; simp [Lib.keeps]
  ·apply Lib.keeps_pos
   rw [getElem!_pos _ _ (by simpa using hj), getElem!_pos _ _ (by simp; omega)]
   have := List.pairwise_iff_getElem.1 hp (j - 1) j (by omega) hj (by omega)
   intro e
   simp only [List.getElem_toArray] at e
   rw [← e] at this
   exact List.lt_irrefl _ this
theorem named_same (ls : List ByteArray) : namedB ls = (decide (ls.length ≤ 64) && (List.range ls.length).all (labAt ls)) := by
 unfold namedB
 congr 1
 rw [Bool.eq_iff_iff]
 simp only [Bool.and_eq_true, Bool.not_eq_true', decide_eq_true_eq, List.all_eq_true, List.mem_range, labAt, Bool.or_eq_true]
 have hu : ls = unionS ls [] ↔ ∀ k, 0 < k → k < ls.length → (ls.getD (k - 1) ByteArray.empty).data.toList < (ls.getD k ByteArray.empty).data.toList := by
  have hr := rising_iff (ls.map fun s => s.data.toList)
  rw [union_nil]
  have e1 : (ls = (Lib.compact ((ls.map fun s => s.data.toList).mergeSort fun x y => decide (x ≤ y))).map fun l => ⟨l.toArray⟩) ↔ ((ls.map fun s => s.data.toList) = Lib.compact ((ls.map fun s => s.data.toList).mergeSort fun x y => decide (x ≤ y))) := by
   constructor
   ·intro h
    apply back_inj
    rw [back_fwd]
    exact h
   ·intro h
    rw [← h, back_fwd]
  rw [e1, hr]
  have g : ∀ k, k < ls.length → (ls.map fun s => s.data.toList).getD k [] = (ls.getD k ByteArray.empty).data.toList := by
   intro k hk
   simp [List.getD_eq_getElem?_getD, List.getElem?_map, List.getElem?_eq_getElem hk]
  constructor
  ·intro h k h0 hk
   have := h k h0 (by simpa using hk)
   rwa [g k hk, g (k - 1) (by omega)] at this
  ·intro h k h0 hk
   rw [List.length_map] at hk
   rw [g k hk, g (k - 1) (by omega)]
   exact h k h0 hk
 rw [hu]
 constructor
 ·rintro ⟨h1, h2⟩ k hk
  refine ⟨?_, ?_⟩
  ·have : ls.getD k ByteArray.empty ∈ ls := by
    rw [List.getD_eq_getElem?_getD, List.getElem?_eq_getElem hk]
    exact List.getElem_mem hk
   rw [Bool.eq_false_iff]
   intro e
   have h3 : ls.any tooLong = true := List.any_eq_true.2 ⟨_, this, e⟩
   rw [h1] at h3
   cases h3
  ·by_cases h0 : k = 0
   ·exact Or.inl h0
   ·right
    rw [bytesLess_lt]
    simp only [ByteArray.toList_eq, decide_eq_true_eq]
    exact h2 k (by omega) hk
 ·intro h
  refine ⟨?_, ?_⟩
  ·rw [List.any_eq_false]
   intro s hs
   obtain ⟨k, hk, rfl⟩ := List.getElem_of_mem hs
   have := (h k hk).1
   rw [List.getD_eq_getElem?_getD, List.getElem?_eq_getElem hk] at this
   simpa using this
  ·intro k h0 hk
   rcases (h k hk).2 with h2 | h2
   ·omega
   ·rw [bytesLess_lt] at h2
    simp only [ByteArray.toList_eq, decide_eq_true_eq] at h2
    exact h2
theorem may_same (n : Int) (ls : List ByteArray) (es : List Ed) : mayB n ls es = mayR n ls es := by
 unfold mayB mayR
 rw [named_same, show (okAt n (ls.length : Int) es) = okAt' n (ls.length : Int) es from funext fun k => okAt_same n _ es k]
 cases decide (1 ≤ n) <;> cases decide (n ≤ 2048) <;> cases decide (ls.length ≤ 64) <;> cases (List.range ls.length).all (labAt ls) <;> simp
end Go.Proofs.Ytmpiokdomjchiaa.H
set_option linter.unusedVariables false
set_option linter.unusedSimpArgs false
namespace Go.Proofs.Ytmpiokdomjchiaa.H
open Go.RowKit Go.Proofs.Ytmpiokdomjchiaa.Pr Go.Proofs.YtmpiokdomjchiaaW.PrintWords Go.Proofs.Ytmpiokdomjchiaa.Sem Go.Proofs.YtmpiokdomjchiaaW.PrintLast
abbrev Pair := S31
def outs (n : Nat) (es : List Ed) : List (List Ed) := (List.range n).map fun i : Nat => es.filter fun e => decide (e.f0 = (i : Int))
theorem outs_length (n : Nat) (es : List Ed) : (outs n es).length = n := by simp [outs]
theorem outs_at {n : Nat} (es : List Ed) {i : Nat} (hi : i < n) : (outs n es).getD i [] = es.filter fun e => decide (e.f0 = (i : Int)) := by
 simp [outs, List.getD_eq_getElem?_getD, hi]
theorem outs_snoc {n : Nat} (es : List Ed) (e : Ed) {i : Nat} (hi : i < n) (he : e.f0 = (i : Int)) : (outs n es).set i ((outs n es).getD i [] ++ [e]) = outs n (es ++ [e]) := by
 apply List.ext_getElem
 ·simp [outs]
 ·intro j h1 h2
  have hj : j < n := by simpa [outs] using h2
  rw [List.getElem_set]
  by_cases h : i = j
  ·subst h
   rw [if_pos rfl, outs_at es hi]
   simp [outs, he]
  ·rw [if_neg h]
   have : ¬ e.f0 = (j : Int) := by omega
   simp [outs, this]
theorem atP {w : World} {A : Option Addr} {n : Nat} {xs : List Pair} (h : Kd.C k31 w A n xs) (k : Nat) (hk : k < n) : ∃ ad, A = some ad ∧ w.cell? (ad.add (k * 2)) = some (.int .i64 (xs.getD k z31).f0) ∧ w.cell? ⟨(ad.add (k * 2)).block, (ad.add (k * 2)).off + 1, none⟩ = some (.int .i64 (xs.getD k z31).f1) :=
 at_T31 h (k : Int) (by omega) (by omega)
theorem take_snoc {α : Type} (d : α) {xs : List α} {k : Nat} (hk : k < xs.length) : xs.take (k + 1) = xs.take k ++ [xs.getD k d] := by
 rw [List.take_add_one, List.getElem?_eq_getElem hk, List.getD_eq_getElem?_getD, List.getElem?_eq_getElem hk]
 rfl
def relS (rel : List Pair) : Int → Int → Bool := fun a b => rel.any fun p => decide (p.f0 = a) && decide (p.f1 = b)
theorem relS_snoc (rel : List Pair) (x : Pair) : relS (rel ++ [x]) = withP (relS rel) x.f0 x.f1 := by
 funext a b
 simp only [relS, withP, List.any_append, List.any_cons, List.any_nil, Bool.or_false]
 congr 1
 rw [show decide (x.f0 = a) = decide (a = x.f0) from decide_eq_decide.2 eq_comm, show decide (x.f1 = b) = decide (b = x.f1) from decide_eq_decide.2 eq_comm]
theorem relS_nil : relS [] = fun _ _ => false := by funext a b; simp [relS]
def inP (n : Int) (p : Pair) : Bool := decide (0 ≤ p.f0) && (decide (0 ≤ p.f1) && (decide (p.f0 < n) && decide (p.f1 < n)))
structure OpenSt (w wr : World) (H n : Nat) (v1 v2 : Value) (es : List Ed) (cnt : Nat) (S : Int → Int → Bool) : Prop where
  box : BoxL wr w.heap.size n v1 v2
  tb : wr.heap[H + 1 + 1]? = some (.cells #[.slice (some ⟨H, 0, none⟩) n n, .map (some (H + 1))] 93 (0, 0))
  tab : ∃ vs, Tab k81 81 23 wr w.heap.size H vs (outs n es)
  pm : PM wr (H + 1) cnt S
  below : Below w.heap.size w wr
  base : w.heap.size ≤ H
theorem OpenSt.t0 {w wr : World} {H n : Nat} {v1 v2 : Value} {es : List Ed} {cnt : Nat} {S : Int → Int → Bool} (h : OpenSt w wr H n v1 v2 es cnt S) : wr.cell? ⟨H + 1 + 1, 0, none⟩ = some (.slice (some ⟨H, 0, none⟩) n n) := (blk_cell h.tb 0).trans rfl
theorem OpenSt.t1 {w wr : World} {H n : Nat} {v1 v2 : Value} {es : List Ed} {cnt : Nat} {S : Int → Int → Bool} (h : OpenSt w wr H n v1 v2 es cnt S) : wr.cell? ⟨H + 1 + 1, 1, none⟩ = some (.map (some (H + 1))) := (blk_cell h.tb 1).trans rfl
theorem OpenSt.on {w wr wr' : World} {H n : Nat} {v1 v2 : Value} {es : List Ed} {cnt : Nat} {S : Int → Int → Bool} (h : OpenSt w wr H n v1 v2 es cnt S) (hb : Below wr.heap.size wr wr') : OpenSt w wr' H n v1 v2 es cnt S :=
 ⟨h.box.below hb, blk_below h.tb hb, by obtain ⟨vs, ht⟩ := h.tab; exact ⟨vs, ht.below hb⟩, h.pm.below hb, below_then h.below h.below.size hb, h.base⟩
theorem OpenSt.put {w V w3 : World} {H n : Nat} {a b : Value} {es : List Ed} {cnt : Nat} {S : Int → Int → Bool} {vs : List Value} (h : OpenSt w V H n a b es cnt S) (hT : Tab k81 81 23 V w.heap.size H vs (outs n es)) {i : Nat} (hi : i < n) {x : Ed} (hx : x.f0 = (i : Int)) {v1 : Value}
  (ho : Kd.R k81 81 w3 w.heap.size (fun _ => True) v1 ((outs n es).getD i [] ++ [x])) (hb : Below w.heap.size w w3) (hg : V.grownBy w3 (vs.getD i nilS).ownBlock) (hat : v1.ownBlock = (vs.getD i nilS).ownBlock ∨ ∃ b, v1.ownBlock = some b ∧ V.heap.size ≤ b) :
  OpenSt w (w3.setCell ⟨H, i, none⟩ v1) H n a b (es ++ [x]) cnt S := by
 have hlen := outs_length n es
 have hrow := hT.row i (by rw [hT.len, hlen]; exact hi)
 have cellsNe : ∀ {g t : Nat} {cs : Array Value}, V.heap[g]? = some (.cells cs t (0, 0)) → t ≠ 81 → t ≠ 23 → (w3.setCell ⟨H, i, none⟩ v1).heap[g]? = some (.cells cs t (0, 0)) := by
  intro g t cs hgb h1 h2
  have hne : some g ≠ (vs.getD i nilS).ownBlock := Kd.R_ne hrow hgb (Ne.symm h1)
  have hgH : g ≠ H := by
   intro e
   subst e
   rw [hT.blk] at hgb
   cases hgb
   exact h2 rfl
  rw [Below.heap_setCell _ _ _ _ hgH]
  exact (hg.block g (Array.getElem?_eq_some_iff.1 hgb).1 hne).trans hgb
 refine ⟨cellsNe h.box (by decide) (by decide), cellsNe h.tb (by decide) (by decide), ⟨_, by rw [← outs_snoc es x hi hx]; exact hT.put rfl (by decide) i (by rw [hlen]; exact hi) ho hg hat⟩, ?_, below_set hb h.base, h.base⟩
 refine (h.pm.grown ?_ hg).same ?_
 ·intro k hk
  obtain ⟨cells, hc⟩ := Kd.R_typed hrow k hk
  exact ⟨_, _, _, hc⟩
 ·rw [Below.heap_setCell _ _ _ _ (by simp)]
theorem OpenSt.mapped {w V w3 : World} {H n : Nat} {a b : Value} {es : List Ed} {cnt cnt' : Nat} {S S' : Int → Int → Bool} (h : OpenSt w V H n a b es cnt S) (hp : PM w3 (H + 1) cnt' S') (hg : V.grownBy w3 (some (H + 1))) : OpenSt w w3 H n a b es cnt' S' := by
 obtain ⟨es', c', hm⟩ := h.pm.blk
 have cellsNe : ∀ {g t : Nat} {cs : Array Value}, V.heap[g]? = some (.cells cs t (0, 0)) → w3.heap[g]? = some (.cells cs t (0, 0)) := by
  intro g t cs hgb
  refine (hg.block g (Array.getElem?_eq_some_iff.1 hgb).1 ?_).trans hgb
  intro e
  cases e
  rw [hm] at hgb
  cases hgb
 obtain ⟨vs, hT⟩ := h.tab
 refine ⟨cellsNe h.box, cellsNe h.tb, ⟨vs, hT.grown rfl hm (by intro c t fr e; cases e) hg⟩, hp, ?_, h.base⟩
 exact h.below.grown hg h.below.size (by intro k hk; cases hk; exact Nat.le_trans h.base (Nat.le_succ _))
structure TableAt (base : Nat) (w : World) (H n : Nat) (es : List Ed) (cnt : Nat) (S : Int → Int → Bool) : Prop where
  tb : w.heap[H + 1 + 1]? = some (.cells #[.slice (some ⟨H, 0, none⟩) n n, .map (some (H + 1))] 93 (0, 0))
  tab : ∃ vs, Tab k81 81 23 w base H vs (outs n es)
  pm : PM w (H + 1) cnt S
  base : base ≤ H
def OpenPost (w : World) (n : Nat) (es : List Ed) (rel : List Pair) (ok : Bool) (e : Ending) (w' : World) : Prop :=
 (if ok then ∃ H, e = .returned (.tuple #[.pointer (some ⟨H + 1 + 1, 0, none⟩), .bool true]) ∧ TableAt w.heap.size w' H n es rel.length (relS rel) else e = .returned (.tuple #[.pointer none, .bool false])) ∧ Below w.heap.size w w'
theorem n_le {n : Int} {ls : List ByteArray} {es : List Ed} (h : mayR n ls es = true) : 1 ≤ n ∧ n ≤ 2048 := by
 unfold mayR at h
 simp only [Bool.and_eq_true, decide_eq_true_eq] at h
 exact ⟨h.1, h.2.1⟩
theorem es_le {n : Int} {ls : List ByteArray} {es : List Ed} (h : mayR n ls es = true) : es.length ≤ 1000000 := by
 unfold mayR at h
 simp only [Bool.and_eq_true, decide_eq_true_eq] at h
 exact h.2.2.2.1
theorem es_at {n : Int} {ls : List ByteArray} {es : List Ed} (h : mayR n ls es = true) {k : Nat} (hk : k < es.length) : (0 ≤ (es.getD k z81).f0 ∧ (es.getD k z81).f0 < n) ∧ (0 ≤ (es.getD k z81).f2 ∧ (es.getD k z81).f2 < n) := by
 unfold mayR at h
 simp only [Bool.and_eq_true, decide_eq_true_eq] at h
 have := List.all_eq_true.1 h.2.2.2.2.2 k (List.mem_range.2 hk)
 unfold okAt' at this
 simp only [Bool.and_eq_true, decide_eq_true_eq] at this
 exact ⟨this.1, this.2.1⟩
set_option maxHeartbeats 8000000 in
set_option maxRecDepth 100000 in
theorem open_main (n : Nat) (ls : List ByteArray) (es : List Ed) (rel : List Pair) (A1 A2 A3 : Option Addr) (c1 c2 c3 : Nat) (w : World) (hr1 : Kd.C Kd.string w A1 ls.length ls) (hr2 : Kd.C k81 w A2 es.length es) (hr3 : Kd.C k31 w A3 rel.length rel)
  (hm : mayR n ls es = true) :
  Calls Try.prog 60 #[.agg #[.int .i64 n, .slice A1 ls.length c1, .slice A2 es.length c2], .slice A3 rel.length c3] w (OpenPost w n es rel (rel.all (inP n))) := by
 have HB := Aside0.mk (Below.refl w.heap.size w)
 have HC : ∀ W, Below w.heap.size w W → Calls Try.prog 66 #[.agg #[.int .i64 n, .slice A1 ls.length c1, .slice A2 es.length c2]] W fun e w' => e = .returned (.int .i64 0) ∧ Below W.heap.size W w' := fun W hW =>
  check_yes n ls es A1 A2 c1 c2 W (Kd.C_below hr1 hW) (Kd.C_below hr2 hW) (by rw [may_same]; exact hm)
 have HC' := Lib.hid HC
 have HR1 := Aside0.mk hr1
 have HR2 := Aside0.mk hr2
 have HR3 := Aside0.mk hr3
 have HM := Aside0.mk hm
 have hmk := print_make_of (P := Try.prog) 90 23 (.slice none 0 0) 24 Try.underlying90 (by kernel_rfl) rfl (by omega) n (by have := n_le hm; omega)
 have hmm := @run_makeMap Try.prog
 have hel := es_le hm
 clear HC hr1 hr2 hr3 hm
 go_enter Try.func60, Try.ntmps60
 go_wp2_with fail
 refine (HC'.out _ (below_alloc HB.out _)).mono ?_
 rintro e w1 ⟨rfl, hB⟩
 have hX : BoxL w1 w.heap.size n (.slice A1 ls.length c1) (.slice A2 es.length c2) := blk_below (blk_new w _) hB
 have HX := Aside0.mk hX
 have HB1 := Aside0.mk (below_then (below_alloc HB.out _) (by simp) hB)
 have b0 := hX.c0
 have b2 : ∀ o1 o2 o3, (((w1.alloc o1).alloc o2).alloc o3).cell? ⟨w.heap.size, 2, none⟩ = some (.slice A2 es.length c2) := fun o1 o2 o3 => later (below_alloc (below_alloc (below_alloc (Below.refl _ _) _) _) _) hX.c2
 clear hB hX
 go_wp2
 obtain ⟨H, hH⟩ : ∃ H, H = w1.heap.size := ⟨_, rfl⟩
 have hst : OpenSt w (((w1.alloc (Obj.cells (madeCells #[Value.slice none 0 0] n) 23)).alloc (Obj.map #[] 0)).alloc (Obj.cells #[Value.slice (some ⟨w1.heap.size, 0, none⟩) n n, Value.map (some (w1.heap.size + 1))] 93)) H n (.slice A1 ls.length c1) (.slice A2 es.length c2) [] 0 (fun _ _ => false) := by
  subst hH
  refine ⟨HX.out.below (below_alloc (below_alloc (below_alloc (Below.refl _ _) _) _) _), ?_, ⟨List.replicate n nilS, ?_⟩, ?_, by repeat (first | exact HB1.out | apply below_alloc), HB1.out.size⟩
  ·have := blk_new ((w1.alloc (Obj.cells (madeCells #[Value.slice none 0 0] n) 23)).alloc (Obj.map #[] 0)) (Obj.cells #[Value.slice (some ⟨w1.heap.size, 0, none⟩) n n, Value.map (some (w1.heap.size + 1))] 93)
   simpa using this
  ·have h0 := Tab.start (d := k81) (e := 81) (base := w.heap.size) n (blk_new w1 (Obj.cells (madeCells #[nilS] n) 23))
   have h1 := h0.below (below_alloc (below_alloc (Below.refl _ _) (Obj.map #[] 0)) (Obj.cells #[Value.slice (some ⟨w1.heap.size, 0, none⟩) n n, Value.map (some (w1.heap.size + 1))] 93))
   have e1 : outs n [] = List.replicate n [] := by
    apply List.ext_getElem
    ·simp [outs]
    ·intro i h1 h2; simp [outs]
   rw [e1]
   exact h1
  ·have := (PM.made (w1.alloc (Obj.cells (madeCells #[Value.slice none 0 0] n) 23))).below (below_alloc (Below.refl _ _) (Obj.cells #[Value.slice (some ⟨w1.heap.size, 0, none⟩) n n, Value.map (some (w1.heap.size + 1))] 93))
   simpa using this
 rw [← hH] at hst ⊢
 have HST := Aside0.mk hst
 clear hst b0 b2 HX hH
 generalize (((w1.alloc (Obj.cells (madeCells #[Value.slice none 0 0] n) 23)).alloc (Obj.map #[] 0)).alloc (Obj.cells #[Value.slice (some ⟨H, 0, none⟩) n n, Value.map (some (H + 1))] 93)) = w2 at HST ⊢
 go_loopw [23] (fun i wr => ∃ k : Nat, k ≤ es.length ∧ i = .int .i64 k ∧ Aside0 (OpenSt w wr H n (.slice A1 ls.length c1) (.slice A2 es.length c2) (es.take k) 0 (fun _ _ => false))) (fun i _ => es.length - (intOf i).toNat)
 case atStart => exact ⟨0, Nat.zero_le _, rfl, HST⟩
 case round =>
  obtain ⟨k, hk, rfl, HS⟩ := hrel
  clear HST
  by_cases hlt : k < es.length
  ·obtain ⟨ad, hA, g0, g1, g2⟩ := atE HR2.out k hlt
   subst hA
   replace g0 := later HS.out.below g0
   replace g1 := later HS.out.below g1
   replace g2 := later HS.out.below g2
   have hin := es_at HM.out hlt
   obtain ⟨x, hx⟩ : ∃ x, x = es.getD k z81 := ⟨_, rfl⟩
   rw [← hx] at g0 g1 g2 hin
   have hx' := Aside0.mk hx; clear hx
   obtain ⟨i, hi⟩ : ∃ i : Nat, x.f0 = (i : Int) := ⟨x.f0.toNat, by omega⟩
   have i0 : (0 : Int) ≤ (i : Int) := by omega
   have i1 : (i : Int) < (n : Int) := by omega
   have i2 : i < n := by omega
   rw [hi] at g0
   go_wp2_with fail
   obtain ⟨E, hE⟩ : ∃ E, E = wr.heap.size := ⟨_, rfl⟩
   obtain ⟨vs, hTab⟩ := HS.out.tab
   have hlen := outs_length n (es.take k)
   obtain ⟨Ar, cr, hv, hcell, _⟩ := hTab.read i (by rw [hlen]; exact i2)
   have hlt0 := fun b (hb : (vs.getD i nilS).ownBlock = some b) => Kd.R_lt (hTab.row i (by rw [hTab.len, hlen]; exact i2)) b hb
   have hnE : some E ≠ (vs.getD i nilS).ownBlock := fun h => absurd (hlt0 E h.symm) (by rw [hE]; exact Nat.lt_irrefl _)
   obtain ⟨zs, hzs⟩ : ∃ zs, zs = (outs n (es.take k)).getD i [] := ⟨_, rfl⟩
   have hzl : zs.length ≤ 1000000 := by
    rw [hzs, outs_at _ i2]
    exact Nat.le_trans (List.length_filter_le _ _) (by rw [List.length_take]; omega)
   rw [← hzs] at hv hcell
   rw [← hE]
   have e0 := (blk_cell (blk_new wr (Obj.cells #[Value.int IntKind.i64 (i : Int), Value.int IntKind.i64 x.f1, Value.int IntKind.i64 x.f2] 81)) 0).trans rfl
   have e1 := (blk_cell (blk_new wr (Obj.cells #[Value.int IntKind.i64 (i : Int), Value.int IntKind.i64 x.f1, Value.int IntKind.i64 x.f2] 81)) 1).trans rfl
   have e2 := (blk_cell (blk_new wr (Obj.cells #[Value.int IntKind.i64 (i : Int), Value.int IntKind.i64 x.f1, Value.int IntKind.i64 x.f2] 81)) 2).trans rfl
   rw [← hE] at e0 e1 e2
   have HS1 := Aside0.mk (HS.out.on (below_drew1 (below_alloc (Below.refl _ _) (Obj.cells #[Value.int IntKind.i64 (i : Int), Value.int IntKind.i64 x.f1, Value.int IntKind.i64 x.f2] 81))))
   have HT1 := Aside0.mk (hTab.below (below_drew1 (below_alloc (Below.refl _ _) (Obj.cells #[Value.int IntKind.i64 (i : Int), Value.int IntKind.i64 x.f1, Value.int IntKind.i64 x.f2] 81))))
   have hc1 := HT1.out.cell i (by rw [hlen]; exact i2)
   rw [hv] at hc1
   have HF := Aside0.mk hi
   have HN := Aside0.mk hnE
   have HZ := Aside0.mk hzs
   have HV := Aside0.mk hv
   clear hTab hcell hlt0 hnE hE hi hzs hv hin
   generalize (wr.alloc (Obj.cells #[Value.int IntKind.i64 (i : Int), Value.int IntKind.i64 x.f1, Value.int IntKind.i64 x.f2] 81)) = W at HS1 HT1 hc1 e0 e1 e2 ⊢
   refine start_ (n := 19) (S := fun w' => w'.cell? ⟨H + 1 + 1, 0, none⟩ = some (.slice (some ⟨H, 0, none⟩) n n) ∧ w'.cell? ⟨E, 0, none⟩ = some (.int .i64 (i : Int)) ∧ w'.cell? ⟨E, 1, none⟩ = some (.int .i64 x.f1) ∧ w'.cell? ⟨E, 2, none⟩ = some (.int .i64 x.f2) ∧ w'.cell? ⟨H, i, none⟩ = some (.slice Ar zs.length cr)) (ds := [18]) #[false, false, false, false, false, false, false, false, false, false, false, false, false, false, false, false, false, false, false] (by kernel_rfl) rfl rfl ⟨HS1.out.t0, e0, e1, e2, hc1⟩ (fun hHeld => ?_)
   generalize W.drew = V at HS1 HT1 hHeld hc1 ⊢; clear e0 e1 e2 hc1; have HH0 := Aside0.mk hHeld
   refine pure_ (i := 0) (N := some 27) (v := ?_) (a' := ?_) #[true, false, false, false, false, false, false, false, false, false, false, false, false, false, false, false, false, false, false] rfl rfl (by kernel_rfl) (fun _ _ _ h => h) (Or.inl ⟨by rfl, ?_⟩) ?_ ?_
   rotate_left
   ·intro w'
    go_simp
    with_reducible rfl
   rotate_left
   ·simp only [Act.put, List.setIfInBounds_toArray, List.set_cons_zero, List.set_cons_succ, i64_w, i32_w]
    rfl
   refine pure_ (i := 1) (N := some 28) (v := ?_) (a' := ?_) #[true, true, false, false, false, false, false, false, false, false, false, false, false, false, false, false, false, false, false] rfl rfl (by kernel_rfl) (fun _ _ _ h => h) (Or.inl ⟨by rfl, ?_⟩) ?_ ?_
   rotate_left
   ·intro w'
    go_simp
    with_reducible rfl
   rotate_left
   ·simp only [Act.put, List.setIfInBounds_toArray, List.set_cons_zero, List.set_cons_succ, i64_w, i32_w]
    rfl
   refine pure_ (i := 2) (N := some 29) (v := ?_) (a' := ?_) #[true, true, true, false, false, false, false, false, false, false, false, false, false, false, false, false, false, false, false] rfl rfl (by kernel_rfl) (fun _ _ _ h => h) (Or.inl ⟨by rfl, ?_⟩) ?_ ?_
   rotate_left
   ·intro w'
    go_simp
    with_reducible rfl
   rotate_left
   ·simp only [Act.put, List.setIfInBounds_toArray, List.set_cons_zero, List.set_cons_succ, i64_w, i32_w]
    rfl
   refine pure_ (i := 4) (N := some 31) (v := ?_) (a' := ?_) #[true, true, true, false, true, false, false, false, false, false, false, false, false, false, false, false, false, false, false] rfl rfl (by kernel_rfl) (fun _ _ _ h => h) (Or.inl ⟨by rfl, ?_⟩) ?_ ?_
   rotate_left
   ·intro w'
    go_simp
    with_reducible rfl
   rotate_left
   ·simp only [Act.put, List.setIfInBounds_toArray, List.set_cons_zero, List.set_cons_succ, i64_w, i32_w]
    rfl
   refine pure_ (i := 6) (N := some 33) (v := ?_) (a' := ?_) #[true, true, true, false, true, false, true, false, false, false, false, false, false, false, false, false, false, false, false] rfl rfl (by kernel_rfl) (fun _ _ _ h => h) (Or.inl ⟨by rfl, ?_⟩) ?_ ?_
   rotate_left
   ·intro w'
    go_simp
    with_reducible rfl
   rotate_left
   ·simp only [Act.put, List.setIfInBounds_toArray, List.set_cons_zero, List.set_cons_succ, i64_w, i32_w]
    rfl
   refine pure_ (i := 7) (N := some 34) (v := ?_) (a' := ?_) #[true, true, true, false, true, false, true, true, false, false, false, false, false, false, false, false, false, false, false] rfl rfl (by kernel_rfl) (fun _ _ _ h => h) (Or.inl ⟨by rfl, ?_⟩) ?_ ?_
   rotate_left
   ·intro w'
    go_simp
    with_reducible rfl
   rotate_left
   ·simp only [Act.put, List.setIfInBounds_toArray, List.set_cons_zero, List.set_cons_succ, i64_w, i32_w]
    rfl
   refine pure_ (i := 8) (N := some 35) (v := ?_) (a' := ?_) #[true, true, true, false, true, false, true, true, true, false, false, false, false, false, false, false, false, false, false] rfl rfl (by kernel_rfl) (fun _ _ _ h => h) (Or.inl ⟨by rfl, ?_⟩) ?_ ?_
   rotate_left
   ·intro w'
    go_simp
    with_reducible rfl
   rotate_left
   ·simp only [Act.put, List.setIfInBounds_toArray, List.set_cons_zero, List.set_cons_succ, i64_w, i32_w]
    rfl
   refine pure_ (i := 10) (N := some 37) (v := ?_) (a' := ?_) #[true, true, true, false, true, false, true, true, true, false, true, false, false, false, false, false, false, false, false] rfl rfl (by kernel_rfl) (fun _ _ _ h => h) (Or.inl ⟨by rfl, ?_⟩) ?_ ?_
   rotate_left
   ·intro w'
    go_simp
    with_reducible rfl
   rotate_left
   ·simp only [Act.put, List.setIfInBounds_toArray, List.set_cons_zero, List.set_cons_succ, i64_w, i32_w]
    rfl
   refine take_ (i := 3) (N := some 30) (v := ?_) (a' := ?_) #[true, true, true, true, true, false, true, true, true, false, true, false, false, false, false, false, false, false, false] rfl rfl (by kernel_rfl) (fun _ _ _ h => h) (Or.inl ⟨by rfl, ?_⟩) hHeld ?_ ?_
   rotate_left
   ·rintro w' ⟨s0, s1, s2, s3, s4⟩
    go_simp
    with_reducible rfl
   rotate_left
   ·simp only [Act.put, List.setIfInBounds_toArray, List.set_cons_zero, List.set_cons_succ, i64_w, i32_w]
    rfl
   refine take_ (i := 5) (N := some 32) (v := ?_) (a' := ?_) #[true, true, true, true, true, true, true, true, true, false, true, false, false, false, false, false, false, false, false] rfl rfl (by kernel_rfl) (fun _ _ _ h => h) (Or.inl ⟨by rfl, ?_⟩) hHeld ?_ ?_
   rotate_left
   ·rintro w' ⟨s0, s1, s2, s3, s4⟩
    go_simp
    with_reducible rfl
   rotate_left
   ·simp only [Act.put, List.setIfInBounds_toArray, List.set_cons_zero, List.set_cons_succ, i64_w, i32_w]
    rfl
   refine take_ (i := 9) (N := some 36) (v := ?_) (a' := ?_) #[true, true, true, true, true, true, true, true, true, true, true, false, false, false, false, false, false, false, false] rfl rfl (by kernel_rfl) (fun _ _ _ h => h) (Or.inl ⟨by rfl, ?_⟩) hHeld ?_ ?_
   rotate_left
   ·rintro w' ⟨s0, s1, s2, s3, s4⟩
    go_simp
    with_reducible rfl
   rotate_left
   ·simp only [Act.put, List.setIfInBounds_toArray, List.set_cons_zero, List.set_cons_succ, i64_w, i32_w]
    rfl
   refine take_ (i := 11) (N := some 38) (v := ?_) (a' := ?_) #[true, true, true, true, true, true, true, true, true, true, true, true, false, false, false, false, false, false, false] rfl rfl (by kernel_rfl) (fun _ _ _ h => h) (Or.inl ⟨by rfl, ?_⟩) hHeld ?_ ?_
   rotate_left
   ·rintro w' ⟨s0, s1, s2, s3, s4⟩
    go_simp
    with_reducible rfl
   rotate_left
   ·simp only [Act.put, List.setIfInBounds_toArray, List.set_cons_zero, List.set_cons_succ, i64_w, i32_w]
    rfl
   refine pure_ (i := 12) (N := some 39) (v := ?_) (a' := ?_) #[true, true, true, true, true, true, true, true, true, true, true, true, true, false, false, false, false, false, false] rfl rfl (by kernel_rfl) (fun _ _ _ h => h) (Or.inl ⟨by rfl, ?_⟩) ?_ ?_
   rotate_left
   ·intro w'
    go_simp
    with_reducible rfl
   rotate_left
   ·simp only [Act.put, List.setIfInBounds_toArray, List.set_cons_zero, List.set_cons_succ, i64_w, i32_w]
    rfl
   refine take_ (i := 13) (N := some 40) (v := ?_) (a' := ?_) #[true, true, true, true, true, true, true, true, true, true, true, true, true, true, false, false, false, false, false] rfl rfl (by kernel_rfl) (fun _ _ _ h => h) (Or.inl ⟨by rfl, ?_⟩) hHeld ?_ ?_
   rotate_left
   ·rintro w' ⟨s0, s1, s2, s3, s4⟩
    go_simp
    with_reducible rfl
   rotate_left
   ·simp only [Act.put, List.setIfInBounds_toArray, List.set_cons_zero, List.set_cons_succ, i64_w, i32_w]
    rfl
   refine take_ (i := 14) (N := some 41) (v := ?_) (a' := ?_) #[true, true, true, true, true, true, true, true, true, true, true, true, true, true, true, false, false, false, false] rfl rfl (by kernel_rfl) (fun _ _ _ h => h) (Or.inl ⟨by rfl, ?_⟩) hHeld ?_ ?_
   rotate_left
   ·rintro w' ⟨s0, s1, s2, s3, s4⟩
    go_simp
    with_reducible rfl
   rotate_left
   ·simp only [Act.put, List.setIfInBounds_toArray, List.set_cons_zero, List.set_cons_succ, i64_w, i32_w]
    rfl
   refine one_ (i := 15) (N := some 42) #[true, true, true, true, true, true, true, true, true, true, true, true, true, true, true, true, false, false, false] rfl rfl (by kernel_rfl) (by decide) (fun K hK => ?_)
   refine value_ (w1 := ?_) (v := ?_) (by rfl) rfl ?_ ?_
   rotate_left 2
   ·go_simp
    constructor
    ·rfl
    ·rfl
   refine hK.out _ _ ⟨later (below_alloc (Below.refl _ _) _) hHeld.1, later (below_alloc (Below.refl _ _) _) hHeld.2.1, later (below_alloc (Below.refl _ _) _) hHeld.2.2.1, later (below_alloc (Below.refl _ _) _) hHeld.2.2.2.1, later (below_alloc (Below.refl _ _) _) hHeld.2.2.2.2⟩ (fun hHeld => ?_)
   clear hK K
   refine norm_ (a' := ?_) ?_ ?_
   rotate_left
   ·show Act.put _ (some 42) _ = _
    simp only [Act.put, List.setIfInBounds_toArray, List.set_cons_zero, List.set_cons_succ, i64_w, i32_w]
    rfl
   refine one_ (i := 16) (N := some 43) #[true, true, true, true, true, true, true, true, true, true, true, true, true, true, true, true, true, false, false] rfl rfl (by kernel_rfl) (by decide) (fun K hK => ?_)
   refine Kd.R_append_step k81 (w0 := w) w.heap.size (by rfl) (.tmp 40) (.tmp 42) 23 81 (.agg #[(.int .i64 0), (.int .i64 0), (.int .i64 0)]) 24 rfl Try.underlying23 info81 rfl (by decide) (by omega) (.slice Ar zs.length cr) zs x [.int .i64 (i : Int), .int .i64 x.f1, .int .i64 x.f2] (fun _ => True) (fun _ => False) rfl rfl ?aP (fun _ hk => hk.elim) ?aF ?aO ?aB ?aS ?aL ?_
   (case aP => rw [← HF.out]; exact k81_mkM _ _ _ x)
   (case aF => exact fun _ _ => trivial)
   (case aO => rw [← HV.out, HZ.out]; exact HT1.out.row i (by rw [HT1.out.len, hlen]; exact i2))
   (case aB => exact HS1.out.below)
   (case aS => exact HS1.out.below.size)
   (case aL => omega)
   intro v1 w3 ho hb hg hat
   obtain ⟨A4, c4, hv4⟩ := Kd.R_slice ho
   subst hv4
   have HO := Aside0.mk ho
   have HG := Aside0.mk hg
   have HAt := Aside0.mk hat
   have HBw := Aside0.mk hb
   have hneT : some (H + 1 + 1) ≠ (Value.slice Ar zs.length cr).ownBlock := by rw [← HV.out]; exact Kd.R_ne (HT1.out.row i (by rw [HT1.out.len, hlen]; exact i2)) HS1.out.tb (by decide)
   have hneH : some H ≠ (Value.slice Ar zs.length cr).ownBlock := by rw [← HV.out]; exact Kd.R_ne (HT1.out.row i (by rw [HT1.out.len, hlen]; exact i2)) HT1.out.blk (by decide)
   have hneE : some E ≠ (Value.slice Ar zs.length cr).ownBlock := by rw [← HV.out]; exact HN.out
   have fz := Tab.frozen HT1.out i hg hneH
   rw [List.length_append, List.length_singleton]
   clear ho hb hg hat
   refine hK.out _ _ ⟨cell_grown HG.out HH0.out.1 hneT, cell_grown HG.out HH0.out.2.1 hneE, cell_grown HG.out HH0.out.2.2.1 hneE, cell_grown HG.out HH0.out.2.2.2.1 hneE, cell_grown HG.out HH0.out.2.2.2.2 hneH⟩ (fun hHeld => ?_)
   clear hK K
   refine norm_ (a' := ?_) ?_ ?_
   rotate_left
   ·show Act.put _ (some 43) _ = _
    simp only [Act.put, List.setIfInBounds_toArray, List.set_cons_zero, List.set_cons_succ, i64_w, i32_w]
    rfl
   refine pure_ (i := 17) (N := some 44) (v := ?_) (a' := ?_) #[true, true, true, true, true, true, true, true, true, true, true, true, true, true, true, true, true, true, false] rfl rfl (by kernel_rfl) (fun _ _ _ h => h) (Or.inl ⟨by rfl, ?_⟩) ?_ ?_
   rotate_left
   ·intro w'
    go_simp
    with_reducible rfl
   rotate_left
   ·simp only [Act.put, List.setIfInBounds_toArray, List.set_cons_zero, List.set_cons_succ, i64_w, i32_w]
    rfl
   refine last_ (i := 18) (N := none) #[true, true, true, true, true, true, true, true, true, true, true, true, true, true, true, true, true, true, true] rfl rfl (by kernel_rfl) (by decide) (fun K hK => ?_)
   refine skip_ (w1 := ?_) (by rfl) rfl ?_ ?_
   rotate_left
   ·go_simp
    rfl
   refine hK.out _ _ ?_
   clear hK K
   refine done_ (by kernel_rfl) ?_
   go_wp2
   go_roundw
   case rel =>
    refine ⟨k + 1, by omega, by go_num, ⟨?_⟩⟩
    have e1 : es.take (k + 1) = es.take k ++ [x] := by rw [hx'.out]; exact take_snoc z81 hlt
    rw [e1]
    refine HS1.out.put HT1.out i2 HF.out ?_ HBw.out ?_ ?_
    ·rw [← HZ.out]; simpa using HO.out
    ·rw [HV.out]; exact HG.out
    ·rw [HV.out]; simpa using HAt.out
   case measure => simp [intOf]; omega
  ·have ek : es.take k = es := List.take_of_length_le (by omega)
   rw [ek] at HS
   clear ek
   go_wp2
   clear hk hlt
   go_loopw [48] (fun i wr2 => ∃ k : Nat, k ≤ rel.length ∧ i = .int .i64 k ∧ Aside0 (∀ j, j < k → inP n (rel.getD j z31) = true) ∧ Aside0 (OpenSt w wr2 H n (.slice A1 ls.length c1) (.slice A2 es.length c2) es k (relS (rel.take k)))) (fun i _ => rel.length - (intOf i).toNat)
   case atStart => exact ⟨0, Nat.zero_le _, rfl, ⟨fun j hj => by omega⟩, ⟨by rw [List.take_zero, relS_nil]; exact HS.out⟩⟩
   case round =>
    clear HS
    obtain ⟨k, hk, rfl, hz, HS⟩ := hrel
    by_cases hlt : k < rel.length
    ·obtain ⟨ad, hA, g0, g1⟩ := atP HR3.out k hlt
     subst hA
     replace g0 := later HS.out.below g0
     replace g1 := later HS.out.below g1
     obtain ⟨x, hx⟩ : ∃ x, x = rel.getD k z31 := ⟨_, rfl⟩
     rw [← hx] at g0 g1
     have hx' := Aside0.mk hx; clear hx
     have b0 : ∀ o, (wr.alloc o).cell? ⟨w.heap.size, 0, none⟩ = some (.int .i64 n) := fun o => later (below_alloc (Below.refl _ _) o) HS.out.box.c0
     obtain ⟨a, ha⟩ : ∃ a, a = x.f0 := ⟨_, rfl⟩
     obtain ⟨b, hb⟩ : ∃ b, b = x.f1 := ⟨_, rfl⟩
     rw [← ha] at g0
     rw [← hb] at g1
     have HA := Aside0.mk ha
     have HBb := Aside0.mk hb
     clear ha hb
     have bad : (min a b < 0 ∨ (n : Int) ≤ max a b) → rel.all (inP n) = false := by
      intro h
      rw [Bool.eq_false_iff]
      intro he
      have := List.all_eq_true.1 he x (by rw [hx'.out, List.getD_eq_getElem?_getD, List.getElem?_eq_getElem hlt]; exact List.getElem_mem hlt)
      unfold inP at this
      rw [← HA.out, ← HBb.out] at this
      simp only [Bool.and_eq_true, decide_eq_true_eq] at this
      omega
     by_cases h0 : min a b < 0
     ·have HBad := Aside0.mk (bad (.inl h0))
      clear bad
      go_wp2
      go_ret2
      refine ⟨by rw [HBad.out]; rfl, ?_⟩
      repeat (first | exact HS.out.below | apply below_alloc)
     ·by_cases h1 : (n : Int) ≤ max a b
      ·have HBad := Aside0.mk (bad (.inr h1))
       clear bad
       go_wp2
       go_ret2
       refine ⟨by rw [HBad.out]; rfl, ?_⟩
       repeat (first | exact HS.out.below | apply below_alloc)
      ·clear bad
       have hin : inP n x = true := by
        unfold inP
        rw [← HA.out, ← HBb.out]
        simp only [Bool.and_eq_true, decide_eq_true_eq]
        omega
       have hok : i64ok a ∧ i64ok b := by
        have := n_le HM.out
        unfold i64ok
        omega
       have hrl := C_len HR3.out
       have HIn := Aside0.mk hin
       have HOk := Aside0.mk hok
       clear hin hok
       go_wp2_with fail
       clear h0 h1 b0 g0 g1
       obtain ⟨E, hE⟩ : ∃ E, E = wr.heap.size := ⟨_, rfl⟩
       rw [← hE]
       have e0 := (blk_cell (blk_new wr (Obj.cells #[Value.int IntKind.i64 a, Value.int IntKind.i64 b] 31)) 0).trans rfl
       have e1 := (blk_cell (blk_new wr (Obj.cells #[Value.int IntKind.i64 a, Value.int IntKind.i64 b] 31)) 1).trans rfl
       rw [← hE] at e0 e1
       have HS1 := Aside0.mk (HS.out.on (below_drew1 (below_alloc (Below.refl _ _) (Obj.cells #[Value.int IntKind.i64 a, Value.int IntKind.i64 b] 31))))
       clear hE
       generalize (wr.alloc (Obj.cells #[Value.int IntKind.i64 a, Value.int IntKind.i64 b] 31)) = W at HS1 e0 e1 ⊢
       refine start_ (n := 6) (S := fun w' => w'.cell? ⟨H + 1 + 1, 1, none⟩ = some (.map (some (H + 1))) ∧ w'.cell? ⟨E, 0, none⟩ = some (.int .i64 a) ∧ w'.cell? ⟨E, 1, none⟩ = some (.int .i64 b)) (ds := [5]) #[false, false, false, false, false, false] (by kernel_rfl) rfl rfl ⟨HS1.out.t1, e0, e1⟩ (fun hHeld => ?_)
       generalize W.drew = V at HS1 hHeld ⊢; clear e0 e1
       refine pure_ (i := 0) (N := some 68) (v := ?_) (a' := ?_) #[true, false, false, false, false, false] rfl rfl (by kernel_rfl) (fun _ _ _ h => h) (Or.inl ⟨by rfl, ?_⟩) ?_ ?_
       rotate_left
       ·intro w'
        go_simp
        with_reducible rfl
       rotate_left
       ·simp only [Act.put, List.setIfInBounds_toArray, List.set_cons_zero, List.set_cons_succ, i64_w, i32_w]
        rfl
       refine pure_ (i := 1) (N := some 69) (v := ?_) (a' := ?_) #[true, true, false, false, false, false] rfl rfl (by kernel_rfl) (fun _ _ _ h => h) (Or.inl ⟨by rfl, ?_⟩) ?_ ?_
       rotate_left
       ·intro w'
        go_simp
        with_reducible rfl
       rotate_left
       ·simp only [Act.put, List.setIfInBounds_toArray, List.set_cons_zero, List.set_cons_succ, i64_w, i32_w]
        rfl
       refine pure_ (i := 2) (N := some 70) (v := ?_) (a' := ?_) #[true, true, true, false, false, false] rfl rfl (by kernel_rfl) (fun _ _ _ h => h) (Or.inl ⟨by rfl, ?_⟩) ?_ ?_
       rotate_left
       ·intro w'
        go_simp
        with_reducible rfl
       rotate_left
       ·simp only [Act.put, List.setIfInBounds_toArray, List.set_cons_zero, List.set_cons_succ, i64_w, i32_w]
        rfl
       refine take_ (i := 3) (N := some 71) (v := ?_) (a' := ?_) #[true, true, true, true, false, false] rfl rfl (by kernel_rfl) (fun _ _ _ h => h) (Or.inl ⟨by rfl, ?_⟩) hHeld ?_ ?_
       rotate_left
       ·rintro w' ⟨s0, s1, s2⟩
        go_simp
        with_reducible rfl
       rotate_left
       ·simp only [Act.put, List.setIfInBounds_toArray, List.set_cons_zero, List.set_cons_succ, i64_w, i32_w]
        rfl
       refine take_ (i := 4) (N := some 72) (v := ?_) (a' := ?_) #[true, true, true, true, true, false] rfl rfl (by kernel_rfl) (fun _ _ _ h => h) (Or.inl ⟨by rfl, ?_⟩) hHeld ?_ ?_
       rotate_left
       ·rintro w' ⟨s0, s1, s2⟩
        go_simp
        with_reducible rfl
       rotate_left
       ·simp only [Act.put, List.setIfInBounds_toArray, List.set_cons_zero, List.set_cons_succ, i64_w, i32_w]
        rfl
       refine last_ (i := 5) (N := none) #[true, true, true, true, true, true] rfl rfl (by kernel_rfl) (by decide) (fun K hK => ?_)
       obtain ⟨w4, hput, hpm, hg⟩ := HS1.out.pm.put HOk.out.1 HOk.out.2 (by unfold maxLen; omega)
       have HPM := Aside0.mk hpm
       have HG := Aside0.mk hg
       clear hpm hg
       refine skip_ (w1 := ?_) (by rfl) rfl ?_ ?_
       rotate_left
       ·go_simp
        rfl
       refine hK.out _ _ ?_
       clear hK K
       refine done_ (by kernel_rfl) ?_
       go_wp2
       go_roundw
       case rel =>
        refine ⟨k + 1, by omega, by go_num, ⟨fun j hj => ?_⟩, ⟨?_⟩⟩
        ·rcases Nat.lt_succ_iff_lt_or_eq.1 hj with h | rfl
         ·exact hz.out j h
         ·rw [← hx'.out]; exact HIn.out
        ·have e1 : relS (rel.take (k + 1)) = withP (relS (rel.take k)) a b := by
          rw [take_snoc z31 hlt, ← hx'.out, relS_snoc, HA.out, HBb.out]
         rw [e1]
         exact HS1.out.mapped HPM.out HG.out
       case measure => simp [intOf]; omega
    ·have ek : rel.take k = rel := List.take_of_length_le (by omega)
     rw [ek] at HS
     have hall : rel.all (inP n) = true := by
      rw [List.all_eq_true]
      intro p hp
      obtain ⟨j, hj, rfl⟩ := List.getElem_of_mem hp
      have := hz.out j (by omega)
      rw [List.getD_eq_getElem?_getD, List.getElem?_eq_getElem hj] at this
      exact this
     have HAll := Aside0.mk hall
     clear ek hall hz
     go_wp2
     go_ret2
     unfold OpenPost
     rw [HAll.out]
     have ek : k = rel.length := by omega
     subst ek
     exact ⟨⟨H, rfl, HS.out.tb, HS.out.tab, HS.out.pm, HS.out.base⟩, HS.out.below⟩
theorem open_no (n : Int) (ls : List ByteArray) (es : List Ed) (rel : List Pair) (A1 A2 A3 : Option Addr) (c1 c2 c3 : Nat) (w : World) (hr1 : Kd.C Kd.string w A1 ls.length ls) (hr2 : Kd.C k81 w A2 es.length es) (hm : mayR n ls es = false) :
  Calls Try.prog 60 #[.agg #[.int .i64 n, .slice A1 ls.length c1, .slice A2 es.length c2], .slice A3 rel.length c3] w fun e w' => e = .returned (.tuple #[.pointer none, .bool false]) ∧ Below w.heap.size w w' := by
 have HB := Aside0.mk (Below.refl w.heap.size w)
 have HC : ∀ W, Below w.heap.size w W → Calls Try.prog 66 #[.agg #[.int .i64 n, .slice A1 ls.length c1, .slice A2 es.length c2]] W fun e w' => e = .returned (.int .i64 1) ∧ Below W.heap.size W w' := fun W hW =>
  check_no n ls es A1 A2 c1 c2 W (Kd.C_below hr1 hW) (Kd.C_below hr2 hW) (by rw [may_same]; exact hm)
 have HC' := Lib.hid HC
 clear HC hr1 hr2 hm
 go_enter Try.func60, Try.ntmps60
 go_wp2_with fail
 refine (HC'.out _ (below_alloc HB.out _)).mono ?_
 rintro e w1 ⟨rfl, hB⟩
 have HB1 := Aside0.mk (below_then (below_alloc HB.out _) (by simp) hB)
 clear hB
 go_wp2
 go_ret2
 exact ⟨rfl, HB1.out⟩
theorem TableAt.on {base : Nat} {w w1 : World} {H n : Nat} {es : List Ed} {cnt : Nat} {S : Int → Int → Bool} (h : TableAt base w H n es cnt S) (hb : Below w.heap.size w w1) : TableAt base w1 H n es cnt S :=
 ⟨blk_below h.tb hb, by obtain ⟨vs, ht⟩ := h.tab; exact ⟨vs, ht.below hb⟩, h.pm.below hb, h.base⟩
theorem TableAt.t0 {base : Nat} {w : World} {H n : Nat} {es : List Ed} {cnt : Nat} {S : Int → Int → Bool} (h : TableAt base w H n es cnt S) : w.cell? ⟨H + 1 + 1, 0, none⟩ = some (.slice (some ⟨H, 0, none⟩) n n) := (blk_cell h.tb 0).trans rfl
theorem TableAt.t1 {base : Nat} {w : World} {H n : Nat} {es : List Ed} {cnt : Nat} {S : Int → Int → Bool} (h : TableAt base w H n es cnt S) : w.cell? ⟨H + 1 + 1, 1, none⟩ = some (.map (some (H + 1))) := (blk_cell h.tb 1).trans rfl
theorem TableAt.row {base : Nat} {w : World} {H n : Nat} {es : List Ed} {cnt : Nat} {S : Int → Int → Bool} (h : TableAt base w H n es cnt S) {i : Nat} (hi : i < n) : ∃ A c, w.cell? ⟨H, i, none⟩ = some (.slice A (es.filter fun e => decide (e.f0 = (i : Int))).length c) ∧ Kd.C k81 w A (es.filter fun e => decide (e.f0 = (i : Int))).length (es.filter fun e => decide (e.f0 = (i : Int))) := by
 obtain ⟨vs, ht⟩ := h.tab
 obtain ⟨A, c, _, h1, h2⟩ := ht.read i (by rw [outs_length]; exact hi)
 rw [outs_at es hi] at h1 h2
 exact ⟨A, c, h1, h2⟩
end Go.Proofs.Ytmpiokdomjchiaa.H
set_option linter.unusedVariables false
set_option linter.unusedSimpArgs false
namespace Go.Proofs.Ytmpiokdomjchiaa.H
open Go.RowKit Go.Proofs.Ytmpiokdomjchiaa.Pr Go.Proofs.YtmpiokdomjchiaaW.PrintWords Go.Proofs.Ytmpiokdomjchiaa.Sem
theorem Ev.pos {α : Type} {c : Prop} [Decidable c] {a b : Nat → Option α} {r : α} (h : c) (e : Ev a r) : Ev (fun k => if c then a k else b k) r := by
 simp only [if_pos h]
 exact e
theorem Ev.neg {α : Type} {c : Prop} [Decidable c] {a b : Nat → Option α} {r : α} (h : ¬ c) (e : Ev b r) : Ev (fun k => if c then a k else b k) r := by
 simp only [if_neg h]
 exact e
theorem Ev.bindS {α β : Type} {g : Option α} {f : Nat → α → Option β} {a : α} {r : β} (h : g = some a) (k : Ev (fun n => f n a) r) : Ev (fun n => g.bind (f n)) r := by
 subst h
 simpa using k
theorem Ev.last {α : Type} {g : Nat → Option α} {r : α} (h : Ev g r) : Ev (fun n => (g n).bind fun t => some t) r := by
 obtain ⟨K, h⟩ := h
 exact ⟨K, fun k hk => by simp [h k hk]⟩
theorem w1 {i : Int} (h0 : 0 ≤ i) (h1 : i < 4611686018427387904) : wrap64 (i + 1) = i + 1 := by unfold wrap64; omega
theorem w1n {k : Nat} (h1 : (k : Int) < 4611686018427387904) : wrap64 ((k : Int) + 1) = ((k + 1 : Nat) : Int) := by unfold wrap64; omega
theorem wid {i : Int} (h0 : -4611686018427387904 ≤ i) (h1 : i < 4611686018427387904) : wrap64 i = i := by unfold wrap64; omega
theorem take_snocD {α : Type} (d : α) {xs : List α} {k : Nat} (hk : k < xs.length) : xs.take (k + 1) = xs.take k ++ [xs.getD k d] := take_snoc d hk
end Go.Proofs.Ytmpiokdomjchiaa.H
set_option linter.unusedVariables false
set_option linter.unusedSimpArgs false
namespace Go.Proofs.Ytmpiokdomjchiaa.H
open Go.RowKit Go.Proofs.Ytmpiokdomjchiaa.Pr Go.Proofs.YtmpiokdomjchiaaW.PrintWords Go.Proofs.Ytmpiokdomjchiaa.Sem
def wbits (f : Nat → Bool) : Nat → Nat
 | 0 => 0
 | k + 1 => wbits f k ||| (if f k then 2 ^ k else 0)
theorem wbits_bit (f : Nat → Bool) : ∀ k j, (wbits f k).testBit j = (decide (j < k) && f j)
 | 0, j => by simp [wbits]
 | k + 1, j => by
  unfold wbits
  rw [Nat.testBit_or, wbits_bit f k j]
  by_cases e : j = k
  ·subst e
   cases hf : f j <;> simp [hf]
  ·have h1 : decide (j < k + 1) = decide (j < k) := decide_eq_decide.2 (by omega)
   rw [h1]
   have h2 : (if f k then 2 ^ k else 0).testBit j = false := by
    split
    ·rw [Nat.testBit_two_pow]; simp; omega
    ·simp
   rw [h2, Bool.or_false]
theorem wbits_lt (f : Nat → Bool) (k : Nat) : wbits f k < 2 ^ k := by
 apply Nat.lt_pow_two_of_testBit
 intro i hi
 rw [wbits_bit, decide_eq_false (by omega)]
 rfl
def wordOf (S : Nat → Bool) (j : Nat) : Nat := wbits (fun b => S (64 * j + b)) 64
theorem wordOf_lt (S : Nat → Bool) (j : Nat) : wordOf S j < 2 ^ 64 := wbits_lt _ _
theorem wordOf_bit (S : Nat → Bool) (j b : Nat) (hb : b < 64) : (wordOf S j).testBit b = S (64 * j + b) := by
 unfold wordOf
 rw [wbits_bit, decide_eq_true hb, Bool.true_and]
end Go.Proofs.Ytmpiokdomjchiaa.H
set_option linter.unusedVariables false
set_option linter.unusedSimpArgs false
namespace Go.Proofs.Ytmpiokdomjchiaa.H
open Go.RowKit Go.Proofs.Ytmpiokdomjchiaa.Pr Go.Proofs.YtmpiokdomjchiaaW.PrintWords Go.Proofs.Ytmpiokdomjchiaa.Sem Go.Proofs.YtmpiokdomjchiaaW.PrintLast
theorem and_word (x r : Nat) (hx : x < 2 ^ 64) : (bits BinOp.and .u64 ((x : Int) / 2 ^ r) 1 == 1) = x.testBit r := by
 have e1 : ((x : Int) / 2 ^ r) = ((x / 2 ^ r : Nat) : Int) := by simp
 have h1 : x / 2 ^ r < 18446744073709551616 := Nat.lt_of_le_of_lt (Nat.div_le_self _ _) hx
 have h2 := bits_and_u64_nat (x / 2 ^ r) 1 h1 (by omega)
 rw [e1]
 rw [show ((1 : Nat) : Int) = 1 from rfl] at h2
 rw [h2, Nat.and_one_is_mod, Nat.testBit_eq_decide_div_mod_eq]
 by_cases h : x / 2 ^ r % 2 = 1
 ·simp [h]
 ·have : x / 2 ^ r % 2 = 0 := by omega
  simp [this]
end Go.Proofs.Ytmpiokdomjchiaa.H
set_option linter.unusedVariables false
set_option linter.unusedSimpArgs false
namespace Go.Proofs.Ytmpiokdomjchiaa.H
open Go.RowKit Go.Proofs.Ytmpiokdomjchiaa.Pr Go.Proofs.YtmpiokdomjchiaaW.PrintWords Go.Proofs.Ytmpiokdomjchiaa.Sem Go.Proofs.YtmpiokdomjchiaaW.PrintLast
end Go.Proofs.Ytmpiokdomjchiaa.H
set_option linter.unusedVariables false
set_option linter.unusedSimpArgs false
namespace Go.Proofs.Ytmpiokdomjchiaa.H
open Go.RowKit Go.Proofs.Ytmpiokdomjchiaa.Pr Go.Proofs.YtmpiokdomjchiaaW.PrintWords Go.Proofs.Ytmpiokdomjchiaa.Sem Go.Proofs.YtmpiokdomjchiaaW.PrintLast
def lessN (S : Nat → Bool) (i : Nat) : Nat → Bool := fun x => S x && !decide (x = i)
theorem word_less (S : Nat → Bool) (i : Nat) (hi : i < 64) : wordOf (lessN S i) 0 = wordOf S 0 &&& (18446744073709551615 - 2 ^ i) := by
 apply Nat.eq_of_testBit_eq
 intro b
 have e0 : 18446744073709551615 - 2 ^ i = 2 ^ 64 - (2 ^ i + 1) := by omega
 have h0 : (2 : Nat) ^ i < 2 ^ 64 := Nat.pow_lt_pow_right (by omega) hi
 rw [Nat.testBit_and, e0, Nat.testBit_two_pow_sub_succ h0, Nat.testBit_two_pow]
 by_cases hb : b < 64
 ·rw [wordOf_bit _ _ _ hb, wordOf_bit _ _ _ hb]
  unfold lessN
  rw [decide_eq_true hb, Bool.true_and]
  congr 2
  apply decide_eq_decide.2
  constructor <;> intro h <;> omega
 ·have h1 : (wordOf (lessN S i) 0).testBit b = false := by unfold wordOf; rw [wbits_bit, decide_eq_false hb]; rfl
  have h2 : (wordOf S 0).testBit b = false := by unfold wordOf; rw [wbits_bit, decide_eq_false hb]; rfl
  rw [h1, h2, Bool.false_and]
def OneW (w : World) (b : Nat) (S : Nat → Bool) : Prop := w.heap[b]? = some (.cells #[.int .u64 (wordOf S 0 : Int)] 100 (0, 0))
theorem OneW.cell {w : World} {b : Nat} {S : Nat → Bool} (h : OneW w b S) : w.cell? ⟨b, 0, none⟩ = some (.int .u64 (wordOf S 0 : Int)) := (blk_cell h 0).trans rfl
theorem OneW.below {w w1 : World} {b : Nat} {S : Nat → Bool} (h : OneW w b S) (hb : Below w.heap.size w w1) : OneW w1 b S := blk_below h hb
theorem OneW.set {w : World} {b : Nat} {S : Nat → Bool} (h : OneW w b S) (S' : Nat → Bool) : OneW (w.setCell ⟨b, 0, none⟩ (.int .u64 (wordOf S' 0 : Int))) b S' := by
 have h' : w.heap[b]? = some (.cells #[.int .u64 (wordOf S 0 : Int)] 100 (0, 0)) := h
 unfold OneW
 simp [World.setCell, Array.getElem?_modify, h']
theorem shas_any (b i c : Nat) (S : Nat → Bool) (w : World) (hS : w.cell? ⟨b, 0, none⟩ = some (.int .u64 (wordOf S 0 : Int))) (hi : i < 64) : Calls Try.prog 89 #[.slice (some ⟨b, 0, none⟩) 1 c, .int .i64 i] w fun e w' => e = .returned (.bool (S i)) ∧ w = w' := by
 obtain ⟨r, hr0⟩ : ∃ r, r = i % 64 := ⟨_, rfl⟩
 have hc := hS
 have hxl := wordOf_lt S 0
 have hbit := wordOf_bit S 0 r (by omega)
 rw [show 64 * 0 + r = i by omega] at hbit
 obtain ⟨x, hx0⟩ : ∃ x, x = wordOf S 0 := ⟨_, rfl⟩
 rw [← hx0] at hc hxl hbit
 have HA := Aside0.mk ((and_word x r hxl).trans hbit)
 have hq : IntKind.i64.wrap ((i : Int) / 64) = 0 := by rw [IntKind.wrap_i64]; omega
 have hr : ((i : Int) % 64) = (r : Int) := by omega
 have hr2 : r < 64 := by omega
 clear hr0 hx0 hxl hbit hS hi
 go_enter Try.func89, Try.ntmps89
 go_wp2
 go_ret
 exact ⟨ret_bool HA.out, rfl⟩
theorem andNot_word (x r : Nat) (hx : x < 2 ^ 64) (hr : r < 64) : bits BinOp.andNot .u64 (x : Int) (IntKind.u64.wrap (2 ^ r)) = ((x &&& (18446744073709551615 - 2 ^ r) : Nat) : Int) := by
 have h1 : (2 : Nat) ^ r < 18446744073709551616 := by
  have : (2 : Nat) ^ r < 2 ^ 64 := Nat.pow_lt_pow_right (by omega) hr
  exact this
 have e1 : IntKind.u64.wrap (2 ^ r) = ((2 ^ r : Nat) : Int) := by
  have e2 : ((2 : Int) ^ r) = ((2 ^ r : Nat) : Int) := by simp
  rw [e2]
  generalize 2 ^ r = z at h1
  simp [IntKind.wrap, IntKind.bits, IntKind.signed]
  omega
 rw [e1]
 exact u64_andNot_nat x (2 ^ r) hx h1
set_option maxRecDepth 100000 in
theorem sdrop_any (b i c : Nat) (S : Nat → Bool) (w : World) (hS : OneW w b S) (hi : i < 64) : Calls Try.prog 132 #[.slice (some ⟨b, 0, none⟩) 1 c, .int .i64 i] w fun e w' => e = .returned (.tuple #[]) ∧ w' = w.setCell ⟨b, 0, none⟩ (.int .u64 (wordOf (lessN S i) 0 : Int)) := by
 have hw := word_less S i hi
 have hc := hS.cell
 have hf : w.frozen? ⟨b, 0, none⟩ = false := blk_frozen (show w.heap[b]? = _ from hS) 0
 have hxl := wordOf_lt S 0
 obtain ⟨x, hx0⟩ : ∃ x, x = wordOf S 0 := ⟨_, rfl⟩
 rw [← hx0] at hc hw hxl
 obtain ⟨y, hy0⟩ : ∃ y, y = wordOf (lessN S i) 0 := ⟨_, rfl⟩
 rw [← hy0] at hw
 have hor := andNot_word x i hxl hi
 rw [← hw] at hor
 have HO := Aside0.mk hor
 have hq : IntKind.i64.wrap ((i : Int) / 64) = 0 := by rw [IntKind.wrap_i64]; omega
 have hqq : wrap64 ((i : Int) / 64) = 0 := by rw [← i64_w]; exact hq
 have hr : ((i : Int) % 64) = (i : Int) := by omega
 have hr2 : Int.tmod (i : Int) 64 = (i : Int) := by rw [Int.tmod_eq_emod_of_nonneg (by omega)]; omega
 have hr3 : IntKind.u64.wrap (i : Int) = (i : Int) := by simp [IntKind.wrap, IntKind.bits, IntKind.signed]; omega
 rw [← hy0]
 clear hw hx0 hy0 hxl hor hS
 go_enter Try.func132, Try.ntmps132
 go_wp2
 rw [HO.out]
 go_end0
 exact ⟨rfl, rfl⟩
end Go.Proofs.Ytmpiokdomjchiaa.H
set_option linter.unusedVariables false
set_option linter.unusedSimpArgs false
namespace Go.Proofs.Ytmpiokdomjchiaa.H
open Go.RowKit Go.Proofs.Ytmpiokdomjchiaa.Pr Go.Proofs.YtmpiokdomjchiaaW.PrintWords Go.Proofs.Ytmpiokdomjchiaa.Sem Go.Proofs.YtmpiokdomjchiaaW.PrintLast
theorem getD_snoc' {α : Type} (xs : List α) (y d : α) (i : Nat) : (xs ++ [y]).getD i d = if i < xs.length then xs.getD i d else if i = xs.length then y else d := by
 by_cases h : i < xs.length
 ·rw [if_pos h]
  simp [List.getD_eq_getElem?_getD, List.getElem?_append_left h]
 ·rw [if_neg h]
  by_cases e : i = xs.length
  ·rw [if_pos e]
   subst e
   simp [List.getD_eq_getElem?_getD]
  ·rw [if_neg e]
   rw [List.getD_eq_getElem?_getD, List.getElem?_eq_none (by simp; omega)]
   rfl
def ins (n : Nat) (es : List Ed) : List (List Ed) := (List.range n).map fun i : Nat => es.filter fun e => decide (e.f2 = (i : Int))
theorem ins_length (n : Nat) (es : List Ed) : (ins n es).length = n := by simp [ins]
theorem ins_at {n : Nat} (es : List Ed) {i : Nat} (hi : i < n) : (ins n es).getD i [] = es.filter fun e => decide (e.f2 = (i : Int)) := by
 simp [ins, List.getD_eq_getElem?_getD, hi]
theorem ins_snoc {n : Nat} (es : List Ed) (e : Ed) {i : Nat} (hi : i < n) (he : e.f2 = (i : Int)) : (ins n es).set i ((ins n es).getD i [] ++ [e]) = ins n (es ++ [e]) := by
 apply List.ext_getElem
 ·simp [ins]
 ·intro j h1 h2
  have hj : j < n := by simpa [ins] using h2
  rw [List.getElem_set]
  by_cases h : i = j
  ·subst h
   rw [if_pos rfl, ins_at es hi]
   simp [ins, he]
  ·rw [if_neg h]
   have : ¬ e.f2 = (j : Int) := by omega
   simp [ins, this]
theorem ins_nil (n : Nat) : ins n [] = List.replicate n [] := by
 apply List.ext_getElem
 ·simp [ins]
 ·intro i h1 h2; simp [ins]
theorem outs_nil (n : Nat) : outs n [] = List.replicate n [] := by
 apply List.ext_getElem
 ·simp [outs]
 ·intro i h1 h2; simp [outs]
def Cross (vs us : List Value) : Prop := ∀ i j k, i < vs.length → j < us.length → (vs.getD i nilS).ownBlock = some k → (us.getD j nilS).ownBlock = some k → False
theorem Cross.symm {vs us : List Value} (h : Cross vs us) : Cross us vs := fun i j k hi hj a b => h j i k hj hi b a
theorem Cross.start (n : Nat) (us : List Value) : Cross (List.replicate n nilS) us := by
 intro i j k hi hj a _
 have hi' : i < n := by simpa using hi
 rw [show (List.replicate n nilS).getD i nilS = nilS by simp [List.getD_eq_getElem?_getD, List.getElem?_replicate, hi']] at a
 simp [nilS, Value.ownBlock] at a
section
variable {α : Type} {d : Kd α} {e T : Nat} {W w1 : World} {base g1 g2 : Nat} {vs us : List Value} {X Y : List (List α)}
theorem Tab.put2 (hE : d.E = []) (hT : e ≠ T) (h1 : Tab d e T W base g1 vs X) (h2 : Tab d e T W base g2 us Y) (hc : Cross vs us) (gne : g1 ≠ g2) (i : Nat) (hi : i < X.length) {v1 : Value} {ys : List α} (hR : d.R e w1 base (fun _ => True) v1 ys) (hg : W.grownBy w1 (vs.getD i nilS).ownBlock)
  (hat : v1.ownBlock = (vs.getD i nilS).ownBlock ∨ ∃ b, v1.ownBlock = some b ∧ W.heap.size ≤ b) : ∃ vs', Tab d e T (w1.setCell ⟨g1, i, none⟩ v1) base g1 vs' (X.set i ys) ∧ Tab d e T (w1.setCell ⟨g1, i, none⟩ v1) base g2 us Y ∧ Cross vs' us := by
 have hi' : i < vs.length := by rw [h1.len]; exact hi
 refine ⟨_, h1.put hE hT i hi hR hg hat, ⟨h2.len, ?_, fun j hj => ?_, h2.apart⟩, ?_⟩
 ·rw [Below.heap_setCell _ _ _ _ (Ne.symm gne)]
  exact (hg.block g2 h2.lt (Kd.R_ne (h1.row i hi') h2.blk hT)).trans h2.blk
 ·have hR1 : d.R e w1 base (fun _ => True) (us.getD j nilS) (Y.getD j []) := Kd.R_grown2 (h2.row j hj) hE hg (fun k hk hh => hc i j k hi' hj hk hh.symm)
  exact Kd.R_mono (Kd.R_far (Kd.R_far1 hR1 hE (Kd.R_ne (h2.row j hj) h1.blk hT)) (fun k hk => hk.2) v1) (fun _ _ => trivial)
 ·intro a j k ha hj hak hjk
  have ha' : a < vs.length := by simpa using ha
  rw [show (vs.set i v1).getD a nilS = if a = i then v1 else vs.getD a nilS by
   by_cases e0 : a = i
   ·subst e0; simp [List.getD_eq_getElem?_getD, List.getElem?_set, ha']
   ·rw [if_neg e0]; simp [List.getD_eq_getElem?_getD, List.getElem?_set, Ne.symm e0]] at hak
  by_cases e0 : a = i
  ·rw [if_pos e0] at hak
   rcases hat with hat | ⟨b, hb, hlt⟩
   ·exact hc i j k hi' hj (by rw [← hat]; exact hak) hjk
   ·rw [hak] at hb
    cases hb
    exact absurd (Kd.R_lt (h2.row j hj) k hjk) (Nat.not_lt.2 hlt)
  ·rw [if_neg e0] at hak
   exact hc a j k ha' hj hak hjk
end
def encB (b : Nat) : Value := .slice (some ⟨b, 0, none⟩) 1 1
theorem encB_one (b : Nat) : (encB b).oneCell' = true := rfl
abbrev kB : Kd Nat := Kd.scalar encB encB_one
structure Fol (W : World) (base : Nat) (vf : Value) (bs : List Nat) (F : Nat → Nat → Bool) : Prop where
  row : kB.R 138 W base (fun _ => True) vf bs
  set : ∀ s, s < bs.length → OneW W (bs.getD s 0) (F s)
  base : ∀ s, s < bs.length → base ≤ bs.getD s 0
  apart : ∀ s t, s < bs.length → t < bs.length → bs.getD s 0 = bs.getD t 0 → s = t
theorem Fol.below {W W1 : World} {base : Nat} {vf : Value} {bs : List Nat} {F : Nat → Nat → Bool} (h : Fol W base vf bs F) (hb : Below W.heap.size W W1) : Fol W1 base vf bs F :=
 ⟨Kd.R_below h.row hb, fun s hs => (h.set s hs).below hb, h.base, h.apart⟩
theorem Fol.nil (W : World) (base : Nat) (F : Nat → Nat → Bool) : Fol W base (.slice none 0 0) [] F :=
 ⟨Kd.R_nil _ _ _ _ _, fun s hs => absurd hs (by simp), fun s hs => absurd hs (by simp), fun s t hs => absurd hs (by simp)⟩
theorem Fol.grown {W W1 : World} {base : Nat} {vf : Value} {bs : List Nat} {F : Nat → Nat → Bool} (h : Fol W base vf bs F) {b : Nat} {cs : Array Value} {t : Nat} {fr : Nat × Nat} (hb : W.heap[b]? = some (.cells cs t fr)) (h1 : t ≠ 100) (h2 : t ≠ 138) (hg : W.grownBy W1 (some b)) : Fol W1 base vf bs F := by
 refine ⟨Kd.R_grown1 h.row rfl hg ?_, fun s hs => ?_, h.base, h.apart⟩
 ·intro hh
  obtain ⟨cells, hc⟩ := Kd.R_typed h.row b hh.symm
  rw [hc] at hb
  cases hb
  exact h2 rfl
 ·have hs' : W.heap[bs.getD s 0]? = some (.cells #[.int .u64 (wordOf (F s) 0 : Int)] 100 (0, 0)) := h.set s hs
  refine (hg.block _ (Array.getElem?_eq_some_iff.1 hs').1 ?_).trans hs'
  intro e
  cases e
  rw [hs'] at hb
  cases hb
  exact h1 rfl
theorem Fol.congr {W : World} {base : Nat} {vf : Value} {bs : List Nat} {F F' : Nat → Nat → Bool} (h : Fol W base vf bs F) (he : ∀ s, s < bs.length → F s = F' s) : Fol W base vf bs F' :=
 ⟨h.row, fun s hs => by rw [← he s hs]; exact h.set s hs, h.base, h.apart⟩
structure SimT (base : Nat) (wr : World) (gi go T n : Nat) (v1 v2 : Value) (e1 e2 : List Ed) (vf : Value) (bs : List Nat) (F : Nat → Nat → Bool) : Prop where
  tb : wr.heap[T]? = some (.cells #[.int .i64 n, v1, v2, .slice (some ⟨gi, 0, none⟩) n n, .slice (some ⟨go, 0, none⟩) n n, vf] 141 (0, 0))
  two : ∃ vs us, Tab k81 81 23 wr base gi vs (ins n e1) ∧ Tab k81 81 23 wr base go us (outs n e2) ∧ Cross vs us
  fol : Fol wr base vf bs F
  bi : base ≤ gi
  bo : base ≤ go
  bt : base ≤ T
  ne : gi ≠ go
section
variable {base : Nat} {w wr wr' : World} {gi go T n : Nat} {v1 v2 vf : Value} {e1 e2 : List Ed} {bs : List Nat} {F : Nat → Nat → Bool}
theorem SimT.t0 (h : SimT base wr gi go T n v1 v2 e1 e2 vf bs F) : wr.cell? ⟨T, 0, none⟩ = some (.int .i64 n) := (blk_cell h.tb 0).trans rfl
theorem SimT.t3 (h : SimT base wr gi go T n v1 v2 e1 e2 vf bs F) : wr.cell? ⟨T, 3, none⟩ = some (.slice (some ⟨gi, 0, none⟩) n n) := (blk_cell h.tb 3).trans rfl
theorem SimT.t4 (h : SimT base wr gi go T n v1 v2 e1 e2 vf bs F) : wr.cell? ⟨T, 4, none⟩ = some (.slice (some ⟨go, 0, none⟩) n n) := (blk_cell h.tb 4).trans rfl
theorem SimT.t5 (h : SimT base wr gi go T n v1 v2 e1 e2 vf bs F) : wr.cell? ⟨T, 5, none⟩ = some vf := (blk_cell h.tb 5).trans rfl
theorem SimT.on (h : SimT base wr gi go T n v1 v2 e1 e2 vf bs F) (hb : Below wr.heap.size wr wr') : SimT base wr' gi go T n v1 v2 e1 e2 vf bs F :=
 ⟨blk_below h.tb hb, by obtain ⟨vs, us, h1, h2, h3⟩ := h.two; exact ⟨vs, us, h1.below hb, h2.below hb, h3⟩, h.fol.below hb, h.bi, h.bo, h.bt, h.ne⟩
theorem blk_keep {w3 : World} {row : Option Nat} (hg : wr.grownBy w3 row) {g : Nat} {v : Value} {t0 : Nat} (hrow : ∀ k, row = some k → ∃ cells, wr.heap[k]? = some (.cells cells t0 (0, 0))) {p : Nat} {t : Nat} {cs : Array Value} (hp : wr.heap[p]? = some (.cells cs t (0, 0))) (h1 : t ≠ t0) (h2 : p ≠ g) (i : Nat) : (w3.setCell ⟨g, i, none⟩ v).heap[p]? = some (.cells cs t (0, 0)) := by
 rw [Below.heap_setCell _ _ _ _ h2]
 refine (hg.block p (Array.getElem?_eq_some_iff.1 hp).1 ?_).trans hp
 intro e
 obtain ⟨cells, hc⟩ := hrow p e.symm
 rw [hp] at hc
 cases hc
 exact h1 rfl
theorem Fol.far (h : Fol wr base vf bs F) {p : Addr} {cs : Array Value} {t : Nat} {fr : Nat × Nat} (hb : wr.heap[p.block]? = some (.cells cs t fr)) (h1 : t ≠ 100) (h2 : t ≠ 138) (v : Value) : Fol (wr.setCell p v) base vf bs F := by
 refine ⟨?_, fun s hs => ?_, h.base, h.apart⟩
 ·refine Kd.R_mono (Kd.R_far (Kd.R_far1 h.row rfl ?_) (fun k hk => hk.2) v) (fun _ _ => trivial)
  intro hh
  obtain ⟨cells, hc⟩ := Kd.R_typed h.row p.block hh.symm
  rw [hc] at hb
  cases hb
  exact h2 rfl
 ·have hs' : wr.heap[bs.getD s 0]? = some (.cells #[.int .u64 (wordOf (F s) 0 : Int)] 100 (0, 0)) := h.set s hs
  have : bs.getD s 0 ≠ p.block := by
   intro e
   rw [e] at hs'
   rw [hs'] at hb
   cases hb
   exact h1 rfl
  exact (Below.heap_setCell _ _ _ _ this).trans hs'
theorem Fol.growE (h : Fol wr base vf bs F) {w3 : World} {row : Option Nat} (hg : wr.grownBy w3 row) {t0 : Nat} (hrow : ∀ k, row = some k → ∃ cells, wr.heap[k]? = some (.cells cells t0 (0, 0))) (h1 : t0 ≠ 100) (h2 : t0 ≠ 138) : Fol w3 base vf bs F := by
 cases row with
 | none => exact h.below ⟨hg.os, hg.tape, hg.output, hg.size, fun k hk => hg.block k hk (by simp)⟩
 | some b =>
  obtain ⟨cs, hb⟩ := hrow b rfl
  exact h.grown hb h1 h2 hg
theorem SimT.putIn {V w3 : World} (h : SimT base V gi go T n v1 v2 e1 e2 vf bs F) {vs us : List Value} (hT : Tab k81 81 23 V base gi vs (ins n e1)) (hU : Tab k81 81 23 V base go us (outs n e2)) (hX : Cross vs us) {i : Nat} (hi : i < n) {x : Ed} (hx : x.f2 = (i : Int)) {v : Value}
  (ho : Kd.R k81 81 w3 base (fun _ => True) v ((ins n e1).getD i [] ++ [x])) (hg : V.grownBy w3 (vs.getD i nilS).ownBlock) (hat : v.ownBlock = (vs.getD i nilS).ownBlock ∨ ∃ b, v.ownBlock = some b ∧ V.heap.size ≤ b) :
  SimT base (w3.setCell ⟨gi, i, none⟩ v) gi go T n v1 v2 (e1 ++ [x]) e2 vf bs F := by
 have hlen := ins_length n e1
 have hrow := hT.row i (by rw [hT.len, hlen]; exact hi)
 have hty : ∀ k, (vs.getD i nilS).ownBlock = some k → ∃ cells, V.heap[k]? = some (.cells cells 81 (0, 0)) := fun k hk => Kd.R_typed hrow k hk
 obtain ⟨vs', t1, t2, t3⟩ := hT.put2 rfl (by decide) hU hX h.ne i (by rw [hlen]; exact hi) ho hg hat
 have ne2 : T ≠ gi := by intro e; have := hT.blk; rw [← e, h.tb] at this; cases this
 have hgi : w3.heap[gi]? = some (.cells vs.toArray 23 (0, 0)) := (hg.block gi hT.lt (Kd.R_ne hrow hT.blk (by decide))).trans hT.blk
 exact ⟨blk_keep hg hty h.tb (by decide) ne2 i, ⟨vs', us, by rw [← ins_snoc e1 x hi hx]; exact t1, t2, t3⟩, (h.fol.growE hg hty (by decide) (by decide)).far (p := ⟨gi, i, none⟩) hgi (by decide) (by decide) v, h.bi, h.bo, h.bt, h.ne⟩
theorem SimT.putOut {V w3 : World} (h : SimT base V gi go T n v1 v2 e1 e2 vf bs F) {vs us : List Value} (hT : Tab k81 81 23 V base gi vs (ins n e1)) (hU : Tab k81 81 23 V base go us (outs n e2)) (hX : Cross vs us) {i : Nat} (hi : i < n) {x : Ed} (hx : x.f0 = (i : Int)) {v : Value}
  (ho : Kd.R k81 81 w3 base (fun _ => True) v ((outs n e2).getD i [] ++ [x])) (hg : V.grownBy w3 (us.getD i nilS).ownBlock) (hat : v.ownBlock = (us.getD i nilS).ownBlock ∨ ∃ b, v.ownBlock = some b ∧ V.heap.size ≤ b) :
  SimT base (w3.setCell ⟨go, i, none⟩ v) gi go T n v1 v2 e1 (e2 ++ [x]) vf bs F := by
 have hlen := outs_length n e2
 have hrow := hU.row i (by rw [hU.len, hlen]; exact hi)
 have hty : ∀ k, (us.getD i nilS).ownBlock = some k → ∃ cells, V.heap[k]? = some (.cells cells 81 (0, 0)) := fun k hk => Kd.R_typed hrow k hk
 obtain ⟨us', t1, t2, t3⟩ := hU.put2 rfl (by decide) hT hX.symm (Ne.symm h.ne) i (by rw [hlen]; exact hi) ho hg hat
 have ne2 : T ≠ go := by intro e; have := hU.blk; rw [← e, h.tb] at this; cases this
 have hgo : w3.heap[go]? = some (.cells us.toArray 23 (0, 0)) := (hg.block go hU.lt (Kd.R_ne hrow hU.blk (by decide))).trans hU.blk
 exact ⟨blk_keep hg hty h.tb (by decide) ne2 i, ⟨vs, us', t2, by rw [← outs_snoc e2 x hi hx]; exact t1, t3.symm⟩, (h.fol.growE hg hty (by decide) (by decide)).far (p := ⟨go, i, none⟩) hgo (by decide) (by decide) v, h.bi, h.bo, h.bt, h.ne⟩
theorem SimT.follow {V w3 : World} (h : SimT base V gi go T n v1 v2 e1 e2 vf bs F) {v : Value} {g : Nat} (hR : kB.R 138 w3 base (fun _ => True) v (bs ++ [g])) (hg : V.grownBy w3 vf.ownBlock) (hx : OneW V g (F bs.length)) (hgb : base ≤ g) (hf : ∀ s, s < bs.length → bs.getD s 0 ≠ g) :
  SimT base (w3.setCell ⟨T, 5, none⟩ v) gi go T n v1 v2 e1 e2 v (bs ++ [g]) F := by
 have hty : ∀ k, vf.ownBlock = some k → ∃ cells, V.heap[k]? = some (.cells cells 138 (0, 0)) := fun k hk => Kd.R_typed h.fol.row k hk
 have hw3 : ∀ {p : Nat} {t : Nat} {cs : Array Value}, V.heap[p]? = some (.cells cs t (0, 0)) → t ≠ 138 → w3.heap[p]? = some (.cells cs t (0, 0)) := by
  intro p t cs hp ht
  refine (hg.block p (Array.getElem?_eq_some_iff.1 hp).1 ?_).trans hp
  intro e
  obtain ⟨cells, hc⟩ := hty p e.symm
  rw [hp] at hc
  cases hc
  exact ht rfl
 have hT3 := hw3 h.tb (by decide)
 have far : ∀ {p : Nat} {t : Nat} {cs : Array Value}, V.heap[p]? = some (.cells cs t (0, 0)) → t ≠ 138 → t ≠ 141 → (w3.setCell ⟨T, 5, none⟩ v).heap[p]? = some (.cells cs t (0, 0)) := by
  intro p t cs hp ht ht2
  refine (Below.heap_setCell _ _ _ _ ?_).trans (hw3 hp ht)
  intro e
  have e' : p = T := e
  rw [e', h.tb] at hp
  cases hp
  exact ht2 rfl
 obtain ⟨vs, us, t1, t2, t3⟩ := h.two
 have keep : ∀ {q : Nat} {vs : List Value} {X : List (List Ed)}, Tab k81 81 23 V base q vs X → Tab k81 81 23 (w3.setCell ⟨T, 5, none⟩ v) base q vs X := by
  intro q vs X ht
  refine ⟨ht.len, far ht.blk (by decide) (by decide), fun j hj => ?_, ht.apart⟩
  have hR1 : Kd.R k81 81 w3 base (fun _ => True) (vs.getD j nilS) (X.getD j []) := Kd.R_grown2 (ht.row j hj) rfl hg (fun k hk hh => by
   obtain ⟨c1, hc1⟩ := hty k hk
   obtain ⟨c2, hc2⟩ := Kd.R_typed (ht.row j hj) k hh.symm
   rw [hc1] at hc2
   cases hc2)
  exact Kd.R_mono (Kd.R_far (Kd.R_far1 hR1 rfl (Kd.R_ne (ht.row j hj) h.tb (by decide))) (fun k hk => hk.2) v) (fun _ _ => trivial)
 refine ⟨?_, ⟨vs, us, keep t1, keep t2, t3⟩, ⟨?_, ?_, ?_, ?_⟩, h.bi, h.bo, h.bt, h.ne⟩
 ·simp [World.setCell, Array.getElem?_modify, hT3]
 ·exact Kd.R_mono (Kd.R_far (Kd.R_far1 hR rfl (Kd.R_ne hR hT3 (by decide))) (fun k hk => hk.2) v) (fun _ _ => trivial)
 ·intro s hs
  rw [List.length_append, List.length_singleton] at hs
  rw [getD_snoc']
  by_cases e : s < bs.length
  ·rw [if_pos e]
   exact far (h.fol.set s e) (by decide) (by decide)
  ·rw [if_neg e, if_pos (by omega), show s = bs.length by omega]
   exact far hx (by decide) (by decide)
 ·intro s hs
  rw [List.length_append, List.length_singleton] at hs
  rw [getD_snoc']
  by_cases e : s < bs.length
  ·rw [if_pos e]; exact h.fol.base s e
  ·rw [if_neg e, if_pos (by omega)]; exact hgb
 ·intro s t hs ht he
  rw [List.length_append, List.length_singleton] at hs ht
  rw [getD_snoc', getD_snoc'] at he
  by_cases e : s < bs.length
  ·by_cases e2 : t < bs.length
   ·rw [if_pos e, if_pos e2] at he; exact h.fol.apart s t e e2 he
   ·rw [if_pos e, if_neg e2, if_pos (by omega)] at he; exact absurd he (hf s e)
  ·by_cases e2 : t < bs.length
   ·rw [if_neg e, if_pos (by omega), if_pos e2] at he; exact absurd he.symm (hf t e2)
   ·omega
end
theorem info_sset : (Try.prog.info? 138).map (fun i => (i.zero, i.size, i.bytes)) = some (some (.slice none 0 0), 1, 24) := by kernel_rfl
theorem word_all : ((wordOf (fun _ => true) 0 : Nat) : Int) = 18446744073709551615 := by kernel_rfl
theorem mul11 (w : World) : Calls Try.prog 130 #[.int .u64 1, .int .u64 1] w fun e w' => e = .returned (.tuple #[.int .u64 0, .int .u64 1]) ∧ w = w' := by
 have := Try.bits_Mul 1 1 (by omega) (by omega) w
 exact this.mono fun e w' h => ⟨h.1, h.2.symm⟩
def RepPost (w : World) (x : Int) (e : Ending) (w' : World) : Prop := ∃ g, e = .returned (.slice (some ⟨g, 0, none⟩) 1 1) ∧ w.heap.size ≤ g ∧ w'.heap[g]? = some (.cells #[.int .u64 x] 100 (0, 0)) ∧ Below w.heap.size w w'
set_option maxRecDepth 100000 in
theorem repeat_one (b c : Nat) (x : Int) (w : World) (hx : w.cell? ⟨b, 0, none⟩ = some (.int .u64 x)) : Calls Try.prog 114 #[.slice (some ⟨b, 0, none⟩) 1 c, .int .i64 1] w (RepPost w x) := by
 have HB := Aside0.mk (Below.refl w.heap.size w)
 have HX := Aside0.mk hx
 have hmk : ∀ w, (Instr.makeSlice 138 (.int .i64 1) (.int .i64 1)).run Try.prog w = .ok (.slice (some ⟨w.heap.size, 0, none⟩) 1 1) (w.alloc (.cells #[.int .u64 0] 100)) := fun _ => by kernel_rfl
 clear hx
 go_enter Try.func114, Try.ntmps114
 have hcell := later (below_alloc (Below.refl _ _) (Obj.cells #[Value.int IntKind.u64 0] 100)) HX.out
 have HC := Aside0.mk hcell
 have HN := Aside0.mk (blk_new w (Obj.cells #[Value.int IntKind.u64 0] 100))
 clear hcell
 go_wp2_with (first
  | (go_at_call 130; refine (mul11 _).mono ?_; rintro e w' ⟨rfl, rfl⟩)
  | (refine wpList_copy_splice rfl (.tmp 31) (.tmp 32) 138 138 rfl 100 (by kernel_rfl) (by kernel_rfl) (some ⟨w.heap.size, 0, none⟩) (some ⟨b, 0, none⟩) 1 1 1 c rfl rfl w.heap.size 0 [.int .u64 0] 100 HN.out [.int .u64 x] rfl (fun _ => ⟨rfl, _, rfl, fun j v hj => ?cj⟩) (by simp) (by simp [Value.oneCell']) w.heap.size w (below_alloc HB.out _) (Nat.le_refl _) ?_; (case cj => match j, hj with | 0, hj => (cases hj; exact HC.out) | j + 1, hj => simp at hj); intro w4 hg hb; have HG := Aside0.mk hg.out; have HBB := Aside0.mk hb; clear hg hb))
 refine wp_loop_rounds 1 ?_
 rw [rounds_succ]
 go_wp2
 go_ret
 exact ⟨w.heap.size, rfl, Nat.le_refl _, HG.out, HBB.out⟩
def SOpPost (w : World) (n : Nat) (v1 v2 : Value) (es : List Ed) (e : Ending) (w' : World) : Prop := ∃ gi go T vf bs, e = .returned (.pointer (some ⟨T, 0, none⟩)) ∧ SimT w.heap.size w' gi go T n v1 v2 es es vf bs (fun _ _ => true) ∧ bs.length = n ∧ Below w.heap.size w w'
theorem cells3_later {w w1 : World} (hb : Below w.heap.size w w1) {a1 a2 a3 : Addr} {u1 u2 u3 : Value} (h : w.cell? a1 = some u1 ∧ w.cell? a2 = some u2 ∧ w.cell? a3 = some u3) : w1.cell? a1 = some u1 ∧ w1.cell? a2 = some u2 ∧ w1.cell? a3 = some u3 := ⟨later hb h.1, later hb h.2.1, later hb h.2.2⟩
theorem twoMade (V : World) (n : Nat) : V.heap.size ≠ V.heap.size + 1 ∧ V.heap.size ≤ V.heap.size ∧ V.heap.size ≤ V.heap.size + 1 ∧ ((V.alloc (.cells (madeCells #[nilS] n) 23)).alloc (.cells (madeCells #[nilS] n) 23)).heap[V.heap.size]? = some (.cells (madeCells #[nilS] n) 23 (0, 0)) ∧ ((V.alloc (.cells (madeCells #[nilS] n) 23)).alloc (.cells (madeCells #[nilS] n) 23)).heap[V.heap.size + 1]? = some (.cells (madeCells #[nilS] n) 23 (0, 0)) ∧ Below V.heap.size V ((V.alloc (.cells (madeCells #[nilS] n) 23)).alloc (.cells (madeCells #[nilS] n) 23)) := by
 refine ⟨by omega, by omega, by omega, ?_, ?_, below_alloc (below_alloc (Below.refl _ _) _) _⟩
 ·exact blk_below (blk_new V _) (below_alloc (Below.refl _ _) _)
 ·have := blk_new (V.alloc (.cells (madeCells #[nilS] n) 23)) (.cells (madeCells #[nilS] n) 23)
  simpa using this
theorem twoMade' (V : World) (n : Nat) : V.heap.size + 1 ≠ V.heap.size ∧ V.heap.size ≤ V.heap.size + 1 ∧ V.heap.size ≤ V.heap.size ∧ ((V.alloc (.cells (madeCells #[nilS] n) 23)).alloc (.cells (madeCells #[nilS] n) 23)).heap[V.heap.size + 1]? = some (.cells (madeCells #[nilS] n) 23 (0, 0)) ∧ ((V.alloc (.cells (madeCells #[nilS] n) 23)).alloc (.cells (madeCells #[nilS] n) 23)).heap[V.heap.size]? = some (.cells (madeCells #[nilS] n) 23 (0, 0)) ∧ Below V.heap.size V ((V.alloc (.cells (madeCells #[nilS] n) 23)).alloc (.cells (madeCells #[nilS] n) 23)) := by
 obtain ⟨h1, h2, h3, h4, h5, h6⟩ := twoMade V n
 exact ⟨Ne.symm h1, h3, h2, h5, h4, h6⟩
set_option maxHeartbeats 16000000 in
set_option maxRecDepth 100000 in
theorem sopen_main (n : Nat) (ls : List ByteArray) (es : List Ed) (A1 A2 : Option Addr) (c1 c2 : Nat) (w : World) (hr2 : Kd.C k81 w A2 es.length es) (hm : mayR n ls es = true) (hn : n ≤ 63) :
  Calls Try.prog 87 #[.agg #[.int .i64 n, .slice A1 ls.length c1, .slice A2 es.length c2]] w (SOpPost w n (.slice A1 ls.length c1) (.slice A2 es.length c2) es) := by
 have HB := Aside0.mk (Below.refl w.heap.size w)
 have HR2 := Aside0.mk hr2
 have HM := Aside0.mk hm
 have hmk := print_make_of (P := Try.prog) 90 23 (.slice none 0 0) 24 Try.underlying90 (by kernel_rfl) rfl (by omega) n (by omega)
 have hel := es_le hm
 have hq : IntKind.i64.wrap ((n : Int) / 64) = 0 := by rw [IntKind.wrap_i64]; omega
 have hqq : wrap64 ((n : Int) / 64) = 0 := by rw [← i64_w]; exact hq
 have hq2 : wrap64 (Int.tdiv (n : Int) 64) = 0 := by rw [Int.tdiv_eq_ediv_of_nonneg (by omega)]; exact hqq
 have HQ := Aside0.mk (And.intro hq (And.intro hqq hq2))
 clear hr2 hm hq hqq hq2
 go_enter Try.func87, Try.ntmps87
 go_wp2_with fail
 have HX := Aside0.mk (show BoxL (w.alloc (Obj.cells #[Value.int IntKind.i64 n, Value.slice A1 ls.length c1, Value.slice A2 es.length c2] 25)) w.heap.size n (.slice A1 ls.length c1) (.slice A2 es.length c2) from blk_new w _)
 have HB1 := Aside0.mk (below_alloc HB.out (Obj.cells #[Value.int IntKind.i64 n, Value.slice A1 ls.length c1, Value.slice A2 es.length c2] 25))
 generalize (w.alloc (Obj.cells #[Value.int IntKind.i64 n, Value.slice A1 ls.length c1, Value.slice A2 es.length c2] 25)) = W at HX HB1 ⊢
 refine start_ (n := 10) (S := fun w' => w'.cell? ⟨w.heap.size, 0, none⟩ = some (.int .i64 (n : Int)) ∧ w'.cell? ⟨w.heap.size, 1, none⟩ = some (.slice A1 ls.length c1) ∧ w'.cell? ⟨w.heap.size, 2, none⟩ = some (.slice A2 es.length c2)) (ds := []) #[false, false, false, false, false, false, false, false, false, false] (by kernel_rfl) rfl rfl ⟨HX.out.c0, HX.out.c1, HX.out.c2⟩ (fun hHeld => ?_)
 have hB0 := below_drew1 (Below.refl W.heap.size W)
 have HX2 := Aside0.mk (HX.out.below hB0)
 have HB2 := Aside0.mk (below_then HB1.out HB1.out.size hB0)
 clear hB0
 generalize W.drew = V at HX2 HB2 hHeld ⊢
 have HV := Aside0.mk (Below.refl V.heap.size V)
 have HHold := Aside0.mk hHeld
 refine pure_ (i := 1) (N := some 7) (v := ?_) (a' := ?_) #[false, true, false, false, false, false, false, false, false, false] rfl rfl (by kernel_rfl) (fun _ _ _ h => h) (Or.inl ⟨by rfl, ?_⟩) ?_ ?_
 rotate_left
 ·intro w'
  go_simp
  with_reducible rfl
 rotate_left
 ·simp only [Act.put, List.setIfInBounds_toArray, List.set_cons_zero, List.set_cons_succ, i64_w, i32_w]
  rfl
 refine pure_ (i := 4) (N := some 10) (v := ?_) (a' := ?_) #[false, true, false, false, true, false, false, false, false, false] rfl rfl (by kernel_rfl) (fun _ _ _ h => h) (Or.inl ⟨by rfl, ?_⟩) ?_ ?_
 rotate_left
 ·intro w'
  go_simp
  with_reducible rfl
 rotate_left
 ·simp only [Act.put, List.setIfInBounds_toArray, List.set_cons_zero, List.set_cons_succ, i64_w, i32_w]
  rfl
 refine take_ (i := 0) (N := some 6) (v := ?_) (a' := ?_) #[true, true, false, false, true, false, false, false, false, false] rfl rfl (by kernel_rfl) (fun _ _ _ h => h) (Or.inl ⟨by rfl, ?_⟩) hHeld ?_ ?_
 rotate_left
 ·rintro w' ⟨s0, s1, s2⟩
  go_simp
  with_reducible rfl
 rotate_left
 ·simp only [Act.put, List.setIfInBounds_toArray, List.set_cons_zero, List.set_cons_succ, i64_w, i32_w]
  rfl
 refine take_ (i := 2) (N := some 8) (v := ?_) (a' := ?_) #[true, true, true, false, true, false, false, false, false, false] rfl rfl (by kernel_rfl) (fun _ _ _ h => h) (Or.inl ⟨by rfl, ?_⟩) hHeld ?_ ?_
 rotate_left
 ·rintro w' ⟨s0, s1, s2⟩
  go_simp
  with_reducible rfl
 rotate_left
 ·simp only [Act.put, List.setIfInBounds_toArray, List.set_cons_zero, List.set_cons_succ, i64_w, i32_w]
  rfl
 refine take_ (i := 5) (N := some 11) (v := ?_) (a' := ?_) #[true, true, true, false, true, true, false, false, false, false] rfl rfl (by kernel_rfl) (fun _ _ _ h => h) (Or.inl ⟨by rfl, ?_⟩) hHeld ?_ ?_
 rotate_left
 ·rintro w' ⟨s0, s1, s2⟩
  go_simp
  with_reducible rfl
 rotate_left
 ·simp only [Act.put, List.setIfInBounds_toArray, List.set_cons_zero, List.set_cons_succ, i64_w, i32_w]
  rfl
 refine join_ (σ := Nat × Nat) 3 #[true, true, true, true, true, true, true, false, false, false] (fun s => [(9, .slice (some ⟨s.1, 0, none⟩) n n), (12, .slice (some ⟨s.2, 0, none⟩) n n)]) (fun s w' => s.1 ≠ s.2 ∧ V.heap.size ≤ s.1 ∧ V.heap.size ≤ s.2 ∧ w'.heap[s.1]? = some (.cells (madeCells #[nilS] n) 23 (0, 0)) ∧ w'.heap[s.2]? = some (.cells (madeCells #[nilS] n) 23 (0, 0)) ∧ Below V.heap.size V w') ?_ ?_
 rotate_left
 ·intro hCont
  refine two_ (i := 3) (j := 6) (Ni := some 9) (Nj := some 12) #[true, true, true, true, true, true, false, false, false, false] #[true, true, true, false, true, true, true, false, false, false] rfl rfl rfl rfl (by kernel_rfl) (by decide) (by decide) (fun K hK => ?_) (fun K hK => ?_)
  ·skip
   refine value_ (w1 := ?_) (v := ?_) (by rfl) rfl ?_ ?_
   rotate_left 2
   ·go_simp
    constructor
    ·rfl
    ·rfl
   refine hK.out _ _ ⟨later (below_alloc (Below.refl _ _) _) hHeld.1, later (below_alloc (Below.refl _ _) _) hHeld.2.1, later (below_alloc (Below.refl _ _) _) hHeld.2.2⟩ (fun hHeld => ?_)
   clear hK K
   refine norm_ (a' := ?_) ?_ ?_
   rotate_left
   ·show Act.put _ (some 9) _ = _
    simp only [Act.put, List.setIfInBounds_toArray, List.set_cons_zero, List.set_cons_succ, i64_w, i32_w]
    rfl
   refine one_ (i := 6) (N := some 12) #[true, true, true, true, true, true, true, false, false, false] rfl rfl (by kernel_rfl) (by decide) (fun K hK => ?_)
   refine value_ (w1 := ?_) (v := ?_) (by rfl) rfl ?_ ?_
   rotate_left 2
   ·go_simp
    constructor
    ·rfl
    ·rfl
   refine hK.out _ _ ⟨later (below_alloc (Below.refl _ _) _) hHeld.1, later (below_alloc (Below.refl _ _) _) hHeld.2.1, later (below_alloc (Below.refl _ _) _) hHeld.2.2⟩ (fun hHeld => ?_)
   clear hK K
   refine norm_ (a' := ?_) ?_ ?_
   rotate_left
   ·show Act.put _ (some 12) _ = _
    simp only [Act.put, List.setIfInBounds_toArray, List.set_cons_zero, List.set_cons_succ, i64_w, i32_w]
    rfl
   exact norm_ (by simp only [putAll, Act.put, List.setIfInBounds_toArray, List.set_cons_zero, List.set_cons_succ]) (hCont (V.heap.size, V.heap.size + 1) _ (twoMade V n))
  ·skip
   refine value_ (w1 := ?_) (v := ?_) (by rfl) rfl ?_ ?_
   rotate_left 2
   ·go_simp
    constructor
    ·rfl
    ·rfl
   refine hK.out _ _ ⟨later (below_alloc (Below.refl _ _) _) hHeld.1, later (below_alloc (Below.refl _ _) _) hHeld.2.1, later (below_alloc (Below.refl _ _) _) hHeld.2.2⟩ (fun hHeld => ?_)
   clear hK K
   refine norm_ (a' := ?_) ?_ ?_
   rotate_left
   ·show Act.put _ (some 12) _ = _
    simp only [Act.put, List.setIfInBounds_toArray, List.set_cons_zero, List.set_cons_succ, i64_w, i32_w]
    rfl
   refine one_ (i := 3) (N := some 9) #[true, true, true, true, true, true, true, false, false, false] rfl rfl (by kernel_rfl) (by decide) (fun K hK => ?_)
   refine value_ (w1 := ?_) (v := ?_) (by rfl) rfl ?_ ?_
   rotate_left 2
   ·go_simp
    constructor
    ·rfl
    ·rfl
   refine hK.out _ _ ⟨later (below_alloc (Below.refl _ _) _) hHeld.1, later (below_alloc (Below.refl _ _) _) hHeld.2.1, later (below_alloc (Below.refl _ _) _) hHeld.2.2⟩ (fun hHeld => ?_)
   clear hK K
   refine norm_ (a' := ?_) ?_ ?_
   rotate_left
   ·show Act.put _ (some 9) _ = _
    simp only [Act.put, List.setIfInBounds_toArray, List.set_cons_zero, List.set_cons_succ, i64_w, i32_w]
    rfl
   exact norm_ (by simp only [putAll, Act.put, List.setIfInBounds_toArray, List.set_cons_zero, List.set_cons_succ]) (hCont (V.heap.size + 1, V.heap.size) _ (twoMade' V n))
 rintro ⟨gi, go⟩ w6 ⟨hs1, hs2, hs3, hs4, hs5, hs6⟩
 have hHeld := cells3_later hs6 HHold.out
 have HF := Aside0.mk (And.intro hs1 (And.intro hs2 (And.intro hs3 (And.intro hs4 (And.intro hs5 hs6)))))
 clear hs1 hs2 hs3 hs4 hs5 hs6
 refine norm_ (a' := ?_) ?_ ?_
 rotate_left
 ·simp only [putAll, Act.put, List.setIfInBounds_toArray, List.set_cons_zero, List.set_cons_succ]
  rfl
 refine pure_ (i := 7) (N := some 13) (v := ?_) (a' := ?_) #[true, true, true, true, true, true, true, true, false, false] rfl rfl (by kernel_rfl) (fun _ _ _ h => h) (Or.inl ⟨by rfl, ?_⟩) ?_ ?_
 rotate_left
 ·intro w'
  go_simp
  with_reducible rfl
 rotate_left
 ·simp only [Act.put, List.setIfInBounds_toArray, List.set_cons_zero, List.set_cons_succ, i64_w, i32_w]
  rfl
 refine one_ (i := 8) (N := some 14) #[true, true, true, true, true, true, true, true, true, false] rfl rfl (by kernel_rfl) (by decide) (fun K hK => ?_)
 refine value_ (w1 := ?_) (v := ?_) (by rfl) rfl ?_ ?_
 rotate_left 2
 ·go_simp
  constructor
  ·rfl
  ·rfl
 refine hK.out _ _ ⟨later (below_alloc (Below.refl _ _) _) hHeld.1, later (below_alloc (Below.refl _ _) _) hHeld.2.1, later (below_alloc (Below.refl _ _) _) hHeld.2.2⟩ (fun hHeld => ?_)
 clear hK K
 refine norm_ (a' := ?_) ?_ ?_
 rotate_left
 ·show Act.put _ (some 14) _ = _
  simp only [Act.put, List.setIfInBounds_toArray, List.set_cons_zero, List.set_cons_succ, i64_w, i32_w]
  rfl
 refine pure_ (i := 9) (N := some 3) (v := ?_) (a' := ?_) #[true, true, true, true, true, true, true, true, true, true] rfl rfl (by kernel_rfl) (fun _ _ _ h => h) (Or.inl ⟨by rfl, ?_⟩) ?_ ?_
 rotate_left
 ·intro w'
  go_simp
  with_reducible rfl
 rotate_left
 ·simp only [Act.put, List.setIfInBounds_toArray, List.set_cons_zero, List.set_cons_succ, i64_w, i32_w]
  rfl
 refine done_ (by kernel_rfl) ?_
 go_wp2_with fail
 obtain ⟨T, hT⟩ : ∃ T, T = w6.heap.size := ⟨_, rfl⟩
 rw [← hT]
 have hB3 := below_alloc (Below.refl w6.heap.size w6) (Obj.cells #[Value.int IntKind.i64 n, Value.slice A1 ls.length c1, Value.slice A2 es.length c2, Value.slice (some ⟨gi, 0, none⟩) n n, Value.slice (some ⟨go, 0, none⟩) n n, Value.slice none 0 0] 141)
 have hst : SimT w.heap.size (w6.alloc (Obj.cells #[Value.int IntKind.i64 n, Value.slice A1 ls.length c1, Value.slice A2 es.length c2, Value.slice (some ⟨gi, 0, none⟩) n n, Value.slice (some ⟨go, 0, none⟩) n n, Value.slice none 0 0] 141)) gi go T n (.slice A1 ls.length c1) (.slice A2 es.length c2) [] [] (.slice none 0 0) [] (fun _ _ => true) := by
  obtain ⟨f1, f2, f3, f4, f5, f6⟩ := HF.out
  have hbs := HB2.out.size
  refine ⟨by rw [hT]; exact blk_new _ _, ⟨List.replicate n nilS, List.replicate n nilS, ?_, ?_, Cross.start n _⟩, Fol.nil _ _ _, by omega, by omega, by have := f6.size; omega, f1⟩
  ·rw [ins_nil]
   exact (Tab.start n f4).below hB3
  ·rw [outs_nil]
   exact (Tab.start n f5).below hB3
 have HST := Aside0.mk hst
 have HXB := Aside0.mk ((HX2.out.below HF.out.2.2.2.2.2).below hB3)
 have HBB := Aside0.mk (below_then (below_then HB2.out HB2.out.size HF.out.2.2.2.2.2) (Nat.le_trans HB2.out.size HF.out.2.2.2.2.2.size) hB3)
 clear hst hB3 hT HX HB1 HX2 HB2 HV HHold HF
 generalize (w6.alloc (Obj.cells #[Value.int IntKind.i64 n, Value.slice A1 ls.length c1, Value.slice A2 es.length c2, Value.slice (some ⟨gi, 0, none⟩) n n, Value.slice (some ⟨go, 0, none⟩) n n, Value.slice none 0 0] 141)) = w7 at HST HXB HBB ⊢
 have b2 := HXB.out.c2
 go_wp2
 clear b2
 go_loopw [18] (fun i wr => ∃ k : Nat, k ≤ es.length ∧ i = .int .i64 k ∧ Aside0 (SimT w.heap.size wr gi go T n (.slice A1 ls.length c1) (.slice A2 es.length c2) (es.take k) (es.take k) (.slice none 0 0) [] (fun _ _ => true)) ∧ Aside0 (BoxL wr w.heap.size n (.slice A1 ls.length c1) (.slice A2 es.length c2)) ∧ Aside0 (Below w.heap.size w wr)) (fun i _ => es.length - (intOf i).toNat)
 case atStart => exact ⟨0, Nat.zero_le _, rfl, HST, HXB, HBB⟩
 case round =>
  obtain ⟨k, hk, rfl, HS, HBx, HBr⟩ := hrel
  clear HST HXB HBB
  by_cases hlt : k < es.length
  ·obtain ⟨ad, hA, g0, g1, g2⟩ := atE HR2.out k hlt
   subst hA
   replace g0 := later HBr.out g0
   replace g1 := later HBr.out g1
   replace g2 := later HBr.out g2
   have hin := es_at HM.out hlt
   obtain ⟨x, hx⟩ : ∃ x, x = es.getD k z81 := ⟨_, rfl⟩
   rw [← hx] at g0 g1 g2 hin
   have hx' := Aside0.mk hx; clear hx
   obtain ⟨i, hi⟩ : ∃ i : Nat, x.f2 = (i : Int) := ⟨x.f2.toNat, by omega⟩
   obtain ⟨j, hj⟩ : ∃ j : Nat, x.f0 = (j : Int) := ⟨x.f0.toNat, by omega⟩
   have i0 : (0 : Int) ≤ (i : Int) := by omega
   have i1 : (i : Int) < (n : Int) := by omega
   have i2 : i < n := by omega
   have j0 : (0 : Int) ≤ (j : Int) := by omega
   have j1 : (j : Int) < (n : Int) := by omega
   have j2 : j < n := by omega
   rw [hj] at g0
   rw [hi] at g2
   have HF := Aside0.mk (And.intro hi hj)
   clear hi hj hin
   go_wp2_with fail
   clear g0 g1 g2
   obtain ⟨E, hE⟩ : ∃ E, E = wr.heap.size := ⟨_, rfl⟩
   rw [← hE]
   have hB4 := below_alloc (Below.refl wr.heap.size wr) (Obj.cells #[Value.int IntKind.i64 (j : Int), Value.int IntKind.i64 x.f1, Value.int IntKind.i64 (i : Int)] 81)
   have HE1 := Aside0.mk (blk_new wr (Obj.cells #[Value.int IntKind.i64 (j : Int), Value.int IntKind.i64 x.f1, Value.int IntKind.i64 (i : Int)] 81))
   have HS1 := Aside0.mk (HS.out.on hB4)
   have HK1 := Aside0.mk (HBx.out.below hB4)
   have HBW := Aside0.mk (below_then HBr.out HBr.out.size hB4)
   obtain ⟨vs, us, hT0, hU0, hX0⟩ := HS.out.two
   have HT1 := Aside0.mk (And.intro (hT0.below hB4) (And.intro (hU0.below hB4) hX0))
   have hlen := ins_length n (es.take k)
   obtain ⟨Ar, cr, hv, _, _⟩ := hT0.read i (by rw [hlen]; exact i2)
   have hnE : some E ≠ (vs.getD i nilS).ownBlock := fun h => absurd (Kd.R_lt (hT0.row i (by rw [hT0.len, hlen]; exact i2)) E h.symm) (by rw [hE]; exact Nat.lt_irrefl _)
   have HN2 := Aside0.mk (show some E ≠ (us.getD j nilS).ownBlock from fun h => absurd (Kd.R_lt (hU0.row j (by rw [hU0.len, outs_length]; exact j2)) E h.symm) (by rw [hE]; exact Nat.lt_irrefl _))
   have hR0 := hT0.row i (by rw [hT0.len, hlen]; exact i2)
   obtain ⟨zs, hzs⟩ : ∃ zs, zs = (ins n (es.take k)).getD i [] := ⟨_, rfl⟩
   have hzl : zs.length ≤ 1000000 := by
    rw [hzs, ins_at _ i2]
    exact Nat.le_trans (List.length_filter_le _ _) (by rw [List.length_take]; omega)
   rw [← hzs] at hv hR0
   have hc1 := HT1.out.1.cell i (by rw [hlen]; exact i2)
   rw [hv] at hc1 hnE hR0
   have HN := Aside0.mk hnE
   have HZ := Aside0.mk hzs
   have HV := Aside0.mk hv
   rw [← hE] at HE1
   have e0 := (blk_cell HE1.out 0).trans rfl
   have e1 := (blk_cell HE1.out 1).trans rfl
   have e2 := (blk_cell HE1.out 2).trans rfl
   clear hT0 hU0 hX0 hnE hv hzs
   have HR00 := Aside0.mk (Kd.R_below hR0 hB4)
   clear hR0 hB4 hE
   generalize (wr.alloc (Obj.cells #[Value.int IntKind.i64 (j : Int), Value.int IntKind.i64 x.f1, Value.int IntKind.i64 (i : Int)] 81)) = W at HS1 HK1 HBW HT1 HE1 HR00 hc1 e0 e1 e2 ⊢
   refine start_ (n := 19) (S := fun w' => w'.cell? ⟨T, 3, none⟩ = some (.slice (some ⟨gi, 0, none⟩) n n) ∧ w'.cell? ⟨E, 0, none⟩ = some (.int .i64 (j : Int)) ∧ w'.cell? ⟨E, 1, none⟩ = some (.int .i64 x.f1) ∧ w'.cell? ⟨E, 2, none⟩ = some (.int .i64 (i : Int)) ∧ w'.cell? ⟨gi, i, none⟩ = some (.slice Ar zs.length cr)) (ds := [18]) #[false, false, false, false, false, false, false, false, false, false, false, false, false, false, false, false, false, false, false] (by kernel_rfl) rfl rfl ⟨HS1.out.t3, e0, e1, e2, hc1⟩ (fun hHeld => ?_)
   have hB0 := below_drew1 (Below.refl W.heap.size W)
   have HS2 := Aside0.mk (HS1.out.on hB0)
   have HBw := Aside0.mk (below_then HBW.out HBW.out.size hB0)
   have HT2 := Aside0.mk (And.intro (HT1.out.1.below hB0) (And.intro (HT1.out.2.1.below hB0) HT1.out.2.2))
   have HK2 := Aside0.mk (HK1.out.below hB0)
   have HE2 := Aside0.mk (blk_below HE1.out hB0)
   have HR0 := Aside0.mk (Kd.R_below HR00.out hB0)
   clear e0 e1 e2 hc1 hB0
   generalize W.drew = V at HS2 HBw HT2 HK2 HE2 HR0 hHeld ⊢
   have HH0 := Aside0.mk hHeld
   refine pure_ (i := 0) (N := some 22) (v := ?_) (a' := ?_) #[true, false, false, false, false, false, false, false, false, false, false, false, false, false, false, false, false, false, false] rfl rfl (by kernel_rfl) (fun _ _ _ h => h) (Or.inl ⟨by rfl, ?_⟩) ?_ ?_
   rotate_left
   ·intro w'
    go_simp
    with_reducible rfl
   rotate_left
   ·simp only [Act.put, List.setIfInBounds_toArray, List.set_cons_zero, List.set_cons_succ, i64_w, i32_w]
    rfl
   refine pure_ (i := 1) (N := some 23) (v := ?_) (a' := ?_) #[true, true, false, false, false, false, false, false, false, false, false, false, false, false, false, false, false, false, false] rfl rfl (by kernel_rfl) (fun _ _ _ h => h) (Or.inl ⟨by rfl, ?_⟩) ?_ ?_
   rotate_left
   ·intro w'
    go_simp
    with_reducible rfl
   rotate_left
   ·simp only [Act.put, List.setIfInBounds_toArray, List.set_cons_zero, List.set_cons_succ, i64_w, i32_w]
    rfl
   refine pure_ (i := 2) (N := some 24) (v := ?_) (a' := ?_) #[true, true, true, false, false, false, false, false, false, false, false, false, false, false, false, false, false, false, false] rfl rfl (by kernel_rfl) (fun _ _ _ h => h) (Or.inl ⟨by rfl, ?_⟩) ?_ ?_
   rotate_left
   ·intro w'
    go_simp
    with_reducible rfl
   rotate_left
   ·simp only [Act.put, List.setIfInBounds_toArray, List.set_cons_zero, List.set_cons_succ, i64_w, i32_w]
    rfl
   refine pure_ (i := 4) (N := some 26) (v := ?_) (a' := ?_) #[true, true, true, false, true, false, false, false, false, false, false, false, false, false, false, false, false, false, false] rfl rfl (by kernel_rfl) (fun _ _ _ h => h) (Or.inl ⟨by rfl, ?_⟩) ?_ ?_
   rotate_left
   ·intro w'
    go_simp
    with_reducible rfl
   rotate_left
   ·simp only [Act.put, List.setIfInBounds_toArray, List.set_cons_zero, List.set_cons_succ, i64_w, i32_w]
    rfl
   refine pure_ (i := 6) (N := some 28) (v := ?_) (a' := ?_) #[true, true, true, false, true, false, true, false, false, false, false, false, false, false, false, false, false, false, false] rfl rfl (by kernel_rfl) (fun _ _ _ h => h) (Or.inl ⟨by rfl, ?_⟩) ?_ ?_
   rotate_left
   ·intro w'
    go_simp
    with_reducible rfl
   rotate_left
   ·simp only [Act.put, List.setIfInBounds_toArray, List.set_cons_zero, List.set_cons_succ, i64_w, i32_w]
    rfl
   refine pure_ (i := 7) (N := some 29) (v := ?_) (a' := ?_) #[true, true, true, false, true, false, true, true, false, false, false, false, false, false, false, false, false, false, false] rfl rfl (by kernel_rfl) (fun _ _ _ h => h) (Or.inl ⟨by rfl, ?_⟩) ?_ ?_
   rotate_left
   ·intro w'
    go_simp
    with_reducible rfl
   rotate_left
   ·simp only [Act.put, List.setIfInBounds_toArray, List.set_cons_zero, List.set_cons_succ, i64_w, i32_w]
    rfl
   refine pure_ (i := 8) (N := some 30) (v := ?_) (a' := ?_) #[true, true, true, false, true, false, true, true, true, false, false, false, false, false, false, false, false, false, false] rfl rfl (by kernel_rfl) (fun _ _ _ h => h) (Or.inl ⟨by rfl, ?_⟩) ?_ ?_
   rotate_left
   ·intro w'
    go_simp
    with_reducible rfl
   rotate_left
   ·simp only [Act.put, List.setIfInBounds_toArray, List.set_cons_zero, List.set_cons_succ, i64_w, i32_w]
    rfl
   refine pure_ (i := 10) (N := some 32) (v := ?_) (a' := ?_) #[true, true, true, false, true, false, true, true, true, false, true, false, false, false, false, false, false, false, false] rfl rfl (by kernel_rfl) (fun _ _ _ h => h) (Or.inl ⟨by rfl, ?_⟩) ?_ ?_
   rotate_left
   ·intro w'
    go_simp
    with_reducible rfl
   rotate_left
   ·simp only [Act.put, List.setIfInBounds_toArray, List.set_cons_zero, List.set_cons_succ, i64_w, i32_w]
    rfl
   refine take_ (i := 3) (N := some 25) (v := ?_) (a' := ?_) #[true, true, true, true, true, false, true, true, true, false, true, false, false, false, false, false, false, false, false] rfl rfl (by kernel_rfl) (fun _ _ _ h => h) (Or.inl ⟨by rfl, ?_⟩) hHeld ?_ ?_
   rotate_left
   ·rintro w' ⟨s0, s1, s2, s3, s4⟩
    go_simp
    with_reducible rfl
   rotate_left
   ·simp only [Act.put, List.setIfInBounds_toArray, List.set_cons_zero, List.set_cons_succ, i64_w, i32_w]
    rfl
   refine take_ (i := 5) (N := some 27) (v := ?_) (a' := ?_) #[true, true, true, true, true, true, true, true, true, false, true, false, false, false, false, false, false, false, false] rfl rfl (by kernel_rfl) (fun _ _ _ h => h) (Or.inl ⟨by rfl, ?_⟩) hHeld ?_ ?_
   rotate_left
   ·rintro w' ⟨s0, s1, s2, s3, s4⟩
    go_simp
    with_reducible rfl
   rotate_left
   ·simp only [Act.put, List.setIfInBounds_toArray, List.set_cons_zero, List.set_cons_succ, i64_w, i32_w]
    rfl
   refine take_ (i := 9) (N := some 31) (v := ?_) (a' := ?_) #[true, true, true, true, true, true, true, true, true, true, true, false, false, false, false, false, false, false, false] rfl rfl (by kernel_rfl) (fun _ _ _ h => h) (Or.inl ⟨by rfl, ?_⟩) hHeld ?_ ?_
   rotate_left
   ·rintro w' ⟨s0, s1, s2, s3, s4⟩
    go_simp
    with_reducible rfl
   rotate_left
   ·simp only [Act.put, List.setIfInBounds_toArray, List.set_cons_zero, List.set_cons_succ, i64_w, i32_w]
    rfl
   refine take_ (i := 11) (N := some 33) (v := ?_) (a' := ?_) #[true, true, true, true, true, true, true, true, true, true, true, true, false, false, false, false, false, false, false] rfl rfl (by kernel_rfl) (fun _ _ _ h => h) (Or.inl ⟨by rfl, ?_⟩) hHeld ?_ ?_
   rotate_left
   ·rintro w' ⟨s0, s1, s2, s3, s4⟩
    go_simp
    with_reducible rfl
   rotate_left
   ·simp only [Act.put, List.setIfInBounds_toArray, List.set_cons_zero, List.set_cons_succ, i64_w, i32_w]
    rfl
   refine pure_ (i := 12) (N := some 34) (v := ?_) (a' := ?_) #[true, true, true, true, true, true, true, true, true, true, true, true, true, false, false, false, false, false, false] rfl rfl (by kernel_rfl) (fun _ _ _ h => h) (Or.inl ⟨by rfl, ?_⟩) ?_ ?_
   rotate_left
   ·intro w'
    go_simp
    with_reducible rfl
   rotate_left
   ·simp only [Act.put, List.setIfInBounds_toArray, List.set_cons_zero, List.set_cons_succ, i64_w, i32_w]
    rfl
   refine take_ (i := 13) (N := some 35) (v := ?_) (a' := ?_) #[true, true, true, true, true, true, true, true, true, true, true, true, true, true, false, false, false, false, false] rfl rfl (by kernel_rfl) (fun _ _ _ h => h) (Or.inl ⟨by rfl, ?_⟩) hHeld ?_ ?_
   rotate_left
   ·rintro w' ⟨s0, s1, s2, s3, s4⟩
    go_simp
    with_reducible rfl
   rotate_left
   ·simp only [Act.put, List.setIfInBounds_toArray, List.set_cons_zero, List.set_cons_succ, i64_w, i32_w]
    rfl
   refine take_ (i := 14) (N := some 36) (v := ?_) (a' := ?_) #[true, true, true, true, true, true, true, true, true, true, true, true, true, true, true, false, false, false, false] rfl rfl (by kernel_rfl) (fun _ _ _ h => h) (Or.inl ⟨by rfl, ?_⟩) hHeld ?_ ?_
   rotate_left
   ·rintro w' ⟨s0, s1, s2, s3, s4⟩
    go_simp
    with_reducible rfl
   rotate_left
   ·simp only [Act.put, List.setIfInBounds_toArray, List.set_cons_zero, List.set_cons_succ, i64_w, i32_w]
    rfl
   refine one_ (i := 15) (N := some 37) #[true, true, true, true, true, true, true, true, true, true, true, true, true, true, true, true, false, false, false] rfl rfl (by kernel_rfl) (by decide) (fun K hK => ?_)
   refine value_ (w1 := ?_) (v := ?_) (by rfl) rfl ?_ ?_
   rotate_left 2
   ·go_simp
    constructor
    ·rfl
    ·rfl
   refine hK.out _ _ ⟨later (below_alloc (Below.refl _ _) _) hHeld.1, later (below_alloc (Below.refl _ _) _) hHeld.2.1, later (below_alloc (Below.refl _ _) _) hHeld.2.2.1, later (below_alloc (Below.refl _ _) _) hHeld.2.2.2.1, later (below_alloc (Below.refl _ _) _) hHeld.2.2.2.2⟩ (fun hHeld => ?_)
   clear hK K
   refine norm_ (a' := ?_) ?_ ?_
   rotate_left
   ·show Act.put _ (some 37) _ = _
    simp only [Act.put, List.setIfInBounds_toArray, List.set_cons_zero, List.set_cons_succ, i64_w, i32_w]
    rfl
   refine one_ (i := 16) (N := some 38) #[true, true, true, true, true, true, true, true, true, true, true, true, true, true, true, true, true, false, false] rfl rfl (by kernel_rfl) (by decide) (fun K hK => ?_)
   refine Kd.R_append_step k81 (w0 := w) w.heap.size (by rfl) (.tmp 35) (.tmp 37) 23 81 (.agg #[(.int .i64 0), (.int .i64 0), (.int .i64 0)]) 24 rfl Try.underlying23 info81 rfl (by decide) (by omega) (.slice Ar zs.length cr) zs x [.int .i64 (j : Int), .int .i64 x.f1, .int .i64 (i : Int)] (fun _ => True) (fun _ => False) rfl rfl ?aP5 (fun _ hk => hk.elim) ?aF5 ?aO5 ?aB5 ?aS5 ?aL5 ?_
   (case aP5 => rw [← HF.out.2, ← HF.out.1]; exact k81_mkM _ _ _ x)
   (case aF5 => exact fun _ _ => trivial)
   (case aO5 => exact HR0.out)
   (case aB5 => exact HBw.out)
   (case aS5 => exact HBw.out.size)
   (case aL5 => omega)
   intro v1 w3 ho hb hg hat
   obtain ⟨A4, c4, hv4⟩ := Kd.R_slice ho
   subst hv4
   have HO := Aside0.mk ho
   have HG := Aside0.mk hg
   have HAt := Aside0.mk hat
   have HB3 := Aside0.mk hb
   have hneT : some T ≠ (Value.slice Ar zs.length cr).ownBlock := Kd.R_ne HR0.out HS2.out.tb (by decide)
   have hneG : some gi ≠ (Value.slice Ar zs.length cr).ownBlock := Kd.R_ne HR0.out HT2.out.1.blk (by decide)
   have hneE : some E ≠ (Value.slice Ar zs.length cr).ownBlock := HN.out
   have fz := Tab.frozen HT2.out.1 i hg hneG
   rw [List.length_append, List.length_singleton]
   clear ho hb hg hat
   refine hK.out _ _ ⟨cell_grown HG.out HH0.out.1 hneT, cell_grown HG.out HH0.out.2.1 hneE, cell_grown HG.out HH0.out.2.2.1 hneE, cell_grown HG.out HH0.out.2.2.2.1 hneE, cell_grown HG.out HH0.out.2.2.2.2 hneG⟩ (fun hHeld => ?_)
   clear hK K
   refine norm_ (a' := ?_) ?_ ?_
   rotate_left
   ·show Act.put _ (some 38) _ = _
    simp only [Act.put, List.setIfInBounds_toArray, List.set_cons_zero, List.set_cons_succ, i64_w, i32_w]
    rfl
   refine pure_ (i := 17) (N := some 39) (v := ?_) (a' := ?_) #[true, true, true, true, true, true, true, true, true, true, true, true, true, true, true, true, true, true, false] rfl rfl (by kernel_rfl) (fun _ _ _ h => h) (Or.inl ⟨by rfl, ?_⟩) ?_ ?_
   rotate_left
   ·intro w'
    go_simp
    with_reducible rfl
   rotate_left
   ·simp only [Act.put, List.setIfInBounds_toArray, List.set_cons_zero, List.set_cons_succ, i64_w, i32_w]
    rfl
   refine last_ (i := 18) (N := none) #[true, true, true, true, true, true, true, true, true, true, true, true, true, true, true, true, true, true, true] rfl rfl (by kernel_rfl) (by decide) (fun K hK => ?_)
   refine skip_ (w1 := ?_) (by rfl) rfl ?_ ?_
   rotate_left
   ·go_simp
    rfl
   refine hK.out _ _ ?_
   clear hK K
   refine done_ (by kernel_rfl) ?_
   have hsT : SimT w.heap.size (w3.setCell ⟨gi, i, none⟩ (.slice A4 (zs.length + 1) c4)) gi go T n (.slice A1 ls.length c1) (.slice (some ad) es.length c2) (es.take k ++ [x]) (es.take k) (.slice none 0 0) [] (fun _ _ => true) := by
    refine HS2.out.putIn HT2.out.1 HT2.out.2.1 HT2.out.2.2 i2 HF.out.1 ?_ ?_ ?_
    ·rw [← HZ.out]; simpa using HO.out
    ·rw [HV.out]; exact HG.out
    ·rw [HV.out]; simpa using HAt.out
   have hTT : ∃ vs', Tab k81 81 23 (w3.setCell ⟨gi, i, none⟩ (.slice A4 (zs.length + 1) c4)) w.heap.size gi vs' (ins n (es.take k ++ [x])) ∧ Tab k81 81 23 (w3.setCell ⟨gi, i, none⟩ (.slice A4 (zs.length + 1) c4)) w.heap.size go us (outs n (es.take k)) ∧ Cross vs' us := by
    rw [← ins_snoc (es.take k) x i2 HF.out.1]
    refine HT2.out.1.put2 rfl (by decide) HT2.out.2.1 HT2.out.2.2 HS2.out.ne i (by rw [hlen]; exact i2) ?_ ?_ ?_
    ·rw [← HZ.out]; simpa using HO.out
    ·rw [HV.out]; exact HG.out
    ·rw [HV.out]; simpa using HAt.out
   have HTT := Aside0.mk hTT
   have hEg : E ≠ gi := blk_ne HE2.out HT2.out.1.blk (by decide)
   have hE3 := (Below.heap_setCell w3 ⟨gi, i, none⟩ (.slice A4 (zs.length + 1) c4) E hEg).trans ((HG.out.block E (blk_lt HE2.out) hneE).trans HE2.out)
   have hK3 : BoxL (w3.setCell ⟨gi, i, none⟩ (.slice A4 (zs.length + 1) c4)) w.heap.size n (.slice A1 ls.length c1) (.slice (some ad) es.length c2) := blk_keep HG.out (fun q hq => Kd.R_typed HR0.out q hq) HK2.out (by decide) (by have := HS2.out.bi; intro e; exact blk_ne HK2.out HT2.out.1.blk (by decide) e) i
   have hB5 : Below w.heap.size w (w3.setCell ⟨gi, i, none⟩ (.slice A4 (zs.length + 1) c4)) := below_set HB3.out HS2.out.bi
   have HS1 := Aside0.mk hsT
   have HE1 := Aside0.mk hE3
   have HK1 := Aside0.mk hK3
   have HBW := Aside0.mk hB5
   clear hTT hsT hE3 hK3 hB5 hneT hneG hneE fz hEg HS2 HBw HT2 HK2 HE2 HR0 HH0 HO HG HAt HB3 HR00 HZ HV HN hlen hzl
   generalize (w3.setCell ⟨gi, i, none⟩ (.slice A4 (zs.length + 1) c4)) = W at HS1 HK1 HBW HE1 HTT ⊢
   obtain ⟨vs', hU0, hT0, hX0⟩ := HTT.out
   have HT1 := Aside0.mk (And.intro hU0 (And.intro hT0 hX0))
   have hlen := outs_length n (es.take k)
   obtain ⟨Ar, cr, hv, _, _⟩ := hT0.read j (by rw [hlen]; exact j2)
   have hR0 := hT0.row j (by rw [hT0.len, hlen]; exact j2)
   obtain ⟨zs, hzs⟩ : ∃ zs, zs = (outs n (es.take k)).getD j [] := ⟨_, rfl⟩
   have hzl : zs.length ≤ 1000000 := by
    rw [hzs, outs_at _ j2]
    exact Nat.le_trans (List.length_filter_le _ _) (by rw [List.length_take]; omega)
   rw [← hzs] at hv hR0
   have hc1 := hT0.cell j (by rw [hlen]; exact j2)
   rw [hv] at hc1 hR0
   have hnE : some E ≠ (Value.slice Ar zs.length cr).ownBlock := by rw [← hv]; exact HN2.out
   have HN := Aside0.mk hnE
   have HZ := Aside0.mk hzs
   have HV := Aside0.mk hv
   have e0 := (blk_cell HE1.out 0).trans rfl
   have e1 := (blk_cell HE1.out 1).trans rfl
   have e2 := (blk_cell HE1.out 2).trans rfl
   have HR00 := Aside0.mk hR0
   clear hT0 hU0 hX0 hnE hv hzs hR0
   go_wp2_with fail
   refine start_ (n := 19) (S := fun w' => w'.cell? ⟨T, 4, none⟩ = some (.slice (some ⟨go, 0, none⟩) n n) ∧ w'.cell? ⟨E, 0, none⟩ = some (.int .i64 (j : Int)) ∧ w'.cell? ⟨E, 1, none⟩ = some (.int .i64 x.f1) ∧ w'.cell? ⟨E, 2, none⟩ = some (.int .i64 (i : Int)) ∧ w'.cell? ⟨go, j, none⟩ = some (.slice Ar zs.length cr)) (ds := [18]) #[false, false, false, false, false, false, false, false, false, false, false, false, false, false, false, false, false, false, false] (by kernel_rfl) rfl rfl ⟨HS1.out.t4, e0, e1, e2, hc1⟩ (fun hHeld => ?_)
   have hB0 := below_drew1 (Below.refl W.heap.size W)
   have HS2 := Aside0.mk (HS1.out.on hB0)
   have HBw := Aside0.mk (below_then HBW.out HBW.out.size hB0)
   have HT2 := Aside0.mk (And.intro (HT1.out.1.below hB0) (And.intro (HT1.out.2.1.below hB0) HT1.out.2.2))
   have HK2 := Aside0.mk (HK1.out.below hB0)
   have HE2 := Aside0.mk (blk_below HE1.out hB0)
   have HR0 := Aside0.mk (Kd.R_below HR00.out hB0)
   clear e0 e1 e2 hc1 hB0
   generalize W.drew = V at HS2 HBw HT2 HK2 HE2 HR0 hHeld ⊢
   have HH0 := Aside0.mk hHeld
   refine pure_ (i := 0) (N := some 40) (v := ?_) (a' := ?_) #[true, false, false, false, false, false, false, false, false, false, false, false, false, false, false, false, false, false, false] rfl rfl (by kernel_rfl) (fun _ _ _ h => h) (Or.inl ⟨by rfl, ?_⟩) ?_ ?_
   rotate_left
   ·intro w'
    go_simp
    with_reducible rfl
   rotate_left
   ·simp only [Act.put, List.setIfInBounds_toArray, List.set_cons_zero, List.set_cons_succ, i64_w, i32_w]
    rfl
   refine pure_ (i := 1) (N := some 41) (v := ?_) (a' := ?_) #[true, true, false, false, false, false, false, false, false, false, false, false, false, false, false, false, false, false, false] rfl rfl (by kernel_rfl) (fun _ _ _ h => h) (Or.inl ⟨by rfl, ?_⟩) ?_ ?_
   rotate_left
   ·intro w'
    go_simp
    with_reducible rfl
   rotate_left
   ·simp only [Act.put, List.setIfInBounds_toArray, List.set_cons_zero, List.set_cons_succ, i64_w, i32_w]
    rfl
   refine pure_ (i := 2) (N := some 42) (v := ?_) (a' := ?_) #[true, true, true, false, false, false, false, false, false, false, false, false, false, false, false, false, false, false, false] rfl rfl (by kernel_rfl) (fun _ _ _ h => h) (Or.inl ⟨by rfl, ?_⟩) ?_ ?_
   rotate_left
   ·intro w'
    go_simp
    with_reducible rfl
   rotate_left
   ·simp only [Act.put, List.setIfInBounds_toArray, List.set_cons_zero, List.set_cons_succ, i64_w, i32_w]
    rfl
   refine pure_ (i := 4) (N := some 44) (v := ?_) (a' := ?_) #[true, true, true, false, true, false, false, false, false, false, false, false, false, false, false, false, false, false, false] rfl rfl (by kernel_rfl) (fun _ _ _ h => h) (Or.inl ⟨by rfl, ?_⟩) ?_ ?_
   rotate_left
   ·intro w'
    go_simp
    with_reducible rfl
   rotate_left
   ·simp only [Act.put, List.setIfInBounds_toArray, List.set_cons_zero, List.set_cons_succ, i64_w, i32_w]
    rfl
   refine pure_ (i := 6) (N := some 46) (v := ?_) (a' := ?_) #[true, true, true, false, true, false, true, false, false, false, false, false, false, false, false, false, false, false, false] rfl rfl (by kernel_rfl) (fun _ _ _ h => h) (Or.inl ⟨by rfl, ?_⟩) ?_ ?_
   rotate_left
   ·intro w'
    go_simp
    with_reducible rfl
   rotate_left
   ·simp only [Act.put, List.setIfInBounds_toArray, List.set_cons_zero, List.set_cons_succ, i64_w, i32_w]
    rfl
   refine pure_ (i := 7) (N := some 47) (v := ?_) (a' := ?_) #[true, true, true, false, true, false, true, true, false, false, false, false, false, false, false, false, false, false, false] rfl rfl (by kernel_rfl) (fun _ _ _ h => h) (Or.inl ⟨by rfl, ?_⟩) ?_ ?_
   rotate_left
   ·intro w'
    go_simp
    with_reducible rfl
   rotate_left
   ·simp only [Act.put, List.setIfInBounds_toArray, List.set_cons_zero, List.set_cons_succ, i64_w, i32_w]
    rfl
   refine pure_ (i := 8) (N := some 48) (v := ?_) (a' := ?_) #[true, true, true, false, true, false, true, true, true, false, false, false, false, false, false, false, false, false, false] rfl rfl (by kernel_rfl) (fun _ _ _ h => h) (Or.inl ⟨by rfl, ?_⟩) ?_ ?_
   rotate_left
   ·intro w'
    go_simp
    with_reducible rfl
   rotate_left
   ·simp only [Act.put, List.setIfInBounds_toArray, List.set_cons_zero, List.set_cons_succ, i64_w, i32_w]
    rfl
   refine pure_ (i := 10) (N := some 50) (v := ?_) (a' := ?_) #[true, true, true, false, true, false, true, true, true, false, true, false, false, false, false, false, false, false, false] rfl rfl (by kernel_rfl) (fun _ _ _ h => h) (Or.inl ⟨by rfl, ?_⟩) ?_ ?_
   rotate_left
   ·intro w'
    go_simp
    with_reducible rfl
   rotate_left
   ·simp only [Act.put, List.setIfInBounds_toArray, List.set_cons_zero, List.set_cons_succ, i64_w, i32_w]
    rfl
   refine take_ (i := 3) (N := some 43) (v := ?_) (a' := ?_) #[true, true, true, true, true, false, true, true, true, false, true, false, false, false, false, false, false, false, false] rfl rfl (by kernel_rfl) (fun _ _ _ h => h) (Or.inl ⟨by rfl, ?_⟩) hHeld ?_ ?_
   rotate_left
   ·rintro w' ⟨s0, s1, s2, s3, s4⟩
    go_simp
    with_reducible rfl
   rotate_left
   ·simp only [Act.put, List.setIfInBounds_toArray, List.set_cons_zero, List.set_cons_succ, i64_w, i32_w]
    rfl
   refine take_ (i := 5) (N := some 45) (v := ?_) (a' := ?_) #[true, true, true, true, true, true, true, true, true, false, true, false, false, false, false, false, false, false, false] rfl rfl (by kernel_rfl) (fun _ _ _ h => h) (Or.inl ⟨by rfl, ?_⟩) hHeld ?_ ?_
   rotate_left
   ·rintro w' ⟨s0, s1, s2, s3, s4⟩
    go_simp
    with_reducible rfl
   rotate_left
   ·simp only [Act.put, List.setIfInBounds_toArray, List.set_cons_zero, List.set_cons_succ, i64_w, i32_w]
    rfl
   refine take_ (i := 9) (N := some 49) (v := ?_) (a' := ?_) #[true, true, true, true, true, true, true, true, true, true, true, false, false, false, false, false, false, false, false] rfl rfl (by kernel_rfl) (fun _ _ _ h => h) (Or.inl ⟨by rfl, ?_⟩) hHeld ?_ ?_
   rotate_left
   ·rintro w' ⟨s0, s1, s2, s3, s4⟩
    go_simp
    with_reducible rfl
   rotate_left
   ·simp only [Act.put, List.setIfInBounds_toArray, List.set_cons_zero, List.set_cons_succ, i64_w, i32_w]
    rfl
   refine take_ (i := 11) (N := some 51) (v := ?_) (a' := ?_) #[true, true, true, true, true, true, true, true, true, true, true, true, false, false, false, false, false, false, false] rfl rfl (by kernel_rfl) (fun _ _ _ h => h) (Or.inl ⟨by rfl, ?_⟩) hHeld ?_ ?_
   rotate_left
   ·rintro w' ⟨s0, s1, s2, s3, s4⟩
    go_simp
    with_reducible rfl
   rotate_left
   ·simp only [Act.put, List.setIfInBounds_toArray, List.set_cons_zero, List.set_cons_succ, i64_w, i32_w]
    rfl
   refine pure_ (i := 12) (N := some 52) (v := ?_) (a' := ?_) #[true, true, true, true, true, true, true, true, true, true, true, true, true, false, false, false, false, false, false] rfl rfl (by kernel_rfl) (fun _ _ _ h => h) (Or.inl ⟨by rfl, ?_⟩) ?_ ?_
   rotate_left
   ·intro w'
    go_simp
    with_reducible rfl
   rotate_left
   ·simp only [Act.put, List.setIfInBounds_toArray, List.set_cons_zero, List.set_cons_succ, i64_w, i32_w]
    rfl
   refine take_ (i := 13) (N := some 53) (v := ?_) (a' := ?_) #[true, true, true, true, true, true, true, true, true, true, true, true, true, true, false, false, false, false, false] rfl rfl (by kernel_rfl) (fun _ _ _ h => h) (Or.inl ⟨by rfl, ?_⟩) hHeld ?_ ?_
   rotate_left
   ·rintro w' ⟨s0, s1, s2, s3, s4⟩
    go_simp
    with_reducible rfl
   rotate_left
   ·simp only [Act.put, List.setIfInBounds_toArray, List.set_cons_zero, List.set_cons_succ, i64_w, i32_w]
    rfl
   refine take_ (i := 14) (N := some 54) (v := ?_) (a' := ?_) #[true, true, true, true, true, true, true, true, true, true, true, true, true, true, true, false, false, false, false] rfl rfl (by kernel_rfl) (fun _ _ _ h => h) (Or.inl ⟨by rfl, ?_⟩) hHeld ?_ ?_
   rotate_left
   ·rintro w' ⟨s0, s1, s2, s3, s4⟩
    go_simp
    with_reducible rfl
   rotate_left
   ·simp only [Act.put, List.setIfInBounds_toArray, List.set_cons_zero, List.set_cons_succ, i64_w, i32_w]
    rfl
   refine one_ (i := 15) (N := some 55) #[true, true, true, true, true, true, true, true, true, true, true, true, true, true, true, true, false, false, false] rfl rfl (by kernel_rfl) (by decide) (fun K hK => ?_)
   refine value_ (w1 := ?_) (v := ?_) (by rfl) rfl ?_ ?_
   rotate_left 2
   ·go_simp
    constructor
    ·rfl
    ·rfl
   refine hK.out _ _ ⟨later (below_alloc (Below.refl _ _) _) hHeld.1, later (below_alloc (Below.refl _ _) _) hHeld.2.1, later (below_alloc (Below.refl _ _) _) hHeld.2.2.1, later (below_alloc (Below.refl _ _) _) hHeld.2.2.2.1, later (below_alloc (Below.refl _ _) _) hHeld.2.2.2.2⟩ (fun hHeld => ?_)
   clear hK K
   refine norm_ (a' := ?_) ?_ ?_
   rotate_left
   ·show Act.put _ (some 55) _ = _
    simp only [Act.put, List.setIfInBounds_toArray, List.set_cons_zero, List.set_cons_succ, i64_w, i32_w]
    rfl
   refine one_ (i := 16) (N := some 56) #[true, true, true, true, true, true, true, true, true, true, true, true, true, true, true, true, true, false, false] rfl rfl (by kernel_rfl) (by decide) (fun K hK => ?_)
   refine Kd.R_append_step k81 (w0 := w) w.heap.size (by rfl) (.tmp 53) (.tmp 55) 23 81 (.agg #[(.int .i64 0), (.int .i64 0), (.int .i64 0)]) 24 rfl Try.underlying23 info81 rfl (by decide) (by omega) (.slice Ar zs.length cr) zs x [.int .i64 (j : Int), .int .i64 x.f1, .int .i64 (i : Int)] (fun _ => True) (fun _ => False) rfl rfl ?aP6 (fun _ hk => hk.elim) ?aF6 ?aO6 ?aB6 ?aS6 ?aL6 ?_
   (case aP6 => rw [← HF.out.2, ← HF.out.1]; exact k81_mkM _ _ _ x)
   (case aF6 => exact fun _ _ => trivial)
   (case aO6 => exact HR0.out)
   (case aB6 => exact HBw.out)
   (case aS6 => exact HBw.out.size)
   (case aL6 => omega)
   intro v1 w3 ho hb hg hat
   obtain ⟨A4, c4, hv4⟩ := Kd.R_slice ho
   subst hv4
   have HO := Aside0.mk ho
   have HG := Aside0.mk hg
   have HAt := Aside0.mk hat
   have HB3 := Aside0.mk hb
   have hneT : some T ≠ (Value.slice Ar zs.length cr).ownBlock := Kd.R_ne HR0.out HS2.out.tb (by decide)
   have hneG : some go ≠ (Value.slice Ar zs.length cr).ownBlock := Kd.R_ne HR0.out HT2.out.2.1.blk (by decide)
   have hneE : some E ≠ (Value.slice Ar zs.length cr).ownBlock := HN.out
   have fz := Tab.frozen HT2.out.2.1 j hg hneG
   rw [List.length_append, List.length_singleton]
   clear ho hb hg hat
   refine hK.out _ _ ⟨cell_grown HG.out HH0.out.1 hneT, cell_grown HG.out HH0.out.2.1 hneE, cell_grown HG.out HH0.out.2.2.1 hneE, cell_grown HG.out HH0.out.2.2.2.1 hneE, cell_grown HG.out HH0.out.2.2.2.2 hneG⟩ (fun hHeld => ?_)
   clear hK K
   refine norm_ (a' := ?_) ?_ ?_
   rotate_left
   ·show Act.put _ (some 56) _ = _
    simp only [Act.put, List.setIfInBounds_toArray, List.set_cons_zero, List.set_cons_succ, i64_w, i32_w]
    rfl
   refine pure_ (i := 17) (N := some 57) (v := ?_) (a' := ?_) #[true, true, true, true, true, true, true, true, true, true, true, true, true, true, true, true, true, true, false] rfl rfl (by kernel_rfl) (fun _ _ _ h => h) (Or.inl ⟨by rfl, ?_⟩) ?_ ?_
   rotate_left
   ·intro w'
    go_simp
    with_reducible rfl
   rotate_left
   ·simp only [Act.put, List.setIfInBounds_toArray, List.set_cons_zero, List.set_cons_succ, i64_w, i32_w]
    rfl
   refine last_ (i := 18) (N := none) #[true, true, true, true, true, true, true, true, true, true, true, true, true, true, true, true, true, true, true] rfl rfl (by kernel_rfl) (by decide) (fun K hK => ?_)
   refine skip_ (w1 := ?_) (by rfl) rfl ?_ ?_
   rotate_left
   ·go_simp
    rfl
   refine hK.out _ _ ?_
   clear hK K
   refine done_ (by kernel_rfl) ?_
   have hsT : SimT w.heap.size (w3.setCell ⟨go, j, none⟩ (.slice A4 (zs.length + 1) c4)) gi go T n (.slice A1 ls.length c1) (.slice (some ad) es.length c2) (es.take k ++ [x]) (es.take k ++ [x]) (.slice none 0 0) [] (fun _ _ => true) := by
    refine HS2.out.putOut HT2.out.1 HT2.out.2.1 HT2.out.2.2 j2 HF.out.2 ?_ ?_ ?_
    ·rw [← HZ.out]; simpa using HO.out
    ·rw [HV.out]; exact HG.out
    ·rw [HV.out]; simpa using HAt.out
   have HFin := Aside0.mk hsT
   have HK3 := Aside0.mk (show BoxL (w3.setCell ⟨go, j, none⟩ (.slice A4 (zs.length + 1) c4)) w.heap.size n (.slice A1 ls.length c1) (.slice (some ad) es.length c2) from blk_keep HG.out (fun q hq => Kd.R_typed HR0.out q hq) HK2.out (by decide) (by intro e; exact blk_ne HK2.out HT2.out.2.1.blk (by decide) e) j)
   have HB5 := Aside0.mk (show Below w.heap.size w (w3.setCell ⟨go, j, none⟩ (.slice A4 (zs.length + 1) c4)) from below_set HB3.out HS2.out.bo)
   clear hsT hneT hneG hneE fz
   go_wp2
   go_roundw
   case rel =>
    have e1 : es.take (k + 1) = es.take k ++ [x] := by rw [hx'.out]; exact take_snoc z81 hlt
    refine ⟨k + 1, by omega, by go_num, ⟨?_⟩, HK3, HB5⟩
    rw [e1]
    exact HFin.out
   case measure => simp [intOf]; omega
  ·have ek : es.take k = es := List.take_of_length_le (by omega)
   rw [ek] at HS
   have b0 := HBx.out.c0
   clear ek hmk
   go_wp2
   clear b0 hk hlt
   go_loopw [61] (fun i wr2 => ∃ (k : Nat) (vf : Value) (bs : List Nat), k ≤ n ∧ i = .int .i64 k ∧ bs.length = k ∧ Aside0 (SimT w.heap.size wr2 gi go T n (.slice A1 ls.length c1) (.slice A2 es.length c2) es es vf bs (fun _ _ => true)) ∧ Aside0 (BoxL wr2 w.heap.size n (.slice A1 ls.length c1) (.slice A2 es.length c2)) ∧ Aside0 (Below w.heap.size w wr2)) (fun i _ => n - (intOf i).toNat)
   case atStart => exact ⟨0, _, [], Nat.zero_le _, rfl, rfl, HS, HBx, HBr⟩
   case round =>
    clear HS HBx HBr
    obtain ⟨k, vf, bs, hk, rfl, hbk, HS, HBx, HBr⟩ := hrel
    have HK := Aside0.mk hbk
    clear hbk
    by_cases hlt : k < n
    ·go_wp2_with fail
     obtain ⟨Af, cf, hvf⟩ := Kd.R_slice HS.out.fol.row
     subst hvf
     rw [HK.out] at HS
     have b0 := HBx.out.c0
     have t5 := HS.out.t5
     have hq := HQ.out.1
     have hqq := HQ.out.2.1
     have hq2 := HQ.out.2.2
     refine start_ (n := 16) (S := fun w' => w'.cell? ⟨T, 5, none⟩ = some (.slice Af k cf) ∧ w'.cell? ⟨w.heap.size, 0, none⟩ = some (.int .i64 (n : Int))) (ds := [15]) #[false, false, false, false, false, false, false, false, false, false, false, false, false, false, false, false] (by kernel_rfl) rfl rfl ⟨t5, b0⟩ (fun hHeld => ?_)
     have hB0 := below_drew1 (Below.refl wr.heap.size wr)
     have HS1 := Aside0.mk (HS.out.on hB0)
     have HK1 := Aside0.mk (HBx.out.below hB0)
     have HB1 := Aside0.mk (below_then HBr.out HBr.out.size hB0)
     clear b0 t5 hB0
     generalize wr.drew = V at HS1 HK1 HB1 hHeld ⊢
     refine pure_ (i := 0) (N := some 63) (v := ?_) (a' := ?_) #[true, false, false, false, false, false, false, false, false, false, false, false, false, false, false, false] rfl rfl (by kernel_rfl) (fun _ _ _ h => h) (Or.inl ⟨by rfl, ?_⟩) ?_ ?_
     rotate_left
     ·intro w'
      go_simp
      with_reducible rfl
     rotate_left
     ·simp only [Act.put, List.setIfInBounds_toArray, List.set_cons_zero, List.set_cons_succ, i64_w, i32_w]
      rfl
     refine pure_ (i := 1) (N := some 64) (v := ?_) (a' := ?_) #[true, true, false, false, false, false, false, false, false, false, false, false, false, false, false, false] rfl rfl (by kernel_rfl) (fun _ _ _ h => h) (Or.inl ⟨by rfl, ?_⟩) ?_ ?_
     rotate_left
     ·intro w'
      go_simp
      with_reducible rfl
     rotate_left
     ·simp only [Act.put, List.setIfInBounds_toArray, List.set_cons_zero, List.set_cons_succ, i64_w, i32_w]
      rfl
     refine pure_ (i := 2) (N := some 65) (v := ?_) (a' := ?_) #[true, true, true, false, false, false, false, false, false, false, false, false, false, false, false, false] rfl rfl (by kernel_rfl) (fun _ _ _ h => h) (Or.inl ⟨by rfl, ?_⟩) ?_ ?_
     rotate_left
     ·intro w'
      go_simp
      with_reducible rfl
     rotate_left
     ·simp only [Act.put, List.setIfInBounds_toArray, List.set_cons_zero, List.set_cons_succ, i64_w, i32_w]
      rfl
     refine pure_ (i := 3) (N := some 66) (v := ?_) (a' := ?_) #[true, true, true, true, false, false, false, false, false, false, false, false, false, false, false, false] rfl rfl (by kernel_rfl) (fun _ _ _ h => h) (Or.inl ⟨by rfl, ?_⟩) ?_ ?_
     rotate_left
     ·intro w'
      go_simp
      with_reducible rfl
     rotate_left
     ·simp only [Act.put, List.setIfInBounds_toArray, List.set_cons_zero, List.set_cons_succ, i64_w, i32_w]
      rfl
     refine pure_ (i := 6) (N := some 69) (v := ?_) (a' := ?_) #[true, true, true, true, false, false, true, false, false, false, false, false, false, false, false, false] rfl rfl (by kernel_rfl) (fun _ _ _ h => h) (Or.inl ⟨by rfl, ?_⟩) ?_ ?_
     rotate_left
     ·intro w'
      go_simp
      with_reducible rfl
     rotate_left
     ·simp only [Act.put, List.setIfInBounds_toArray, List.set_cons_zero, List.set_cons_succ, i64_w, i32_w]
      rfl
     refine take_ (i := 4) (N := some 67) (v := ?_) (a' := ?_) #[true, true, true, true, true, false, true, false, false, false, false, false, false, false, false, false] rfl rfl (by kernel_rfl) (fun _ _ _ h => h) (Or.inl ⟨by rfl, ?_⟩) hHeld ?_ ?_
     rotate_left
     ·rintro w' ⟨s0, s1⟩
      go_simp
      with_reducible rfl
     rotate_left
     ·simp only [Act.put, List.setIfInBounds_toArray, List.set_cons_zero, List.set_cons_succ, i64_w, i32_w]
      rfl
     refine take_ (i := 7) (N := some 70) (v := ?_) (a' := ?_) #[true, true, true, true, true, false, true, true, false, false, false, false, false, false, false, false] rfl rfl (by kernel_rfl) (fun _ _ _ h => h) (Or.inl ⟨by rfl, ?_⟩) hHeld ?_ ?_
     rotate_left
     ·rintro w' ⟨s0, s1⟩
      go_simp
      with_reducible rfl
     rotate_left
     ·simp only [Act.put, List.setIfInBounds_toArray, List.set_cons_zero, List.set_cons_succ, i64_w, i32_w]
      rfl
     refine pure_ (i := 8) (N := some 71) (v := ?_) (a' := ?_) #[true, true, true, true, true, false, true, true, true, false, false, false, false, false, false, false] rfl rfl (by kernel_rfl) (fun _ _ _ h => h) (Or.inl ⟨by rfl, ?_⟩) ?_ ?_
     rotate_left
     ·intro w'
      go_simp
      with_reducible rfl
     rotate_left
     ·simp only [Act.put, List.setIfInBounds_toArray, List.set_cons_zero, List.set_cons_succ, i64_w, i32_w]
      rfl
     refine pure_ (i := 9) (N := some 72) (v := ?_) (a' := ?_) #[true, true, true, true, true, false, true, true, true, true, false, false, false, false, false, false] rfl rfl (by kernel_rfl) (fun _ _ _ h => h) (Or.inl ⟨by rfl, ?_⟩) ?_ ?_
     rotate_left
     ·intro w'
      go_simp
      with_reducible rfl
     rotate_left
     ·simp only [Act.put, List.setIfInBounds_toArray, List.set_cons_zero, List.set_cons_succ, i64_w, i32_w]
      rfl
     refine one_ (i := 5) (N := some 68) #[true, true, true, true, true, true, true, true, true, true, false, false, false, false, false, false] rfl rfl (by kernel_rfl) (by decide) (fun K hK => ?_)
     refine value_ (w1 := ?_) (v := ?_) (by rfl) rfl ?_ ?_
     rotate_left 2
     ·go_simp
      constructor
      ·rfl
      ·rfl
     have HL := Aside0.mk (blk_new V (Obj.cells #[Value.int IntKind.u64 18446744073709551615] 100))
     have HSa := Aside0.mk (HS1.out.on (below_alloc (Below.refl _ _) (Obj.cells #[Value.int IntKind.u64 18446744073709551615] 100)))
     have HKa := Aside0.mk (HK1.out.below (below_alloc (Below.refl _ _) (Obj.cells #[Value.int IntKind.u64 18446744073709551615] 100)))
     have HBa := Aside0.mk (below_alloc HB1.out (Obj.cells #[Value.int IntKind.u64 18446744073709551615] 100))
     refine hK.out _ _ ⟨later (below_alloc (Below.refl _ _) _) hHeld.1, later (below_alloc (Below.refl _ _) _) hHeld.2⟩ (fun hHeld => ?_)
     clear hK K
     refine norm_ (a' := ?_) ?_ ?_
     rotate_left
     ·show Act.put _ (some 68) _ = _
      simp only [Act.put, List.setIfInBounds_toArray, List.set_cons_zero, List.set_cons_succ, i64_w, i32_w]
      rfl
     refine one_ (i := 10) (N := some 73) #[true, true, true, true, true, true, true, true, true, true, true, false, false, false, false, false] rfl rfl (by kernel_rfl) (by decide) (fun K hK => ?_)
     refine goes_ Try.func114 (by kernel_rfl) rfl #[.slice (some ⟨V.heap.size, 0, none⟩) 1 1, .int .i64 (wrap64 1)] (by rfl) rfl rfl (by simp only [List.map_toArray, List.map_cons, List.map_nil]; rfl) ?_
     rw [show wrap64 1 = 1 from by unfold wrap64; omega]
     refine (repeat_one V.heap.size 1 18446744073709551615 _ ((blk_cell HL.out 0).trans rfl)).mono ?_
     rintro e w4 ⟨g, rfl, hg1, hg2, hg3⟩
     refine ⟨_, rfl, ?_⟩
     have HSb := Aside0.mk (HSa.out.on hg3)
     have HKb := Aside0.mk (HKa.out.below hg3)
     have HBb := Aside0.mk (below_then HBa.out HBa.out.size hg3)
     have HGb := Aside0.mk (And.intro hg1 hg2)
     have hg3' := Aside0.mk hg3
     clear hg1 hg2 hg3
     refine hK.out _ _ ⟨later hg3'.out hHeld.1, later hg3'.out hHeld.2⟩ (fun hHeld => ?_)
     clear hK K
     refine norm_ (a' := ?_) ?_ ?_
     rotate_left
     ·show Act.put _ (some 73) _ = _
      simp only [Act.put, List.setIfInBounds_toArray, List.set_cons_zero, List.set_cons_succ, i64_w, i32_w]
      rfl
     refine one_ (i := 11) (N := some 74) #[true, true, true, true, true, true, true, true, true, true, true, true, false, false, false, false] rfl rfl (by kernel_rfl) (by decide) (fun K hK => ?_)
     refine value_ (w1 := ?_) (v := ?_) (by rfl) rfl ?_ ?_
     rotate_left 2
     ·go_simp
      constructor
      ·rfl
      ·rfl
     refine hK.out _ _ ⟨later (below_alloc (Below.refl _ _) _) hHeld.1, later (below_alloc (Below.refl _ _) _) hHeld.2⟩ (fun hHeld => ?_)
     clear hK K
     refine norm_ (a' := ?_) ?_ ?_
     rotate_left
     ·show Act.put _ (some 74) _ = _
      simp only [Act.put, List.setIfInBounds_toArray, List.set_cons_zero, List.set_cons_succ, i64_w, i32_w]
      rfl
     refine one_ (i := 12) (N := some 75) #[true, true, true, true, true, true, true, true, true, true, true, true, true, false, false, false] rfl rfl (by kernel_rfl) (by decide) (fun K hK => ?_)
     refine Kd.R_append_step kB (w0 := w) w.heap.size (by rfl) (.tmp 67) (.tmp 74) 139 138 (.slice none 0 0) 24 rfl Try.underlying139 info_sset rfl (by decide) (by omega) (.slice Af k cf) bs g [.slice (some ⟨g, 0, none⟩) 1 1] (fun _ => True) (fun _ => False) rfl rfl ?aP (fun _ hk => hk.elim) ?aF ?aO ?aB ?aS ?aL ?_
     (case aP => rfl)
     (case aF => exact fun _ _ => trivial)
     (case aO => exact HSb.out.fol.row)
     (case aB => exact HBb.out)
     (case aS => exact HBb.out.size)
     (case aL => rw [HK.out]; omega)
     intro v1 w5 ho hb hg hat
     obtain ⟨A4, c4, hv4⟩ := Kd.R_slice ho
     rw [List.length_append, List.length_singleton] at hv4
     subst hv4
     have HO := Aside0.mk ho
     have HG := Aside0.mk hg
     have HB5 := Aside0.mk hb
     clear ho hb hg hat
     have hty : ∀ q, (Value.slice Af k cf).ownBlock = some q → ∃ cells, w4.heap[q]? = some (.cells cells 138 (0, 0)) := fun q hq => Kd.R_typed HSb.out.fol.row q hq
     have hneT : some T ≠ (Value.slice Af k cf).ownBlock := Kd.R_ne HSb.out.fol.row HSb.out.tb (by decide)
     have hneB : some w.heap.size ≠ (Value.slice Af k cf).ownBlock := Kd.R_ne HSb.out.fol.row HKb.out (by decide)
     have hT5 := (HG.out.block T (blk_lt HSb.out.tb) hneT).trans HSb.out.tb
     have fz : w5.frozen? ⟨T, 5, none⟩ = false := blk_frozen hT5 5
     refine hK.out _ _ ⟨(blk_cell hT5 5).trans rfl, cell_grown HG.out HKb.out.c0 hneB⟩ (fun hHeld => ?_)
     clear hK K
     refine norm_ (a' := ?_) ?_ ?_
     rotate_left
     ·show Act.put _ (some 75) _ = _
      simp only [Act.put, List.setIfInBounds_toArray, List.set_cons_zero, List.set_cons_succ, i64_w, i32_w]
      rfl
     refine pure_ (i := 13) (N := some 76) (v := ?_) (a' := ?_) #[true, true, true, true, true, true, true, true, true, true, true, true, true, true, false, false] rfl rfl (by kernel_rfl) (fun _ _ _ h => h) (Or.inl ⟨by rfl, ?_⟩) ?_ ?_
     rotate_left
     ·intro w'
      go_simp
      with_reducible rfl
     rotate_left
     ·simp only [Act.put, List.setIfInBounds_toArray, List.set_cons_zero, List.set_cons_succ, i64_w, i32_w]
      rfl
     refine pure_ (i := 14) (N := some 77) (v := ?_) (a' := ?_) #[true, true, true, true, true, true, true, true, true, true, true, true, true, true, true, false] rfl rfl (by kernel_rfl) (fun _ _ _ h => h) (Or.inl ⟨by rfl, ?_⟩) ?_ ?_
     rotate_left
     ·intro w'
      go_simp
      with_reducible rfl
     rotate_left
     ·simp only [Act.put, List.setIfInBounds_toArray, List.set_cons_zero, List.set_cons_succ, i64_w, i32_w]
      rfl
     refine last_ (i := 15) (N := none) #[true, true, true, true, true, true, true, true, true, true, true, true, true, true, true, true] rfl rfl (by kernel_rfl) (by decide) (fun K hK => ?_)
     refine skip_ (w1 := ?_) (by rfl) rfl ?_ ?_
     rotate_left
     ·go_simp
      rfl
     refine hK.out _ _ ?_
     clear hK K
     refine done_ (by kernel_rfl) ?_
     have hfin : SimT w.heap.size (w5.setCell ⟨T, 5, none⟩ (.slice A4 (bs.length + 1) c4)) gi go T n (.slice A1 ls.length c1) (.slice A2 es.length c2) es es (.slice A4 (bs.length + 1) c4) (bs ++ [g]) (fun _ _ => true) := by
      refine HSb.out.follow HO.out HG.out ?_ ?_ ?_
      ·unfold OneW
       rw [word_all]
       exact HGb.out.2
      ·exact Nat.le_trans HBa.out.size HGb.out.1
      ·intro s hs e
       have h1 := blk_lt (show V.heap[bs.getD s 0]? = _ from HS1.out.fol.set s hs)
       have h2 := HGb.out.1
       simp at h2
       omega
     have HFin := Aside0.mk hfin
     have HK3 := Aside0.mk (show BoxL (w5.setCell ⟨T, 5, none⟩ (.slice A4 (bs.length + 1) c4)) w.heap.size n (.slice A1 ls.length c1) (.slice A2 es.length c2) from blk_keep HG.out hty HKb.out (by decide) (by intro e; exact blk_ne HKb.out HSb.out.tb (by decide) e) 5)
     have HB6 := Aside0.mk (show Below w.heap.size w (w5.setCell ⟨T, 5, none⟩ (.slice A4 (bs.length + 1) c4)) from below_set HB5.out HSb.out.bt)
     clear hfin hneT hneB hT5 fz hty hq hqq hq2
     go_wp2
     go_roundw
     case rel => exact ⟨k + 1, _, bs ++ [g], by omega, by go_num, by rw [List.length_append, HK.out]; rfl, HFin, HK3, HB6⟩
     case measure => simp [intOf]; omega
    ·have ek : k = n := by omega
     subst ek
     go_wp2
     go_ret
     exact ⟨gi, go, T, vf, bs, rfl, HS.out, HK.out, HBr.out⟩
end Go.Proofs.Ytmpiokdomjchiaa.H
set_option linter.unusedVariables false
set_option linter.unusedSimpArgs false
namespace Go.Proofs.Ytmpiokdomjchiaa.H
open Go.RowKit Go.Proofs.Ytmpiokdomjchiaa.Pr Go.Proofs.YtmpiokdomjchiaaW.PrintWords Go.Proofs.Ytmpiokdomjchiaa.Sem Go.Proofs.YtmpiokdomjchiaaW.PrintLast
def outE (es : List Ed) (i : Int) : List Ed := es.filter fun e => decide (e.f0 = i)
def answers (S : Int → Int → Bool) (turned : Bool) (e f : Ed) : Bool := (e.f1 == f.f1) && (if turned then S f.f2 e.f2 else S e.f2 f.f2)
def followsB (es : List Ed) (S : Int → Int → Bool) (turned : Bool) (a b : Int) : Bool :=
 (outE es (if turned then b else a)).all fun e => (outE es (if turned then a else b)).any fun f => answers S turned e f
theorem all_no {α : Type} (d : α) {p : α → Bool} {xs : List α} {k : Nat} (hk : k < xs.length) (h : p (xs.getD k d) = false) : xs.all p = false := by
 rw [Bool.eq_false_iff]
 intro he
 have := List.all_eq_true.1 he (xs.getD k d) (by rw [List.getD_eq_getElem?_getD, List.getElem?_eq_getElem hk]; exact List.getElem_mem hk)
 rw [h] at this
 cases this
theorem all_yes {α : Type} (d : α) {p : α → Bool} {xs : List α} {k : Nat} (hk : ¬ k < xs.length) (h : ∀ j, j < k → p (xs.getD j d) = true) : xs.all p = true := by
 rw [List.all_eq_true]
 intro x hx
 obtain ⟨j, hj, rfl⟩ := List.getElem_of_mem hx
 have := h j (by omega)
 rwa [List.getD_eq_getElem?_getD, List.getElem?_eq_getElem hj] at this
theorem any_yes {α : Type} (d : α) {p : α → Bool} {xs : List α} {k : Nat} (hk : k < xs.length) (h : p (xs.getD k d) = true) : xs.any p = true :=
 List.any_eq_true.2 ⟨xs.getD k d, by rw [List.getD_eq_getElem?_getD, List.getElem?_eq_getElem hk]; exact List.getElem_mem hk, h⟩
theorem any_no {α : Type} (d : α) {p : α → Bool} {xs : List α} {k : Nat} (hk : ¬ k < xs.length) (h : ∀ j, j < k → p (xs.getD j d) = false) : xs.any p = false := by
 rw [List.any_eq_false]
 intro x hx
 obtain ⟨j, hj, rfl⟩ := List.getElem_of_mem hx
 have := h j (by omega)
 rw [List.getD_eq_getElem?_getD, List.getElem?_eq_getElem hj] at this
 simpa using this
theorem outE_at {n : Int} {ls : List ByteArray} {es : List Ed} (h : mayR n ls es = true) (i : Int) {k : Nat} (hk : k < (outE es i).length) : 0 ≤ ((outE es i).getD k z81).f2 ∧ ((outE es i).getD k z81).f2 < n := by
 have hm : (outE es i).getD k z81 ∈ es := by
  rw [List.getD_eq_getElem?_getD, List.getElem?_eq_getElem hk]
  exact (List.mem_filter.1 (List.getElem_mem hk)).1
 obtain ⟨j, hj, he⟩ := List.getElem_of_mem hm
 have := (es_at h hj).2
 rw [List.getD_eq_getElem?_getD, List.getElem?_eq_getElem hj] at this
 simpa [he] using this
theorem okNode {n x : Int} (h0 : 0 ≤ x) (h1 : x < n) (hn : n ≤ 2048) : i64ok x := by unfold i64ok; omega
set_option maxHeartbeats 8000000 in
set_option maxRecDepth 100000 in
theorem follows_false (base : Nat) (n : Nat) (ls : List ByteArray) (es : List Ed) (cnt : Nat) (S : Int → Int → Bool) (H a b : Nat) (w : World) (hT : TableAt base w H n es cnt S) (hm : mayR n ls es = true) (ha : a < n) (hb : b < n) :
  Calls Try.prog 63 #[.pointer (some ⟨H + 1 + 1, 0, none⟩), .agg #[.int .i64 a, .int .i64 b], .bool false] w fun e w' => e = .returned (.bool (followsB es S false a b)) ∧ Below w.heap.size w w' := by
 have HB := Aside0.mk (Below.refl w.heap.size w)
 have HT := Aside0.mk hT
 have HM := Aside0.mk hm
 obtain ⟨l, hl⟩ : ∃ l : Nat, l = a := ⟨_, rfl⟩
 obtain ⟨r, hr⟩ : ∃ r : Nat, r = b := ⟨_, rfl⟩
 have hln : l < n := by omega
 have hrn : r < n := by omega
 have l0 : (0 : Int) ≤ (a : Int) := by omega
 have l1 : (a : Int) < (n : Int) := by omega
 have r0 : (0 : Int) ≤ (b : Int) := by omega
 have r1 : (b : Int) < (n : Int) := by omega
 obtain ⟨A1, c1, hc1, hC1⟩ := hT.row hln
 obtain ⟨A2, c2, hc2, hC2⟩ := hT.row hrn
 rw [show (es.filter fun e => decide (e.f0 = (l : Int))) = outE es (l : Int) from rfl] at hc1 hC1
 rw [show (es.filter fun e => decide (e.f0 = (r : Int))) = outE es (r : Int) from rfl] at hc2 hC2
 obtain ⟨L, hL⟩ : ∃ L, L = outE es (l : Int) := ⟨_, rfl⟩
 obtain ⟨R, hR⟩ : ∃ R, R = outE es (r : Int) := ⟨_, rfl⟩
 rw [← hL] at hc1 hC1
 rw [← hR] at hc2 hC2
 have hfb : followsB es S false a b = L.all fun e => R.any fun f => answers S false e f := by rw [hL, hR, hl, hr]; rfl
 rw [hfb]
 have HLn := Aside0.mk hL
 have HRn := Aside0.mk hR
 rw [hl] at hc1
 rw [hr] at hc2
 have t1 := fun o m => later (pw_below_drewN (below_alloc (Below.refl _ _) o) m) hT.t0
 have t2 := fun o m => later (pw_below_drewN (below_alloc (Below.refl _ _) o) m) hc1
 have HC1 := Aside0.mk hC1
 have HC2 := Aside0.mk hC2
 have HR2 := Aside0.mk hc2
 have hll := C_len hC1
 have hlr := C_len hC2
 clear hT hm hfb hL hR hc1 hc2 hC1 hC2 hl hr
 go_enter Try.func63, Try.ntmps63
 go_wp2
 go_step3
 go_wp2_with fail
 go_quiet (fail)
 go_wp2
 go_step3
 go_wp2
 clear t1 t2
 go_loopw [29] (fun i wr => ∃ k : Nat, k ≤ L.length ∧ i = .int .i64 k ∧ Aside0 (∀ j, j < k → (R.any fun f => answers S false (L.getD j z81) f) = true) ∧ Aside0 (TableAt base wr H n es cnt S) ∧ Aside0 (Below w.heap.size w wr)) (fun i _ => L.length - (intOf i).toNat)
 case atStart => exact ⟨0, Nat.zero_le _, rfl, ⟨fun j hj => by omega⟩, ⟨HT.out.on (pw_below_drewN (below_alloc (Below.refl _ _) _) _)⟩, ⟨pw_below_drewN (below_alloc (Below.refl _ _) _) _⟩⟩
 case round =>
  obtain ⟨k, hk, rfl, hz, HTr, HBr⟩ := hrel
  by_cases hlt : k < L.length
  ·obtain ⟨ad, hA, g0, g1, g2⟩ := atE HC1.out k hlt
   subst hA
   replace g0 := later HBr.out g0
   replace g1 := later HBr.out g1
   replace g2 := later HBr.out g2
   obtain ⟨x, hx⟩ : ∃ x, x = L.getD k z81 := ⟨_, rfl⟩
   have hxn : 0 ≤ x.f2 ∧ x.f2 < n := by
    rw [hx, HLn.out]
    exact outE_at HM.out _ (by rw [← HLn.out]; exact hlt)
   rw [← hx] at g0 g1 g2
   have hx' := Aside0.mk hx
   have HXN := Aside0.mk hxn
   clear hx hxn
   have t1 := fun o => later (below_alloc (Below.refl _ _) o) HTr.out.t0
   have t2 := fun o => later (below_then HBr.out HBr.out.size (below_alloc (Below.refl _ _) o)) HR2.out
   go_wp2
   clear t1 t2 g0 g1 g2
   obtain ⟨E, hE⟩ : ∃ E, E = wr.heap.size := ⟨_, rfl⟩
   rw [← hE]
   have e1 := (blk_cell (blk_new wr (Obj.cells #[Value.int IntKind.i64 x.f0, Value.int IntKind.i64 x.f1, Value.int IntKind.i64 x.f2] 81)) 1).trans rfl
   have e2 := (blk_cell (blk_new wr (Obj.cells #[Value.int IntKind.i64 x.f0, Value.int IntKind.i64 x.f1, Value.int IntKind.i64 x.f2] 81)) 2).trans rfl
   rw [← hE] at e1 e2
   have HE := Aside0.mk (And.intro e1 e2)
   have HT1 := Aside0.mk (HTr.out.on (below_alloc (Below.refl _ _) (Obj.cells #[Value.int IntKind.i64 x.f0, Value.int IntKind.i64 x.f1, Value.int IntKind.i64 x.f2] 81)))
   have HB1 := Aside0.mk (below_then HBr.out HBr.out.size (below_alloc (Below.refl _ _) (Obj.cells #[Value.int IntKind.i64 x.f0, Value.int IntKind.i64 x.f1, Value.int IntKind.i64 x.f2] 81)))
   clear hE e1 e2
   go_loopw [41] (fun i wr2 => ∃ j : Nat, j ≤ R.length ∧ i = .int .i64 j ∧ Aside0 (∀ i, i < j → answers S false x (R.getD i z81) = false) ∧ Aside0 (wr2.cell? ⟨E, 1, none⟩ = some (.int .i64 x.f1) ∧ wr2.cell? ⟨E, 2, none⟩ = some (.int .i64 x.f2)) ∧ Aside0 (TableAt base wr2 H n es cnt S) ∧ Aside0 (Below w.heap.size w wr2)) (fun i _ => R.length - (intOf i).toNat)
   case atStart => exact ⟨0, Nat.zero_le _, rfl, ⟨fun j hj => by omega⟩, HE, HT1, HB1⟩
   case round =>
    clear HE HT1 HB1 HTr HBr
    obtain ⟨j, hj, rfl, hz2, HE, HTr, HBr⟩ := hrel
    by_cases hlt2 : j < R.length
    ·obtain ⟨ad2, hA2, g0, g1, g2⟩ := atE HC2.out j hlt2
     subst hA2
     replace g0 := later HBr.out g0
     replace g1 := later HBr.out g1
     replace g2 := later HBr.out g2
     obtain ⟨y, hy⟩ : ∃ y, y = R.getD j z81 := ⟨_, rfl⟩
     have hyn : 0 ≤ y.f2 ∧ y.f2 < n := by
      rw [hy, HRn.out]
      exact outE_at HM.out _ (by rw [← HRn.out]; exact hlt2)
     rw [← hy] at g0 g1 g2
     have hy' := Aside0.mk hy
     have HYN := Aside0.mk hyn
     clear hy hyn
     have hn := (n_le HM.out).2
     have e1 := fun o1 => later (below_alloc (Below.refl _ _) o1) HE.out.1
     have e2 := fun o1 => later (below_alloc (Below.refl _ _) o1) HE.out.2
     have e2'' := fun o1 o2 => later (below_alloc (below_alloc (Below.refl _ _) o1) o2) HE.out.2
     have e1' := fun o1 o2 m => later (pw_below_drewN (below_alloc (below_alloc (Below.refl _ _) o1) o2) m) HE.out.1
     have e2' := fun o1 o2 m => later (pw_below_drewN (below_alloc (below_alloc (Below.refl _ _) o1) o2) m) HE.out.2
     have t1 := fun o1 o2 m => later (pw_below_drewN (below_alloc (below_alloc (Below.refl _ _) o1) o2) m) HTr.out.t1
     have lk := fun o1 o2 m => (HTr.out.pm.below (pw_below_drewN (below_alloc (below_alloc (Below.refl _ _) o1) o2) m)).look (okNode HXN.out.1 HXN.out.2 hn) (okNode HYN.out.1 HYN.out.2 hn)
     clear hn
     cases hq : (x.f1 == y.f1) with
     | false =>
      have hq2 : decide (x.f1 = y.f1) = false := by simpa using hq
      have HQ := Aside0.mk hq
      go_wp2_with fail
      go_quiet (fail)
      clear hq hq2
      go_wp2
      go_roundw
      case rel =>
       refine ⟨j + 1, by omega, by go_num, ⟨fun i hi => ?_⟩, ⟨e1' _ _ _, e2' _ _ _⟩, ⟨HTr.out.on (pw_below_drewN (below_alloc (below_alloc (Below.refl _ _) _) _) _)⟩, ⟨below_then HBr.out HBr.out.size (pw_below_drewN (below_alloc (below_alloc (Below.refl _ _) _) _) _)⟩⟩
       rcases Nat.lt_succ_iff_lt_or_eq.1 hi with h | rfl
       ·exact hz2.out i h
       ·unfold answers; rw [← hy'.out, HQ.out]; rfl
      case measure => simp [intOf]; omega
     | true =>
      have hq2 : decide (x.f1 = y.f1) = true := by simpa using hq
      have HQ := Aside0.mk hq
      cases hS : S x.f2 y.f2 with
      | false =>
       rw [hS] at lk
       have HS := Aside0.mk (show answers S false x y = false by unfold answers; rw [hq]; simpa using hS)
       clear hS
       unfold bit at lk
       rw [if_neg (by simp)] at lk
       go_wp2_with fail
       go_quiet (fail)
       clear hq hq2 lk
       go_wp2
       go_roundw
       case rel =>
        refine ⟨j + 1, by omega, by go_num, ⟨fun i hi => ?_⟩, ⟨e1' _ _ _, e2' _ _ _⟩, ⟨HTr.out.on (pw_below_drewN (below_alloc (below_alloc (Below.refl _ _) _) _) _)⟩, ⟨below_then HBr.out HBr.out.size (pw_below_drewN (below_alloc (below_alloc (Below.refl _ _) _) _) _)⟩⟩
        rcases Nat.lt_succ_iff_lt_or_eq.1 hi with h | rfl
        ·exact hz2.out i h
        ·rw [← hy'.out]; exact HS.out
       case measure => simp [intOf]; omega
      | true =>
       rw [hS] at lk
       have HS := Aside0.mk (show answers S false x y = true by unfold answers; rw [hq]; simpa using hS)
       clear hS
       unfold bit at lk
       rw [if_pos rfl] at lk
       go_wp2_with fail
       go_quiet (fail)
       clear hq hq2 lk
       go_wp2
       go_roundw
       case rel =>
        refine ⟨k + 1, by omega, by go_num, ⟨fun i hi => ?_⟩, ⟨HTr.out.on (pw_below_drewN (below_alloc (below_alloc (Below.refl _ _) _) _) _)⟩, ⟨below_then HBr.out HBr.out.size (pw_below_drewN (below_alloc (below_alloc (Below.refl _ _) _) _) _)⟩⟩
        rcases Nat.lt_succ_iff_lt_or_eq.1 hi with h | rfl
        ·exact hz.out i h
        ·rw [← hx'.out]; exact any_yes z81 hlt2 (by rw [← hy'.out]; exact HS.out)
       case measure => simp [intOf]; omega
    ·have HNo := Aside0.mk (any_no z81 hlt2 hz2.out)
     have HFin := Aside0.mk (all_no (p := fun e => R.any fun f => answers S false e f) z81 hlt (by rw [← hx'.out]; exact HNo.out))
     go_wp2
     try rw [Exit.noGoto_ret]
     go_ret
     exact ⟨ret_bool HFin.out.symm, HBr.out⟩
  ·have HFin := Aside0.mk (all_yes (p := fun e => R.any fun f => answers S false e f) z81 hlt hz.out)
   go_wp2
   try rw [Exit.noGoto_ret]
   go_ret
   exact ⟨ret_bool HFin.out.symm, HBr.out⟩
set_option maxHeartbeats 8000000 in
set_option maxRecDepth 100000 in
theorem follows_true (base : Nat) (n : Nat) (ls : List ByteArray) (es : List Ed) (cnt : Nat) (S : Int → Int → Bool) (H a b : Nat) (w : World) (hT : TableAt base w H n es cnt S) (hm : mayR n ls es = true) (ha : a < n) (hb : b < n) :
  Calls Try.prog 63 #[.pointer (some ⟨H + 1 + 1, 0, none⟩), .agg #[.int .i64 a, .int .i64 b], .bool true] w fun e w' => e = .returned (.bool (followsB es S true a b)) ∧ Below w.heap.size w w' := by
 have HB := Aside0.mk (Below.refl w.heap.size w)
 have HT := Aside0.mk hT
 have HM := Aside0.mk hm
 obtain ⟨l, hl⟩ : ∃ l : Nat, l = b := ⟨_, rfl⟩
 obtain ⟨r, hr⟩ : ∃ r : Nat, r = a := ⟨_, rfl⟩
 have hln : l < n := by omega
 have hrn : r < n := by omega
 have l0 : (0 : Int) ≤ (b : Int) := by omega
 have l1 : (b : Int) < (n : Int) := by omega
 have r0 : (0 : Int) ≤ (a : Int) := by omega
 have r1 : (a : Int) < (n : Int) := by omega
 obtain ⟨A1, c1, hc1, hC1⟩ := hT.row hln
 obtain ⟨A2, c2, hc2, hC2⟩ := hT.row hrn
 rw [show (es.filter fun e => decide (e.f0 = (l : Int))) = outE es (l : Int) from rfl] at hc1 hC1
 rw [show (es.filter fun e => decide (e.f0 = (r : Int))) = outE es (r : Int) from rfl] at hc2 hC2
 obtain ⟨L, hL⟩ : ∃ L, L = outE es (l : Int) := ⟨_, rfl⟩
 obtain ⟨R, hR⟩ : ∃ R, R = outE es (r : Int) := ⟨_, rfl⟩
 rw [← hL] at hc1 hC1
 rw [← hR] at hc2 hC2
 have hfb : followsB es S true a b = L.all fun e => R.any fun f => answers S true e f := by rw [hL, hR, hl, hr]; rfl
 rw [hfb]
 have HLn := Aside0.mk hL
 have HRn := Aside0.mk hR
 rw [hl] at hc1
 rw [hr] at hc2
 have t1 := fun o m => later (pw_below_drewN (below_alloc (Below.refl _ _) o) m) hT.t0
 have t2 := fun o m => later (pw_below_drewN (below_alloc (Below.refl _ _) o) m) hc1
 have HC1 := Aside0.mk hC1
 have HC2 := Aside0.mk hC2
 have HR2 := Aside0.mk hc2
 have hll := C_len hC1
 have hlr := C_len hC2
 clear hT hm hfb hL hR hc1 hc2 hC1 hC2 hl hr
 go_enter Try.func63, Try.ntmps63
 go_wp2
 go_step3
 go_wp2_with fail
 go_quiet (fail)
 go_wp2
 go_step3
 go_wp2
 clear t1 t2
 go_loopw [29] (fun i wr => ∃ k : Nat, k ≤ L.length ∧ i = .int .i64 k ∧ Aside0 (∀ j, j < k → (R.any fun f => answers S true (L.getD j z81) f) = true) ∧ Aside0 (TableAt base wr H n es cnt S) ∧ Aside0 (Below w.heap.size w wr)) (fun i _ => L.length - (intOf i).toNat)
 case atStart => exact ⟨0, Nat.zero_le _, rfl, ⟨fun j hj => by omega⟩, ⟨HT.out.on (pw_below_drewN (below_alloc (Below.refl _ _) _) _)⟩, ⟨pw_below_drewN (below_alloc (Below.refl _ _) _) _⟩⟩
 case round =>
  obtain ⟨k, hk, rfl, hz, HTr, HBr⟩ := hrel
  by_cases hlt : k < L.length
  ·obtain ⟨ad, hA, g0, g1, g2⟩ := atE HC1.out k hlt
   subst hA
   replace g0 := later HBr.out g0
   replace g1 := later HBr.out g1
   replace g2 := later HBr.out g2
   obtain ⟨x, hx⟩ : ∃ x, x = L.getD k z81 := ⟨_, rfl⟩
   have hxn : 0 ≤ x.f2 ∧ x.f2 < n := by
    rw [hx, HLn.out]
    exact outE_at HM.out _ (by rw [← HLn.out]; exact hlt)
   rw [← hx] at g0 g1 g2
   have hx' := Aside0.mk hx
   have HXN := Aside0.mk hxn
   clear hx hxn
   have t1 := fun o => later (below_alloc (Below.refl _ _) o) HTr.out.t0
   have t2 := fun o => later (below_then HBr.out HBr.out.size (below_alloc (Below.refl _ _) o)) HR2.out
   go_wp2
   clear t1 t2 g0 g1 g2
   obtain ⟨E, hE⟩ : ∃ E, E = wr.heap.size := ⟨_, rfl⟩
   rw [← hE]
   have e1 := (blk_cell (blk_new wr (Obj.cells #[Value.int IntKind.i64 x.f0, Value.int IntKind.i64 x.f1, Value.int IntKind.i64 x.f2] 81)) 1).trans rfl
   have e2 := (blk_cell (blk_new wr (Obj.cells #[Value.int IntKind.i64 x.f0, Value.int IntKind.i64 x.f1, Value.int IntKind.i64 x.f2] 81)) 2).trans rfl
   rw [← hE] at e1 e2
   have HE := Aside0.mk (And.intro e1 e2)
   have HT1 := Aside0.mk (HTr.out.on (below_alloc (Below.refl _ _) (Obj.cells #[Value.int IntKind.i64 x.f0, Value.int IntKind.i64 x.f1, Value.int IntKind.i64 x.f2] 81)))
   have HB1 := Aside0.mk (below_then HBr.out HBr.out.size (below_alloc (Below.refl _ _) (Obj.cells #[Value.int IntKind.i64 x.f0, Value.int IntKind.i64 x.f1, Value.int IntKind.i64 x.f2] 81)))
   clear hE e1 e2
   go_loopw [41] (fun i wr2 => ∃ j : Nat, j ≤ R.length ∧ i = .int .i64 j ∧ Aside0 (∀ i, i < j → answers S true x (R.getD i z81) = false) ∧ Aside0 (wr2.cell? ⟨E, 1, none⟩ = some (.int .i64 x.f1) ∧ wr2.cell? ⟨E, 2, none⟩ = some (.int .i64 x.f2)) ∧ Aside0 (TableAt base wr2 H n es cnt S) ∧ Aside0 (Below w.heap.size w wr2)) (fun i _ => R.length - (intOf i).toNat)
   case atStart => exact ⟨0, Nat.zero_le _, rfl, ⟨fun j hj => by omega⟩, HE, HT1, HB1⟩
   case round =>
    clear HE HT1 HB1 HTr HBr
    obtain ⟨j, hj, rfl, hz2, HE, HTr, HBr⟩ := hrel
    by_cases hlt2 : j < R.length
    ·obtain ⟨ad2, hA2, g0, g1, g2⟩ := atE HC2.out j hlt2
     subst hA2
     replace g0 := later HBr.out g0
     replace g1 := later HBr.out g1
     replace g2 := later HBr.out g2
     obtain ⟨y, hy⟩ : ∃ y, y = R.getD j z81 := ⟨_, rfl⟩
     have hyn : 0 ≤ y.f2 ∧ y.f2 < n := by
      rw [hy, HRn.out]
      exact outE_at HM.out _ (by rw [← HRn.out]; exact hlt2)
     rw [← hy] at g0 g1 g2
     have hy' := Aside0.mk hy
     have HYN := Aside0.mk hyn
     clear hy hyn
     have hn := (n_le HM.out).2
     have e1 := fun o1 => later (below_alloc (Below.refl _ _) o1) HE.out.1
     have e2 := fun o1 => later (below_alloc (Below.refl _ _) o1) HE.out.2
     have e2'' := fun o1 o2 => later (below_alloc (below_alloc (Below.refl _ _) o1) o2) HE.out.2
     have e1' := fun o1 o2 m => later (pw_below_drewN (below_alloc (below_alloc (Below.refl _ _) o1) o2) m) HE.out.1
     have e2' := fun o1 o2 m => later (pw_below_drewN (below_alloc (below_alloc (Below.refl _ _) o1) o2) m) HE.out.2
     have t1 := fun o1 o2 m => later (pw_below_drewN (below_alloc (below_alloc (Below.refl _ _) o1) o2) m) HTr.out.t1
     have lk := fun o1 o2 m => (HTr.out.pm.below (pw_below_drewN (below_alloc (below_alloc (Below.refl _ _) o1) o2) m)).look (okNode HYN.out.1 HYN.out.2 hn) (okNode HXN.out.1 HXN.out.2 hn)
     clear hn
     cases hq : (x.f1 == y.f1) with
     | false =>
      have hq2 : decide (x.f1 = y.f1) = false := by simpa using hq
      have HQ := Aside0.mk hq
      go_wp2_with fail
      go_quiet (fail)
      clear hq hq2
      go_wp2
      go_roundw
      case rel =>
       refine ⟨j + 1, by omega, by go_num, ⟨fun i hi => ?_⟩, ⟨e1' _ _ _, e2' _ _ _⟩, ⟨HTr.out.on (pw_below_drewN (below_alloc (below_alloc (Below.refl _ _) _) _) _)⟩, ⟨below_then HBr.out HBr.out.size (pw_below_drewN (below_alloc (below_alloc (Below.refl _ _) _) _) _)⟩⟩
       rcases Nat.lt_succ_iff_lt_or_eq.1 hi with h | rfl
       ·exact hz2.out i h
       ·unfold answers; rw [← hy'.out, HQ.out]; rfl
      case measure => simp [intOf]; omega
     | true =>
      have hq2 : decide (x.f1 = y.f1) = true := by simpa using hq
      have HQ := Aside0.mk hq
      cases hS : S y.f2 x.f2 with
      | false =>
       rw [hS] at lk
       have HS := Aside0.mk (show answers S true x y = false by unfold answers; rw [hq]; simpa using hS)
       clear hS
       unfold bit at lk
       rw [if_neg (by simp)] at lk
       go_wp2_with fail
       go_quiet (fail)
       clear hq hq2 lk
       go_wp2
       go_roundw
       case rel =>
        refine ⟨j + 1, by omega, by go_num, ⟨fun i hi => ?_⟩, ⟨e1' _ _ _, e2' _ _ _⟩, ⟨HTr.out.on (pw_below_drewN (below_alloc (below_alloc (Below.refl _ _) _) _) _)⟩, ⟨below_then HBr.out HBr.out.size (pw_below_drewN (below_alloc (below_alloc (Below.refl _ _) _) _) _)⟩⟩
        rcases Nat.lt_succ_iff_lt_or_eq.1 hi with h | rfl
        ·exact hz2.out i h
        ·rw [← hy'.out]; exact HS.out
       case measure => simp [intOf]; omega
      | true =>
       rw [hS] at lk
       have HS := Aside0.mk (show answers S true x y = true by unfold answers; rw [hq]; simpa using hS)
       clear hS
       unfold bit at lk
       rw [if_pos rfl] at lk
       go_wp2_with fail
       go_quiet (fail)
       clear hq hq2 lk
       go_wp2
       go_roundw
       case rel =>
        refine ⟨k + 1, by omega, by go_num, ⟨fun i hi => ?_⟩, ⟨HTr.out.on (pw_below_drewN (below_alloc (below_alloc (Below.refl _ _) _) _) _)⟩, ⟨below_then HBr.out HBr.out.size (pw_below_drewN (below_alloc (below_alloc (Below.refl _ _) _) _) _)⟩⟩
        rcases Nat.lt_succ_iff_lt_or_eq.1 hi with h | rfl
        ·exact hz.out i h
        ·rw [← hx'.out]; exact any_yes z81 hlt2 (by rw [← hy'.out]; exact HS.out)
       case measure => simp [intOf]; omega
    ·have HNo := Aside0.mk (any_no z81 hlt2 hz2.out)
     have HFin := Aside0.mk (all_no (p := fun e => R.any fun f => answers S true e f) z81 hlt (by rw [← hx'.out]; exact HNo.out))
     go_wp2
     try rw [Exit.noGoto_ret]
     go_ret
     exact ⟨ret_bool HFin.out.symm, HBr.out⟩
  ·have HFin := Aside0.mk (all_yes (p := fun e => R.any fun f => answers S true e f) z81 hlt hz.out)
   go_wp2
   try rw [Exit.noGoto_ret]
   go_ret
   exact ⟨ret_bool HFin.out.symm, HBr.out⟩
end Go.Proofs.Ytmpiokdomjchiaa.H
