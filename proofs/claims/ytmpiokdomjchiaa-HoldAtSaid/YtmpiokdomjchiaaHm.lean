/-
  A map of pairs of numbers, of the call's own: which pairs it holds a 1 at.
-/
import Derived.Test.YtmpiokdomjchiaaHk
import Derived.Maps.OwnSet
import Derived.WideKeyPair
import Derived.DeepKeys4
set_option linter.unusedVariables false
set_option linter.unusedSimpArgs false
namespace Go.Proofs.Ytmpiokdomjchiaa.H
open Go.RowKit Go.Proofs.Ytmpiokdomjchiaa.Pr Go.Proofs.YtmpiokdomjchiaaW.PrintWords Go.Proofs.Ytmpiokdomjchiaa.Sem
open Go.Maps (Keyed)

theorem laid_out : laidOutB Try.prog = true := by kernel_rfl
theorem pair_arr : WideMaps.ArrKey Try.prog 31 3 2 := ⟨Try.underlying31, by kernel_rfl, by kernel_rfl, by kernel_rfl⟩
theorem pair_keyed : Keyed Try.prog 31 := Keyed.of_law (deep_law_laid laid_out (m := 2) (by omega) (of_decide_eq_true (by kernel_rfl)) (by kernel_rfl) (by rw [Try.underlying31]))
/-- The key of a pair. -/
def pk (a b : Int) : Lit := .string (keyBytes [.int .i64 a, .int .i64 b])
def i64ok (a : Int) : Prop := -9223372036854775808 ≤ a ∧ a ≤ 9223372036854775807
theorem wf_ok {a : Int} (h : i64ok a) : (Lit.int .i64 a).wf = true := by
  unfold i64ok at h
  exact WalkArith.wf_i64 (by omega)
theorem pk_key {a b : Int} (ha : i64ok a) (hb : i64ok b) : keyOf Try.prog 31 (.agg #[.int .i64 a, .int .i64 b]) = some (pk a b) :=
  WideMaps.keyOf_pair pair_arr Try.underlying3 ⟨_, rfl⟩ (wf_ok ha) (wf_ok hb)

theorem pk_ne {a b a' b' : Int} (ha : i64ok a) (hb : i64ok b) (ha' : i64ok a') (hb' : i64ok b') (h : ¬ (a = a' ∧ b = b')) : pk a b ≠ pk a' b' := by
  intro e
  have h1 := pk_key ha hb
  rw [e] at h1
  have := pair_keyed.inj h1 (pk_key ha' hb')
  simp only [Value.agg.injEq, Array.mk.injEq, List.cons.injEq, Value.int.injEq, true_and, and_true] at this
  exact h this

def bit (b : Bool) : Int := if b then 1 else 0
/-- Block m is a map of pairs (at most n of them): at a pair that S has stands a 1, else nothing. -/
def PM (w : World) (m n : Nat) (S : Int → Int → Bool) : Prop :=
  ∃ D : DataW Unit, w.ownsMap Try.prog 31 (plainElem Try.prog 3) m n D ∧ ∀ a b, i64ok a → i64ok b → D.atKey (pk a b) (.lit (.int .i64 0)) = .lit (.int .i64 (bit (S a b)))
/-- The pairs and one more. -/
def withP (S : Int → Int → Bool) (a b : Int) : Int → Int → Bool := fun x y => S x y || (decide (x = a) && decide (y = b))
def lessP (S : Int → Int → Bool) (a b : Int) : Int → Int → Bool := fun x y => S x y && !(decide (x = a) && decide (y = b))

section
variable {w w1 : World} {m n : Nat} {S : Int → Int → Bool}
theorem PM.lt (h : PM w m n S) : m < w.heap.size := by obtain ⟨D, h, _⟩ := h; exact h.lt
theorem PM.blk (h : PM w m n S) : ∃ es c, w.heap[m]? = some (.map es c) := by obtain ⟨D, ⟨es, c, hb, _⟩, _⟩ := h; exact ⟨es, c, hb⟩
theorem PM.same (h : PM w m n S) (hb : w1.heap[m]? = w.heap[m]?) : PM w1 m n S := by
  obtain ⟨D, ⟨es, c, hbl, r⟩, h2⟩ := h
  exact ⟨D, ⟨es, c, hb.trans hbl, r⟩, h2⟩
theorem PM.below (h : PM w m n S) (hb : Below w.heap.size w w1) : PM w1 m n S := h.same (hb.block m h.lt)
/-- What is written is a row of cells. -/
theorem PM.grown (h : PM w m n S) {row : Option Nat} (hr : ∀ b, row = some b → ∃ c t fr, w.heap[b]? = some (.cells c t fr)) (hg : w.grownBy w1 row) : PM w1 m n S := by
  refine h.same (hg.block m h.lt ?_)
  intro e
  obtain ⟨c, t, fr, hc⟩ := hr m e.symm
  obtain ⟨es, c', hb⟩ := h.blk
  rw [hc] at hb
  cases hb
theorem PM.made (w : World) : PM (w.alloc (.map #[] 0)) w.heap.size 0 (fun _ _ => false) :=
  ⟨.map [], World.ownsMap_made _ _ _ _, fun a b _ _ => rfl⟩
theorem PM.look (h : PM w m n S) {a b : Int} (ha : i64ok a) (hb : i64ok b) : (Instr.lookup 91 (.map (some m)) (.agg #[.int .i64 a, .int .i64 b]) false).run Try.prog w = .ok (.int .i64 (bit (S a b))) w := by
  obtain ⟨D, h1, h2⟩ := h
  obtain ⟨c, hrun, hat, _⟩ := h1.lookup_int pair_keyed Try.underlying91 Try.underlying3 (by kernel_rfl) (pk_key ha hb)
  rw [h2 a b ha hb] at hat
  cases hat
  exact hrun
theorem PM.put (h : PM w m n S) {a b : Int} (ha : i64ok a) (hb : i64ok b) (hn : n < maxLen) : ∃ w1, (Instr.mapUpdate 91 (.map (some m)) (.agg #[.int .i64 a, .int .i64 b]) (.int .i64 1)).run Try.prog w = .ok () w1 ∧ PM w1 m (n + 1) (withP S a b) ∧ w.grownBy w1 (some m) := by
  obtain ⟨D, h1, h2⟩ := h
  obtain ⟨w1, hrun, ho, hg⟩ := h1.update pair_keyed Try.underlying91 hn (pk_key ha hb) (plainElem_int (a := 1) Try.underlying3 (by decide))
  refine ⟨w1, hrun, ⟨_, ho, fun x y hx hy => ?_⟩, hg⟩
  unfold withP
  by_cases e : x = a ∧ y = b
  · obtain ⟨rfl, rfl⟩ := e
    rw [Maps.atKey_put_same h1.isMap (pair_keyed.key (pk_key ha hb))]
    simp [bit]
  · rw [Maps.atKey_put_other (pk_ne hx hy ha hb e), h2 x y hx hy]
    have : (decide (x = a) && decide (y = b)) = false := by simpa using e
    rw [this, Bool.or_false]
theorem PM.del (h : PM w m n S) {a b : Int} (ha : i64ok a) (hb : i64ok b) (ty : TypeId) : ∃ w1, (Builtin.delete_ #[91, 31] ty #[.map (some m), .agg #[.int .i64 a, .int .i64 b]]).run Try.prog w = .ok (.tuple #[]) w1 ∧ PM w1 m n (lessP S a b) ∧ w.grownBy w1 (some m) := by
  obtain ⟨D, h1, h2⟩ := h
  obtain ⟨w1, hrun, ho, hg⟩ := h1.drop pair_keyed Try.underlying91 (pk_key ha hb) ty
  refine ⟨w1, hrun, ⟨_, ho, fun x y hx hy => ?_⟩, hg.grown⟩
  unfold lessP
  by_cases e : x = a ∧ y = b
  · obtain ⟨rfl, rfl⟩ := e
    rw [Maps.atKey_del_same]
    simp [bit]
  · rw [Maps.atKey_del_other (pk_ne hx hy ha hb e), h2 x y hx hy]
    have : (decide (x = a) && decide (y = b)) = false := by simpa using e
    rw [this]
    simp
end

end Go.Proofs.Ytmpiokdomjchiaa.H
