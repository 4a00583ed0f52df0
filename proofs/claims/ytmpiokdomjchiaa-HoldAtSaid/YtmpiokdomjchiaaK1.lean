/-
  Plain words: sets of nodes, as 32 words of 64 bits.
  Walks of trace's sets of nodes: an array of 32 words.
  Walks: trace.alone, trace.behind.
-/
import Derived.Test.YtmpiokdomjchiaaHk
import Derived.Laws.Bits64b
import Derived.Test.YtmpiokdomjchiaaWLast
import Derived.Test.YtmpiokdomjchiaaWMore
import Derived.Deep.QuietTactic
import Derived.BigQuiet
import Derived.Deep.LoopGhost
import Derived.Deep.RegionHeld3
import Derived.Test.YtmpiokdomjchiaaHo
import Derived.Deep.MidRow
set_option linter.unusedVariables false
set_option linter.unusedSimpArgs false
namespace Go.Proofs.Ytmpiokdomjchiaa.H
open Go.RowKit Go.Proofs.Ytmpiokdomjchiaa.Pr Go.Proofs.YtmpiokdomjchiaaW.PrintWords Go.Proofs.Ytmpiokdomjchiaa.Sem

/-- The number whose first k bits are f's. -/
def wbits (f : Nat → Bool) : Nat → Nat
  | 0 => 0
  | k + 1 => wbits f k ||| (if f k then 2 ^ k else 0)
theorem wbits_bit (f : Nat → Bool) : ∀ k j, (wbits f k).testBit j = (decide (j < k) && f j)
  | 0, j => by simp [wbits]
  | k + 1, j => by
    unfold wbits
    rw [Nat.testBit_or, wbits_bit f k j]
    by_cases e : j = k
    · subst e
      cases hf : f j <;> simp [hf]
    · have h1 : decide (j < k + 1) = decide (j < k) := decide_eq_decide.2 (by omega)
      rw [h1]
      have h2 : (if f k then 2 ^ k else 0).testBit j = false := by
        split
        · rw [Nat.testBit_two_pow]; simp; omega
        · simp
      rw [h2, Bool.or_false]
theorem wbits_lt (f : Nat → Bool) (k : Nat) : wbits f k < 2 ^ k := by
  apply Nat.lt_pow_two_of_testBit
  intro i hi
  rw [wbits_bit, decide_eq_false (by omega)]
  rfl
/-- Word j of a set. -/
def wordOf (S : Nat → Bool) (j : Nat) : Nat := wbits (fun b => S (64 * j + b)) 64
theorem wordOf_lt (S : Nat → Bool) (j : Nat) : wordOf S j < 2 ^ 64 := wbits_lt _ _
theorem wordOf_bit (S : Nat → Bool) (j b : Nat) (hb : b < 64) : (wordOf S j).testBit b = S (64 * j + b) := by
  unfold wordOf
  rw [wbits_bit, decide_eq_true hb, Bool.true_and]
/-- A set's cells. -/
def encSet (S : Nat → Bool) : List Value := (List.range 32).map fun j => Value.int .u64 (wordOf S j : Int)
theorem encSet_at (S : Nat → Bool) (j : Nat) (hj : j < 32) : (encSet S)[j]? = some (.int .u64 (wordOf S j : Int)) := by simp [encSet, hj]
/-- A set and one more. -/
def withN (S : Nat → Bool) (i : Nat) : Nat → Bool := fun x => S x || decide (x = i)
theorem word_with (S : Nat → Bool) (i : Nat) : wordOf (withN S i) (i / 64) = wordOf S (i / 64) ||| 2 ^ (i % 64) := by
  apply Nat.eq_of_testBit_eq
  intro b
  rw [Nat.testBit_or, Nat.testBit_two_pow]
  by_cases hb : b < 64
  · rw [wordOf_bit _ _ _ hb, wordOf_bit _ _ _ hb]
    unfold withN
    congr 1
    apply decide_eq_decide.2
    have := Nat.div_add_mod i 64
    constructor <;> intro h <;> omega
  · have h1 : (wordOf (withN S i) (i / 64)).testBit b = false := by unfold wordOf; rw [wbits_bit, decide_eq_false hb]; rfl
    have h2 : (wordOf S (i / 64)).testBit b = false := by unfold wordOf; rw [wbits_bit, decide_eq_false hb]; rfl
    rw [h1, h2]
    have : i % 64 < 64 := Nat.mod_lt _ (by omega)
    simp
    omega
theorem word_other (S : Nat → Bool) (i j : Nat) (h : j ≠ i / 64) : wordOf (withN S i) j = wordOf S j := by
  apply Nat.eq_of_testBit_eq
  intro b
  by_cases hb : b < 64
  · rw [wordOf_bit _ _ _ hb, wordOf_bit _ _ _ hb]
    unfold withN
    have : ¬ 64 * j + b = i := by omega
    simp [this]
  · have h1 : (wordOf (withN S i) j).testBit b = false := by unfold wordOf; rw [wbits_bit, decide_eq_false hb]; rfl
    have h2 : (wordOf S j).testBit b = false := by unfold wordOf; rw [wbits_bit, decide_eq_false hb]; rfl
    rw [h1, h2]
theorem enc_with (S : Nat → Bool) (i : Nat) (hi : i < 2048) : encSet (withN S i) = (encSet S).set (i / 64) (.int .u64 ((wordOf S (i / 64) ||| 2 ^ (i % 64) : Nat) : Int)) := by
  apply List.ext_getElem
  · simp [encSet]
  · intro j h1 h2
    have hj : j < 32 := by simpa [encSet] using h1
    rw [List.getElem_set]
    by_cases e : i / 64 = j
    · subst e
      rw [if_pos rfl, ← word_with]
      simp [encSet]
    · rw [if_neg e]
      simp [encSet, word_other S i j (Ne.symm e)]

end Go.Proofs.Ytmpiokdomjchiaa.H

set_option linter.unusedVariables false
set_option linter.unusedSimpArgs false
namespace Go.Proofs.Ytmpiokdomjchiaa.H
open Go.RowKit Go.Proofs.Ytmpiokdomjchiaa.Pr Go.Proofs.YtmpiokdomjchiaaW.PrintWords Go.Proofs.Ytmpiokdomjchiaa.Sem Go.Proofs.YtmpiokdomjchiaaW.PrintLast

/-- A set in memory: block b (its type: t). -/
def SetAt (t : Nat) (w : World) (b : Nat) (S : Nat → Bool) : Prop := w.heap[b]? = some (.cells (encSet S).toArray t (0, 0))
theorem SetAt.cell {t : Nat} {w : World} {b : Nat} {S : Nat → Bool} (h : SetAt t w b S) {j : Nat} (hj : j < 32) : w.cell? ⟨b, j, none⟩ = some (.int .u64 (wordOf S j : Int)) := by
  rw [blk_cell h j]
  simpa using encSet_at S j hj
theorem SetAt.frozen {t : Nat} {w : World} {b : Nat} {S : Nat → Bool} (h : SetAt t w b S) (j : Nat) : w.frozen? ⟨b, j, none⟩ = false := by
  unfold World.frozen?
  have : w.heap[b]? = some (.cells (encSet S).toArray t (0, 0)) := h
  simp only [this]
  simp
theorem SetAt.put {t : Nat} {w : World} {b : Nat} {S : Nat → Bool} (h : SetAt t w b S) {i : Nat} (hi : i < 2048) : SetAt t (w.setCell ⟨b, i / 64, none⟩ (.int .u64 ((wordOf S (i / 64) ||| 2 ^ (i % 64) : Nat) : Int))) b (withN S i) := by
  have h' : w.heap[b]? = some (.cells (encSet S).toArray t (0, 0)) := h
  unfold SetAt
  rw [enc_with S i hi]
  simp [World.setCell, Array.getElem?_modify, h']
theorem or_word (x r : Nat) (hx : x < 2 ^ 64) (hr : r < 64) : bits BinOp.or .u64 (x : Int) (IntKind.u64.wrap (2 ^ r)) = ((x ||| 2 ^ r : Nat) : Int) := by
  have h1 : (2 : Nat) ^ r < 18446744073709551616 := by
    have : (2 : Nat) ^ r < 2 ^ 64 := Nat.pow_lt_pow_right (by omega) hr
    exact this
  have e1 : IntKind.u64.wrap (2 ^ r) = ((2 ^ r : Nat) : Int) := by
    have e2 : ((2 : Int) ^ r) = ((2 ^ r : Nat) : Int) := by simp
    rw [e2]
    generalize 2 ^ r = z at h1
    simp [IntKind.wrap, IntKind.bits, IntKind.signed]
    omega
  rw [e1]
  exact bits_or_u64_nat x (2 ^ r) hx h1

set_option maxRecDepth 100000 in
theorem put_any (b i : Nat) (S : Nat → Bool) (w : World) (hS : SetAt 107 w b S) (hi : i < 2048) : Calls Try.prog 107 #[.pointer (some ⟨b, 0, none⟩), .int .i64 i] w fun e w' => e = .returned (.tuple #[]) ∧ SetAt 107 w' b (withN S i) ∧ w.grownBy w' (some b) := by
  obtain ⟨q, hq0⟩ : ∃ q, q = i / 64 := ⟨_, rfl⟩
  obtain ⟨r, hr0⟩ : ∃ r, r = i % 64 := ⟨_, rfl⟩
  have hc := hS.cell (show i / 64 < 32 by omega)
  have hf := hS.frozen (i / 64)
  have hput := hS.put hi
  have hg : w.grownBy (w.setCell ⟨b, i / 64, none⟩ (.int .u64 ((wordOf S (i / 64) ||| 2 ^ (i % 64) : Nat) : Int))) (some b) := ⟨rfl, rfl, rfl, by simp [World.setCell], fun k _ hk => Below.heap_setCell _ _ _ _ (fun e => hk (by rw [e]))⟩
  rw [← hq0] at hc hf hput hg
  rw [← hr0] at hput hg
  have hxl := wordOf_lt S q
  obtain ⟨x, hx0⟩ : ∃ x, x = wordOf S q := ⟨_, rfl⟩
  rw [← hx0] at hc hput hg hxl
  have hrl : r < 64 := by omega
  have hor := or_word x r hxl hrl
  have HP := Aside0.mk hput
  have HG := Aside0.mk hg
  have hq : IntKind.i64.wrap ((i : Int) / 64) = (q : Int) := by rw [IntKind.wrap_i64]; omega
  have hqq : wrap64 ((i : Int) / 64) = (q : Int) := by rw [← i64_w]; exact hq
  have hr : ((i : Int) % 64) = (r : Int) := by omega
  have hr2 : Int.tmod (i : Int) 64 = (r : Int) := by rw [hr0]; rfl
  have hr3 : IntKind.u64.wrap (r : Int) = (r : Int) := by simp [IntKind.wrap, IntKind.bits, IntKind.signed]; omega
  have i0 : (0 : Int) ≤ (q : Int) := by omega
  have i1 : (q : Int) < 32 := by omega
  have HO := Aside0.mk hor
  clear hput hg hq0 hr0 hx0 hxl hrl hor hS hi
  go_enter Try.func107, Try.ntmps107
  go_wp2_with fail
  refine start_ (n := 14) (S := fun w' => w'.cell? ⟨b, q, none⟩ = some (.int .u64 (x : Int))) (ds := [13]) #[false, false, false, false, false, false, false, false, false, false, false, false, false, false] (by kernel_rfl) rfl rfl (hc) (fun hHeld => ?_)
  refine pure_ (i := 0) (N := some 4) (v := ?_) (a' := ?_) #[true, false, false, false, false, false, false, false, false, false, false, false, false, false] rfl rfl (by kernel_rfl) (fun _ _ _ h => h) (Or.inl ⟨by rfl, ?_⟩) ?_ ?_
  rotate_left
  · intro w'
    go_simp
    with_reducible rfl
  rotate_left
  · simp only [Act.put, List.setIfInBounds_toArray, List.set_cons_zero, List.set_cons_succ, i64_w, i32_w]
    rfl
  refine pure_ (i := 1) (N := some 5) (v := ?_) (a' := ?_) #[true, true, false, false, false, false, false, false, false, false, false, false, false, false] rfl rfl (by kernel_rfl) (fun _ _ _ h => h) (Or.inl ⟨by rfl, ?_⟩) ?_ ?_
  rotate_left
  · intro w'
    go_simp
    with_reducible rfl
  rotate_left
  · simp only [Act.put, List.setIfInBounds_toArray, List.set_cons_zero, List.set_cons_succ, i64_w, i32_w]
    rfl
  refine pure_ (i := 2) (N := some 6) (v := ?_) (a' := ?_) #[true, true, true, false, false, false, false, false, false, false, false, false, false, false] rfl rfl (by kernel_rfl) (fun _ _ _ h => h) (Or.inl ⟨by rfl, ?_⟩) ?_ ?_
  rotate_left
  · intro w'
    go_simp
    with_reducible rfl
  rotate_left
  · simp only [Act.put, List.setIfInBounds_toArray, List.set_cons_zero, List.set_cons_succ, i64_w, i32_w]
    rfl
  refine pure_ (i := 3) (N := some 7) (v := ?_) (a' := ?_) #[true, true, true, true, false, false, false, false, false, false, false, false, false, false] rfl rfl (by kernel_rfl) (fun _ _ _ h => h) (Or.inl ⟨by rfl, ?_⟩) ?_ ?_
  rotate_left
  · intro w'
    go_simp
    with_reducible rfl
  rotate_left
  · simp only [Act.put, List.setIfInBounds_toArray, List.set_cons_zero, List.set_cons_succ, i64_w, i32_w]
    rfl
  refine pure_ (i := 4) (N := some 8) (v := ?_) (a' := ?_) #[true, true, true, true, true, false, false, false, false, false, false, false, false, false] rfl rfl (by kernel_rfl) (fun _ _ _ h => h) (Or.inl ⟨by rfl, ?_⟩) ?_ ?_
  rotate_left
  · intro w'
    go_simp
    with_reducible rfl
  rotate_left
  · simp only [Act.put, List.setIfInBounds_toArray, List.set_cons_zero, List.set_cons_succ, i64_w, i32_w]
    rfl
  refine pure_ (i := 6) (N := some 10) (v := ?_) (a' := ?_) #[true, true, true, true, true, false, true, false, false, false, false, false, false, false] rfl rfl (by kernel_rfl) (fun _ _ _ h => h) (Or.inl ⟨by rfl, ?_⟩) ?_ ?_
  rotate_left
  · intro w'
    go_simp
    with_reducible rfl
  rotate_left
  · simp only [Act.put, List.setIfInBounds_toArray, List.set_cons_zero, List.set_cons_succ, i64_w, i32_w]
    rfl
  refine pure_ (i := 7) (N := some 11) (v := ?_) (a' := ?_) #[true, true, true, true, true, false, true, true, false, false, false, false, false, false] rfl rfl (by kernel_rfl) (fun _ _ _ h => h) (Or.inl ⟨by rfl, ?_⟩) ?_ ?_
  rotate_left
  · intro w'
    go_simp
    with_reducible rfl
  rotate_left
  · simp only [Act.put, List.setIfInBounds_toArray, List.set_cons_zero, List.set_cons_succ, i64_w, i32_w]
    rfl
  refine pure_ (i := 8) (N := some 12) (v := ?_) (a' := ?_) #[true, true, true, true, true, false, true, true, true, false, false, false, false, false] rfl rfl (by kernel_rfl) (fun _ _ _ h => h) (Or.inl ⟨by rfl, ?_⟩) ?_ ?_
  rotate_left
  · intro w'
    go_simp
    with_reducible rfl
  rotate_left
  · simp only [Act.put, List.setIfInBounds_toArray, List.set_cons_zero, List.set_cons_succ, i64_w, i32_w]
    rfl
  refine pure_ (i := 9) (N := some 13) (v := ?_) (a' := ?_) #[true, true, true, true, true, false, true, true, true, true, false, false, false, false] rfl rfl (by kernel_rfl) (fun _ _ _ h => h) (Or.inl ⟨by rfl, ?_⟩) ?_ ?_
  rotate_left
  · intro w'
    go_simp
    with_reducible rfl
  rotate_left
  · simp only [Act.put, List.setIfInBounds_toArray, List.set_cons_zero, List.set_cons_succ, i64_w, i32_w]
    rfl
  refine pure_ (i := 11) (N := some 15) (v := ?_) (a' := ?_) #[true, true, true, true, true, false, true, true, true, true, false, true, false, false] rfl rfl (by kernel_rfl) (fun _ _ _ h => h) (Or.inl ⟨by rfl, ?_⟩) ?_ ?_
  rotate_left
  · intro w'
    go_simp
    with_reducible rfl
  rotate_left
  · simp only [Act.put, List.setIfInBounds_toArray, List.set_cons_zero, List.set_cons_succ, i64_w, i32_w]
    rfl
  refine take_ (i := 5) (N := some 9) (v := ?_) (a' := ?_) #[true, true, true, true, true, true, true, true, true, true, false, true, false, false] rfl rfl (by kernel_rfl) (fun _ _ _ h => h) (Or.inl ⟨by rfl, ?_⟩) hHeld ?_ ?_
  rotate_left
  · intro w' s0
    go_simp
    with_reducible rfl
  rotate_left
  · simp only [Act.put, List.setIfInBounds_toArray, List.set_cons_zero, List.set_cons_succ, i64_w, i32_w]
    rfl
  refine pure_ (i := 10) (N := some 14) (v := ?_) (a' := ?_) #[true, true, true, true, true, true, true, true, true, true, true, true, false, false] rfl rfl (by kernel_rfl) (fun _ _ _ h => h) (Or.inl ⟨by rfl, ?_⟩) ?_ ?_
  rotate_left
  · intro w'
    go_simp
    with_reducible rfl
  rotate_left
  · simp only [Act.put, List.setIfInBounds_toArray, List.set_cons_zero, List.set_cons_succ, i64_w, i32_w]
    rfl
  refine pure_ (i := 12) (N := some 16) (v := ?_) (a' := ?_) #[true, true, true, true, true, true, true, true, true, true, true, true, true, false] rfl rfl (by kernel_rfl) (fun _ _ _ h => h) (Or.inl ⟨by rfl, ?_⟩) ?_ ?_
  rotate_left
  · intro w'
    go_simp
    with_reducible rfl
  rotate_left
  · simp only [Act.put, List.setIfInBounds_toArray, List.set_cons_zero, List.set_cons_succ, i64_w, i32_w]
    rfl
  refine last_ (i := 13) (N := none) #[true, true, true, true, true, true, true, true, true, true, true, true, true, true] rfl rfl (by kernel_rfl) (by decide) (fun K hK => ?_)
  refine skip_ (w1 := ?_) (by rfl) rfl ?_ ?_
  rotate_left
  · go_simp
    rfl
  refine hK.out _ _ ?_
  clear hK K
  refine done_ (by kernel_rfl) ?_
  rw [HO.out]
  go_end0
  exact ⟨rfl, HP.out, HG.out.os, HG.out.tape, HG.out.output, HG.out.size, HG.out.block⟩
theorem and_word (x r : Nat) (hx : x < 2 ^ 64) : (bits BinOp.and .u64 ((x : Int) / 2 ^ r) 1 == 1) = x.testBit r := by
  have e1 : ((x : Int) / 2 ^ r) = ((x / 2 ^ r : Nat) : Int) := by simp
  have h1 : x / 2 ^ r < 18446744073709551616 := Nat.lt_of_le_of_lt (Nat.div_le_self _ _) hx
  have h2 := bits_and_u64_nat (x / 2 ^ r) 1 h1 (by omega)
  rw [e1]
  rw [show ((1 : Nat) : Int) = 1 from rfl] at h2
  rw [h2, Nat.and_one_is_mod, Nat.testBit_eq_decide_div_mod_eq]
  by_cases h : x / 2 ^ r % 2 = 1
  · simp [h]
  · have : x / 2 ^ r % 2 = 0 := by omega
    simp [this]
theorem has_set (b i : Nat) (S : Nat → Bool) (w : World) (hS : SetAt 107 w b S) (hi : i < 2048) : Calls Try.prog 79 #[.pointer (some ⟨b, 0, none⟩), .int .i64 i] w fun e w' => e = .returned (.bool (S i)) ∧ w = w' := by
  obtain ⟨q, hq0⟩ : ∃ q, q = i / 64 := ⟨_, rfl⟩
  obtain ⟨r, hr0⟩ : ∃ r, r = i % 64 := ⟨_, rfl⟩
  have hc := hS.cell (show i / 64 < 32 by omega)
  rw [← hq0] at hc
  have hxl := wordOf_lt S q
  have hbit := wordOf_bit S q r (by omega)
  rw [show 64 * q + r = i by omega] at hbit
  obtain ⟨x, hx0⟩ : ∃ x, x = wordOf S q := ⟨_, rfl⟩
  rw [← hx0] at hc hxl hbit
  have HA := Aside0.mk ((and_word x r hxl).trans hbit)
  have hq : IntKind.i64.wrap ((i : Int) / 64) = (q : Int) := by rw [IntKind.wrap_i64]; omega
  have hr : ((i : Int) % 64) = (r : Int) := by omega
  have hr2 : r < 64 := by omega
  have i0 : (0 : Int) ≤ (q : Int) := by omega
  have i1 : (q : Int) < 32 := by omega
  clear hq0 hr0 hx0 hxl hbit hS hi
  go_enter Try.func79, Try.ntmps79
  go_wp2
  go_ret
  exact ⟨ret_bool HA.out, rfl⟩

end Go.Proofs.Ytmpiokdomjchiaa.H

set_option linter.unusedVariables false
set_option linter.unusedSimpArgs false
namespace Go.Proofs.Ytmpiokdomjchiaa.H
open Go.RowKit Go.Proofs.Ytmpiokdomjchiaa.Pr Go.Proofs.YtmpiokdomjchiaaW.PrintWords Go.Proofs.Ytmpiokdomjchiaa.Sem Go.Proofs.YtmpiokdomjchiaaW.PrintLast

theorem blk_setCells {t b : Nat} : ∀ (vs : List Value) (o : Nat) (w : World) (cs : Array Value), w.heap[b]? = some (.cells cs t (0, 0)) → o + vs.length ≤ cs.size → ∃ cs' : Array Value, (w.setCells b o vs).heap[b]? = some (.cells cs' t (0, 0)) ∧ cs'.size = cs.size ∧ (∀ j, j < o → cs'[j]? = cs[j]?) ∧ ∀ j, j < vs.length → cs'[o + j]? = vs[j]?
  | [], o, w, cs, h, _ => ⟨cs, h, rfl, fun _ _ => rfl, fun j hj => by simp at hj⟩
  | v :: r, o, w, cs, h, hl => by
    have h1 : (w.setCell ⟨b, o, none⟩ v).heap[b]? = some (.cells (cs.setIfInBounds o v) t (0, 0)) := by simp [World.setCell, Array.getElem?_modify, h]
    obtain ⟨cs', g1, g2, g3, g4⟩ := blk_setCells r (o + 1) _ _ h1 (by simp at hl ⊢; omega)
    refine ⟨cs', g1, by rw [g2]; simp, fun j hj => ?_, fun j hj => ?_⟩
    · rw [g3 j (by omega), Array.getElem?_setIfInBounds_ne (by omega)]
    · cases j with
      | zero =>
        rw [Nat.add_zero, g3 o (by omega)]
        simp at hl
        simp [Array.getElem?_setIfInBounds]
        omega
      | succ j =>
        have := g4 j (by simpa using hj)
        rw [show o + (j + 1) = o + 1 + j by omega, this]
        simp
theorem encSet_len (S : Nat → Bool) : (encSet S).length = 32 := by simp [encSet]
theorem SetAt.store {t : Nat} {w : World} {b : Nat} {S : Nat → Bool} (h : SetAt t w b S) (S' : Nat → Bool) : SetAt t (w.setCells b 0 (encSet S')) b S' := by
  obtain ⟨cs', g1, g2, _, g4⟩ := blk_setCells (encSet S') 0 w _ h (by simp [encSet_len])
  have e : cs' = (encSet S').toArray := by
    apply Array.ext_getElem?
    intro j
    by_cases hj : j < 32
    · have := g4 j (by rw [encSet_len]; exact hj)
      rw [Nat.zero_add] at this
      rw [this]
      simp
    · rw [Array.getElem?_eq_none (by rw [g2]; simp [encSet_len]; omega), Array.getElem?_eq_none (by simp [encSet_len]; omega)]
  unfold SetAt
  rw [g1, e]
theorem SetAt.range {t : Nat} {w : World} {b : Nat} {S : Nat → Bool} (h : SetAt t w b S) : w.rangeAt b 0 (encSet S) := by
  intro j v hv
  rw [Nat.zero_add, blk_cell h j]
  simpa using hv
theorem SetAt.there {t : Nat} {w : World} {b : Nat} {S : Nat → Bool} (h : SetAt t w b S) : w.there b 0 32 := by
  intro j hj
  rw [Nat.zero_add]
  exact ⟨by rw [h.cell hj]; rfl, h.frozen j⟩
theorem enc_one (S : Nat → Bool) : ∀ v ∈ encSet S, v.oneCell' = true := by
  intro v hv
  obtain ⟨j, _, rfl⟩ := List.mem_map.1 hv
  rfl
theorem zero_set : #[Value.int IntKind.u64 0, Value.int IntKind.u64 0, Value.int IntKind.u64 0, Value.int IntKind.u64 0, Value.int IntKind.u64 0, Value.int IntKind.u64 0, Value.int IntKind.u64 0, Value.int IntKind.u64 0, Value.int IntKind.u64 0, Value.int IntKind.u64 0, Value.int IntKind.u64 0, Value.int IntKind.u64 0, Value.int IntKind.u64 0, Value.int IntKind.u64 0, Value.int IntKind.u64 0, Value.int IntKind.u64 0, Value.int IntKind.u64 0, Value.int IntKind.u64 0, Value.int IntKind.u64 0, Value.int IntKind.u64 0, Value.int IntKind.u64 0, Value.int IntKind.u64 0, Value.int IntKind.u64 0, Value.int IntKind.u64 0, Value.int IntKind.u64 0, Value.int IntKind.u64 0, Value.int IntKind.u64 0, Value.int IntKind.u64 0, Value.int IntKind.u64 0, Value.int IntKind.u64 0, Value.int IntKind.u64 0, Value.int IntKind.u64 0] = (encSet fun _ => false).toArray := by kernel_rfl

theorem below_setCells {w : World} {b : Nat} : ∀ {W : World}, Below w.heap.size w W → ∀ (o : Nat) (vs : List Value), (hb : w.heap.size ≤ b) → Below w.heap.size w (W.setCells b o vs)
  | W, h, o, [], _ => h
  | W, h, o, v :: r, hb => below_setCells (below_set h hb) (o + 1) r hb
theorem info_set : (Try.prog.info? 107).map (·.size) = some 32 := by kernel_rfl
set_option maxRecDepth 100000 in
theorem alone_any (i : Nat) (w : World) (hi : i < 2048) : Calls Try.prog 76 #[.int .i64 i] w fun e w' => e = .returned (.agg (encSet (withN (fun _ => false) i)).toArray) ∧ Below w.heap.size w w' := by
  have HB := Aside0.mk (Below.refl w.heap.size w)
  go_enter Try.func76, Try.ntmps76
  go_wp2_with fail
  rw [zero_set]
  have h0 := blk_new w (Obj.cells (encSet fun _ => false).toArray 107)
  have h1 := blk_new (w.alloc (Obj.cells (encSet fun _ => false).toArray 107)) (Obj.cells (encSet fun _ => false).toArray 107)
  rw [show (w.alloc (Obj.cells (encSet fun _ => false).toArray 107)).heap.size = w.heap.size + 1 by simp] at h1
  have HZ := Aside0.mk (show SetAt 107 ((w.alloc (Obj.cells (encSet fun _ => false).toArray 107)).alloc (Obj.cells (encSet fun _ => false).toArray 107)) w.heap.size (fun _ => false) from blk_below h0 (below_alloc (Below.refl _ _) _))
  have HY := Aside0.mk (show SetAt 107 ((w.alloc (Obj.cells (encSet fun _ => false).toArray 107)).alloc (Obj.cells (encSet fun _ => false).toArray 107)) (w.heap.size + 1) (fun _ => false) from h1)
  have HB1 := Aside0.mk (show Below w.heap.size w ((w.alloc (Obj.cells (encSet fun _ => false).toArray 107)).alloc (Obj.cells (encSet fun _ => false).toArray 107)) by repeat (first | exact HB.out | apply below_alloc))
  clear h0 h1
  generalize ((w.alloc (Obj.cells (encSet fun _ => false).toArray 107)).alloc (Obj.cells (encSet fun _ => false).toArray 107)) = W at HZ HY HB1 ⊢
  refine (put_any (w.heap.size + 1) i (fun _ => false) W HY.out hi).mono ?_
  rintro e w1 ⟨rfl, hS, hG⟩
  have HS := Aside0.mk hS
  have HZ1 := Aside0.mk (show SetAt 107 w1 w.heap.size (fun _ => false) from (hG.block w.heap.size (Array.getElem?_eq_some_iff.1 HZ.out).1 (by simp)).trans HZ.out)
  have HB2 := Aside0.mk (HB1.out.grown hG HB1.out.size (fun k hk => by cases hk; omega))
  clear hS hG
  have HF := Aside0.mk (show SetAt 107 (w1.setCells w.heap.size 0 (encSet (withN (fun _ => false) i))) w.heap.size (withN (fun _ => false) i) from HZ1.out.store _)
  go_wp2_with (first | (refine wpList_load_mid rfl 107 (.tmp 3) rfl (w.heap.size + 1) 0 rfl (encSet (withN (fun _ => false) i)) _ HS.out.range Try.underlying107 rfl (by rw [encSet_len]; exact info_set) ?_) | (refine wpList_store_mid rfl 107 (.tmp 2) (.tmp 6) rfl w.heap.size 0 (encSet (withN (fun _ => false) i)).toArray rfl rfl (by simpa [encSet_len] using HZ1.out.there) (by rw [List.size_toArray, encSet_len]; exact info_set) (all_oneCell_toArray (enc_one _)) ?_))
  refine bodyPost_ret (results_cell_row (fn := Try.f76) rfl _ _ w.heap.size 107 (encSet (withN (fun _ => false) i)).toArray (0, 0) _ rfl HF.out Try.underlying107 rfl (by rw [List.size_toArray, encSet_len]; exact info_set)) rfl ?_
  refine ⟨rfl, ?_⟩
  exact below_setCells HB2.out 0 _ (Nat.le_refl _)
/-- Where edges of a label lead from a set. -/
def leads (es : List Ed) (S : Nat → Bool) (l : Int) : Nat → Bool := fun x => es.any fun e => (e.f1 == l) && (S e.f0.toNat && decide (e.f2 = (x : Int)))
theorem leads_snoc (es : List Ed) (S : Nat → Bool) (l : Int) (e : Ed) {i : Nat} (hi : e.f2 = (i : Int)) : leads (es ++ [e]) S l = if (e.f1 == l) && S e.f0.toNat then withN (leads es S l) i else leads es S l := by
  funext x
  unfold leads
  rw [List.any_append]
  simp only [List.any_cons, List.any_nil, Bool.or_false]
  cases h1 : (e.f1 == l) <;> cases h2 : S e.f0.toNat
  · simp
  · simp
  · simp
  · simp only [Bool.true_and, if_true]
    unfold withN
    congr 1
    apply decide_eq_decide.2
    omega
theorem SetAt.below {t : Nat} {w w1 : World} {b : Nat} {S : Nat → Bool} (h : SetAt t w b S) (hb : Below w.heap.size w w1) : SetAt t w1 b S := blk_below h hb
theorem SetAt.grown {t : Nat} {w w1 : World} {b c : Nat} {S : Nat → Bool} (h : SetAt t w b S) (hg : w.grownBy w1 (some c)) (hne : b ≠ c) : SetAt t w1 b S := (hg.block b (Array.getElem?_eq_some_iff.1 h).1 (by simp [hne])).trans h
theorem set_new (W : World) (b : Nat) (S : Nat → Bool) (hb : W.heap.size = b) : SetAt 107 (W.alloc (.cells (encSet S).toArray 107)) b S := by
  subst hb
  exact blk_new _ _
theorem leads_nil (S : Nat → Bool) (l : Int) : leads [] S l = fun _ => false := by funext x; rfl
/-- The variables of trace.behind. -/
structure BehSt (w W : World) (n : Int) (v1 : Value) (A2 : Option Addr) (c2 : Nat) (es : List Ed) (S O : Nat → Bool) : Prop where
  box : BoxL W w.heap.size n v1 (.slice A2 es.length c2)
  arg : SetAt 107 W (w.heap.size + 1) S
  res : SetAt 107 W (w.heap.size + 1 + 1) (fun _ => false)
  out : SetAt 107 W (w.heap.size + 1 + 1 + 1) O
  below : Below w.heap.size w W
theorem BehSt.on {w W W1 : World} {n : Int} {v1 : Value} {A2 : Option Addr} {c2 : Nat} {es : List Ed} {S O : Nat → Bool} (h : BehSt w W n v1 A2 c2 es S O) (hb : Below W.heap.size W W1) : BehSt w W1 n v1 A2 c2 es S O :=
  ⟨h.box.below hb, h.arg.below hb, h.res.below hb, h.out.below hb, below_then h.below h.below.size hb⟩
theorem BehSt.put {w W W1 : World} {n : Int} {v1 : Value} {A2 : Option Addr} {c2 : Nat} {es : List Ed} {S O O' : Nat → Bool} (h : BehSt w W n v1 A2 c2 es S O) (ho : SetAt 107 W1 (w.heap.size + 1 + 1 + 1) O') (hg : W.grownBy W1 (some (w.heap.size + 1 + 1 + 1))) : BehSt w W1 n v1 A2 c2 es S O' := by
  refine ⟨?_, h.arg.grown hg (by omega), h.res.grown hg (by omega), ho, h.below.grown hg h.below.size (fun k hk => by cases hk; omega)⟩
  exact (hg.block _ (Array.getElem?_eq_some_iff.1 h.box).1 (by simp; omega)).trans h.box

set_option maxHeartbeats 8000000 in
set_option maxRecDepth 100000 in
theorem behind_any (n : Int) (ls : List ByteArray) (es : List Ed) (S : Nat → Bool) (l : Int) (v1 : Value) (A2 : Option Addr) (c2 : Nat) (w : World) (hr2 : Kd.C k81 w A2 es.length es) (hm : mayR n ls es = true) :
    Calls Try.prog 77 #[.agg #[.int .i64 n, v1, .slice A2 es.length c2], .agg (encSet S).toArray, .int .i64 l] w fun e w' => e = .returned (.agg (encSet (leads es S l)).toArray) ∧ Below w.heap.size w w' := by
  have HB := Aside0.mk (Below.refl w.heap.size w)
  have HR2 := Aside0.mk hr2
  have HM := Aside0.mk hm
  have hel := es_le hm
  have HN := Aside0.mk (n_le hm)
  clear hr2 hm
  go_enter Try.func77, Try.ntmps77
  go_wp2_with fail
  rw [zero_set]
  have HS : Aside0 (BehSt w ((((w.alloc (Obj.cells #[Value.int IntKind.i64 n, v1, Value.slice A2 es.length c2] 25)).alloc (Obj.cells (encSet S).toArray 107)).alloc (Obj.cells (encSet fun _ => false).toArray 107)).alloc (Obj.cells (encSet fun _ => false).toArray 107)) n v1 A2 c2 es S (fun _ => false)) := by
    refine ⟨⟨?_, ?_, ?_, ?_, by repeat (first | exact HB.out | apply below_alloc)⟩⟩
    · exact blk_below (blk_new w _) (below_alloc (below_alloc (below_alloc (Below.refl _ _) _) _) _)
    · exact blk_below (set_new _ _ _ (by simp)) (below_alloc (below_alloc (Below.refl _ _) _) _)
    · exact blk_below (set_new _ _ _ (by simp)) (below_alloc (Below.refl _ _) _)
    · exact set_new _ _ _ (by simp)
  generalize ((((w.alloc (Obj.cells #[Value.int IntKind.i64 n, v1, Value.slice A2 es.length c2] 25)).alloc (Obj.cells (encSet S).toArray 107)).alloc (Obj.cells (encSet fun _ => false).toArray 107)).alloc (Obj.cells (encSet fun _ => false).toArray 107)) = W at HS ⊢
  go_loopw [13] (fun i wr => ∃ k : Nat, k ≤ es.length ∧ i = .int .i64 k ∧ Aside0 (BehSt w wr n v1 A2 c2 es S (leads (es.take k) S l))) (fun i _ => es.length - (intOf i).toNat)
  case atStart => exact ⟨0, Nat.zero_le _, rfl, ⟨by have e0 := leads_nil S l; rw [List.take_zero, e0]; exact HS.out⟩⟩
  case round =>
    clear HS
    obtain ⟨k, hk, rfl, HS⟩ := hrel
    by_cases hlt : k < es.length
    · obtain ⟨ad, hA, g0, g1, g2⟩ := atE HR2.out k hlt
      subst hA
      replace g0 := later HS.out.below g0
      replace g1 := later HS.out.below g1
      replace g2 := later HS.out.below g2
      have hin := es_at HM.out hlt
      obtain ⟨x, hx⟩ : ∃ x, x = es.getD k z81 := ⟨_, rfl⟩
      have HE := Aside0.mk (show es.take (k + 1) = es.take k ++ [x] by rw [hx]; exact take_snoc z81 hlt)
      rw [← hx] at g0 g1 g2 hin
      obtain ⟨i, hi⟩ : ∃ i : Nat, x.f0 = (i : Int) := ⟨x.f0.toNat, by omega⟩
      obtain ⟨j, hj⟩ : ∃ j : Nat, x.f2 = (j : Int) := ⟨x.f2.toNat, by omega⟩
      have HIJ := Aside0.mk (show i < 2048 ∧ j < 2048 by have := HN.out; omega)
      have HL := Aside0.mk (show leads (es.take (k + 1)) S l = if (x.f1 == l) && S i then withN (leads (es.take k) S l) j else leads (es.take k) S l by rw [HE.out, leads_snoc _ _ _ _ hj, hi]; rfl)
      rw [hi] at g0
      rw [hj] at g2
      clear hx hin hi hj
      have HS1 := Aside0.mk (HS.out.on (below_alloc (Below.refl _ _) (Obj.cells #[Value.int IntKind.i64 (i : Int), Value.int IntKind.i64 x.f1, Value.int IntKind.i64 (j : Int)] 81)))
      cases p0 : (x.f1 == l) with
      | false =>
        have HQ := Aside0.mk p0
        go_wp2
        go_roundw
        case rel => exact ⟨k + 1, by omega, by go_num, ⟨by rw [HL.out, HQ.out]; exact HS1.out⟩⟩
        case measure => simp [intOf]; omega
      | true =>
        have HQ := Aside0.mk p0
        go_wp2_with fail
        have e2 := (blk_cell (blk_new wr (Obj.cells #[Value.int IntKind.i64 (i : Int), Value.int IntKind.i64 x.f1, Value.int IntKind.i64 (j : Int)] 81)) 2).trans rfl
        refine (has_set (w.heap.size + 1) i S _ HS1.out.arg HIJ.out.1).mono ?_
        rintro e w3 ⟨rfl, rfl⟩
        cases hSi : S i with
        | false =>
          have HSi := Aside0.mk hSi
          clear p0
          go_wp2
          go_roundw
          case rel => exact ⟨k + 1, by omega, by go_num, ⟨by rw [HL.out, HQ.out, HSi.out]; exact HS1.out⟩⟩
          case measure => simp [intOf]; omega
        | true =>
          have HSi := Aside0.mk hSi
          clear p0
          go_wp2_with fail
          refine (put_any (w.heap.size + 1 + 1 + 1) j _ _ HS1.out.out HIJ.out.2).mono ?_
          rintro e w4 ⟨rfl, hS, hG⟩
          have HS4 := Aside0.mk (HS1.out.put hS hG)
          clear hS hG
          go_wp2
          go_roundw
          case rel => exact ⟨k + 1, by omega, by go_num, ⟨by rw [HL.out, HQ.out, HSi.out]; exact HS4.out⟩⟩
          case measure => simp [intOf]; omega
    · have ek : es.take k = es := List.take_of_length_le (by omega)
      rw [ek] at HS
      clear ek
      have HF := Aside0.mk (show SetAt 107 (wr.setCells (w.heap.size + 1 + 1) 0 (encSet (leads es S l))) (w.heap.size + 1 + 1) (leads es S l) from HS.out.res.store _)
      go_wp2_with (first | (refine wpList_load_mid rfl 107 (.tmp 7) rfl (w.heap.size + 1 + 1 + 1) 0 rfl (encSet (leads es S l)) _ HS.out.out.range Try.underlying107 rfl (by rw [encSet_len]; exact info_set) ?_) | (refine wpList_store_mid rfl 107 (.tmp 6) (.tmp 30) rfl (w.heap.size + 1 + 1) 0 (encSet (leads es S l)).toArray rfl rfl (by simpa [encSet_len] using HS.out.res.there) (by rw [List.size_toArray, encSet_len]; exact info_set) (all_oneCell_toArray (enc_one _)) ?_))
      refine bodyPost_ret (results_cell_row (fn := Try.f77) rfl _ _ (w.heap.size + 1 + 1) 107 (encSet (leads es S l)).toArray (0, 0) _ rfl HF.out Try.underlying107 rfl (by rw [List.size_toArray, encSet_len]; exact info_set)) rfl ?_
      exact ⟨rfl, below_setCells HS.out.below 0 _ (by omega)⟩

end Go.Proofs.Ytmpiokdomjchiaa.H
