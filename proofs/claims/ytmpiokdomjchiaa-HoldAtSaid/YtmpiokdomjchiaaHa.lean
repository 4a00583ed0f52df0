/-
  Walks: how numbers and edges are compared; whether labels' texts are too long; whether a node is one.
-/
import Derived.Test.YtmpiokdomjchiaaHk
import Derived.Deep.QuietTactic
import Derived.BigQuiet
import Derived.Deep.LoopGhost
import Derived.Deep.RegionHeld3
set_option linter.unusedVariables false
set_option linter.unusedSimpArgs false
namespace Go.Proofs.Ytmpiokdomjchiaa.H
open Go.RowKit Go.Proofs.Ytmpiokdomjchiaa.Pr Go.Proofs.YtmpiokdomjchiaaW.PrintWords Go.Proofs.Ytmpiokdomjchiaa.Sem

theorem isNaN (x : Int) (w : World) : Calls Try.prog 141 #[.int .i64 x] w fun e w' => e = .returned (.bool false) ∧ w = w' := by
  have h : (x != x) = false := by simp
  go_enter Try.func141, Try.ntmps141
  go_wp2
  go_ret
  exact ⟨rfl, rfl⟩
theorem compare_lt (x y : Int) (w : World) (h : x < y) : Calls Try.prog 124 #[.int .i64 x, .int .i64 y] w fun e w' => e = .returned (.int .i64 (-1)) ∧ w = w' := by
  go_enter Try.func124, Try.ntmps124
  go_wp2_with (go_at_call 141; refine (isNaN _ _).mono ?_; rintro e w' ⟨rfl, rfl⟩)
  go_ret
  exact ⟨rfl, rfl⟩
theorem compare_gt (x y : Int) (w : World) (h : y < x) (h2 : ¬ x < y) : Calls Try.prog 124 #[.int .i64 x, .int .i64 y] w fun e w' => e = .returned (.int .i64 1) ∧ w = w' := by
  go_enter Try.func124, Try.ntmps124
  go_wp2_with (go_at_call 141; refine (isNaN _ _).mono ?_; rintro e w' ⟨rfl, rfl⟩)
  go_ret
  exact ⟨rfl, rfl⟩
theorem compare_eq (x y : Int) (w : World) (h : ¬ y < x) (h2 : ¬ x < y) : Calls Try.prog 124 #[.int .i64 x, .int .i64 y] w fun e w' => e = .returned (.int .i64 0) ∧ w = w' := by
  go_enter Try.func124, Try.ntmps124
  go_wp2_with (go_at_call 141; refine (isNaN _ _).mono ?_; rintro e w' ⟨rfl, rfl⟩)
  go_ret
  exact ⟨rfl, rfl⟩
theorem compare_any (x y : Int) (w : World) : Calls Try.prog 124 #[.int .i64 x, .int .i64 y] w fun e w' => e = .returned (.int .i64 (cmpI x y)) ∧ w = w' := by
  unfold cmpI
  by_cases h : x < y
  · rw [if_pos h]; exact compare_lt x y w h
  · rw [if_neg h]
    by_cases h' : y < x
    · rw [if_pos h']; exact compare_gt x y w h' h
    · rw [if_neg h']; exact compare_eq x y w h' h

theorem or_any (xs : List Int) (b c : Nat) (w : World) (hn : xs.length ≤ 1000) (hc : ∀ j, j < xs.length → w.cell? ⟨b, j, none⟩ = some (.int .i64 (xs.getD j 0))) :
    Calls Try.prog 123 #[.slice (some ⟨b, 0, none⟩) xs.length c] w fun e w' => e = .returned (.int .i64 (orL xs)) ∧ w = w' := by
  have HC := Lib.hid hc; clear hc
  go_enter Try.func123, Try.ntmps123
  go_wp2
  go_loop [8] (fun i => ∃ k : Nat, k ≤ xs.length ∧ i = .int .i64 k ∧ Aside0 (∀ j, j < k → (xs.getD j 0 != 0) = false)) (fun i => xs.length - (intOf i).toNat)
  case atStart => exact ⟨0, Nat.zero_le _, rfl, ⟨fun j hj => by omega⟩⟩
  case round =>
    obtain ⟨k, hk, rfl, hz⟩ := hrel
    by_cases hlt : k < xs.length
    · have h1 := HC.out k hlt
      obtain ⟨y, hy⟩ : ∃ y, y = xs.getD k 0 := ⟨_, rfl⟩
      rw [← hy] at h1
      have HY := Lib.hid hy; clear hy
      cases hb : (y != 0) with
      | true =>
        go_wp2
        go_ret
        exact ⟨ret_int (by rw [HY.out]; exact (orL_at xs k hz.out hlt (by rw [← HY.out]; exact hb)).symm), rfl⟩
      | false =>
        go_wp2
        go_round
        case rel => exact ⟨k + 1, by omega, by go_num, ⟨fun j hj => by rcases Nat.lt_succ_iff_lt_or_eq.1 hj with h | rfl; exact hz.out j h; rw [← HY.out]; exact hb⟩⟩
        case measure => simp [intOf]; omega
    · go_wp2
      go_ret
      exact ⟨ret_int (orL_zero xs (fun j hj => hz.out j (by omega))).symm, rfl⟩

set_option maxRecDepth 100000 in
/-- lts.compare: two edges by their order. -/
theorem compareE (a b : Ed) (w : World) : Calls Try.prog 102 #[.agg #[.int .i64 a.f0, .int .i64 a.f1, .int .i64 a.f2], .agg #[.int .i64 b.f0, .int .i64 b.f1, .int .i64 b.f2]] w fun e w' => e = .returned (.int .i64 (cmpE a b)) ∧ Below w.heap.size w w' := by
  have HB := Aside0.mk (Below.refl w.heap.size w)
  go_enter Try.func102, Try.ntmps102
  go_wp2_with fail
  go_region_held3 (fun w' => w'.cell? ⟨w.heap.size, 0, none⟩ = some (.int .i64 a.f0) ∧ w'.cell? ⟨w.heap.size, 1, none⟩ = some (.int .i64 a.f1) ∧ w'.cell? ⟨w.heap.size, 2, none⟩ = some (.int .i64 a.f2) ∧ w'.cell? ⟨w.heap.size + 1, 0, none⟩ = some (.int .i64 b.f0) ∧ w'.cell? ⟨w.heap.size + 1, 1, none⟩ = some (.int .i64 b.f1) ∧ w'.cell? ⟨w.heap.size + 1, 2, none⟩ = some (.int .i64 b.f2))
    (first | go_keep)
    (first
      | (go_at_call 124; refine (compare_any _ _ _).mono ?_; rintro e w' ⟨rfl, rfl⟩)
      | (go_at_call 123; refine (or_any [cmpI a.f0 b.f0, cmpI a.f1 b.f1, cmpI a.f2 b.f2] _ _ _ (by simp) (by intro j hj; match j, hj with | 0, _ => go_simp | 1, _ => go_simp | 2, _ => go_simp)).mono ?_; rintro e w' ⟨rfl, rfl⟩))
  go_wp2
  go_ret
  exact ⟨rfl, by repeat (first | exact HB.out | apply below_alloc | apply pw_below_drewN | apply below_drew)⟩

/-- lts.named$1: is a text too long? -/
theorem long_any (s : ByteArray) (b : Bool) (hb : tooLong s = b) (w : World) : Calls Try.prog 121 #[.string s] w fun e w' => e = .returned (.bool b) ∧ w = w' := by
  unfold tooLong at hb
  cases b with
  | true =>
    have h : (200 : Int) < (s.size : Int) := by have := of_decide_eq_true hb; omega
    clear hb
    go_enter Try.func121, Try.ntmps121
    go_wp2
    go_ret
    exact ⟨ret_bool (by simp), rfl⟩
  | false =>
    have h : ¬ (200 : Int) < (s.size : Int) := by have := of_decide_eq_false hb; omega
    clear hb
    go_enter Try.func121, Try.ntmps121
    go_wp2
    go_ret
    exact ⟨ret_bool (by simp), rfl⟩

/-- slices.IndexFunc at lts.named's test: the first text that is too long. -/
theorem idxLong (ls : List ByteArray) (A : Option Addr) (c : Nat) (w : World) (hr : Kd.C Kd.string w A ls.length ls) :
    Calls Try.prog 137 #[.slice A ls.length c, .func (.func 121) #[] #[]] w fun e w' => e = .returned (.int .i64 (idxP tooLong ls)) ∧ w = w' := by
  have hl := C_len hr
  have HR := Lib.hid hr; clear hr
  go_enter Try.func137, Try.ntmps137
  go_wp2
  go_loop [8] (fun i => ∃ k : Nat, k ≤ ls.length ∧ i = .int .i64 k ∧ Aside0 (∀ j, j < k → tooLong (ls.getD j ByteArray.empty) = false)) (fun i => ls.length - (intOf i).toNat)
  case atStart => exact ⟨0, Nat.zero_le _, rfl, ⟨fun j hj => by omega⟩⟩
  case round =>
    obtain ⟨k, hk, rfl, hz⟩ := hrel
    by_cases hlt : k < ls.length
    · obtain ⟨ad, hA, h1⟩ := atS HR.out k hlt
      subst hA
      obtain ⟨s, hs⟩ : ∃ s, s = ls.getD k ByteArray.empty := ⟨_, rfl⟩
      rw [← hs] at h1
      have HS := Lib.hid hs; clear hs
      cases hb : tooLong s with
      | true =>
        have HT := Lib.hid hb; clear hb
        go_wp2_with (go_at_call 121; refine (long_any _ _ HT.out _).mono ?_; rintro e w' ⟨rfl, rfl⟩)
        go_ret
        exact ⟨ret_int (idxP_at tooLong ByteArray.empty ls k hz.out hlt (by rw [← HS.out]; exact HT.out)).symm, rfl⟩
      | false =>
        have HT := Lib.hid hb; clear hb
        go_wp2_with (go_at_call 121; refine (long_any _ _ HT.out _).mono ?_; rintro e w' ⟨rfl, rfl⟩)
        go_round
        case rel => exact ⟨k + 1, by omega, by go_num, ⟨fun j hj => by rcases Nat.lt_succ_iff_lt_or_eq.1 hj with h | rfl; exact hz.out j h; rw [← HS.out]; exact HT.out⟩⟩
        case measure => simp [intOf]; omega
    · go_wp2
      go_ret
      exact ⟨ret_int (idxP_none tooLong ByteArray.empty ls (fun j hj => hz.out j (by omega))).symm, rfl⟩
theorem anyLong (ls : List ByteArray) (A : Option Addr) (c : Nat) (w : World) (hr : Kd.C Kd.string w A ls.length ls) :
    Calls Try.prog 120 #[.slice A ls.length c, .func (.func 121) #[] #[]] w fun e w' => e = .returned (.bool (ls.any tooLong)) ∧ w = w' := by
  have HR := Lib.hid hr; clear hr
  have H := Lib.hid (idxP_nonneg tooLong ls)
  generalize idxP tooLong ls = n at H
  have H2 := Lib.hid (idxLong ls A c w HR.out)
  go_enter Try.func120, Try.ntmps120
  go_wp2_with (go_at_call 137; refine H2.out.mono ?_; rintro e w' ⟨rfl, rfl⟩)
  go_ret
  exact ⟨ret_bool (idxP_nonneg tooLong ls), rfl⟩

/-- lts.Check$1: is a number a node? The system lies in a variable, at address p. -/
theorem node_any (i n : Int) (p : Addr) (w : World) (h0 : w.cell? p = some (.int .i64 n)) :
    Calls Try.prog 101 #[.int .i64 i, .pointer (some p)] w fun e w' => e = .returned (.bool (decide (0 ≤ i ∧ i < n))) ∧ w = w' := by
  by_cases a : 0 ≤ i
  · by_cases b : i < n
    · go_enter Try.func101, Try.ntmps101
      go_wp2
      go_ret
      exact ⟨ret_bool (by simp [a, b]), rfl⟩
    · go_enter Try.func101, Try.ntmps101
      go_wp2
      go_ret
      exact ⟨ret_bool (by simp [b]), rfl⟩
  · go_enter Try.func101, Try.ntmps101
    go_wp2
    go_ret
    exact ⟨ret_bool (by simp; omega), rfl⟩

end Go.Proofs.Ytmpiokdomjchiaa.H
