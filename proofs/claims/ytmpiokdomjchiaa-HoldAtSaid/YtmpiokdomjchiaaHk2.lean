/-
  Walks: semblanceref35.Is at any system; Same.
-/
import Derived.Test.YtmpiokdomjchiaaHj
set_option linter.unusedVariables false
set_option linter.unusedSimpArgs false
namespace Go.Proofs.Ytmpiokdomjchiaa.H
open Go.RowKit Go.Proofs.Ytmpiokdomjchiaa.Pr Go.Proofs.YtmpiokdomjchiaaW.PrintWords Go.Proofs.Ytmpiokdomjchiaa.Sem Go.Proofs.YtmpiokdomjchiaaW.PrintLast

theorem refIs_no (n : Int) (ls : List ByteArray) (es : List Ed) (rel : List Pair) (both : Bool) (A1 A2 A3 : Option Addr) (c1 c2 c3 : Nat) (w : World) (hr1 : Kd.C Kd.string w A1 ls.length ls) (hr2 : Kd.C k81 w A2 es.length es) (hm : mayR n ls es = false) :
    Calls Try.prog 18 #[.agg #[.int .i64 n, .slice A1 ls.length c1, .slice A2 es.length c2], .slice A3 rel.length c3, .bool both] w fun e w' => e = .returned (.bool false) ∧ Below w.heap.size w w' := by
  have HB := Aside0.mk (Below.refl w.heap.size w)
  have HC : ∀ W, Below w.heap.size w W → Calls Try.prog 21 #[.agg #[.int .i64 n, .slice A1 ls.length c1, .slice A2 es.length c2]] W fun e w' => e = .returned (.bool false) ∧ Below W.heap.size W w' := fun W hW => by
    have := may_any n ls es A1 A2 c1 c2 W (Kd.C_below hr1 hW) (Kd.C_below hr2 hW)
    rwa [hm] at this
  have HC' := Lib.hid HC
  clear HC hr1 hr2 hm
  go_enter Try.func18, Try.ntmps18
  go_wp2_with fail
  refine (HC'.out _ (below_alloc HB.out _)).mono ?_
  rintro e w1 ⟨rfl, hB⟩
  have HB1 := Aside0.mk (below_then (below_alloc HB.out _) (by simp) hB)
  clear hB
  go_wp2
  go_ret
  exact ⟨rfl, HB1.out⟩
theorem refIs_any (n : Int) (ls : List ByteArray) (es : List Ed) (rel : List Pair) (both : Bool) (A1 A2 A3 : Option Addr) (c1 c2 c3 : Nat) (w : World) (hr1 : Kd.C Kd.string w A1 ls.length ls) (hr2 : Kd.C k81 w A2 es.length es) (hr3 : Kd.C k31 w A3 rel.length rel) :
    Calls Try.prog 18 #[.agg #[.int .i64 n, .slice A1 ls.length c1, .slice A2 es.length c2], .slice A3 rel.length c3, .bool both] w fun e w' => e = .returned (.bool (refIsB n ls es rel both)) ∧ Below w.heap.size w w' := by
  unfold refIsB
  cases hm : mayR n ls es with
  | false => exact refIs_no n ls es rel both A1 A2 A3 c1 c2 c3 w hr1 hr2 hm
  | true => exact refIs_main n ls es rel both A1 A2 A3 c1 c2 c3 w hr1 hr2 hr3 hm

theorem pair_eq {x y : Pair} : x = y ↔ x.f0 = y.f0 ∧ x.f1 = y.f1 := by
  obtain ⟨a, b⟩ := x
  obtain ⟨c, d⟩ := y
  simp
instance : DecidableEq Pair := fun x y => decidable_of_iff _ (pair_eq (x := x) (y := y)).symm
theorem pairs_ext {xs ys : List Pair} (hl : xs.length = ys.length) (h : ∀ j, j < xs.length → xs.getD j z31 = ys.getD j z31) : xs = ys := list_ext_getD z31 hl h
set_option maxRecDepth 100000 in
/-- semblanceref35.Same. -/
theorem same_any (xs ys : List Pair) (A1 A2 : Option Addr) (c1 c2 : Nat) (w : World) (hx : Kd.C k31 w A1 xs.length xs) (hy : Kd.C k31 w A2 ys.length ys) :
    Calls Try.prog 23 #[.slice A1 xs.length c1, .slice A2 ys.length c2] w fun e w' => e = .returned (.bool (decide (xs = ys))) ∧ Drawn0 w w' := by
  by_cases hl : xs.length = ys.length
  · have hm := C_len hx
    have hq : ((xs.length : Int) != (ys.length : Int)) = false := by rw [hl]; simp
    have HX := Lib.hid hx; clear hx
    have HY := Lib.hid hy; clear hy
    have HLn := Aside0.mk hl; clear hl
    go_enter Try.func23, Try.ntmps23
    go_wp2
    go_loopw [5] (fun i wr => ∃ k : Nat, k ≤ xs.length ∧ i = .int .i64 k ∧ Aside0 (∀ j, j < k → xs.getD j z31 = ys.getD j z31) ∧ Drawn0 w wr) (fun i _ => xs.length - (intOf i).toNat)
    case atStart => exact ⟨0, Nat.zero_le _, rfl, ⟨fun j hj => by omega⟩, Drawn0.refl _⟩
    case round =>
      obtain ⟨k, hk, rfl, hz, hD⟩ := hrel
      by_cases hlt : k < xs.length
      · obtain ⟨a1, hA1, h1, h2⟩ := atP HX.out k hlt
        obtain ⟨a2, hA2, h3, h4⟩ := atP HY.out k (by rw [← HLn.out]; exact hlt)
        subst hA1 hA2
        have g1 := later hD.below h1
        have g2 := later hD.below h2
        have g3 := later hD.below h3
        have g4 := later hD.below h4
        clear h1 h2 h3 h4
        have hlt2 : k < ys.length := by rw [← HLn.out]; exact hlt
        obtain ⟨x, hx⟩ : ∃ x, x = xs.getD k z31 := ⟨_, rfl⟩
        obtain ⟨y, hy⟩ : ∃ y, y = ys.getD k z31 := ⟨_, rfl⟩
        rw [← hx] at g1 g2
        rw [← hy] at g3 g4
        have HS := Aside0.mk hx; clear hx
        have HT := Aside0.mk hy; clear hy
        have i1 : (k : Int) < (xs.length : Int) := by omega
        have i2 : (k : Int) < (ys.length : Int) := by omega
        have i0 : (0 : Int) ≤ (k : Int) := by omega
        by_cases q : x.f0 = y.f0 ∧ x.f1 = y.f1
        · have hE : ∀ W : World, (Op.equalIn 10000 31 (.agg #[.int .i64 x.f0, .int .i64 x.f1]) (.agg #[.int .i64 y.f0, .int .i64 y.f1])).run Try.prog W = .ok true W := fun W => by rw [eqPair]; simp [q.1, q.2]
          have HQ := Aside0.mk (pair_eq.2 q)
          clear q
          go_wp2_with fail
          go_quiet (fail)
          go_wp2
          go_roundw
          case rel => exact ⟨k + 1, by omega, by go_num, ⟨fun j hj => by
            rcases Nat.lt_succ_iff_lt_or_eq.1 hj with h | rfl
            · exact hz.out j h
            · rw [← HS.out, ← HT.out]; exact HQ.out⟩, hD.step _⟩
          case measure => simp [intOf]; omega
        · have hE : ∀ W : World, (Op.equalIn 10000 31 (.agg #[.int .i64 x.f0, .int .i64 x.f1]) (.agg #[.int .i64 y.f0, .int .i64 y.f1])).run Try.prog W = .ok false W := fun W => by rw [eqPair]; congr 1; simpa using q
          have HQ := Aside0.mk (fun e => q (pair_eq.1 e))
          clear q
          go_wp2_with fail
          go_quiet (fail)
          go_wp2
          go_ret
          refine ⟨ret_bool (decide_eq_false fun he => ?_).symm, hD.step _⟩
          exact HQ.out (by rw [HS.out, HT.out, he])
      · go_wp2
        go_ret
        exact ⟨ret_bool (decide_eq_true (pairs_ext HLn.out (fun j hj => hz.out j (by omega)))).symm, hD⟩
  · have hq : ((xs.length : Int) != (ys.length : Int)) = true := by simp; omega
    have hn : decide (xs = ys) = false := decide_eq_false fun h => hl (by rw [h])
    rw [hn]
    clear hx hy hl hn
    go_enter Try.func23, Try.ntmps23
    go_wp2
    go_ret
    exact ⟨rfl, Drawn0.refl _⟩

end Go.Proofs.Ytmpiokdomjchiaa.H
