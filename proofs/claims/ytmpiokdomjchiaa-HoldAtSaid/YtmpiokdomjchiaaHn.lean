/-
  Walks: bisim.Greatest at any system; bisim.Has.
-/
import Derived.Test.YtmpiokdomjchiaaHl
set_option linter.unusedVariables false
set_option linter.unusedSimpArgs false
namespace Go.Proofs.Ytmpiokdomjchiaa.H
open Go.RowKit Go.Proofs.Ytmpiokdomjchiaa.Pr Go.Proofs.YtmpiokdomjchiaaW.PrintWords Go.Proofs.Ytmpiokdomjchiaa.Sem Go.Proofs.YtmpiokdomjchiaaW.PrintLast

theorem greatest_no (n : Int) (ls : List ByteArray) (es : List Ed) (A1 A2 : Option Addr) (c1 c2 : Nat) (w : World) (hr1 : Kd.C Kd.string w A1 ls.length ls) (hr2 : Kd.C k81 w A2 es.length es) (hm : mayR n ls es = false) :
    Calls Try.prog 20 #[.agg #[.int .i64 n, .slice A1 ls.length c1, .slice A2 es.length c2]] w fun e w' => e = .returned (.tuple #[.slice none 0 0, .int .i64 1]) ∧ Below w.heap.size w w' := by
  have HB := Aside0.mk (Below.refl w.heap.size w)
  have HC : ∀ W, Below w.heap.size w W → Calls Try.prog 66 #[.agg #[.int .i64 n, .slice A1 ls.length c1, .slice A2 es.length c2]] W fun e w' => e = .returned (.int .i64 1) ∧ Below W.heap.size W w' := fun W hW =>
    check_no n ls es A1 A2 c1 c2 W (Kd.C_below hr1 hW) (Kd.C_below hr2 hW) (by rw [may_same]; exact hm)
  have HC' := Lib.hid HC
  clear HC hr1 hr2 hm
  go_enter Try.func20, Try.ntmps20
  go_wp2_with fail
  refine (HC'.out _ (below_alloc HB.out _)).mono ?_
  rintro e w1 ⟨rfl, hB⟩
  have HB1 := Aside0.mk (below_then (below_alloc HB.out _) (by simp) hB)
  clear hB
  go_wp2
  go_ret2
  exact ⟨rfl, HB1.out⟩

/-- What bisim.Greatest answers. -/
def GreatPost (w : World) (n : Int) (ls : List ByteArray) (es : List Ed) (e : Ending) (w' : World) : Prop :=
  ∃ v, e = .returned (.tuple #[v, .int .i64 (errB (mayR n ls es))]) ∧ RP w' w.heap.size (fun _ => True) v (if mayR n ls es then greatL n.toNat es else []) ∧ Below w.heap.size w w'
theorem greatest_any (n : Int) (ls : List ByteArray) (es : List Ed) (A1 A2 : Option Addr) (c1 c2 : Nat) (w : World) (hr1 : Kd.C Kd.string w A1 ls.length ls) (hr2 : Kd.C k81 w A2 es.length es) :
    Calls Try.prog 20 #[.agg #[.int .i64 n, .slice A1 ls.length c1, .slice A2 es.length c2]] w (GreatPost w n ls es) := by
  unfold GreatPost
  cases hm : mayR n ls es with
  | false =>
    refine (greatest_no n ls es A1 A2 c1 c2 w hr1 hr2 hm).mono ?_
    rintro e w' ⟨rfl, hB⟩
    exact ⟨_, rfl, Kd.R_nil _ _ _ _ _, hB⟩
  | true =>
    obtain ⟨m, rfl⟩ := Int.eq_ofNat_of_zero_le (show 0 ≤ n by have := n_le hm; omega)
    refine (greatest_yes m ls es A1 A2 c1 c2 w hr1 hr2 hm).mono ?_
    rintro e w' ⟨v, rfl, hR, hB⟩
    exact ⟨_, rfl, hR, hB⟩

/-- Is a pair this one? -/
def isP (a b : Int) (p : Pair) : Bool := decide (p.f0 = a) && decide (p.f1 = b)
set_option maxRecDepth 100000 in
theorem idxPair (rel : List Pair) (a b : Int) (A : Option Addr) (c : Nat) (w : World) (hr : Kd.C k31 w A rel.length rel) :
    Calls Try.prog 103 #[.slice A rel.length c, .agg #[.int .i64 a, .int .i64 b]] w fun e w' => ∃ z : Int, e = .returned (.int .i64 z) ∧ Aside0 (z = idxP (isP a b) rel) ∧ Below w.heap.size w w' := by
  have hl := C_len hr
  have HR := Lib.hid hr; clear hr
  have HB := Aside0.mk (Below.refl w.heap.size w)
  have HX := Aside0.mk (blk_new w (Obj.cells #[Value.int IntKind.i64 a, Value.int IntKind.i64 b] 31))
  have HB1 := Aside0.mk (below_alloc HB.out (Obj.cells #[Value.int IntKind.i64 a, Value.int IntKind.i64 b] 31))
  go_enter Try.func103, Try.ntmps103
  go_wp2
  go_loopw [8] (fun i wr => ∃ k : Nat, k ≤ rel.length ∧ i = .int .i64 k ∧ Aside0 (∀ j, j < k → isP a b (rel.getD j z31) = false) ∧ Aside0 (wr.heap[w.heap.size]? = some (.cells #[Value.int IntKind.i64 a, Value.int IntKind.i64 b] 31 (0, 0))) ∧ Aside0 (Below w.heap.size w wr)) (fun i _ => rel.length - (intOf i).toNat)
  case atStart => exact ⟨0, Nat.zero_le _, rfl, ⟨fun j hj => by omega⟩, HX, HB1⟩
  case round =>
    clear HX HB1
    obtain ⟨k, hk, rfl, hz, HX, HBr⟩ := hrel
    by_cases hlt : k < rel.length
    · obtain ⟨ad, hA, h0, h1⟩ := atP HR.out k hlt
      subst hA
      have g0 := later HBr.out h0
      have g1 := later HBr.out h1
      clear h0 h1
      have x0 := (blk_cell HX.out 0).trans rfl
      have x1 := (blk_cell HX.out 1).trans rfl
      obtain ⟨x, hx⟩ : ∃ x, x = rel.getD k z31 := ⟨_, rfl⟩
      rw [← hx] at g0 g1
      have HS := Aside0.mk hx; clear hx
      have i0 : (0 : Int) ≤ (k : Int) := by omega
      have i1 : (k : Int) < (rel.length : Int) := by omega
      by_cases q : a = x.f0 ∧ b = x.f1
      · have HT := Aside0.mk (show isP a b x = true by unfold isP; rw [q.1, q.2]; simp)
        have hE : ∀ W : World, (Op.equalIn 10000 31 (.agg #[.int .i64 a, .int .i64 b]) (.agg #[.int .i64 x.f0, .int .i64 x.f1])).run Try.prog W = .ok true W := fun W => by rw [eqPair]; simp [q.1, q.2]
        clear q
        go_wp2_with fail
        go_quiet (fail)
        go_wp2
        go_ret
        exact ⟨_, rfl, ⟨(idxP_at (isP a b) z31 rel k hz.out hlt (by rw [← HS.out]; exact HT.out)).symm⟩, pw_below_drewN HBr.out _⟩
      · have HT := Aside0.mk (show isP a b x = false by unfold isP; exact pair_ne (fun h => q ⟨h.1.symm, h.2.symm⟩))
        have hE : ∀ W : World, (Op.equalIn 10000 31 (.agg #[.int .i64 a, .int .i64 b]) (.agg #[.int .i64 x.f0, .int .i64 x.f1])).run Try.prog W = .ok false W := fun W => by rw [eqPair]; congr 1; simpa using q
        clear q
        go_wp2_with fail
        go_quiet (fail)
        go_wp2
        go_roundw
        case rel => exact ⟨k + 1, by omega, by go_num, ⟨fun j hj => by rcases Nat.lt_succ_iff_lt_or_eq.1 hj with h | rfl; exact hz.out j h; rw [← HS.out]; exact HT.out⟩, ⟨blk_below HX.out (pw_below_drewN (Below.refl _ _) _)⟩, ⟨pw_below_drewN HBr.out _⟩⟩
        case measure => simp [intOf]; omega
    · go_wp2
      go_ret
      exact ⟨_, rfl, ⟨(idxP_none (isP a b) z31 rel (fun j hj => hz.out j (by omega))).symm⟩, HBr.out⟩
theorem contPair (rel : List Pair) (a b : Int) (A : Option Addr) (c : Nat) (w : World) (hr : Kd.C k31 w A rel.length rel) :
    Calls Try.prog 68 #[.slice A rel.length c, .agg #[.int .i64 a, .int .i64 b]] w fun e w' => e = .returned (.bool (relS rel a b)) ∧ Below w.heap.size w w' := by
  have HB := Aside0.mk (Below.refl w.heap.size w)
  have H2 : ∀ W, Below w.heap.size w W → Calls Try.prog 103 #[.slice A rel.length c, .agg #[.int .i64 a, .int .i64 b]] W fun e w' => ∃ z : Int, e = .returned (.int .i64 z) ∧ Aside0 (z = idxP (isP a b) rel) ∧ Below W.heap.size W w' := fun W hW => idxPair rel a b A c W (Kd.C_below hr hW)
  have H2' := Lib.hid H2
  clear hr H2
  go_enter Try.func68, Try.ntmps68
  go_wp2_with (go_at_call 103; refine (H2'.out _ (below_alloc HB.out _)).mono ?_; rintro e w' ⟨z, rfl, HZ, hB⟩; have HB1 := Aside0.mk (below_then (below_alloc HB.out _) (by simp) hB); clear hB)
  go_ret
  exact ⟨ret_bool (by rw [HZ.out, idxP_nonneg]; rfl), HB1.out⟩

/-- bisim.Has. -/
def hasB (n : Int) (ls : List ByteArray) (es : List Ed) (a b : Int) : Bool := relS (if mayR n ls es then greatL n.toNat es else []) a b
theorem has_any (n : Int) (ls : List ByteArray) (es : List Ed) (a b : Int) (r : Bool) (hr : hasB n ls es a b = r) (A1 A2 : Option Addr) (c1 c2 : Nat) (w : World) (hr1 : Kd.C Kd.string w A1 ls.length ls) (hr2 : Kd.C k81 w A2 es.length es) :
    Calls Try.prog 22 #[.agg #[.int .i64 n, .slice A1 ls.length c1, .slice A2 es.length c2], .int .i64 a, .int .i64 b] w fun e w' => e = .returned (.bool r) ∧ Below w.heap.size w w' := by
  subst hr
  have HB := Aside0.mk (Below.refl w.heap.size w)
  have HG : ∀ W, Below w.heap.size w W → Calls Try.prog 20 #[.agg #[.int .i64 n, .slice A1 ls.length c1, .slice A2 es.length c2]] W (GreatPost W n ls es) := fun W hW => greatest_any n ls es A1 A2 c1 c2 W (Kd.C_below hr1 hW) (Kd.C_below hr2 hW)
  have HG' := Lib.hid HG
  clear HG hr1 hr2
  go_enter Try.func22, Try.ntmps22
  go_wp2_with fail
  refine (HG'.out _ (below_alloc HB.out _)).mono ?_
  rintro e w1 ⟨v, rfl, hR, hB⟩
  obtain ⟨A3, c3, rfl, _, hC⟩ := Kd.R_reads hR
  have HB1 := Aside0.mk (below_then (below_alloc HB.out _) (by simp) hB)
  have HC := Aside0.mk hC
  clear hB hR hC
  generalize hrel : (if mayR n ls es = true then greatL n.toNat es else []) = rel at HC ⊢
  have HRel := Aside0.mk hrel
  clear hrel
  go_wp2_with fail
  refine (contPair rel a b A3 c3 _ HC.out).mono ?_
  rintro e w2 ⟨rfl, hB⟩
  have HB2 := Aside0.mk (below_then HB1.out HB1.out.size hB)
  clear hB
  go_wp2
  go_ret
  exact ⟨ret_bool (by unfold hasB; rw [HRel.out]), HB2.out⟩

end Go.Proofs.Ytmpiokdomjchiaa.H
