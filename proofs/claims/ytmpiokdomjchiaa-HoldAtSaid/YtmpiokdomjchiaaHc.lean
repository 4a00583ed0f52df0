/-
  The walk of lts.Check.
-/
import Derived.Test.YtmpiokdomjchiaaHb
set_option linter.unusedVariables false
set_option linter.unusedSimpArgs false
namespace Go.Proofs.Ytmpiokdomjchiaa.H
open Go.RowKit Go.Proofs.Ytmpiokdomjchiaa.Pr Go.Proofs.YtmpiokdomjchiaaW.PrintWords Go.Proofs.Ytmpiokdomjchiaa.Sem

theorem node_is (i n : Int) (b : Bool) (hb : decide (0 ≤ i ∧ i < n) = b) (p : Addr) (w : World) (h0 : w.cell? p = some (.int .i64 n)) :
    Calls Try.prog 101 #[.int .i64 i, .pointer (some p)] w fun e w' => e = .returned (.bool b) ∧ w = w' := by
  subst hb
  exact node_any i n p w h0
theorem compare_is (a b : Ed) (r : Bool) (hr : decide (cmpE a b < 0) = r) (w : World) : Calls Try.prog 102 #[.agg #[.int .i64 a.f0, .int .i64 a.f1, .int .i64 a.f2], .agg #[.int .i64 b.f0, .int .i64 b.f1, .int .i64 b.f2]] w fun e w' => ∃ z : Int, e = .returned (.int .i64 z) ∧ Aside0 (decide (z < 0) = r) ∧ Below w.heap.size w w' :=
  (compareE a b w).mono fun e w' ⟨he, hb⟩ => ⟨_, he, ⟨hr⟩, hb⟩

/-- May a system be? -/
def mayB (n : Int) (ls : List ByteArray) (es : List Ed) : Bool :=
  decide (1 ≤ n) && (decide (n ≤ 2048) && (namedB ls && (decide (es.length ≤ 1000000) && (List.range es.length).all (okAt n ls.length es))))
def errB (b : Bool) : Int := if b then 0 else 1

/-- The system lies in a variable: block b. -/
def BoxL (w : World) (b : Nat) (n : Int) (v1 v2 : Value) : Prop := w.heap[b]? = some (.cells #[.int .i64 n, v1, v2] 25 (0, 0))
theorem BoxL.c0 {w : World} {b : Nat} {n : Int} {v1 v2 : Value} (h : BoxL w b n v1 v2) : w.cell? ⟨b, 0, none⟩ = some (.int .i64 n) := (blk_cell h 0).trans rfl
theorem BoxL.c1 {w : World} {b : Nat} {n : Int} {v1 v2 : Value} (h : BoxL w b n v1 v2) : w.cell? ⟨b, 1, none⟩ = some v1 := (blk_cell h 1).trans rfl
theorem BoxL.c2 {w : World} {b : Nat} {n : Int} {v1 v2 : Value} (h : BoxL w b n v1 v2) : w.cell? ⟨b, 2, none⟩ = some v2 := (blk_cell h 2).trans rfl
theorem BoxL.below {w w1 : World} {b : Nat} {n : Int} {v1 v2 : Value} (h : BoxL w b n v1 v2) (hb : Below w.heap.size w w1) : BoxL w1 b n v1 v2 := blk_below h hb

theorem check_size (n : Int) (ls : List ByteArray) (es : List Ed) (A1 A2 : Option Addr) (c1 c2 : Nat) (w : World) (h : n < 1 ∨ 2048 < n) :
    Calls Try.prog 66 #[.agg #[.int .i64 n, .slice A1 ls.length c1, .slice A2 es.length c2]] w fun e w' => e = .returned (.int .i64 1) ∧ Below w.heap.size w w' := by
  have HB := Aside0.mk (Below.refl w.heap.size w)
  rcases h with h | h
  · go_enter Try.func66, Try.ntmps66
    go_wp2
    go_ret
    exact ⟨rfl, below_alloc HB.out _⟩
  · have h' : ¬ n < 1 := by omega
    go_enter Try.func66, Try.ntmps66
    go_wp2
    go_ret
    exact ⟨rfl, below_alloc HB.out _⟩
theorem check_named (n : Int) (ls : List ByteArray) (es : List Ed) (A1 A2 : Option Addr) (c1 c2 : Nat) (w : World) (h0 : ¬ n < 1) (h1 : ¬ 2048 < n) (hr1 : Kd.C Kd.string w A1 ls.length ls) (h : namedB ls = false) :
    Calls Try.prog 66 #[.agg #[.int .i64 n, .slice A1 ls.length c1, .slice A2 es.length c2]] w fun e w' => e = .returned (.int .i64 1) ∧ Below w.heap.size w w' := by
  have HB := Aside0.mk (Below.refl w.heap.size w)
  have HN : ∀ W, Below w.heap.size w W → Calls Try.prog 100 #[.slice A1 ls.length c1] W fun e w' => e = .returned (.bool false) ∧ Below W.heap.size W w' := fun W hW => by
    have := named_any ls A1 c1 W (Kd.C_below hr1 hW)
    rwa [h] at this
  have HN' := Lib.hid HN
  clear HN hr1 h
  go_enter Try.func66, Try.ntmps66
  go_wp2_with (go_at_call 100; refine (HN'.out _ (below_alloc HB.out _)).mono ?_; rintro e w1 ⟨rfl, hB⟩; have HB1 := Aside0.mk (below_then (below_alloc HB.out _) (by simp) hB); clear hB)
  go_ret
  exact ⟨rfl, HB1.out⟩

theorem bad_at {n nl : Int} {es : List Ed} {k : Nat} (hk : k < es.length) (h : okAt n nl es k = false) : 1 = errB ((List.range es.length).all (okAt n nl es)) := by
  have : (List.range es.length).all (okAt n nl es) = false := by
    rw [Bool.eq_false_iff]
    intro he
    have := List.all_eq_true.1 he k (List.mem_range.2 hk)
    rw [h] at this
    cases this
  rw [this]; rfl
theorem quiet_same {P : Program} {f : FuncId} {args : Array Value} {w : World} {n : Nat} {v : Value} (h : Calls P f args (w.drewN n) fun e w' => e = .returned v ∧ w.drewN n = w') : Calls P f args (w.drewN n) fun e w'' => e = .returned v ∧ ∃ m, w'' = w.drewN m :=
  h.mono fun _ _ ⟨he, hw⟩ => ⟨he, n, hw.symm⟩
set_option maxHeartbeats 8000000 in
set_option maxRecDepth 100000 in
theorem check_main (n : Int) (ls : List ByteArray) (es : List Ed) (A1 A2 : Option Addr) (c1 c2 : Nat) (w : World) (h0 : ¬ n < 1) (h1 : ¬ 2048 < n) (hr1 : Kd.C Kd.string w A1 ls.length ls) (hr2 : Kd.C k81 w A2 es.length es) (h : namedB ls = true) :
    Calls Try.prog 66 #[.agg #[.int .i64 n, .slice A1 ls.length c1, .slice A2 es.length c2]] w fun e w' => e = .returned (.int .i64 (errB (decide (es.length ≤ 1000000) && (List.range es.length).all (okAt n ls.length es)))) ∧ Below w.heap.size w w' := by
  have HB := Aside0.mk (Below.refl w.heap.size w)
  have HN : ∀ W, Below w.heap.size w W → Calls Try.prog 100 #[.slice A1 ls.length c1] W fun e w' => e = .returned (.bool true) ∧ Below W.heap.size W w' := fun W hW => by
    have := named_any ls A1 c1 W (Kd.C_below hr1 hW)
    rwa [h] at this
  have HN' := Lib.hid HN
  have hm := C_len hr2
  have HR := Aside0.mk hr2
  clear HN hr1 h hr2
  by_cases hl : (1000000 : Int) < (es.length : Int)
  · have e1 : errB (decide (es.length ≤ 1000000) && (List.range es.length).all (okAt n ls.length es)) = 1 := by rw [decide_eq_false (by omega)]; rfl
    rw [e1]; clear e1
    go_enter Try.func66, Try.ntmps66
    go_wp2_with fail
    refine (HN'.out _ (below_alloc HB.out _)).mono ?_; rintro e w1 ⟨rfl, hB⟩
    have HX : BoxL w1 w.heap.size n (.slice A1 ls.length c1) (.slice A2 es.length c2) := blk_below (blk_new w _) hB
    have HB1 := Aside0.mk (below_then (below_alloc HB.out _) (by simp) hB)
    have b2 := HX.c2
    clear hB HX
    go_wp2
    go_ret
    exact ⟨rfl, HB1.out⟩
  · have e1 : errB (decide (es.length ≤ 1000000) && (List.range es.length).all (okAt n ls.length es)) = errB ((List.range es.length).all (okAt n ls.length es)) := by rw [decide_eq_true (by omega)]; rfl
    rw [e1]; clear e1
    go_enter Try.func66, Try.ntmps66
    go_wp2_with fail
    refine (HN'.out _ (below_alloc HB.out _)).mono ?_; rintro e w1 ⟨rfl, hB⟩
    have HX := Aside0.mk (show BoxL w1 w.heap.size n (.slice A1 ls.length c1) (.slice A2 es.length c2) from blk_below (blk_new w _) hB)
    have HB1 := Aside0.mk (below_then (below_alloc HB.out _) (by simp) hB)
    have b2 := HX.out.c2
    clear hB
    go_wp2
    clear b2
    go_loopw [30] (fun i wr => ∃ k : Nat, k ≤ es.length ∧ i = .int .i64 k ∧ Aside0 (∀ j, j < k → okAt n ls.length es j = true) ∧ Aside0 (BoxL wr w.heap.size n (.slice A1 ls.length c1) (.slice A2 es.length c2)) ∧ Aside0 (Below w.heap.size w wr)) (fun i _ => es.length - (intOf i).toNat)
    case atStart => exact ⟨0, Nat.zero_le _, rfl, ⟨fun j hj => by omega⟩, HX, HB1⟩
    case round =>
      obtain ⟨k, hk, rfl, hz, HXr, HBr⟩ := hrel
      clear HX HB1
      by_cases hlt : k < es.length
      · obtain ⟨ad, hA, g0, g1, g2⟩ := atE HR.out k hlt
        subst hA
        replace g0 := later HBr.out g0
        replace g1 := later HBr.out g1
        replace g2 := later HBr.out g2
        obtain ⟨x, hx⟩ : ∃ x, x = es.getD k z81 := ⟨_, rfl⟩
        rw [← hx] at g0 g1 g2
        have hx' := Aside0.mk hx; clear hx
        go_wp2_with fail
        have b0 : ∀ o, (wr.alloc o).cell? ⟨w.heap.size, 0, none⟩ = some (.int .i64 n) := fun o => (HXr.out.below (below_alloc (Below.refl _ _) o)).c0
        have b1 : ∀ o, (wr.alloc o).cell? ⟨w.heap.size, 1, none⟩ = some (.slice A1 ls.length c1) := fun o => (HXr.out.below (below_alloc (Below.refl _ _) o)).c1
        cases hF : decide (0 ≤ x.f0 ∧ x.f0 < n) with
        | false =>
          have HF := Aside0.mk hF; clear hF
          go_quiet ((first | (go_at_call_of 101 (x.f0); exact quiet_same (node_is x.f0 n _ HF.out _ _ (by go_simp)))))
          go_wp2
          go_ret
          exact ⟨ret_int (bad_at hlt (by unfold okAt; rw [← hx'.out]; rw [HF.out]; rfl)), by repeat (first | exact HBr.out | apply below_alloc | apply pw_below_drewN | apply below_drew)⟩
        | true =>
          have HF := Aside0.mk hF; clear hF
          cases hT : decide (0 ≤ x.f2 ∧ x.f2 < n) with
          | false =>
            have HT := Aside0.mk hT; clear hT
            go_quiet ((first | (go_at_call_of 101 (x.f0); exact quiet_same (node_is x.f0 n _ HF.out _ _ (by go_simp))) | (go_at_call_of 101 (x.f2); exact quiet_same (node_is x.f2 n _ HT.out _ _ (by go_simp)))))
            go_wp2
            go_ret
            exact ⟨ret_int (bad_at hlt (by unfold okAt; rw [← hx'.out]; rw [HF.out, HT.out]; rfl)), by repeat (first | exact HBr.out | apply below_alloc | apply pw_below_drewN | apply below_drew)⟩
          | true =>
            have HT := Aside0.mk hT; clear hT
            by_cases hL : x.f1 < 0
            · have HL := Aside0.mk (show decide (0 ≤ x.f1) = false by rw [decide_eq_false (by omega)])
              go_quiet ((first | (go_at_call_of 101 (x.f0); exact quiet_same (node_is x.f0 n _ HF.out _ _ (by go_simp))) | (go_at_call_of 101 (x.f2); exact quiet_same (node_is x.f2 n _ HT.out _ _ (by go_simp)))))
              go_wp2
              go_ret
              exact ⟨ret_int (bad_at hlt (by unfold okAt; rw [← hx'.out]; rw [HF.out, HT.out, HL.out]; rfl)), by repeat (first | exact HBr.out | apply below_alloc | apply pw_below_drewN | apply below_drew)⟩
            · have HL := Aside0.mk (show decide (0 ≤ x.f1) = true by rw [decide_eq_true (by omega)])
              by_cases hM : (ls.length : Int) ≤ x.f1
              · have HM := Aside0.mk (show decide (x.f1 < (ls.length : Int)) = false by rw [decide_eq_false (by omega)])
                go_quiet ((first | (go_at_call_of 101 (x.f0); exact quiet_same (node_is x.f0 n _ HF.out _ _ (by go_simp))) | (go_at_call_of 101 (x.f2); exact quiet_same (node_is x.f2 n _ HT.out _ _ (by go_simp)))))
                go_wp2
                go_ret
                exact ⟨ret_int (bad_at hlt (by unfold okAt; rw [← hx'.out]; rw [HF.out, HT.out, HL.out, HM.out]; rfl)), by repeat (first | exact HBr.out | apply below_alloc | apply pw_below_drewN | apply below_drew)⟩
              · have HM := Aside0.mk (show decide (x.f1 < (ls.length : Int)) = true by rw [decide_eq_true (by omega)])
                by_cases hK : k = 0
                · subst hK
                  go_quiet ((first | (go_at_call_of 101 (x.f0); exact quiet_same (node_is x.f0 n _ HF.out _ _ (by go_simp))) | (go_at_call_of 101 (x.f2); exact quiet_same (node_is x.f2 n _ HT.out _ _ (by go_simp)))))
                  go_wp2
                  go_roundw
                  case rel => exact ⟨1, by omega, by go_num, ⟨fun j hj => by obtain rfl : j = 0 := (by omega); unfold okAt; rw [← hx'.out, HF.out, HT.out, HL.out, HM.out]; rfl⟩, ⟨HXr.out.below (by repeat (first | exact Below.refl _ _ | apply below_alloc | apply pw_below_drewN | apply below_drew))⟩, ⟨by repeat (first | exact HBr.out | apply below_alloc | apply pw_below_drewN | apply below_drew)⟩⟩
                  case measure => simp [intOf]; omega
                · have hK' : (0 : Int) < (k : Int) := by omega
                  obtain ⟨ad', hA', p0, p1, p2⟩ := atE HR.out (k - 1) (by omega)
                  cases hA'
                  replace p0 := later HBr.out p0
                  replace p1 := later HBr.out p1
                  replace p2 := later HBr.out p2
                  obtain ⟨y, hy⟩ : ∃ y, y = es.getD (k - 1) z81 := ⟨_, rfl⟩
                  rw [← hy] at p0 p1 p2
                  have hy' := Aside0.mk hy
                  clear hy
                  have q0 := fun o => later (below_alloc (Below.refl wr.heap.size wr) o) p0
                  have q1 := fun o => later (below_alloc (Below.refl wr.heap.size wr) o) p1
                  have q2 := fun o => later (below_alloc (Below.refl wr.heap.size wr) o) p2
                  clear p0 p1 p2
                  have i0 : (0 : Int) ≤ (k : Int) - 1 := by omega
                  have d1 : decide (x.f1 < 0) = false := decide_eq_false hL
                  have d2 : decide ((ls.length : Int) ≤ x.f1) = false := decide_eq_false hM
                  have hw1 : IntKind.i64.wrap ((k : Int) - 1) = (k : Int) - 1 := by rw [IntKind.wrap_i64]; omega
                  have hw2 : ((k : Int) - 1).toNat = k - 1 := by omega
                  have j0 : (1 : Int) ≤ (k : Int) := by omega
                  have j1 : (k : Int) < (es.length : Int) + 1 := by omega
                  have j2 : 1 ≤ k := by omega
                  have j3 : k - 1 < es.length := by omega
                  have j4 : (k : Int) ≤ (es.length : Int) := by omega
                  have d4 : decide (0 < k) = true := decide_eq_true (by omega)
                  have d3 : decide ((0 : Int) < (k : Int)) = true := decide_eq_true hK'
                  have i1 : (k : Int) - 1 < (es.length : Int) := by omega
                  have b2 : ∀ o, (wr.alloc o).cell? ⟨w.heap.size, 2, none⟩ = some (.slice (some ad) es.length c2) := fun o => (HXr.out.below (below_alloc (Below.refl _ _) o)).c2
                  go_region_held3 (fun w' => w'.cell? ⟨w.heap.size, 0, none⟩ = some (.int .i64 n) ∧ w'.cell? ⟨w.heap.size, 1, none⟩ = some (.slice A1 ls.length c1) ∧ w'.cell? ⟨w.heap.size, 2, none⟩ = some (.slice (some ad) es.length c2) ∧ w'.cell? ⟨wr.heap.size, 0, none⟩ = some (.int .i64 x.f0) ∧ w'.cell? ⟨wr.heap.size, 1, none⟩ = some (.int .i64 x.f1) ∧ w'.cell? ⟨wr.heap.size, 2, none⟩ = some (.int .i64 x.f2) ∧ w'.cell? (ad.add ((k - 1) * 3)) = some (.int .i64 y.f0) ∧ w'.cell? ⟨(ad.add ((k - 1) * 3)).block, (ad.add ((k - 1) * 3)).off + 1, none⟩ = some (.int .i64 y.f1) ∧ w'.cell? ⟨(ad.add ((k - 1) * 3)).block, (ad.add ((k - 1) * 3)).off + 2, none⟩ = some (.int .i64 y.f2)) (first | go_keep | (refine ⟨later hB ?_, later hB ?_, later hB ?_, later hB ?_, later hB ?_, later hB ?_, later hB ?_, later hB ?_, later hB ?_⟩ <;> go_keep)) (first | (go_at_call_of 101 (x.f0); refine (node_is x.f0 n _ HF.out _ _ (by go_keep)).mono ?_; rintro e w' ⟨rfl, rfl⟩) | (go_at_call_of 101 (x.f2); refine (node_is x.f2 n _ HT.out _ _ (by go_keep)).mono ?_; rintro e w' ⟨rfl, rfl⟩) | (go_at_call 102; refine (compare_is y x _ rfl _).mono ?_; rintro e w' ⟨z, rfl, hz', hB⟩))
                  clear hw1 hw2 j0 j1 j2 j3 j4 q0 q1 q2
                  have HW := Aside0.mk (below_then (show Below w.heap.size w _ by repeat (first | exact HBr.out | apply below_alloc | apply pw_below_drewN | apply below_drew)) (below_size (by repeat (first | exact HBr.out | apply below_alloc | apply pw_below_drewN | apply below_drew))) hB)
                  have HXw := Aside0.mk ((HXr.out.below (show Below wr.heap.size wr _ by repeat (first | exact Below.refl _ _ | apply below_alloc | apply pw_below_drewN | apply below_drew))).below hB)
                  clear hB
                  by_cases hneg : z < 0
                  · have HC := Aside0.mk (show decide (cmpE y x < 0) = true by rw [← hz'.out]; exact decide_eq_true hneg)
                    go_wp2
                    go_roundw
                    case rel => exact ⟨k + 1, by omega, by go_num, ⟨fun j hj => by
                      rcases Nat.lt_succ_iff_lt_or_eq.1 hj with h | rfl
                      · exact hz.out j h
                      · unfold okAt; rw [← hx'.out, ← hy'.out, HF.out, HT.out, HL.out, HM.out, HC.out]; simp⟩, HXw, HW⟩
                    case measure => simp [intOf]; omega
                  · have HC := Aside0.mk (show decide (cmpE y x < 0) = false by rw [← hz'.out]; exact decide_eq_false hneg)
                    go_wp2
                    go_ret
                    exact ⟨ret_int (bad_at hlt (by unfold okAt; rw [← hx'.out, ← hy'.out, HF.out, HT.out, HL.out, HM.out, HC.out, decide_eq_false hK]; rfl)), HW.out⟩
      · go_wp2
        go_ret
        refine ⟨ret_int ?_, HBr.out⟩
        have : (List.range es.length).all (okAt n ls.length es) = true := List.all_eq_true.2 fun j hj => hz.out j (by have := List.mem_range.1 hj; omega)
        rw [this]; rfl

/-- lts.Check: 0, if the system may be; else 1. -/
theorem check_any (n : Int) (ls : List ByteArray) (es : List Ed) (A1 A2 : Option Addr) (c1 c2 : Nat) (w : World) (hr1 : Kd.C Kd.string w A1 ls.length ls) (hr2 : Kd.C k81 w A2 es.length es) :
    Calls Try.prog 66 #[.agg #[.int .i64 n, .slice A1 ls.length c1, .slice A2 es.length c2]] w fun e w' => e = .returned (.int .i64 (errB (mayB n ls es))) ∧ Below w.heap.size w w' := by
  unfold mayB
  by_cases h0 : n < 1
  · rw [decide_eq_false (by omega)]
    exact check_size n ls es A1 A2 c1 c2 w (.inl h0)
  · rw [decide_eq_true (show 1 ≤ n by omega), Bool.true_and]
    by_cases h1 : 2048 < n
    · rw [decide_eq_false (by omega)]
      exact check_size n ls es A1 A2 c1 c2 w (.inr h1)
    · rw [decide_eq_true (show n ≤ 2048 by omega), Bool.true_and]
      cases h : namedB ls with
      | false => exact check_named n ls es A1 A2 c1 c2 w h0 h1 hr1 h
      | true =>
        rw [Bool.true_and]
        exact check_main n ls es A1 A2 c1 c2 w h0 h1 hr1 hr2 h
theorem check_yes (n : Int) (ls : List ByteArray) (es : List Ed) (A1 A2 : Option Addr) (c1 c2 : Nat) (w : World) (hr1 : Kd.C Kd.string w A1 ls.length ls) (hr2 : Kd.C k81 w A2 es.length es) (h : mayB n ls es = true) :
    Calls Try.prog 66 #[.agg #[.int .i64 n, .slice A1 ls.length c1, .slice A2 es.length c2]] w fun e w' => e = .returned (.int .i64 0) ∧ Below w.heap.size w w' := by
  have := check_any n ls es A1 A2 c1 c2 w hr1 hr2
  rwa [h] at this
theorem check_no (n : Int) (ls : List ByteArray) (es : List Ed) (A1 A2 : Option Addr) (c1 c2 : Nat) (w : World) (hr1 : Kd.C Kd.string w A1 ls.length ls) (hr2 : Kd.C k81 w A2 es.length es) (h : mayB n ls es = false) :
    Calls Try.prog 66 #[.agg #[.int .i64 n, .slice A1 ls.length c1, .slice A2 es.length c2]] w fun e w' => e = .returned (.int .i64 1) ∧ Below w.heap.size w w' := by
  have := check_any n ls es A1 A2 c1 c2 w hr1 hr2
  rwa [h] at this

end Go.Proofs.Ytmpiokdomjchiaa.H
