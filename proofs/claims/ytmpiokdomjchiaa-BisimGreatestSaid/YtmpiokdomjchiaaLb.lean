/-
  The walk of semblancelaw35.BisimGreatest: it is always true.
-/
import Derived.Test.YtmpiokdomjchiaaHw
import Derived.Test.YtmpiokdomjchiaaHr
set_option linter.unusedVariables false
set_option linter.unusedSimpArgs false
namespace Go.Proofs.Ytmpiokdomjchiaa.H
open Go.RowKit Go.Proofs.Ytmpiokdomjchiaa.Pr Go.Proofs.YtmpiokdomjchiaaW.PrintWords Go.Proofs.Ytmpiokdomjchiaa.Sem Go.Proofs.YtmpiokdomjchiaaW.PrintLast

theorem greatL_len (n : Nat) (ls : List ByteArray) (es : List Ed) (hm : mayR n ls es = true) : (greatL n es).length ≤ 4194304 := by
  have h1 := (great_spec n es).1.length_le
  rw [pairsTo_length] at h1
  have hn := n_le hm
  exact Nat.le_trans h1 (Nat.mul_le_mul (show n ≤ 2048 by omega) (show n ≤ 2048 by omega))

set_option maxHeartbeats 16000000 in
set_option maxRecDepth 100000 in
theorem bisimGreatest_true (n : Int) (ls : List ByteArray) (es : List Ed) (rel : List Pair) (a b : Int) (A1 A2 A3 : Option Addr) (c1 c2 c3 : Nat) (w : World) (hr1 : Kd.C Kd.string w A1 ls.length ls) (hr2 : Kd.C k81 w A2 es.length es) (hr3 : Kd.C k31 w A3 rel.length rel) (_ : (Lit.int .i64 a).wf = true) (_ : (Lit.int .i64 b).wf = true) :
    Calls Try.prog 4 #[.agg #[.int .i64 n, .slice A1 ls.length c1, .slice A2 es.length c2], .slice A3 rel.length c3, .agg #[.int .i64 a, .int .i64 b]] w fun e w' => e = .returned (.bool true) ∧ Below w.heap.size w w' := by
  have HB := Aside0.mk (Below.refl w.heap.size w)
  have hl2 := C_len hr2
  have hl3 := C_len hr3
  have HLt : ∀ W, Below w.heap.size w W → Calls Try.prog 15 #[.agg #[.int .i64 n, .slice A1 ls.length c1, .slice A2 es.length c2]] W fun e w' => e = .returned (.bool (light33 n ls es)) ∧ Below W.heap.size W w' := fun W hW => light33_any n ls es A1 A2 c1 c2 W (Kd.C_below hr1 hW) hl2
  have HLt' := Lib.hid HLt
  have HR1 := Aside0.mk hr1
  have HR2 := Aside0.mk hr2
  have HR3 := Aside0.mk hr3
  clear HLt hr1 hr2 hr3
  have HB0 := Aside0.mk (show Below w.heap.size w ((w.alloc (Obj.cells #[Value.int IntKind.i64 n, Value.slice A1 ls.length c1, Value.slice A2 es.length c2] 25)).alloc (Obj.cells #[Value.int IntKind.i64 a, Value.int IntKind.i64 b] 31)) by repeat (first | exact HB.out | apply below_alloc))
  cases q : (light33 n ls es && decide (rel.length ≤ 60)) with
  | false =>
    by_cases q1 : light33 n ls es = true
    · have q2 : (60 : Int) < (rel.length : Int) := by
        rw [q1, Bool.true_and] at q
        have := of_decide_eq_false q
        omega
      rw [q1] at HLt'
      clear q q1
      go_enter Try.func4, Try.ntmps4
      go_wp2_with fail
      refine (HLt'.out _ HB0.out).mono ?_
      rintro e w1 ⟨rfl, hB⟩
      have HB1 := Aside0.mk (below_then HB0.out HB0.out.size hB)
      clear hB
      go_wp2_with fail
      refine (awake35 _).mono ?_
      rintro e w2 ⟨rfl, hB⟩
      have HB2 := Aside0.mk (below_then HB1.out HB1.out.size hB)
      clear hB
      go_wp2
      go_ret
      exact ⟨rfl, HB2.out⟩
    · rw [Bool.eq_false_iff.2 q1] at HLt'
      clear q q1
      go_enter Try.func4, Try.ntmps4
      go_wp2_with fail
      refine (HLt'.out _ HB0.out).mono ?_
      rintro e w1 ⟨rfl, hB⟩
      have HB1 := Aside0.mk (below_then HB0.out HB0.out.size hB)
      clear hB
      go_wp2_with fail
      refine (awake35 _).mono ?_
      rintro e w2 ⟨rfl, hB⟩
      have HB2 := Aside0.mk (below_then HB1.out HB1.out.size hB)
      clear hB
      go_wp2
      go_ret
      exact ⟨rfl, HB2.out⟩
  | true =>
    rw [Bool.and_eq_true, decide_eq_true_eq] at q
    obtain ⟨q1, q3⟩ := q
    have q2 : ¬ (60 : Int) < (rel.length : Int) := by omega
    rw [q1] at HLt'
    clear q1
    have HGr : ∀ W, Below w.heap.size w W → Calls Try.prog 20 #[.agg #[.int .i64 n, .slice A1 ls.length c1, .slice A2 es.length c2]] W (GreatPost W n ls es) := fun W hW => greatest_any n ls es A1 A2 c1 c2 W (Kd.C_below HR1.out hW) (Kd.C_below HR2.out hW)
    have HMy : ∀ W, Below w.heap.size w W → Calls Try.prog 21 #[.agg #[.int .i64 n, .slice A1 ls.length c1, .slice A2 es.length c2]] W fun e w' => e = .returned (.bool (mayR n ls es)) ∧ Below W.heap.size W w' := fun W hW => may_any n ls es A1 A2 c1 c2 W (Kd.C_below HR1.out hW) (Kd.C_below HR2.out hW)
    unfold GreatPost at HGr
    cases hm : mayR n ls es with
    | false =>
      rw [hm] at HGr HMy
      have HGr' := Lib.hid HGr
      have HMy' := Lib.hid HMy
      have HHs := Aside0.mk (show hasB n ls es a b = false by unfold hasB; rw [hm]; rfl)
      clear HGr HMy hm
      go_enter Try.func4, Try.ntmps4
      go_wp2_with fail
      refine (HLt'.out _ HB0.out).mono ?_
      rintro e w1 ⟨rfl, hB⟩
      have HX1 := Aside0.mk (show BoxL w1 w.heap.size n (.slice A1 ls.length c1) (.slice A2 es.length c2) from blk_below (blk_below (blk_new w _) (below_alloc (Below.refl _ _) _)) hB)
      have HY1 := Aside0.mk (show w1.heap[w.heap.size + 1]? = some (.cells #[.int .i64 a, .int .i64 b] 31 (0, 0)) from blk_below (by have := blk_new (w.alloc (Obj.cells #[Value.int IntKind.i64 n, Value.slice A1 ls.length c1, Value.slice A2 es.length c2] 25)) (Obj.cells #[Value.int IntKind.i64 a, Value.int IntKind.i64 b] 31); rwa [show (w.alloc (Obj.cells #[Value.int IntKind.i64 n, Value.slice A1 ls.length c1, Value.slice A2 es.length c2] 25)).heap.size = w.heap.size + 1 by simp] at this) hB)
      have HB1 := Aside0.mk (below_then HB0.out HB0.out.size hB)
      have b0 := HX1.out.c0
      have b1 := HX1.out.c1
      have b2 := HX1.out.c2
      clear hB
      go_wp2_with fail
      clear b0 b1 b2
      refine (HGr'.out _ HB1.out).mono ?_
      rintro e w2 ⟨v, rfl, hR, hB⟩
      obtain ⟨A4, c4, rfl, _, _⟩ := Kd.R_reads hR
      have HX2 := Aside0.mk (HX1.out.below hB)
      have HY2 := Aside0.mk (blk_below HY1.out hB)
      have HB2 := Aside0.mk (below_then HB1.out HB1.out.size hB)
      have b0 := HX2.out.c0
      have b1 := HX2.out.c1
      have b2 := HX2.out.c2
      clear hB hR
      go_wp2_with fail
      clear b0 b1 b2
      refine (HMy'.out _ HB2.out).mono ?_
      rintro e w3 ⟨rfl, hB⟩
      have HX3 := Aside0.mk (HX2.out.below hB)
      have HY3 := Aside0.mk (blk_below HY2.out hB)
      have HB3 := Aside0.mk (below_then HB2.out HB2.out.size hB)
      have b0 := HX3.out.c0
      have b1 := HX3.out.c1
      have b2 := HX3.out.c2
      have y0 := (blk_cell HY3.out 0).trans rfl
      have y1 := (blk_cell HY3.out 1).trans rfl
      clear hB
      go_wp2_with fail
      clear b0 b1 b2 y0 y1
      refine (has_any n ls es a b false HHs.out A1 A2 c1 c2 _ (Kd.C_below HR1.out HB3.out) (Kd.C_below HR2.out HB3.out)).mono ?_
      rintro e w4 ⟨rfl, hB⟩
      have HB4 := Aside0.mk (below_then HB3.out HB3.out.size hB)
      clear hB
      go_wp2_with fail
      refine (awake35 _).mono ?_
      rintro e w5 ⟨rfl, hB⟩
      have HB5 := Aside0.mk (below_then HB4.out HB4.out.size hB)
      clear hB
      go_wp2
      go_ret
      exact ⟨rfl, HB5.out⟩
    | true =>
      obtain ⟨m, rfl⟩ := Int.eq_ofNat_of_zero_le (show 0 ≤ n by have := n_le hm; omega)
      have hgl := greatL_len m ls es hm
      obtain ⟨G, hG⟩ : ∃ G, G = greatL m es := ⟨_, rfl⟩
      have HIs := Aside0.mk (show isB m ls es G = true by rw [hG]; exact great_isB m ls es hm)
      obtain ⟨r, hr⟩ : ∃ r, r = relS G a b := ⟨_, rfl⟩
      have HIn := Aside0.mk hr.symm
      have HHs := Aside0.mk (show hasB m ls es a b = r by unfold hasB; rw [hm, if_pos rfl, hr, hG]; rfl)
      have HAll := Aside0.mk (show isB m ls es rel = true → ∀ p ∈ rel, relS G p.f0 p.f1 = true from fun h => by rw [hG]; exact great_has m ls es rel hm h)
      rw [hm] at HGr HMy
      rw [if_pos rfl, show ((m : Int)).toNat = m from rfl] at HGr
      rw [← hG] at HGr hgl
      have HGd := Aside0.mk hG
      have HM := Aside0.mk hm
      have HGr' := Lib.hid HGr
      have HMy' := Lib.hid HMy
      clear HGr HMy hm hG hr
      go_enter Try.func4, Try.ntmps4
      go_wp2_with fail
      refine (HLt'.out _ HB0.out).mono ?_
      rintro e w1 ⟨rfl, hB⟩
      have HX1 := Aside0.mk (show BoxL w1 w.heap.size m (.slice A1 ls.length c1) (.slice A2 es.length c2) from blk_below (blk_below (blk_new w _) (below_alloc (Below.refl _ _) _)) hB)
      have HY1 := Aside0.mk (show w1.heap[w.heap.size + 1]? = some (.cells #[.int .i64 a, .int .i64 b] 31 (0, 0)) from blk_below (by have := blk_new (w.alloc (Obj.cells #[Value.int IntKind.i64 m, Value.slice A1 ls.length c1, Value.slice A2 es.length c2] 25)) (Obj.cells #[Value.int IntKind.i64 a, Value.int IntKind.i64 b] 31); rwa [show (w.alloc (Obj.cells #[Value.int IntKind.i64 m, Value.slice A1 ls.length c1, Value.slice A2 es.length c2] 25)).heap.size = w.heap.size + 1 by simp] at this) hB)
      have HB1 := Aside0.mk (below_then HB0.out HB0.out.size hB)
      have b0 := HX1.out.c0
      have b1 := HX1.out.c1
      have b2 := HX1.out.c2
      clear hB
      go_wp2_with fail
      clear b0 b1 b2
      refine (HGr'.out _ HB1.out).mono ?_
      rintro e w2 ⟨v, rfl, hR, hB⟩
      obtain ⟨A4, c4, rfl, _, hC4⟩ := Kd.R_reads hR
      have HG2 := Aside0.mk hC4
      have HX2 := Aside0.mk (HX1.out.below hB)
      have HY2 := Aside0.mk (blk_below HY1.out hB)
      have HB2 := Aside0.mk (below_then HB1.out HB1.out.size hB)
      have b0 := HX2.out.c0
      have b1 := HX2.out.c1
      have b2 := HX2.out.c2
      clear hB hR hC4
      go_wp2_with fail
      clear b0 b1 b2
      refine (HMy'.out _ HB2.out).mono ?_
      rintro e w3 ⟨rfl, hB⟩
      have HG3 := Aside0.mk (Kd.C_below HG2.out hB)
      have HX3 := Aside0.mk (HX2.out.below hB)
      have HY3 := Aside0.mk (blk_below HY2.out hB)
      have HB3 := Aside0.mk (below_then HB2.out HB2.out.size hB)
      clear hB
      go_wp2_with fail
      refine start_ (n := 30) (S := fun w' => w'.cell? ⟨w.heap.size, 0, none⟩ = some (.int .i64 (m : Int)) ∧ w'.cell? ⟨w.heap.size, 1, none⟩ = some (.slice A1 ls.length c1) ∧ w'.cell? ⟨w.heap.size, 2, none⟩ = some (.slice A2 es.length c2) ∧ w'.cell? ⟨w.heap.size + 1, 0, none⟩ = some (.int .i64 a) ∧ w'.cell? ⟨w.heap.size + 1, 1, none⟩ = some (.int .i64 b)) (ds := []) #[false, false, false, false, false, false, false, false, false, false, false, false, false, false, false, false, false, false, false, false, false, false, false, false, false, false, false, false, false, false] (by kernel_rfl) rfl rfl ⟨HX3.out.c0, HX3.out.c1, HX3.out.c2, (blk_cell HY3.out 0).trans rfl, (blk_cell HY3.out 1).trans rfl⟩ (fun hHeld => ?_)
      have HBv := Aside0.mk (below_drew1 HB3.out)
      have HGv := Aside0.mk (Kd.C_below HG3.out (below_drew1 (Below.refl w3.heap.size w3)))
      generalize w3.drew = V at HBv HGv hHeld ⊢
      refine pure_ (i := 0) (N := some 46) (v := ?_) (a' := ?_) #[true, false, false, false, false, false, false, false, false, false, false, false, false, false, false, false, false, false, false, false, false, false, false, false, false, false, false, false, false, false] rfl rfl (by kernel_rfl) (fun _ _ _ h => h) (Or.inl ⟨by rfl, ?_⟩) ?_ ?_
      rotate_left
      · intro w'
        go_simp
        with_reducible rfl
      rotate_left
      · simp only [Act.put, List.setIfInBounds_toArray, List.set_cons_zero, List.set_cons_succ, i64_w, i32_w]
        rfl
      refine pure_ (i := 1) (N := some 47) (v := ?_) (a' := ?_) #[true, true, false, false, false, false, false, false, false, false, false, false, false, false, false, false, false, false, false, false, false, false, false, false, false, false, false, false, false, false] rfl rfl (by kernel_rfl) (fun _ _ _ h => h) (Or.inl ⟨by rfl, ?_⟩) ?_ ?_
      rotate_left
      · intro w'
        go_simp
        with_reducible rfl
      rotate_left
      · simp only [Act.put, List.setIfInBounds_toArray, List.set_cons_zero, List.set_cons_succ, i64_w, i32_w]
        rfl
      refine pure_ (i := 2) (N := some 48) (v := ?_) (a' := ?_) #[true, true, true, false, false, false, false, false, false, false, false, false, false, false, false, false, false, false, false, false, false, false, false, false, false, false, false, false, false, false] rfl rfl (by kernel_rfl) (fun _ _ _ h => h) (Or.inl ⟨by rfl, ?_⟩) ?_ ?_
      rotate_left
      · intro w'
        go_simp
        with_reducible rfl
      rotate_left
      · simp only [Act.put, List.setIfInBounds_toArray, List.set_cons_zero, List.set_cons_succ, i64_w, i32_w]
        rfl
      refine pure_ (i := 3) (N := some 49) (v := ?_) (a' := ?_) #[true, true, true, true, false, false, false, false, false, false, false, false, false, false, false, false, false, false, false, false, false, false, false, false, false, false, false, false, false, false] rfl rfl (by kernel_rfl) (fun _ _ _ h => h) (Or.inl ⟨by rfl, ?_⟩) ?_ ?_
      rotate_left
      · intro w'
        go_simp
        with_reducible rfl
      rotate_left
      · simp only [Act.put, List.setIfInBounds_toArray, List.set_cons_zero, List.set_cons_succ, i64_w, i32_w]
        rfl
      refine take_ (i := 4) (N := some 50) (v := ?_) (a' := ?_) #[true, true, true, true, true, false, false, false, false, false, false, false, false, false, false, false, false, false, false, false, false, false, false, false, false, false, false, false, false, false] rfl rfl (by kernel_rfl) (fun _ _ _ h => h) (Or.inl ⟨by rfl, ?_⟩) hHeld ?_ ?_
      rotate_left
      · rintro w' ⟨s0, s1, s2, s3, s4⟩
        go_simp
        with_reducible rfl
      rotate_left
      · simp only [Act.put, List.setIfInBounds_toArray, List.set_cons_zero, List.set_cons_succ, i64_w, i32_w]
        rfl
      refine one_ (i := 5) (N := some 51) #[true, true, true, true, true, true, false, false, false, false, false, false, false, false, false, false, false, false, false, false, false, false, false, false, false, false, false, false, false, false] rfl rfl (by kernel_rfl) (by decide) (fun K hK => ?_)
      refine goes_ Try.func24 (by kernel_rfl) rfl #[.agg #[.int .i64 (m : Int), .slice A1 ls.length c1, .slice A2 es.length c2]] (by rfl) rfl rfl (by simp only [List.map_toArray, List.map_cons, List.map_nil]; rfl) ?_
      refine (refGreatest_any m ls es _ A2 c2 _ (Kd.C_below HR2.out HBv.out) HM.out).mono ?_
      rintro e w5 ⟨v5, rfl, hR, hB⟩
      obtain ⟨A5, c5, rfl, _, hC5⟩ := Kd.R_reads hR
      rw [← HGd.out] at hC5 ⊢
      have HC5 := Aside0.mk hC5
      have HG5 := Aside0.mk (Kd.C_below HGv.out hB)
      clear hR hC5
      have HL5 := Aside0.mk hB
      have HB5 := Aside0.mk (below_then HBv.out HBv.out.size hB)
      clear hB
      refine ⟨_, rfl, ?_⟩
      refine hK.out _ _ ⟨later HL5.out hHeld.1, later HL5.out hHeld.2.1, later HL5.out hHeld.2.2.1, later HL5.out hHeld.2.2.2.1, later HL5.out hHeld.2.2.2.2⟩ (fun hHeld => ?_)
      clear hK K
      refine norm_ (a' := ?_) ?_ ?_
      rotate_left
      · show Act.put _ (some 51) _ = _
        simp only [Act.put, List.setIfInBounds_toArray, List.set_cons_zero, List.set_cons_succ, i64_w, i32_w]
        rfl
      refine one_ (i := 6) (N := some 52) #[true, true, true, true, true, true, true, false, false, false, false, false, false, false, false, false, false, false, false, false, false, false, false, false, false, false, false, false, false, false] rfl rfl (by kernel_rfl) (by decide) (fun K hK => ?_)
      refine goes_ Try.func23 (by kernel_rfl) rfl #[.slice A4 G.length c4, .slice A5 G.length c5] (by rfl) rfl rfl (by simp only [List.map_toArray, List.map_cons, List.map_nil]; rfl) ?_
      refine (same_any G G A4 A5 c4 c5 _ HG5.out HC5.out).mono ?_
      rintro e w6 ⟨rfl, hD⟩
      rw [decide_eq_true rfl]
      have hB := hD.below
      have HG6 := Aside0.mk (Kd.C_below HG5.out hB)
      clear hD
      have HL6 := Aside0.mk hB
      have HB6 := Aside0.mk (below_then HB5.out HB5.out.size hB)
      clear hB
      refine ⟨_, rfl, ?_⟩
      refine hK.out _ _ ⟨later HL6.out hHeld.1, later HL6.out hHeld.2.1, later HL6.out hHeld.2.2.1, later HL6.out hHeld.2.2.2.1, later HL6.out hHeld.2.2.2.2⟩ (fun hHeld => ?_)
      clear hK K
      refine norm_ (a' := ?_) ?_ ?_
      rotate_left
      · show Act.put _ (some 52) _ = _
        simp only [Act.put, List.setIfInBounds_toArray, List.set_cons_zero, List.set_cons_succ, i64_w, i32_w]
        rfl
      refine pure_ (i := 7) (N := some 53) (v := ?_) (a' := ?_) #[true, true, true, true, true, true, true, true, false, false, false, false, false, false, false, false, false, false, false, false, false, false, false, false, false, false, false, false, false, false] rfl rfl (by kernel_rfl) (fun _ _ _ h => h) (Or.inl ⟨by rfl, ?_⟩) ?_ ?_
      rotate_left
      · intro w'
        go_simp
        with_reducible rfl
      rotate_left
      · simp only [Act.put, List.setIfInBounds_toArray, List.set_cons_zero, List.set_cons_succ, i64_w, i32_w]
        rfl
      refine pure_ (i := 8) (N := some 54) (v := ?_) (a' := ?_) #[true, true, true, true, true, true, true, true, true, false, false, false, false, false, false, false, false, false, false, false, false, false, false, false, false, false, false, false, false, false] rfl rfl (by kernel_rfl) (fun _ _ _ h => h) (Or.inl ⟨by rfl, ?_⟩) ?_ ?_
      rotate_left
      · intro w'
        go_simp
        with_reducible rfl
      rotate_left
      · simp only [Act.put, List.setIfInBounds_toArray, List.set_cons_zero, List.set_cons_succ, i64_w, i32_w]
        rfl
      refine pure_ (i := 9) (N := some 55) (v := ?_) (a' := ?_) #[true, true, true, true, true, true, true, true, true, true, false, false, false, false, false, false, false, false, false, false, false, false, false, false, false, false, false, false, false, false] rfl rfl (by kernel_rfl) (fun _ _ _ h => h) (Or.inl ⟨by rfl, ?_⟩) ?_ ?_
      rotate_left
      · intro w'
        go_simp
        with_reducible rfl
      rotate_left
      · simp only [Act.put, List.setIfInBounds_toArray, List.set_cons_zero, List.set_cons_succ, i64_w, i32_w]
        rfl
      refine pure_ (i := 11) (N := some 57) (v := ?_) (a' := ?_) #[true, true, true, true, true, true, true, true, true, true, false, true, false, false, false, false, false, false, false, false, false, false, false, false, false, false, false, false, false, false] rfl rfl (by kernel_rfl) (fun _ _ _ h => h) (Or.inl ⟨by rfl, ?_⟩) ?_ ?_
      rotate_left
      · intro w'
        go_simp
        with_reducible rfl
      rotate_left
      · simp only [Act.put, List.setIfInBounds_toArray, List.set_cons_zero, List.set_cons_succ, i64_w, i32_w]
        rfl
      refine take_ (i := 10) (N := some 56) (v := ?_) (a' := ?_) #[true, true, true, true, true, true, true, true, true, true, true, true, false, false, false, false, false, false, false, false, false, false, false, false, false, false, false, false, false, false] rfl rfl (by kernel_rfl) (fun _ _ _ h => h) (Or.inl ⟨by rfl, ?_⟩) hHeld ?_ ?_
      rotate_left
      · rintro w' ⟨s0, s1, s2, s3, s4⟩
        go_simp
        with_reducible rfl
      rotate_left
      · simp only [Act.put, List.setIfInBounds_toArray, List.set_cons_zero, List.set_cons_succ, i64_w, i32_w]
        rfl
      refine one_ (i := 12) (N := some 58) #[true, true, true, true, true, true, true, true, true, true, true, true, true, false, false, false, false, false, false, false, false, false, false, false, false, false, false, false, false, false] rfl rfl (by kernel_rfl) (by decide) (fun K hK => ?_)
      refine goes_ Try.func19 (by kernel_rfl) rfl #[.agg #[.int .i64 (m : Int), .slice A1 ls.length c1, .slice A2 es.length c2], .slice A4 G.length c4] (by rfl) rfl rfl (by simp only [List.map_toArray, List.map_cons, List.map_nil]; rfl) ?_
      refine (is_any m ls es G A1 A2 A4 c1 c2 c4 _ (Kd.C_below HR1.out HB6.out) (Kd.C_below HR2.out HB6.out) HG6.out).mono ?_
      rintro e w7 ⟨rfl, hB⟩
      rw [HIs.out]
      have HG7 := Aside0.mk (Kd.C_below HG6.out hB)
      have HL7 := Aside0.mk hB
      have HB7 := Aside0.mk (below_then HB6.out HB6.out.size hB)
      clear hB
      refine ⟨_, rfl, ?_⟩
      refine hK.out _ _ ⟨later HL7.out hHeld.1, later HL7.out hHeld.2.1, later HL7.out hHeld.2.2.1, later HL7.out hHeld.2.2.2.1, later HL7.out hHeld.2.2.2.2⟩ (fun hHeld => ?_)
      clear hK K
      refine norm_ (a' := ?_) ?_ ?_
      rotate_left
      · show Act.put _ (some 58) _ = _
        simp only [Act.put, List.setIfInBounds_toArray, List.set_cons_zero, List.set_cons_succ, i64_w, i32_w]
        rfl
      refine pure_ (i := 13) (N := some 59) (v := ?_) (a' := ?_) #[true, true, true, true, true, true, true, true, true, true, true, true, true, true, false, false, false, false, false, false, false, false, false, false, false, false, false, false, false, false] rfl rfl (by kernel_rfl) (fun _ _ _ h => h) (Or.inl ⟨by rfl, ?_⟩) ?_ ?_
      rotate_left
      · intro w'
        go_simp
        with_reducible rfl
      rotate_left
      · simp only [Act.put, List.setIfInBounds_toArray, List.set_cons_zero, List.set_cons_succ, i64_w, i32_w]
        rfl
      refine pure_ (i := 14) (N := some 60) (v := ?_) (a' := ?_) #[true, true, true, true, true, true, true, true, true, true, true, true, true, true, true, false, false, false, false, false, false, false, false, false, false, false, false, false, false, false] rfl rfl (by kernel_rfl) (fun _ _ _ h => h) (Or.inl ⟨by rfl, ?_⟩) ?_ ?_
      rotate_left
      · intro w'
        go_simp
        with_reducible rfl
      rotate_left
      · simp only [Act.put, List.setIfInBounds_toArray, List.set_cons_zero, List.set_cons_succ, i64_w, i32_w]
        rfl
      refine pure_ (i := 15) (N := some 61) (v := ?_) (a' := ?_) #[true, true, true, true, true, true, true, true, true, true, true, true, true, true, true, true, false, false, false, false, false, false, false, false, false, false, false, false, false, false] rfl rfl (by kernel_rfl) (fun _ _ _ h => h) (Or.inl ⟨by rfl, ?_⟩) ?_ ?_
      rotate_left
      · intro w'
        go_simp
        with_reducible rfl
      rotate_left
      · simp only [Act.put, List.setIfInBounds_toArray, List.set_cons_zero, List.set_cons_succ, i64_w, i32_w]
        rfl
      refine pure_ (i := 17) (N := some 63) (v := ?_) (a' := ?_) #[true, true, true, true, true, true, true, true, true, true, true, true, true, true, true, true, false, true, false, false, false, false, false, false, false, false, false, false, false, false] rfl rfl (by kernel_rfl) (fun _ _ _ h => h) (Or.inl ⟨by rfl, ?_⟩) ?_ ?_
      rotate_left
      · intro w'
        go_simp
        with_reducible rfl
      rotate_left
      · simp only [Act.put, List.setIfInBounds_toArray, List.set_cons_zero, List.set_cons_succ, i64_w, i32_w]
        rfl
      refine pure_ (i := 19) (N := some 65) (v := ?_) (a' := ?_) #[true, true, true, true, true, true, true, true, true, true, true, true, true, true, true, true, false, true, false, true, false, false, false, false, false, false, false, false, false, false] rfl rfl (by kernel_rfl) (fun _ _ _ h => h) (Or.inl ⟨by rfl, ?_⟩) ?_ ?_
      rotate_left
      · intro w'
        go_simp
        with_reducible rfl
      rotate_left
      · simp only [Act.put, List.setIfInBounds_toArray, List.set_cons_zero, List.set_cons_succ, i64_w, i32_w]
        rfl
      refine pure_ (i := 22) (N := some 68) (v := ?_) (a' := ?_) #[true, true, true, true, true, true, true, true, true, true, true, true, true, true, true, true, false, true, false, true, false, false, true, false, false, false, false, false, false, false] rfl rfl (by kernel_rfl) (fun _ _ _ h => h) (Or.inl ⟨by rfl, ?_⟩) ?_ ?_
      rotate_left
      · intro w'
        go_simp
        with_reducible rfl
      rotate_left
      · simp only [Act.put, List.setIfInBounds_toArray, List.set_cons_zero, List.set_cons_succ, i64_w, i32_w]
        rfl
      refine pure_ (i := 23) (N := some 69) (v := ?_) (a' := ?_) #[true, true, true, true, true, true, true, true, true, true, true, true, true, true, true, true, false, true, false, true, false, false, true, true, false, false, false, false, false, false] rfl rfl (by kernel_rfl) (fun _ _ _ h => h) (Or.inl ⟨by rfl, ?_⟩) ?_ ?_
      rotate_left
      · intro w'
        go_simp
        with_reducible rfl
      rotate_left
      · simp only [Act.put, List.setIfInBounds_toArray, List.set_cons_zero, List.set_cons_succ, i64_w, i32_w]
        rfl
      refine pure_ (i := 25) (N := some 71) (v := ?_) (a' := ?_) #[true, true, true, true, true, true, true, true, true, true, true, true, true, true, true, true, false, true, false, true, false, false, true, true, false, true, false, false, false, false] rfl rfl (by kernel_rfl) (fun _ _ _ h => h) (Or.inl ⟨by rfl, ?_⟩) ?_ ?_
      rotate_left
      · intro w'
        go_simp
        with_reducible rfl
      rotate_left
      · simp only [Act.put, List.setIfInBounds_toArray, List.set_cons_zero, List.set_cons_succ, i64_w, i32_w]
        rfl
      refine take_ (i := 16) (N := some 62) (v := ?_) (a' := ?_) #[true, true, true, true, true, true, true, true, true, true, true, true, true, true, true, true, true, true, false, true, false, false, true, true, false, true, false, false, false, false] rfl rfl (by kernel_rfl) (fun _ _ _ h => h) (Or.inl ⟨by rfl, ?_⟩) hHeld ?_ ?_
      rotate_left
      · rintro w' ⟨s0, s1, s2, s3, s4⟩
        go_simp
        with_reducible rfl
      rotate_left
      · simp only [Act.put, List.setIfInBounds_toArray, List.set_cons_zero, List.set_cons_succ, i64_w, i32_w]
        rfl
      refine take_ (i := 18) (N := some 64) (v := ?_) (a' := ?_) #[true, true, true, true, true, true, true, true, true, true, true, true, true, true, true, true, true, true, true, true, false, false, true, true, false, true, false, false, false, false] rfl rfl (by kernel_rfl) (fun _ _ _ h => h) (Or.inl ⟨by rfl, ?_⟩) hHeld ?_ ?_
      rotate_left
      · rintro w' ⟨s0, s1, s2, s3, s4⟩
        go_simp
        with_reducible rfl
      rotate_left
      · simp only [Act.put, List.setIfInBounds_toArray, List.set_cons_zero, List.set_cons_succ, i64_w, i32_w]
        rfl
      refine take_ (i := 20) (N := some 66) (v := ?_) (a' := ?_) #[true, true, true, true, true, true, true, true, true, true, true, true, true, true, true, true, true, true, true, true, true, false, true, true, false, true, false, false, false, false] rfl rfl (by kernel_rfl) (fun _ _ _ h => h) (Or.inl ⟨by rfl, ?_⟩) hHeld ?_ ?_
      rotate_left
      · rintro w' ⟨s0, s1, s2, s3, s4⟩
        go_simp
        with_reducible rfl
      rotate_left
      · simp only [Act.put, List.setIfInBounds_toArray, List.set_cons_zero, List.set_cons_succ, i64_w, i32_w]
        rfl
      refine take_ (i := 24) (N := some 70) (v := ?_) (a' := ?_) #[true, true, true, true, true, true, true, true, true, true, true, true, true, true, true, true, true, true, true, true, true, false, true, true, true, true, false, false, false, false] rfl rfl (by kernel_rfl) (fun _ _ _ h => h) (Or.inl ⟨by rfl, ?_⟩) hHeld ?_ ?_
      rotate_left
      · rintro w' ⟨s0, s1, s2, s3, s4⟩
        go_simp
        with_reducible rfl
      rotate_left
      · simp only [Act.put, List.setIfInBounds_toArray, List.set_cons_zero, List.set_cons_succ, i64_w, i32_w]
        rfl
      refine take_ (i := 26) (N := some 72) (v := ?_) (a' := ?_) #[true, true, true, true, true, true, true, true, true, true, true, true, true, true, true, true, true, true, true, true, true, false, true, true, true, true, true, false, false, false] rfl rfl (by kernel_rfl) (fun _ _ _ h => h) (Or.inl ⟨by rfl, ?_⟩) hHeld ?_ ?_
      rotate_left
      · rintro w' ⟨s0, s1, s2, s3, s4⟩
        go_simp
        with_reducible rfl
      rotate_left
      · simp only [Act.put, List.setIfInBounds_toArray, List.set_cons_zero, List.set_cons_succ, i64_w, i32_w]
        rfl
      refine one_ (i := 21) (N := some 67) #[true, true, true, true, true, true, true, true, true, true, true, true, true, true, true, true, true, true, true, true, true, true, true, true, true, true, true, false, false, false] rfl rfl (by kernel_rfl) (by decide) (fun K hK => ?_)
      refine goes_ Try.func22 (by kernel_rfl) rfl #[.agg #[.int .i64 (m : Int), .slice A1 ls.length c1, .slice A2 es.length c2], .int .i64 a, .int .i64 b] (by rfl) rfl rfl (by simp only [List.map_toArray, List.map_cons, List.map_nil]; rfl) ?_
      refine (has_any m ls es a b r HHs.out A1 A2 c1 c2 _ (Kd.C_below HR1.out HB7.out) (Kd.C_below HR2.out HB7.out)).mono ?_
      rintro e w8 ⟨rfl, hB⟩
      have HG8 := Aside0.mk (Kd.C_below HG7.out hB)
      have HL8 := Aside0.mk hB
      have HB8 := Aside0.mk (below_then HB7.out HB7.out.size hB)
      clear hB
      refine ⟨_, rfl, ?_⟩
      refine hK.out _ _ ⟨later HL8.out hHeld.1, later HL8.out hHeld.2.1, later HL8.out hHeld.2.2.1, later HL8.out hHeld.2.2.2.1, later HL8.out hHeld.2.2.2.2⟩ (fun hHeld => ?_)
      clear hK K
      refine norm_ (a' := ?_) ?_ ?_
      rotate_left
      · show Act.put _ (some 67) _ = _
        simp only [Act.put, List.setIfInBounds_toArray, List.set_cons_zero, List.set_cons_succ, i64_w, i32_w]
        rfl
      refine one_ (i := 27) (N := some 73) #[true, true, true, true, true, true, true, true, true, true, true, true, true, true, true, true, true, true, true, true, true, true, true, true, true, true, true, true, false, false] rfl rfl (by kernel_rfl) (by decide) (fun K hK => ?_)
      refine goes_ Try.func25 (by kernel_rfl) rfl #[.slice A4 G.length c4, .int .i64 a, .int .i64 b] (by rfl) rfl rfl (by simp only [List.map_toArray, List.map_cons, List.map_nil]; rfl) ?_
      refine (in_any G a b r HIn.out A4 c4 _ HG8.out).mono ?_
      rintro e w9 ⟨rfl, hE⟩
      subst hE
      have hB := Below.refl w8.heap.size w8
      have HL9 := Aside0.mk hB
      have HB9 := Aside0.mk (below_then HB8.out HB8.out.size hB)
      clear hB
      refine ⟨_, rfl, ?_⟩
      refine hK.out _ _ ⟨later HL9.out hHeld.1, later HL9.out hHeld.2.1, later HL9.out hHeld.2.2.1, later HL9.out hHeld.2.2.2.1, later HL9.out hHeld.2.2.2.2⟩ (fun hHeld => ?_)
      clear hK K
      refine norm_ (a' := ?_) ?_ ?_
      rotate_left
      · show Act.put _ (some 73) _ = _
        simp only [Act.put, List.setIfInBounds_toArray, List.set_cons_zero, List.set_cons_succ, i64_w, i32_w]
        rfl
      refine pure_ (i := 28) (N := some 74) (v := ?_) (a' := ?_) #[true, true, true, true, true, true, true, true, true, true, true, true, true, true, true, true, true, true, true, true, true, true, true, true, true, true, true, true, true, false] rfl rfl (by kernel_rfl) (fun _ _ _ h => h) (Or.inl ⟨by rfl, ?_⟩) ?_ ?_
      rotate_left
      · intro w'
        go_simp
        with_reducible rfl
      rotate_left
      · simp only [Act.put, List.setIfInBounds_toArray, List.set_cons_zero, List.set_cons_succ, i64_w, i32_w]
        rfl
      refine pure_ (i := 29) (N := some 75) (v := ?_) (a' := ?_) #[true, true, true, true, true, true, true, true, true, true, true, true, true, true, true, true, true, true, true, true, true, true, true, true, true, true, true, true, true, true] rfl rfl (by kernel_rfl) (fun _ _ _ h => h) (Or.inl ⟨by rfl, ?_⟩) ?_ ?_
      rotate_left
      · intro w'
        go_simp
        with_reducible rfl
      rotate_left
      · simp only [Act.put, List.setIfInBounds_toArray, List.set_cons_zero, List.set_cons_succ, i64_w, i32_w]
        rfl
      refine done_ (by kernel_rfl) ?_
      have HX9 := Aside0.mk hHeld
      clear hHeld
      have b0 := HX9.out.1
      have b1 := HX9.out.2.1
      have b2 := HX9.out.2.2.1
      go_wp2_with fail
      clear b0 b1 b2
      have hq := is_any m ls es rel A1 A2 A3 c1 c2 c3 w8 (Kd.C_below HR1.out HB9.out) (Kd.C_below HR2.out HB9.out) (Kd.C_below HR3.out HB9.out)
      cases hI : isB m ls es rel with
      | false =>
        rw [hI] at hq
        refine hq.mono ?_
        clear hq hI
        rintro e w10 ⟨rfl, hB⟩
        have HB10 := Aside0.mk (below_then HB9.out HB9.out.size hB)
        clear hB
        go_wp2_with fail
        refine (awake35 _).mono ?_
        rintro e w11 ⟨rfl, hB⟩
        have HB11 := Aside0.mk (below_then HB10.out HB10.out.size hB)
        clear hB
        go_wp2
        go_ret
        exact ⟨rfl, HB11.out⟩
      | true =>
        rw [hI] at hq
        refine hq.mono ?_
        have HA2 := Aside0.mk (HAll.out hI)
        clear hq hI
        rintro e w10 ⟨rfl, hB⟩
        have HG10 := Aside0.mk (Kd.C_below HG8.out hB)
        have HB10 := Aside0.mk (below_then HB9.out HB9.out.size hB)
        clear hB
        go_wp2
        go_loopw [9] (fun i wr => ∃ k : Nat, k ≤ rel.length ∧ i = .int .i64 k ∧ Aside0 (Below w10.heap.size w10 wr)) (fun i _ => rel.length - (intOf i).toNat)
        case atStart => exact ⟨0, Nat.zero_le _, rfl, ⟨Below.refl _ _⟩⟩
        case round =>
          obtain ⟨k, hk, rfl, HBr⟩ := hrel
          have HBw := Aside0.mk (below_then HB10.out HB10.out.size HBr.out)
          by_cases hlt : k < rel.length
          · obtain ⟨ad, hA, g0, g1⟩ := atP HR3.out k hlt
            subst hA
            have f0 := fun o => later (pw_below_drewN HBw.out o) g0
            have f1 := fun o => later (pw_below_drewN HBw.out o) g1
            obtain ⟨x, hx⟩ : ∃ x, x = rel.getD k z31 := ⟨_, rfl⟩
            rw [← hx] at f0 f1
            have HT := Aside0.mk (show relS G x.f0 x.f1 = true from HA2.out x (by rw [hx, List.getD_eq_getElem?_getD, List.getElem?_eq_getElem hlt]; exact List.getElem_mem hlt))
            have HC3 := fun o => Aside0.mk (Kd.C_below HG10.out (pw_below_drewN HBr.out o))
            have i0 : (0 : Int) ≤ (k : Int) := by omega
            have i1 : (k : Int) < (rel.length : Int) := by omega
            clear hx g0 g1
            go_wp2_with fail
            go_quiet ((go_at_call 25; exact quiet_same (in_any G x.f0 x.f1 true HT.out _ _ _ (HC3 _).out)))
            go_wp2
            go_roundw
            case rel => exact ⟨k + 1, by omega, by go_num, ⟨pw_below_drewN HBr.out _⟩⟩
            case measure => simp [intOf]; omega
          · go_wp2_with fail
            refine (awake35 _).mono ?_
            rintro e w11 ⟨rfl, hB⟩
            have HB11 := Aside0.mk (below_then HBw.out HBw.out.size hB)
            clear hB
            go_wp2
            go_ret
            exact ⟨rfl, HB11.out⟩

end Go.Proofs.Ytmpiokdomjchiaa.H
