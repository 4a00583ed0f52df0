/-
  The walk of semblancelaw40.TraceOf: it is always true.
-/
import Derived.Test.YtmpiokdomjchiaaSq
set_option linter.unusedVariables false
set_option linter.unusedSimpArgs false
namespace Go.Proofs.Ytmpiokdomjchiaa.H
open Go.RowKit Go.Proofs.Ytmpiokdomjchiaa.Pr Go.Proofs.YtmpiokdomjchiaaW.PrintWords Go.Proofs.Ytmpiokdomjchiaa.Sem Go.Proofs.YtmpiokdomjchiaaW.PrintLast

theorem sameW_self (a : Wd) : sameW a a = true := by simp [sameW]
set_option maxHeartbeats 16000000 in
set_option maxRecDepth 100000 in
theorem traceOf_true (n : Int) (ls : List ByteArray) (es : List Ed) (s t budget : Int) (A1 A2 : Option Addr) (c1 c2 : Nat) (w : World) (hr1 : Kd.C Kd.string w A1 ls.length ls) (hr2 : Kd.C k81 w A2 es.length es) (hwf1 : (Lit.int .i64 s).wf = true) (hwf2 : (Lit.int .i64 t).wf = true) (hwf3 : (Lit.int .i64 budget).wf = true) :
    Calls Try.prog 7 #[.agg #[.int .i64 n, .slice A1 ls.length c1, .slice A2 es.length c2], .int .i64 s, .agg #[.int .i64 t, .int .i64 budget]] w fun e w' => e = .returned (.bool true) ∧ Below w.heap.size w w' := by
  have HB := Aside0.mk (Below.refl w.heap.size w)
  have hl2 := C_len hr2
  have HLt : ∀ W, Below w.heap.size w W → Calls Try.prog 15 #[.agg #[.int .i64 n, .slice A1 ls.length c1, .slice A2 es.length c2]] W fun e w' => e = .returned (.bool (light33 n ls es)) ∧ Below W.heap.size W w' := fun W hW => light33_any n ls es A1 A2 c1 c2 W (Kd.C_below hr1 hW) hl2
  have HMy : ∀ W, Below w.heap.size w W → Calls Try.prog 21 #[.agg #[.int .i64 n, .slice A1 ls.length c1, .slice A2 es.length c2]] W fun e w' => e = .returned (.bool (mayR n ls es)) ∧ Below W.heap.size W w' := fun W hW => may_any n ls es A1 A2 c1 c2 W (Kd.C_below hr1 hW) (Kd.C_below hr2 hW)
  have HOf : ∀ W, Below w.heap.size w W → Calls Try.prog 39 #[.agg #[.int .i64 n, .slice A1 ls.length c1, .slice A2 es.length c2], .int .i64 s, .int .i64 t, .int .i64 budget] W (OfPost W (ofR n ls es s t budget)) := fun W hW => of_any n ls es s t budget A1 A2 c1 c2 W (Kd.C_below hr1 hW) (Kd.C_below hr2 hW)
  have HLt' := Lib.hid HLt
  have HR1 := Aside0.mk hr1
  have HR2 := Aside0.mk hr2
  have hbox : Below (w.alloc (Obj.cells #[Value.int IntKind.i64 n, Value.slice A1 ls.length c1, Value.slice A2 es.length c2] 25)).heap.size (w.alloc (Obj.cells #[Value.int IntKind.i64 n, Value.slice A1 ls.length c1, Value.slice A2 es.length c2] 25)) ((w.alloc (Obj.cells #[Value.int IntKind.i64 n, Value.slice A1 ls.length c1, Value.slice A2 es.length c2] 25)).alloc (Obj.cells #[Value.int IntKind.i64 t, Value.int IntKind.i64 budget] 31)) := below_alloc (Below.refl _ _) _
  have HX0 := Aside0.mk (show BoxL ((w.alloc (Obj.cells #[Value.int IntKind.i64 n, Value.slice A1 ls.length c1, Value.slice A2 es.length c2] 25)).alloc (Obj.cells #[Value.int IntKind.i64 t, Value.int IntKind.i64 budget] 31)) w.heap.size n (.slice A1 ls.length c1) (.slice A2 es.length c2) from blk_below (blk_new w _) hbox)
  have HP0 := Aside0.mk (show ((w.alloc (Obj.cells #[Value.int IntKind.i64 n, Value.slice A1 ls.length c1, Value.slice A2 es.length c2] 25)).alloc (Obj.cells #[Value.int IntKind.i64 t, Value.int IntKind.i64 budget] 31)).heap[w.heap.size + 1]? = some (.cells #[.int .i64 t, .int .i64 budget] 31 (0, 0)) by have := blk_new (w.alloc (Obj.cells #[Value.int IntKind.i64 n, Value.slice A1 ls.length c1, Value.slice A2 es.length c2] 25)) (Obj.cells #[Value.int IntKind.i64 t, Value.int IntKind.i64 budget] 31); simpa using this)
  have HB0 := Aside0.mk (below_alloc (below_alloc HB.out (Obj.cells #[Value.int IntKind.i64 n, Value.slice A1 ls.length c1, Value.slice A2 es.length c2] 25)) (Obj.cells #[Value.int IntKind.i64 t, Value.int IntKind.i64 budget] 31))
  clear HLt hr1 hr2 hwf1 hwf2 hwf3 hbox
  go_enter Try.func7, Try.ntmps7
  go_wp2_with fail
  refine start_ (n := 6) (S := fun w' => w'.cell? ⟨w.heap.size + 1, 0, none⟩ = some (.int .i64 t) ∧ w'.cell? ⟨w.heap.size + 1, 1, none⟩ = some (.int .i64 budget)) (ds := []) #[false, false, false, false, false, false] (by kernel_rfl) rfl rfl ⟨(blk_cell HP0.out 0).trans rfl, (blk_cell HP0.out 1).trans rfl⟩ (fun hHeld => ?_)
  refine pure_ (i := 0) (N := some 11) (v := ?_) (a' := ?_) #[true, false, false, false, false, false] rfl rfl (by kernel_rfl) (fun _ _ _ h => h) (Or.inl ⟨by rfl, ?_⟩) ?_ ?_
  rotate_left
  · intro w'
    go_simp
    with_reducible rfl
  rotate_left
  · simp only [Act.put, List.setIfInBounds_toArray, List.set_cons_zero, List.set_cons_succ, i64_w, i32_w]
    rfl
  refine pure_ (i := 2) (N := some 13) (v := ?_) (a' := ?_) #[true, false, true, false, false, false] rfl rfl (by kernel_rfl) (fun _ _ _ h => h) (Or.inl ⟨by rfl, ?_⟩) ?_ ?_
  rotate_left
  · intro w'
    go_simp
    with_reducible rfl
  rotate_left
  · simp only [Act.put, List.setIfInBounds_toArray, List.set_cons_zero, List.set_cons_succ, i64_w, i32_w]
    rfl
  refine take_ (i := 1) (N := some 12) (v := ?_) (a' := ?_) #[true, true, true, false, false, false] rfl rfl (by kernel_rfl) (fun _ _ _ h => h) (Or.inl ⟨by rfl, ?_⟩) hHeld ?_ ?_
  rotate_left
  · rintro w' ⟨s0, s1⟩
    go_simp
    with_reducible rfl
  rotate_left
  · simp only [Act.put, List.setIfInBounds_toArray, List.set_cons_zero, List.set_cons_succ, i64_w, i32_w]
    rfl
  refine pure_ (i := 4) (N := some 7) (v := ?_) (a' := ?_) #[true, true, true, false, true, false] rfl rfl (by kernel_rfl) (fun _ _ _ h => h) (Or.inl ⟨by rfl, ?_⟩) ?_ ?_
  rotate_left
  · intro w'
    go_simp
    with_reducible rfl
  rotate_left
  · simp only [Act.put, List.setIfInBounds_toArray, List.set_cons_zero, List.set_cons_succ, i64_w, i32_w]
    rfl
  refine take_ (i := 3) (N := some 14) (v := ?_) (a' := ?_) #[true, true, true, true, true, false] rfl rfl (by kernel_rfl) (fun _ _ _ h => h) (Or.inl ⟨by rfl, ?_⟩) hHeld ?_ ?_
  rotate_left
  · rintro w' ⟨s0, s1⟩
    go_simp
    with_reducible rfl
  rotate_left
  · simp only [Act.put, List.setIfInBounds_toArray, List.set_cons_zero, List.set_cons_succ, i64_w, i32_w]
    rfl
  refine pure_ (i := 5) (N := some 8) (v := ?_) (a' := ?_) #[true, true, true, true, true, true] rfl rfl (by kernel_rfl) (fun _ _ _ h => h) (Or.inl ⟨by rfl, ?_⟩) ?_ ?_
  rotate_left
  · intro w'
    go_simp
    with_reducible rfl
  rotate_left
  · simp only [Act.put, List.setIfInBounds_toArray, List.set_cons_zero, List.set_cons_succ, i64_w, i32_w]
    rfl
  refine done_ (by kernel_rfl) ?_
  have hd := below_drew1 (Below.refl (((w.alloc (Obj.cells #[Value.int IntKind.i64 n, Value.slice A1 ls.length c1, Value.slice A2 es.length c2] 25)).alloc (Obj.cells #[Value.int IntKind.i64 t, Value.int IntKind.i64 budget] 31)).heap.size) ((w.alloc (Obj.cells #[Value.int IntKind.i64 n, Value.slice A1 ls.length c1, Value.slice A2 es.length c2] 25)).alloc (Obj.cells #[Value.int IntKind.i64 t, Value.int IntKind.i64 budget] 31)))
  have HX1 := Aside0.mk (HX0.out.below hd)
  have HB1 := Aside0.mk (below_then HB0.out HB0.out.size hd)
  clear hd HX0 HP0 HB0 hHeld
  generalize ((w.alloc (Obj.cells #[Value.int IntKind.i64 n, Value.slice A1 ls.length c1, Value.slice A2 es.length c2] 25)).alloc (Obj.cells #[Value.int IntKind.i64 t, Value.int IntKind.i64 budget] 31)).drew = W1 at HX1 HB1 ⊢
  have b0 := HX1.out.c0
  have b1 := HX1.out.c1
  have b2 := HX1.out.c2
  go_wp2_with fail
  clear b0 b1 b2
  refine (HLt'.out _ HB1.out).mono ?_
  rintro e w2 ⟨rfl, hB⟩
  have HX2 := Aside0.mk (HX1.out.below hB)
  have HB2 := Aside0.mk (below_then HB1.out HB1.out.size hB)
  have b0 := HX2.out.c0
  have b1 := HX2.out.c1
  have b2 := HX2.out.c2
  clear hB HX1 HB1 HLt'
  cases q : light33 n ls es with
  | false =>
    clear q
    go_wp2_with fail
    clear b0 b1 b2
    refine (awake40 _).mono ?_
    rintro e w3 ⟨rfl, hB⟩
    have HB3 := Aside0.mk (below_then HB2.out HB2.out.size hB)
    clear hB
    go_wp2
    go_ret
    exact ⟨rfl, HB3.out⟩
  | true =>
    clear q
    by_cases r1 : 100 < budget
    · by_cases r2 : budget ≤ 65536
      · skip
        go_wp2_with fail
        clear b0 b1 b2
        refine (awake40 _).mono ?_
        rintro e w3 ⟨rfl, hB⟩
        have HB3 := Aside0.mk (below_then HB2.out HB2.out.size hB)
        clear hB
        go_wp2
        go_ret
        exact ⟨rfl, HB3.out⟩
      · have hmain : ¬ (mayR n ls es = true ∧ (0 ≤ s ∧ s < n) ∧ (0 ≤ t ∧ t < n) ∧ 1 ≤ budget ∧ budget ≤ 65536) := fun h => r2 h.2.2.2.2
        have ho : ofR n ls es s t budget = ((0, []), 1) := by
          unfold ofR
          rw [if_neg hmain]
        rw [ho] at HOf
        have HOf := Lib.hid HOf
        have HMy := Lib.hid HMy
        have HMn := Aside0.mk hmain
        clear ho hmain
        go_wp2_with fail
        clear b0 b1 b2
        refine (HOf.out _ HB2.out).mono ?_
        rintro e w3 ⟨vw, rfl, hR, hB⟩
        obtain ⟨Aw, cw, rfl, _, hC⟩ := Kd.R_reads hR
        have HC3 := Aside0.mk hC
        have HX3 := Aside0.mk (HX2.out.below hB)
        have HB3 := Aside0.mk (below_then HB2.out HB2.out.size hB)
        have hbn := below_alloc (Below.refl w3.heap.size w3) (Obj.cells #[Value.int IntKind.i64 0, Value.slice Aw 0 cw] 54)
        have HX4 := Aside0.mk (HX3.out.below hbn)
        have HB4 := Aside0.mk (below_then HB3.out HB3.out.size hbn)
        have HC4 := Aside0.mk (Kd.C_below HC3.out hbn)
        have HW4 := Aside0.mk (word_new w3 w3.heap.size (.int .i64 0) (.slice Aw 0 cw) rfl)
        have b0 := HX4.out.c0
        have b1 := HX4.out.c1
        have b2 := HX4.out.c2
        clear hR hC hB hbn HX2 HB2 HX3 HB3 HC3
        go_wp2_with fail
        clear b0 b1 b2
        generalize (w3.alloc (Obj.cells #[Value.int IntKind.i64 0, Value.slice Aw 0 cw] 54)) = W4 at HX4 HB4 HC4 HW4 ⊢
        refine (HMy.out _ HB4.out).mono ?_
        rintro e w5 ⟨rfl, hB⟩
        have HX5 := Aside0.mk (HX4.out.below hB)
        have HB5 := Aside0.mk (below_then HB4.out HB4.out.size hB)
        have HC5 := Aside0.mk (Kd.C_below HC4.out hB)
        have HW5 := Aside0.mk (HW4.out.below hB)
        have b0 := HX5.out.c0
        have b1 := HX5.out.c1
        have b2 := HX5.out.c2
        have b3 := HW5.out.c0
        have b4 := HW5.out.c1
        clear hB HX4 HB4 HC4 HW4
        cases q3 : mayR n ls es with
        | false =>
          clear HMn
          go_wp2_with fail
          clear b0 b1 b2 b3 b4
          have hq := wsame_any (0, []) (0, []) true rfl Aw none cw 0 w5 HC5.out (Kd.C_nil _ _)
          refine hq.mono ?_
          clear hq
          rintro e w6 ⟨rfl, hB⟩
          have HB6 := Aside0.mk (below_then HB5.out HB5.out.size hB)
          clear hB
          go_wp2_with fail
          refine (awake40 _).mono ?_
          rintro e w7 ⟨rfl, hB⟩
          have HB7 := Aside0.mk (below_then HB6.out HB6.out.size hB)
          clear hB
          go_wp2
          go_ret
          exact ⟨rfl, HB7.out⟩
        | true =>
          by_cases q4 : s < 0
          · clear HMn
            go_wp2_with fail
            clear b0 b1 b2 b3 b4
            have hq := wsame_any (0, []) (0, []) true rfl Aw none cw 0 w5 HC5.out (Kd.C_nil _ _)
            refine hq.mono ?_
            clear hq
            rintro e w6 ⟨rfl, hB⟩
            have HB6 := Aside0.mk (below_then HB5.out HB5.out.size hB)
            clear hB
            go_wp2_with fail
            refine (awake40 _).mono ?_
            rintro e w7 ⟨rfl, hB⟩
            have HB7 := Aside0.mk (below_then HB6.out HB6.out.size hB)
            clear hB
            go_wp2
            go_ret
            exact ⟨rfl, HB7.out⟩
          · by_cases q5 : n ≤ s
            · clear HMn
              go_wp2_with fail
              clear b0 b1 b2 b3 b4
              have hq := wsame_any (0, []) (0, []) true rfl Aw none cw 0 w5 HC5.out (Kd.C_nil _ _)
              refine hq.mono ?_
              clear hq
              rintro e w6 ⟨rfl, hB⟩
              have HB6 := Aside0.mk (below_then HB5.out HB5.out.size hB)
              clear hB
              go_wp2_with fail
              refine (awake40 _).mono ?_
              rintro e w7 ⟨rfl, hB⟩
              have HB7 := Aside0.mk (below_then HB6.out HB6.out.size hB)
              clear hB
              go_wp2
              go_ret
              exact ⟨rfl, HB7.out⟩
            · by_cases q6 : t < 0
              · clear HMn
                go_wp2_with fail
                clear b0 b1 b2 b3 b4
                have hq := wsame_any (0, []) (0, []) true rfl Aw none cw 0 w5 HC5.out (Kd.C_nil _ _)
                refine hq.mono ?_
                clear hq
                rintro e w6 ⟨rfl, hB⟩
                have HB6 := Aside0.mk (below_then HB5.out HB5.out.size hB)
                clear hB
                go_wp2_with fail
                refine (awake40 _).mono ?_
                rintro e w7 ⟨rfl, hB⟩
                have HB7 := Aside0.mk (below_then HB6.out HB6.out.size hB)
                clear hB
                go_wp2
                go_ret
                exact ⟨rfl, HB7.out⟩
              · by_cases q7 : n ≤ t
                · clear HMn
                  go_wp2_with fail
                  clear b0 b1 b2 b3 b4
                  have hq := wsame_any (0, []) (0, []) true rfl Aw none cw 0 w5 HC5.out (Kd.C_nil _ _)
                  refine hq.mono ?_
                  clear hq
                  rintro e w6 ⟨rfl, hB⟩
                  have HB6 := Aside0.mk (below_then HB5.out HB5.out.size hB)
                  clear hB
                  go_wp2_with fail
                  refine (awake40 _).mono ?_
                  rintro e w7 ⟨rfl, hB⟩
                  have HB7 := Aside0.mk (below_then HB6.out HB6.out.size hB)
                  clear hB
                  go_wp2
                  go_ret
                  exact ⟨rfl, HB7.out⟩
                · by_cases q8 : budget < 1
                  · clear HMn
                    go_wp2_with fail
                    clear b0 b1 b2 b3 b4
                    have hq := wsame_any (0, []) (0, []) true rfl Aw none cw 0 w5 HC5.out (Kd.C_nil _ _)
                    refine hq.mono ?_
                    clear hq
                    rintro e w6 ⟨rfl, hB⟩
                    have HB6 := Aside0.mk (below_then HB5.out HB5.out.size hB)
                    clear hB
                    go_wp2_with fail
                    refine (awake40 _).mono ?_
                    rintro e w7 ⟨rfl, hB⟩
                    have HB7 := Aside0.mk (below_then HB6.out HB6.out.size hB)
                    clear hB
                    go_wp2
                    go_ret
                    exact ⟨rfl, HB7.out⟩
                  · have q9 : 65536 < budget := by
                      by_cases h : 65536 < budget
                      · exact h
                      · refine absurd ⟨q3, ?_, ?_, ?_, ?_⟩ HMn.out <;> omega
                    clear HMn
                    go_wp2_with fail
                    clear b0 b1 b2 b3 b4
                    have hq := wsame_any (0, []) (0, []) true rfl Aw none cw 0 w5 HC5.out (Kd.C_nil _ _)
                    refine hq.mono ?_
                    clear hq
                    rintro e w6 ⟨rfl, hB⟩
                    have HB6 := Aside0.mk (below_then HB5.out HB5.out.size hB)
                    clear hB
                    go_wp2_with fail
                    refine (awake40 _).mono ?_
                    rintro e w7 ⟨rfl, hB⟩
                    have HB7 := Aside0.mk (below_then HB6.out HB6.out.size hB)
                    clear hB
                    go_wp2
                    go_ret
                    exact ⟨rfl, HB7.out⟩
    · by_cases hmain : mayR n ls es = true ∧ (0 ≤ s ∧ s < n) ∧ (0 ≤ t ∧ t < n) ∧ 1 ≤ budget ∧ budget ≤ 65536
      · skip
        obtain ⟨hm, ⟨hs1, hs2⟩, ⟨ht1, ht2⟩, hb1, hb2⟩ := hmain
        obtain ⟨N, rfl⟩ := Int.eq_ofNat_of_zero_le (show 0 ≤ n by omega)
        obtain ⟨S, rfl⟩ := Int.eq_ofNat_of_zero_le hs1
        obtain ⟨U, rfl⟩ := Int.eq_ofNat_of_zero_le ht1
        obtain ⟨B, rfl⟩ := Int.eq_ofNat_of_zero_le (show 0 ≤ budget by omega)
        have ho : ofR (N : Int) ls es (S : Int) (U : Int) (B : Int) = (ofF N ls es S U (B : Int), 0) := by
          unfold ofR
          rw [if_pos ⟨hm, ⟨hs1, hs2⟩, ⟨ht1, ht2⟩, hb1, hb2⟩]
          simp only [Int.toNat_natCast]
        rw [ho] at HOf
        rw [hm] at HMy
        have HRf : ∀ W, Below w.heap.size w W → Calls Try.prog 41 #[.agg #[.int .i64 (N : Int), .slice A1 ls.length c1, .slice A2 es.length c2], .int .i64 (S : Int), .int .i64 (U : Int), .int .i64 (B : Int)] W fun e w' => ∃ vw, e = .returned (.agg #[.int .i64 (ofF N ls es S U (B : Int)).1, vw]) ∧ Kd.R Kd.string 9 w' W.heap.size (fun _ => True) vw (ofF N ls es S U (B : Int)).2 ∧ Below W.heap.size W w' := fun W hW => of40_any N S U ls es B A1 A2 c1 c2 W (Kd.C_below HR1.out hW) (Kd.C_below HR2.out hW) hm (Int.ofNat_lt.1 hs2) (Int.ofNat_lt.1 ht2) (by omega) (by omega)
        obtain ⟨T, hT⟩ : ∃ T, T = ofF N ls es S U (B : Int) := ⟨_, rfl⟩
        rw [← hT] at HOf HRf
        have HOf := Lib.hid HOf
        have HMy := Lib.hid HMy
        have HRf := Lib.hid HRf
        have q4 : ¬ (S : Int) < 0 := by omega
        have q5 : ¬ (N : Int) ≤ (S : Int) := by omega
        have q6 : ¬ (U : Int) < 0 := by omega
        have q7 : ¬ (N : Int) ≤ (U : Int) := by omega
        have q8 : ¬ (B : Int) < 1 := by omega
        have q9 : ¬ 65536 < (B : Int) := by omega
        clear ho hT hm hs1 hs2 ht1 ht2 hb1 hb2
        go_wp2_with fail
        clear b0 b1 b2
        refine (HOf.out _ HB2.out).mono ?_
        rintro e w3 ⟨vw, rfl, hR, hB⟩
        obtain ⟨Aw, cw, rfl, _, hC⟩ := Kd.R_reads hR
        have HC3 := Aside0.mk hC
        have HX3 := Aside0.mk (HX2.out.below hB)
        have HB3 := Aside0.mk (below_then HB2.out HB2.out.size hB)
        have hbn := below_alloc (Below.refl w3.heap.size w3) (Obj.cells #[Value.int IntKind.i64 T.1, Value.slice Aw T.2.length cw] 54)
        have HX4 := Aside0.mk (HX3.out.below hbn)
        have HB4 := Aside0.mk (below_then HB3.out HB3.out.size hbn)
        have HC4 := Aside0.mk (Kd.C_below HC3.out hbn)
        have HW4 := Aside0.mk (word_new w3 w3.heap.size (.int .i64 T.1) (.slice Aw T.2.length cw) rfl)
        have b0 := HX4.out.c0
        have b1 := HX4.out.c1
        have b2 := HX4.out.c2
        clear hR hC hB hbn HX2 HB2 HX3 HB3 HC3
        go_wp2_with fail
        clear b0 b1 b2
        generalize (w3.alloc (Obj.cells #[Value.int IntKind.i64 T.1, Value.slice Aw T.2.length cw] 54)) = W4 at HX4 HB4 HC4 HW4 ⊢
        refine (HMy.out _ HB4.out).mono ?_
        rintro e w5 ⟨rfl, hB⟩
        have HX5 := Aside0.mk (HX4.out.below hB)
        have HB5 := Aside0.mk (below_then HB4.out HB4.out.size hB)
        have HC5 := Aside0.mk (Kd.C_below HC4.out hB)
        have HW5 := Aside0.mk (HW4.out.below hB)
        have b0 := HX5.out.c0
        have b1 := HX5.out.c1
        have b2 := HX5.out.c2
        have b3 := HW5.out.c0
        have b4 := HW5.out.c1
        clear hB HX4 HB4 HC4 HW4
        go_wp2_with fail
        clear b0 b1 b2 b3 b4
        refine start_ (n := 15) (S := fun w' => w'.cell? ⟨w.heap.size, 0, none⟩ = some (.int .i64 (N : Int)) ∧ w'.cell? ⟨w.heap.size, 1, none⟩ = some (.slice A1 ls.length c1) ∧ w'.cell? ⟨w.heap.size, 2, none⟩ = some (.slice A2 es.length c2) ∧ w'.cell? ⟨w3.heap.size, 0, none⟩ = some (.int .i64 T.1) ∧ w'.cell? ⟨w3.heap.size, 1, none⟩ = some (.slice Aw T.2.length cw)) (ds := []) #[false, false, false, false, false, false, false, false, false, false, false, false, false, false, false] (by kernel_rfl) rfl rfl ⟨HX5.out.c0, HX5.out.c1, HX5.out.c2, HW5.out.c0, HW5.out.c1⟩ (fun hHeld => ?_)
        have hd := below_drew1 (Below.refl w5.heap.size w5)
        have HB6 := Aside0.mk (below_then HB5.out HB5.out.size hd)
        have HC6 := Aside0.mk (Kd.C_below HC5.out hd)
        clear hd
        generalize w5.drew = V at HB6 HC6 hHeld ⊢
        refine pure_ (i := 0) (N := some 76) (v := ?_) (a' := ?_) #[true, false, false, false, false, false, false, false, false, false, false, false, false, false, false] rfl rfl (by kernel_rfl) (fun _ _ _ h => h) (Or.inl ⟨by rfl, ?_⟩) ?_ ?_
        rotate_left
        · intro w'
          go_simp
          with_reducible rfl
        rotate_left
        · simp only [Act.put, List.setIfInBounds_toArray, List.set_cons_zero, List.set_cons_succ, i64_w, i32_w]
          rfl
        refine pure_ (i := 1) (N := some 77) (v := ?_) (a' := ?_) #[true, true, false, false, false, false, false, false, false, false, false, false, false, false, false] rfl rfl (by kernel_rfl) (fun _ _ _ h => h) (Or.inl ⟨by rfl, ?_⟩) ?_ ?_
        rotate_left
        · intro w'
          go_simp
          with_reducible rfl
        rotate_left
        · simp only [Act.put, List.setIfInBounds_toArray, List.set_cons_zero, List.set_cons_succ, i64_w, i32_w]
          rfl
        refine pure_ (i := 2) (N := some 78) (v := ?_) (a' := ?_) #[true, true, true, false, false, false, false, false, false, false, false, false, false, false, false] rfl rfl (by kernel_rfl) (fun _ _ _ h => h) (Or.inl ⟨by rfl, ?_⟩) ?_ ?_
        rotate_left
        · intro w'
          go_simp
          with_reducible rfl
        rotate_left
        · simp only [Act.put, List.setIfInBounds_toArray, List.set_cons_zero, List.set_cons_succ, i64_w, i32_w]
          rfl
        refine pure_ (i := 5) (N := some 81) (v := ?_) (a' := ?_) #[true, true, true, false, false, true, false, false, false, false, false, false, false, false, false] rfl rfl (by kernel_rfl) (fun _ _ _ h => h) (Or.inl ⟨by rfl, ?_⟩) ?_ ?_
        rotate_left
        · intro w'
          go_simp
          with_reducible rfl
        rotate_left
        · simp only [Act.put, List.setIfInBounds_toArray, List.set_cons_zero, List.set_cons_succ, i64_w, i32_w]
          rfl
        refine pure_ (i := 6) (N := some 82) (v := ?_) (a' := ?_) #[true, true, true, false, false, true, true, false, false, false, false, false, false, false, false] rfl rfl (by kernel_rfl) (fun _ _ _ h => h) (Or.inl ⟨by rfl, ?_⟩) ?_ ?_
        rotate_left
        · intro w'
          go_simp
          with_reducible rfl
        rotate_left
        · simp only [Act.put, List.setIfInBounds_toArray, List.set_cons_zero, List.set_cons_succ, i64_w, i32_w]
          rfl
        refine pure_ (i := 7) (N := some 83) (v := ?_) (a' := ?_) #[true, true, true, false, false, true, true, true, false, false, false, false, false, false, false] rfl rfl (by kernel_rfl) (fun _ _ _ h => h) (Or.inl ⟨by rfl, ?_⟩) ?_ ?_
        rotate_left
        · intro w'
          go_simp
          with_reducible rfl
        rotate_left
        · simp only [Act.put, List.setIfInBounds_toArray, List.set_cons_zero, List.set_cons_succ, i64_w, i32_w]
          rfl
        refine take_ (i := 3) (N := some 79) (v := ?_) (a' := ?_) #[true, true, true, true, false, true, true, true, false, false, false, false, false, false, false] rfl rfl (by kernel_rfl) (fun _ _ _ h => h) (Or.inl ⟨by rfl, ?_⟩) hHeld ?_ ?_
        rotate_left
        · rintro w' ⟨s0, s1, s2, s3, s4⟩
          go_simp
          with_reducible rfl
        rotate_left
        · simp only [Act.put, List.setIfInBounds_toArray, List.set_cons_zero, List.set_cons_succ, i64_w, i32_w]
          rfl
        refine take_ (i := 4) (N := some 80) (v := ?_) (a' := ?_) #[true, true, true, true, true, true, true, true, false, false, false, false, false, false, false] rfl rfl (by kernel_rfl) (fun _ _ _ h => h) (Or.inl ⟨by rfl, ?_⟩) hHeld ?_ ?_
        rotate_left
        · rintro w' ⟨s0, s1, s2, s3, s4⟩
          go_simp
          with_reducible rfl
        rotate_left
        · simp only [Act.put, List.setIfInBounds_toArray, List.set_cons_zero, List.set_cons_succ, i64_w, i32_w]
          rfl
        refine one_ (i := 8) (N := some 84) #[true, true, true, true, true, true, true, true, true, false, false, false, false, false, false] rfl rfl (by kernel_rfl) (by decide) (fun K hK => ?_)
        refine goes_ Try.func41 (by kernel_rfl) rfl #[.agg #[.int .i64 (N : Int), .slice A1 ls.length c1, .slice A2 es.length c2], .int .i64 (S : Int), .int .i64 (U : Int), .int .i64 (B : Int)] (by rfl) rfl rfl (by simp only [List.map_toArray, List.map_cons, List.map_nil]; rfl) ?_
        refine (HRf.out _ HB6.out).mono ?_
        rintro e w7 ⟨vr, rfl, hR, hB⟩
        obtain ⟨Ar, cr, rfl, _, hC⟩ := Kd.R_reads hR
        refine ⟨_, rfl, ?_⟩
        have HL7 := Aside0.mk hB
        have HC7 := Aside0.mk (Kd.C_below HC6.out hB)
        have HD7 := Aside0.mk hC
        have HB7 := Aside0.mk (below_then HB6.out HB6.out.size hB)
        clear hR hB hC
        refine hK.out _ _ ⟨later HL7.out hHeld.1, later HL7.out hHeld.2.1, later HL7.out hHeld.2.2.1, later HL7.out hHeld.2.2.2.1, later HL7.out hHeld.2.2.2.2⟩ (fun hHeld => ?_)
        clear hK K
        refine norm_ (a' := ?_) ?_ ?_
        rotate_left
        · show Act.put _ (some 84) _ = _
          simp only [Act.put, List.setIfInBounds_toArray, List.set_cons_zero, List.set_cons_succ, i64_w, i32_w]
          rfl
        refine one_ (i := 9) (N := some 85) #[true, true, true, true, true, true, true, true, true, true, false, false, false, false, false] rfl rfl (by kernel_rfl) (by decide) (fun K hK => ?_)
        refine goes_ Try.func40 (by kernel_rfl) rfl #[.agg #[.int .i64 T.1, .slice Aw T.2.length cw], .agg #[.int .i64 T.1, .slice Ar T.2.length cr]] (by rfl) rfl rfl (by simp only [List.map_toArray, List.map_cons, List.map_nil]; rfl) ?_
        refine (wsame_any T T true (sameW_self T) Aw Ar cw cr w7 HC7.out HD7.out).mono ?_
        rintro e w8 ⟨rfl, hB⟩
        refine ⟨_, rfl, ?_⟩
        have HL8 := Aside0.mk hB
        have HB8 := Aside0.mk (below_then HB7.out HB7.out.size hB)
        clear hB
        refine hK.out _ _ ⟨later HL8.out hHeld.1, later HL8.out hHeld.2.1, later HL8.out hHeld.2.2.1, later HL8.out hHeld.2.2.2.1, later HL8.out hHeld.2.2.2.2⟩ (fun hHeld => ?_)
        clear hK K
        refine norm_ (a' := ?_) ?_ ?_
        rotate_left
        · show Act.put _ (some 85) _ = _
          simp only [Act.put, List.setIfInBounds_toArray, List.set_cons_zero, List.set_cons_succ, i64_w, i32_w]
          rfl
        refine pure_ (i := 10) (N := some 86) (v := ?_) (a' := ?_) #[true, true, true, true, true, true, true, true, true, true, true, false, false, false, false] rfl rfl (by kernel_rfl) (fun _ _ _ h => h) (Or.inl ⟨by rfl, ?_⟩) ?_ ?_
        rotate_left
        · intro w'
          go_simp
          with_reducible rfl
        rotate_left
        · simp only [Act.put, List.setIfInBounds_toArray, List.set_cons_zero, List.set_cons_succ, i64_w, i32_w]
          rfl
        refine pure_ (i := 11) (N := some 87) (v := ?_) (a' := ?_) #[true, true, true, true, true, true, true, true, true, true, true, true, false, false, false] rfl rfl (by kernel_rfl) (fun _ _ _ h => h) (Or.inl ⟨by rfl, ?_⟩) ?_ ?_
        rotate_left
        · intro w'
          go_simp
          with_reducible rfl
        rotate_left
        · simp only [Act.put, List.setIfInBounds_toArray, List.set_cons_zero, List.set_cons_succ, i64_w, i32_w]
          rfl
        refine one_ (i := 12) (N := some 88) #[true, true, true, true, true, true, true, true, true, true, true, true, true, false, false] rfl rfl (by kernel_rfl) (by decide) (fun K hK => ?_)
        refine goes_ Try.func35 (by kernel_rfl) rfl #[] (by rfl) rfl rfl (by simp) ?_
        refine (awake40 _).mono ?_
        rintro e w9 ⟨rfl, hB⟩
        refine ⟨_, rfl, ?_⟩
        have HL9 := Aside0.mk hB
        have HB9 := Aside0.mk (below_then HB8.out HB8.out.size hB)
        clear hB
        refine hK.out _ _ ⟨later HL9.out hHeld.1, later HL9.out hHeld.2.1, later HL9.out hHeld.2.2.1, later HL9.out hHeld.2.2.2.1, later HL9.out hHeld.2.2.2.2⟩ (fun hHeld => ?_)
        clear hK K
        refine norm_ (a' := ?_) ?_ ?_
        rotate_left
        · show Act.put _ (some 88) _ = _
          simp only [Act.put, List.setIfInBounds_toArray, List.set_cons_zero, List.set_cons_succ, i64_w, i32_w]
          rfl
        refine pure_ (i := 13) (N := some 89) (v := ?_) (a' := ?_) #[true, true, true, true, true, true, true, true, true, true, true, true, true, true, false] rfl rfl (by kernel_rfl) (fun _ _ _ h => h) (Or.inl ⟨by rfl, ?_⟩) ?_ ?_
        rotate_left
        · intro w'
          go_simp
          with_reducible rfl
        rotate_left
        · simp only [Act.put, List.setIfInBounds_toArray, List.set_cons_zero, List.set_cons_succ, i64_w, i32_w]
          rfl
        refine pure_ (i := 14) (N := some 6) (v := ?_) (a' := ?_) #[true, true, true, true, true, true, true, true, true, true, true, true, true, true, true] rfl rfl (by kernel_rfl) (fun _ _ _ h => h) (Or.inl ⟨by rfl, ?_⟩) ?_ ?_
        rotate_left
        · intro w'
          go_simp
          with_reducible rfl
        rotate_left
        · simp only [Act.put, List.setIfInBounds_toArray, List.set_cons_zero, List.set_cons_succ, i64_w, i32_w]
          rfl
        refine done_ (by kernel_rfl) ?_
        go_wp2
        go_ret
        exact ⟨rfl, HB9.out⟩
      · skip
        have ho : ofR n ls es s t budget = ((0, []), 1) := by
          unfold ofR
          rw [if_neg hmain]
        rw [ho] at HOf
        have HOf := Lib.hid HOf
        have HMy := Lib.hid HMy
        have HMn := Aside0.mk hmain
        clear ho hmain
        go_wp2_with fail
        clear b0 b1 b2
        refine (HOf.out _ HB2.out).mono ?_
        rintro e w3 ⟨vw, rfl, hR, hB⟩
        obtain ⟨Aw, cw, rfl, _, hC⟩ := Kd.R_reads hR
        have HC3 := Aside0.mk hC
        have HX3 := Aside0.mk (HX2.out.below hB)
        have HB3 := Aside0.mk (below_then HB2.out HB2.out.size hB)
        have hbn := below_alloc (Below.refl w3.heap.size w3) (Obj.cells #[Value.int IntKind.i64 0, Value.slice Aw 0 cw] 54)
        have HX4 := Aside0.mk (HX3.out.below hbn)
        have HB4 := Aside0.mk (below_then HB3.out HB3.out.size hbn)
        have HC4 := Aside0.mk (Kd.C_below HC3.out hbn)
        have HW4 := Aside0.mk (word_new w3 w3.heap.size (.int .i64 0) (.slice Aw 0 cw) rfl)
        have b0 := HX4.out.c0
        have b1 := HX4.out.c1
        have b2 := HX4.out.c2
        clear hR hC hB hbn HX2 HB2 HX3 HB3 HC3
        go_wp2_with fail
        clear b0 b1 b2
        generalize (w3.alloc (Obj.cells #[Value.int IntKind.i64 0, Value.slice Aw 0 cw] 54)) = W4 at HX4 HB4 HC4 HW4 ⊢
        refine (HMy.out _ HB4.out).mono ?_
        rintro e w5 ⟨rfl, hB⟩
        have HX5 := Aside0.mk (HX4.out.below hB)
        have HB5 := Aside0.mk (below_then HB4.out HB4.out.size hB)
        have HC5 := Aside0.mk (Kd.C_below HC4.out hB)
        have HW5 := Aside0.mk (HW4.out.below hB)
        have b0 := HX5.out.c0
        have b1 := HX5.out.c1
        have b2 := HX5.out.c2
        have b3 := HW5.out.c0
        have b4 := HW5.out.c1
        clear hB HX4 HB4 HC4 HW4
        cases q3 : mayR n ls es with
        | false =>
          clear HMn
          go_wp2_with fail
          clear b0 b1 b2 b3 b4
          have hq := wsame_any (0, []) (0, []) true rfl Aw none cw 0 w5 HC5.out (Kd.C_nil _ _)
          refine hq.mono ?_
          clear hq
          rintro e w6 ⟨rfl, hB⟩
          have HB6 := Aside0.mk (below_then HB5.out HB5.out.size hB)
          clear hB
          go_wp2_with fail
          refine (awake40 _).mono ?_
          rintro e w7 ⟨rfl, hB⟩
          have HB7 := Aside0.mk (below_then HB6.out HB6.out.size hB)
          clear hB
          go_wp2
          go_ret
          exact ⟨rfl, HB7.out⟩
        | true =>
          by_cases q4 : s < 0
          · clear HMn
            go_wp2_with fail
            clear b0 b1 b2 b3 b4
            have hq := wsame_any (0, []) (0, []) true rfl Aw none cw 0 w5 HC5.out (Kd.C_nil _ _)
            refine hq.mono ?_
            clear hq
            rintro e w6 ⟨rfl, hB⟩
            have HB6 := Aside0.mk (below_then HB5.out HB5.out.size hB)
            clear hB
            go_wp2_with fail
            refine (awake40 _).mono ?_
            rintro e w7 ⟨rfl, hB⟩
            have HB7 := Aside0.mk (below_then HB6.out HB6.out.size hB)
            clear hB
            go_wp2
            go_ret
            exact ⟨rfl, HB7.out⟩
          · by_cases q5 : n ≤ s
            · clear HMn
              go_wp2_with fail
              clear b0 b1 b2 b3 b4
              have hq := wsame_any (0, []) (0, []) true rfl Aw none cw 0 w5 HC5.out (Kd.C_nil _ _)
              refine hq.mono ?_
              clear hq
              rintro e w6 ⟨rfl, hB⟩
              have HB6 := Aside0.mk (below_then HB5.out HB5.out.size hB)
              clear hB
              go_wp2_with fail
              refine (awake40 _).mono ?_
              rintro e w7 ⟨rfl, hB⟩
              have HB7 := Aside0.mk (below_then HB6.out HB6.out.size hB)
              clear hB
              go_wp2
              go_ret
              exact ⟨rfl, HB7.out⟩
            · by_cases q6 : t < 0
              · clear HMn
                go_wp2_with fail
                clear b0 b1 b2 b3 b4
                have hq := wsame_any (0, []) (0, []) true rfl Aw none cw 0 w5 HC5.out (Kd.C_nil _ _)
                refine hq.mono ?_
                clear hq
                rintro e w6 ⟨rfl, hB⟩
                have HB6 := Aside0.mk (below_then HB5.out HB5.out.size hB)
                clear hB
                go_wp2_with fail
                refine (awake40 _).mono ?_
                rintro e w7 ⟨rfl, hB⟩
                have HB7 := Aside0.mk (below_then HB6.out HB6.out.size hB)
                clear hB
                go_wp2
                go_ret
                exact ⟨rfl, HB7.out⟩
              · by_cases q7 : n ≤ t
                · clear HMn
                  go_wp2_with fail
                  clear b0 b1 b2 b3 b4
                  have hq := wsame_any (0, []) (0, []) true rfl Aw none cw 0 w5 HC5.out (Kd.C_nil _ _)
                  refine hq.mono ?_
                  clear hq
                  rintro e w6 ⟨rfl, hB⟩
                  have HB6 := Aside0.mk (below_then HB5.out HB5.out.size hB)
                  clear hB
                  go_wp2_with fail
                  refine (awake40 _).mono ?_
                  rintro e w7 ⟨rfl, hB⟩
                  have HB7 := Aside0.mk (below_then HB6.out HB6.out.size hB)
                  clear hB
                  go_wp2
                  go_ret
                  exact ⟨rfl, HB7.out⟩
                · by_cases q8 : budget < 1
                  · clear HMn
                    go_wp2_with fail
                    clear b0 b1 b2 b3 b4
                    have hq := wsame_any (0, []) (0, []) true rfl Aw none cw 0 w5 HC5.out (Kd.C_nil _ _)
                    refine hq.mono ?_
                    clear hq
                    rintro e w6 ⟨rfl, hB⟩
                    have HB6 := Aside0.mk (below_then HB5.out HB5.out.size hB)
                    clear hB
                    go_wp2_with fail
                    refine (awake40 _).mono ?_
                    rintro e w7 ⟨rfl, hB⟩
                    have HB7 := Aside0.mk (below_then HB6.out HB6.out.size hB)
                    clear hB
                    go_wp2
                    go_ret
                    exact ⟨rfl, HB7.out⟩
                  · have q9 : 65536 < budget := by
                      by_cases h : 65536 < budget
                      · exact h
                      · refine absurd ⟨q3, ?_, ?_, ?_, ?_⟩ HMn.out <;> omega
                    clear HMn
                    go_wp2_with fail
                    clear b0 b1 b2 b3 b4
                    have hq := wsame_any (0, []) (0, []) true rfl Aw none cw 0 w5 HC5.out (Kd.C_nil _ _)
                    refine hq.mono ?_
                    clear hq
                    rintro e w6 ⟨rfl, hB⟩
                    have HB6 := Aside0.mk (below_then HB5.out HB5.out.size hB)
                    clear hB
                    go_wp2_with fail
                    refine (awake40 _).mono ?_
                    rintro e w7 ⟨rfl, hB⟩
                    have HB7 := Aside0.mk (below_then HB6.out HB6.out.size hB)
                    clear hB
                    go_wp2
                    go_ret
                    exact ⟨rfl, HB7.out⟩

end Go.Proofs.Ytmpiokdomjchiaa.H
