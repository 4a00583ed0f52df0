/-
  The walk of semblancelaw40.TraceBehind: it is always true.
-/
import Derived.Test.YtmpiokdomjchiaaSn
set_option linter.unusedVariables false
set_option linter.unusedSimpArgs false
namespace Go.Proofs.Ytmpiokdomjchiaa.H
open Go.RowKit Go.Proofs.Ytmpiokdomjchiaa.Pr Go.Proofs.YtmpiokdomjchiaaW.PrintWords Go.Proofs.Ytmpiokdomjchiaa.Sem Go.Proofs.YtmpiokdomjchiaaW.PrintLast

set_option maxHeartbeats 8000000 in
set_option maxRecDepth 100000 in
theorem traceBehind_true (n : Int) (ls : List ByteArray) (es : List Ed) (node : Int) (ws : List ByteArray) (A1 A2 A3 : Option Addr) (c1 c2 c3 : Nat) (w : World) (hr1 : Kd.C Kd.string w A1 ls.length ls) (hr2 : Kd.C k81 w A2 es.length es) (hwf : (Lit.int .i64 node).wf = true) (hr3 : Kd.C Kd.string w A3 ws.length ws) :
    Calls Try.prog 6 #[.agg #[.int .i64 n, .slice A1 ls.length c1, .slice A2 es.length c2], .int .i64 node, .slice A3 ws.length c3] w fun e w' => e = .returned (.bool true) ∧ Below w.heap.size w w' := by
  have HB := Aside0.mk (Below.refl w.heap.size w)
  have hl2 := C_len hr2
  have HLt : ∀ W, Below w.heap.size w W → Calls Try.prog 15 #[.agg #[.int .i64 n, .slice A1 ls.length c1, .slice A2 es.length c2]] W fun e w' => e = .returned (.bool (light33 n ls es)) ∧ Below W.heap.size W w' := fun W hW => light33_any n ls es A1 A2 c1 c2 W (Kd.C_below hr1 hW) hl2
  have HSh : ∀ W, Below w.heap.size w W → Calls Try.prog 34 #[.slice A3 ws.length c3] W fun e w' => e = .returned (.bool (shortB ws)) ∧ W = w' := fun W hW => short_any ws A3 c3 W (Kd.C_below hr3 hW)
  have HLt' := Lib.hid HLt
  have HSh' := Lib.hid HSh
  have HR1 := Aside0.mk hr1
  have HR2 := Aside0.mk hr2
  have HR3 := Aside0.mk hr3
  clear HLt HSh hr1 hr2 hr3 hwf
  cases q : light33 n ls es with
  | false =>
    rw [q] at HLt'
    clear q
    go_enter Try.func6, Try.ntmps6
    go_wp2_with fail
    refine (HLt'.out _ (below_alloc HB.out _)).mono ?_
    rintro e w1 ⟨rfl, hB⟩
    have HB1 := Aside0.mk (below_then (below_alloc HB.out _) (by simp) hB)
    clear hB
    go_wp2_with fail
    refine (awake40 _).mono ?_
    rintro e w2 ⟨rfl, hB⟩
    have HB2 := Aside0.mk (below_then HB1.out HB1.out.size hB)
    clear hB
    go_wp2
    go_ret
    exact ⟨rfl, HB2.out⟩
  | true =>
    rw [q] at HLt'
    clear q
    cases q2 : shortB ws with
    | false =>
      rw [q2] at HSh'
      clear q2
      go_enter Try.func6, Try.ntmps6
      go_wp2_with fail
      refine (HLt'.out _ (below_alloc HB.out _)).mono ?_
      rintro e w1 ⟨rfl, hB⟩
      have HB1 := Aside0.mk (below_then (below_alloc HB.out _) (by simp) hB)
      clear hB
      go_wp2_with fail
      refine (HSh'.out _ HB1.out).mono ?_
      rintro e w1' ⟨rfl, rfl⟩
      go_wp2_with fail
      refine (awake40 _).mono ?_
      rintro e w2 ⟨rfl, hB⟩
      have HB2 := Aside0.mk (below_then HB1.out HB1.out.size hB)
      clear hB
      go_wp2
      go_ret
      exact ⟨rfl, HB2.out⟩
    | true =>
      rw [q2] at HSh'
      clear q2
      have HTB : ∀ W, Below w.heap.size w W → Calls Try.prog 36 #[.agg #[.int .i64 n, .slice A1 ls.length c1, .slice A2 es.length c2], .int .i64 node, .slice A3 ws.length c3] W (MadeI W (behindL n ls es node ws)) := fun W hW => tbehind_any n ls es node ws A1 A2 A3 c1 c2 c3 W (Kd.C_below HR1.out hW) (Kd.C_below HR2.out hW) (Kd.C_below HR3.out hW)
      have HMy : ∀ W, Below w.heap.size w W → Calls Try.prog 21 #[.agg #[.int .i64 n, .slice A1 ls.length c1, .slice A2 es.length c2]] W fun e w' => e = .returned (.bool (mayR n ls es)) ∧ Below W.heap.size W w' := fun W hW => may_any n ls es A1 A2 c1 c2 W (Kd.C_below HR1.out hW) (Kd.C_below HR2.out hW)
      have HHs : ∀ W, Below w.heap.size w W → Calls Try.prog 37 #[.agg #[.int .i64 n, .slice A1 ls.length c1, .slice A2 es.length c2], .int .i64 node, .slice A3 ws.length c3] W fun e w' => e = .returned (.bool (hasW n ls es node ws)) ∧ Below W.heap.size W w' := fun W hW => thas_any n ls es node ws _ rfl A1 A2 A3 c1 c2 c3 W (Kd.C_below HR1.out hW) (Kd.C_below HR2.out hW) (Kd.C_below HR3.out hW)
      by_cases hmain : mayR n ls es = true ∧ 0 ≤ node ∧ node < n
      · obtain ⟨hm, h1, h2⟩ := hmain
        obtain ⟨N, rfl⟩ := Int.eq_ofNat_of_zero_le (show 0 ≤ n by omega)
        obtain ⟨j, rfl⟩ := Int.eq_ofNat_of_zero_le h1
        have hnn := (n_le hm).2
        have hL : behindL (N : Int) ls es (j : Int) ws = behindW N ls es [(j : Int)] ws := by
          unfold behindL
          rw [if_pos ⟨hm, h1, h2⟩]
          rfl
        have hH : hasW (N : Int) ls es (j : Int) ws = decide ((0 : Int) < ((behindW N ls es [(j : Int)] ws).length : Int)) := by
          unfold hasW
          rw [hL]
          apply decide_eq_decide.2
          omega
        have HRB : ∀ W, Below w.heap.size w W → Calls Try.prog 38 #[.agg #[.int .i64 (N : Int), .slice A1 ls.length c1, .slice A2 es.length c2], .int .i64 (j : Int), .slice A3 ws.length c3] W (MadeI W (behindW N ls es [(j : Int)] ws)) := fun W hW => behind40_any N ls es j ws A1 A2 A3 c1 c2 c3 W (Kd.C_below HR1.out hW) (Kd.C_below HR2.out hW) (Kd.C_below HR3.out hW) (fun e he => (es_mem hm he).1.1) (by omega)
        rw [hL] at HTB
        rw [hH] at HHs
        rw [hm] at HMy
        obtain ⟨L, hLL⟩ : ∃ L, L = behindW N ls es [(j : Int)] ws := ⟨_, rfl⟩
        rw [← hLL] at HTB HHs HRB
        have HTB' := Lib.hid HTB
        have HHs' := Lib.hid HHs
        have HMy' := Lib.hid HMy
        have HRB' := Lib.hid HRB
        have q0 : ¬ (j : Int) < 0 := by omega
        have q1 : ¬ (N : Int) ≤ (j : Int) := by omega
        clear HTB HHs HMy HRB hL hH hLL hm h1 h2 hnn
        go_enter Try.func6, Try.ntmps6
        go_wp2_with fail
        refine (HLt'.out _ (below_alloc HB.out _)).mono ?_
        rintro e w1 ⟨rfl, hB⟩
        have HB1 := Aside0.mk (below_then (below_alloc HB.out _) (by simp) hB)
        have HX1 := Aside0.mk (show BoxL w1 w.heap.size N (.slice A1 ls.length c1) (.slice A2 es.length c2) from blk_below (blk_new w _) hB)
        clear hB
        go_wp2_with fail
        refine (HSh'.out _ HB1.out).mono ?_
        rintro e w1' ⟨rfl, rfl⟩
        have b0 := HX1.out.c0
        have b1 := HX1.out.c1
        have b2 := HX1.out.c2
        go_wp2_with fail
        clear b0 b1 b2
        refine (HTB'.out _ HB1.out).mono ?_
        rintro e w2 ⟨v, rfl, hR, hB⟩
        obtain ⟨Aa, ca, rfl, _, hC⟩ := Kd.R_reads hR
        have HB2 := Aside0.mk (below_then HB1.out HB1.out.size hB)
        have HX2 := Aside0.mk (HX1.out.below hB)
        have HC2 := Aside0.mk hC
        clear hR hC hB HB1 HX1
        have b0 := HX2.out.c0
        have b1 := HX2.out.c1
        have b2 := HX2.out.c2
        go_wp2_with fail
        clear b0 b1 b2
        refine (HMy'.out _ HB2.out).mono ?_
        rintro e w3 ⟨rfl, hB⟩
        have HB3 := Aside0.mk (below_then HB2.out HB2.out.size hB)
        have HX3 := Aside0.mk (HX2.out.below hB)
        have HC3 := Aside0.mk (Kd.C_below HC2.out hB)
        clear hB HB2 HX2 HC2
        have b0 := HX3.out.c0
        have b1 := HX3.out.c1
        have b2 := HX3.out.c2
        go_wp2_with fail
        clear b0 b1 b2
        refine (HRB'.out _ HB3.out).mono ?_
        rintro e w4 ⟨v, rfl, hR, hB⟩
        obtain ⟨Ab, cb, rfl, _, hC⟩ := Kd.R_reads hR
        have HB4 := Aside0.mk (below_then HB3.out HB3.out.size hB)
        have HX4 := Aside0.mk (HX3.out.below hB)
        have HC4 := Aside0.mk (Kd.C_below HC3.out hB)
        have HD4 := Aside0.mk hC
        clear hR hC hB HB3 HX3 HC3
        go_wp2_with fail
        have hq := same01_any L L Aa Ab ca cb w4 HC4.out HD4.out
        rw [decide_eq_true rfl] at hq
        refine hq.mono ?_
        clear hq
        rintro e w5 ⟨rfl, hD⟩
        have HB5 := Aside0.mk (below_then HB4.out HB4.out.size hD.below)
        have HX5 := Aside0.mk (HX4.out.below hD.below)
        clear hD HB4 HX4 HC4 HD4
        have b0 := HX5.out.c0
        have b1 := HX5.out.c1
        have b2 := HX5.out.c2
        go_wp2_with fail
        clear b0 b1 b2
        refine (HHs'.out _ HB5.out).mono ?_
        rintro e w6 ⟨rfl, hB⟩
        have HB6 := Aside0.mk (below_then HB5.out HB5.out.size hB)
        clear hB HB5 HX5
        go_wp2_with fail
        refine (awake40 _).mono ?_
        rintro e w7 ⟨rfl, hB⟩
        have HB7 := Aside0.mk (below_then HB6.out HB6.out.size hB)
        clear hB
        go_wp2
        go_ret
        exact ⟨rfl, HB7.out⟩
      · have hL : behindL n ls es node ws = [] := by
          unfold behindL
          rw [if_neg hmain]
        have hH : hasW n ls es node ws = false := by
          unfold hasW
          rw [hL]
          rfl
        rw [hL] at HTB
        rw [hH] at HHs
        have HTB' := Lib.hid HTB
        have HHs' := Lib.hid HHs
        have HMy' := Lib.hid HMy
        have HMn := Aside0.mk hmain
        clear HTB HHs HMy hL hH hmain
        go_enter Try.func6, Try.ntmps6
        go_wp2_with fail
        refine (HLt'.out _ (below_alloc HB.out _)).mono ?_
        rintro e w1 ⟨rfl, hB⟩
        have HB1 := Aside0.mk (below_then (below_alloc HB.out _) (by simp) hB)
        have HX1 := Aside0.mk (show BoxL w1 w.heap.size n (.slice A1 ls.length c1) (.slice A2 es.length c2) from blk_below (blk_new w _) hB)
        clear hB
        go_wp2_with fail
        refine (HSh'.out _ HB1.out).mono ?_
        rintro e w1' ⟨rfl, rfl⟩
        have b0 := HX1.out.c0
        have b1 := HX1.out.c1
        have b2 := HX1.out.c2
        go_wp2_with fail
        clear b0 b1 b2
        refine (HTB'.out _ HB1.out).mono ?_
        rintro e w2 ⟨v, rfl, hR, hB⟩
        obtain ⟨Aa, ca, rfl⟩ := Kd.R_slice hR
        have HB2 := Aside0.mk (below_then HB1.out HB1.out.size hB)
        have HX2 := Aside0.mk (HX1.out.below hB)
        clear hR hB HB1 HX1
        have b0 := HX2.out.c0
        have b1 := HX2.out.c1
        have b2 := HX2.out.c2
        go_wp2_with fail
        clear b0 b1 b2
        refine (HMy'.out _ HB2.out).mono ?_
        rintro e w3 ⟨rfl, hB⟩
        have HB3 := Aside0.mk (below_then HB2.out HB2.out.size hB)
        have HX3 := Aside0.mk (HX2.out.below hB)
        clear hB HB2 HX2
        have b0 := HX3.out.c0
        have b1 := HX3.out.c1
        have b2 := HX3.out.c2
        cases q3 : mayR n ls es with
        | false =>
          clear HMn
          go_wp2_with fail
          clear b0 b1 b2
          refine (HHs'.out _ HB3.out).mono ?_
          rintro e w6 ⟨rfl, hB⟩
          have HB6 := Aside0.mk (below_then HB3.out HB3.out.size hB)
          clear hB
          go_wp2_with fail
          refine (awake40 _).mono ?_
          rintro e w7 ⟨rfl, hB⟩
          have HB7 := Aside0.mk (below_then HB6.out HB6.out.size hB)
          clear hB
          go_wp2
          go_ret
          exact ⟨rfl, HB7.out⟩
        | true =>
          by_cases q0 : node < 0
          · clear HMn
            go_wp2_with fail
            clear b0 b1 b2
            refine (HHs'.out _ HB3.out).mono ?_
            rintro e w6 ⟨rfl, hB⟩
            have HB6 := Aside0.mk (below_then HB3.out HB3.out.size hB)
            clear hB
            go_wp2_with fail
            refine (awake40 _).mono ?_
            rintro e w7 ⟨rfl, hB⟩
            have HB7 := Aside0.mk (below_then HB6.out HB6.out.size hB)
            clear hB
            go_wp2
            go_ret
            exact ⟨rfl, HB7.out⟩
          · have q1 : n ≤ node := by
              by_cases h : n ≤ node
              · exact h
              · exact absurd ⟨q3, by omega, by omega⟩ HMn.out
            clear HMn
            go_wp2_with fail
            clear b0 b1 b2
            refine (HHs'.out _ HB3.out).mono ?_
            rintro e w6 ⟨rfl, hB⟩
            have HB6 := Aside0.mk (below_then HB3.out HB3.out.size hB)
            clear hB
            go_wp2_with fail
            refine (awake40 _).mono ?_
            rintro e w7 ⟨rfl, hB⟩
            have HB7 := Aside0.mk (below_then HB6.out HB6.out.size hB)
            clear hB
            go_wp2
            go_ret
            exact ⟨rfl, HB7.out⟩

end Go.Proofs.Ytmpiokdomjchiaa.H
