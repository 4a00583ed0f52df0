/-
  The walk of semblancelaw40.TraceBisims: it is always true.
-/
import Derived.Test.YtmpiokdomjchiaaSn
import Derived.Test.YtmpiokdomjchiaaPf
set_option linter.unusedVariables false
set_option linter.unusedSimpArgs false
namespace Go.Proofs.Ytmpiokdomjchiaa.H
open Go.RowKit Go.Proofs.Ytmpiokdomjchiaa.Pr Go.Proofs.YtmpiokdomjchiaaW.PrintWords Go.Proofs.Ytmpiokdomjchiaa.Sem Go.Proofs.YtmpiokdomjchiaaW.PrintLast

set_option maxHeartbeats 8000000 in
set_option maxRecDepth 100000 in
theorem traceBisims_true (n : Int) (ls : List ByteArray) (es : List Ed) (s t : Int) (A1 A2 : Option Addr) (c1 c2 : Nat) (w : World) (hr1 : Kd.C Kd.string w A1 ls.length ls) (hr2 : Kd.C k81 w A2 es.length es) (hwf1 : (Lit.int .i64 s).wf = true) (hwf2 : (Lit.int .i64 t).wf = true) :
    Calls Try.prog 11 #[.agg #[.int .i64 n, .slice A1 ls.length c1, .slice A2 es.length c2], .int .i64 s, .int .i64 t] w fun e w' => e = .returned (.bool true) ∧ Below w.heap.size w w' := by
  have HB := Aside0.mk (Below.refl w.heap.size w)
  have hl2 := C_len hr2
  have HLt : ∀ W, Below w.heap.size w W → Calls Try.prog 15 #[.agg #[.int .i64 n, .slice A1 ls.length c1, .slice A2 es.length c2]] W fun e w' => e = .returned (.bool (light33 n ls es)) ∧ Below W.heap.size W w' := fun W hW => light33_any n ls es A1 A2 c1 c2 W (Kd.C_below hr1 hW) hl2
  have HHs : ∀ W, Below w.heap.size w W → Calls Try.prog 22 #[.agg #[.int .i64 n, .slice A1 ls.length c1, .slice A2 es.length c2], .int .i64 s, .int .i64 t] W fun e w' => e = .returned (.bool (hasB n ls es s t)) ∧ Below W.heap.size W w' := fun W hW => has_any n ls es s t _ rfl A1 A2 c1 c2 W (Kd.C_below hr1 hW) (Kd.C_below hr2 hW)
  have HLt' := Lib.hid HLt
  have HHs' := Lib.hid HHs
  have HR1 := Aside0.mk hr1
  have HR2 := Aside0.mk hr2
  clear HLt HHs hr1 hr2 hwf1 hwf2
  cases q : light33 n ls es with
  | false =>
    rw [q] at HLt'
    clear q
    go_enter Try.func11, Try.ntmps11
    go_wp2_with fail
    refine (HLt'.out _ (below_alloc HB.out _)).mono ?_
    rintro e w1 ⟨rfl, hB⟩
    have HB1 := Aside0.mk (below_then (below_alloc HB.out _) (by simp) hB)
    clear hB
    go_wp2_with fail
    refine (awake40 _).mono ?_
    rintro e w2 ⟨rfl, hB⟩
    have HB2 := Aside0.mk (below_then HB1.out HB1.out.size hB)
    clear hB
    go_wp2
    go_ret
    exact ⟨rfl, HB2.out⟩
  | true =>
    rw [q] at HLt'
    clear q
    cases q2 : hasB n ls es s t with
    | false =>
      rw [q2] at HHs'
      clear q2
      go_enter Try.func11, Try.ntmps11
      go_wp2_with fail
      refine (HLt'.out _ (below_alloc HB.out _)).mono ?_
      rintro e w1 ⟨rfl, hB⟩
      have HB1 := Aside0.mk (below_then (below_alloc HB.out _) (by simp) hB)
      have HX1 := Aside0.mk (show BoxL w1 w.heap.size n (.slice A1 ls.length c1) (.slice A2 es.length c2) from blk_below (blk_new w _) hB)
      clear hB
      have b0 := HX1.out.c0
      have b1 := HX1.out.c1
      have b2 := HX1.out.c2
      go_wp2_with fail
      clear b0 b1 b2
      refine (HHs'.out _ HB1.out).mono ?_
      rintro e w1' ⟨rfl, hB⟩
      have HB2 := Aside0.mk (below_then HB1.out HB1.out.size hB)
      clear hB
      go_wp2_with fail
      refine (awake40 _).mono ?_
      rintro e w2 ⟨rfl, hB⟩
      have HB3 := Aside0.mk (below_then HB2.out HB2.out.size hB)
      clear hB
      go_wp2
      go_ret
      exact ⟨rfl, HB3.out⟩
    | true =>
      obtain ⟨k, hk, ho⟩ := bisims_of n ls es s t q2
      rw [q2] at HHs'
      have HOf : ∀ W, Below w.heap.size w W → Calls Try.prog 39 #[.agg #[.int .i64 n, .slice A1 ls.length c1, .slice A2 es.length c2], .int .i64 s, .int .i64 t, .int .i64 4000] W (OfPost W ((k, []), 0)) := fun W hW => by rw [← ho]; exact of_any n ls es s t 4000 A1 A2 c1 c2 W (Kd.C_below HR1.out hW) (Kd.C_below HR2.out hW)
      have HOf' := Lib.hid HOf
      clear HOf ho q2
      go_enter Try.func11, Try.ntmps11
      go_wp2_with fail
      refine (HLt'.out _ (below_alloc HB.out _)).mono ?_
      rintro e w1 ⟨rfl, hB⟩
      have HB1 := Aside0.mk (below_then (below_alloc HB.out _) (by simp) hB)
      have HX1 := Aside0.mk (show BoxL w1 w.heap.size n (.slice A1 ls.length c1) (.slice A2 es.length c2) from blk_below (blk_new w _) hB)
      clear hB
      have b0 := HX1.out.c0
      have b1 := HX1.out.c1
      have b2 := HX1.out.c2
      go_wp2_with fail
      clear b0 b1 b2
      refine (HHs'.out _ HB1.out).mono ?_
      rintro e w1' ⟨rfl, hB⟩
      have HB2 := Aside0.mk (below_then HB1.out HB1.out.size hB)
      have HX2 := Aside0.mk (HX1.out.below hB)
      clear hB HB1 HX1
      have b0 := HX2.out.c0
      have b1 := HX2.out.c1
      have b2 := HX2.out.c2
      go_wp2_with fail
      clear b0 b1 b2
      refine (HOf'.out _ HB2.out).mono ?_
      rintro e w3 ⟨vw, rfl, hR, hB⟩
      obtain ⟨Aw, cw, rfl⟩ := Kd.R_slice hR
      have HB3 := Aside0.mk (below_then HB2.out HB2.out.size hB)
      have hW := word_new w3 w3.heap.size (.int .i64 k) (.slice Aw 0 cw) rfl
      have HB4 := Aside0.mk (below_alloc HB3.out (Obj.cells #[Value.int IntKind.i64 k, Value.slice Aw 0 cw] 54))
      have b3 := hW.c0
      have b4 := hW.c1
      clear hR hB hW HB2 HX2
      rcases hk with rfl | rfl
      · go_wp2_with fail
        refine (awake40 _).mono ?_
        rintro e w5 ⟨rfl, hB⟩
        have HB5 := Aside0.mk (below_then HB4.out HB4.out.size hB)
        clear hB b3 b4
        go_wp2
        go_ret
        exact ⟨rfl, HB5.out⟩
      · go_wp2_with fail
        refine (awake40 _).mono ?_
        rintro e w5 ⟨rfl, hB⟩
        have HB5 := Aside0.mk (below_then HB4.out HB4.out.size hB)
        clear hB b3 b4
        go_wp2
        go_ret
        exact ⟨rfl, HB5.out⟩

end Go.Proofs.Ytmpiokdomjchiaa.H
