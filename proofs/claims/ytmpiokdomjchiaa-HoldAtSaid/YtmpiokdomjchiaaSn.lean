/-
  Walks: semblanceref40.Same, semblancelaw40.awake.
-/
import Derived.Test.YtmpiokdomjchiaaSl
import Derived.Test.YtmpiokdomjchiaaHw
set_option linter.unusedVariables false
set_option linter.unusedSimpArgs false
namespace Go.Proofs.Ytmpiokdomjchiaa.H
open Go.RowKit Go.Proofs.Ytmpiokdomjchiaa.Pr Go.Proofs.YtmpiokdomjchiaaW.PrintWords Go.Proofs.Ytmpiokdomjchiaa.Sem Go.Proofs.YtmpiokdomjchiaaW.PrintLast

theorem WordAt.c0 {w : World} {b : Nat} {k v : Value} (h : WordAt w b k v) : w.cell? ⟨b, 0, none⟩ = some k := (blk_cell h 0).trans rfl
theorem WordAt.c1 {w : World} {b : Nat} {k v : Value} (h : WordAt w b k v) : w.cell? ⟨b, 1, none⟩ = some v := (blk_cell h 1).trans rfl
theorem WordAt.below {w w1 : World} {b : Nat} {k v : Value} (h : WordAt w b k v) (hb : Below w.heap.size w w1) : WordAt w1 b k v := blk_below h hb
theorem word_new (W : World) (b : Nat) (k v : Value) (hb : W.heap.size = b) : WordAt (W.alloc (.cells #[k, v] 54)) b k v := by
  subst hb
  exact blk_new _ _
/-- Are words the same? -/
def sameW (a b : Wd) : Bool := decide (a.1 = b.1) && decide (a.2 = b.2)
set_option maxRecDepth 100000 in
theorem wsame_any (a b : Wd) (r : Bool) (hr : sameW a b = r) (A1 A2 : Option Addr) (c1 c2 : Nat) (w : World) (hx : Kd.C Kd.string w A1 a.2.length a.2) (hy : Kd.C Kd.string w A2 b.2.length b.2) :
    Calls Try.prog 40 #[.agg #[.int .i64 a.1, .slice A1 a.2.length c1], .agg #[.int .i64 b.1, .slice A2 b.2.length c2]] w fun e w' => e = .returned (.bool r) ∧ Below w.heap.size w w' := by
  obtain ⟨k1, xs⟩ := a
  obtain ⟨k2, ys⟩ := b
  simp only at hx hy hr ⊢
  unfold sameW at hr
  simp only at hr
  have HB0 := Aside0.mk (Below.refl w.heap.size w)
  have HX := Aside0.mk hx
  have HY := Aside0.mk hy
  have hW1 := word_new w w.heap.size (.int .i64 k1) (.slice A1 xs.length c1) rfl
  have hb2 := below_alloc (Below.refl (w.alloc (Obj.cells #[Value.int IntKind.i64 k1, Value.slice A1 xs.length c1] 54)).heap.size (w.alloc (Obj.cells #[Value.int IntKind.i64 k1, Value.slice A1 xs.length c1] 54))) (Obj.cells #[Value.int IntKind.i64 k2, Value.slice A2 ys.length c2] 54)
  have HW1 := Aside0.mk (hW1.below hb2)
  have HW2 := Aside0.mk (word_new (w.alloc (Obj.cells #[Value.int IntKind.i64 k1, Value.slice A1 xs.length c1] 54)) (w.heap.size + 1) (.int .i64 k2) (.slice A2 ys.length c2) (by simp))
  have HB2 := Aside0.mk (below_alloc (below_alloc HB0.out (Obj.cells #[Value.int IntKind.i64 k1, Value.slice A1 xs.length c1] 54)) (Obj.cells #[Value.int IntKind.i64 k2, Value.slice A2 ys.length c2] 54))
  clear hx hy hW1 hb2
  by_cases q : k1 = k2
  · have HR := Aside0.mk (show decide (xs = ys) = r by rw [← hr, decide_eq_true q, Bool.true_and])
    have p0 : (k1 == k2) = true := by simp [q]
    clear hr q
    have b0 := HW1.out.c0
    have b1 := HW1.out.c1
    have b2 := HW2.out.c0
    have b3 := HW2.out.c1
    go_enter Try.func40, Try.ntmps40
    go_wp2_with fail
    refine (texts_any xs ys A1 A2 c1 c2 _ (Kd.C_below HX.out HB2.out) (Kd.C_below HY.out HB2.out)).mono ?_
    rw [HR.out]
    rintro e w3 ⟨rfl, hD⟩
    have HB3 := Aside0.mk (below_then HB2.out HB2.out.size hD.below)
    clear hD b0 b1 b2 b3
    go_wp2
    go_ret
    exact ⟨rfl, HB3.out⟩
  · have HR := Aside0.mk (show r = false by rw [← hr, decide_eq_false q]; rfl)
    have p0 : (k1 == k2) = false := by simp [q]
    clear hr q
    have b0 := HW1.out.c0
    have b2 := HW2.out.c0
    go_enter Try.func40, Try.ntmps40
    go_wp2
    go_ret
    exact ⟨ret_bool HR.out.symm, HB2.out⟩

def esB : List Ed := [⟨0, 0, 1⟩]
theorem aw40_of1 : ofR 2 lsA esB 0 1 9 = ((1, lsA), 0) := by kernel_rfl
theorem aw40_of2 : ofR 2 lsA esB 1 0 9 = ((2, lsA), 0) := by kernel_rfl
theorem aw40_of3 : ofR 2 lsA esB 1 1 9 = ((3, []), 0) := by kernel_rfl
theorem aw40_has1 : hasW 2 lsA esB 0 lsA = true := by kernel_rfl
theorem aw40_has2 : hasW 2 lsA esB 1 lsA = false := by kernel_rfl
theorem aw40_has3 : hasW 2 lsA esB 1 [] = true := by kernel_rfl
theorem aw40_same : sameW (1, lsA) (1, lsA) = true := by kernel_rfl

theorem C_lsA (W : World) : Kd.C Kd.string (W.alloc (.cells #[.string ⟨#[97]⟩] 9)) (some ⟨W.heap.size, 0, none⟩) 1 lsA :=
  C_of_blk (ps := lsA) (cells := [.string ⟨#[97]⟩]) (blk_new W _) (Reps.snoc (Reps.none _ _) (by rfl) rfl) (by simp [lsA])

set_option maxHeartbeats 8000000 in
set_option maxRecDepth 100000 in
theorem awake40 (w : World) : Calls Try.prog 35 #[] w fun e w' => e = .returned (.bool true) ∧ Below w.heap.size w w' := by
  have HB := Aside0.mk (Below.refl w.heap.size w)
  go_enter Try.func35, Try.ntmps35
  go_wp2_with fail
  have HS : Aside0 (LSt w (((w.alloc (Obj.cells #[Value.string ⟨#[97]⟩] 9)).alloc (Obj.cells #[Value.int IntKind.i64 0, Value.int IntKind.i64 0, Value.int IntKind.i64 1] 81)).alloc (Obj.cells #[Value.int IntKind.i64 2, Value.slice (some ⟨w.heap.size, 0, none⟩) 1 1, Value.slice (some ⟨w.heap.size + 1, 0, none⟩) 1 1] 25)) (w.heap.size + 1 + 1) 2 lsA esB (some ⟨w.heap.size, 0, none⟩) (some ⟨w.heap.size + 1, 0, none⟩) 1 1) := by
    refine ⟨⟨?_, ?_, ?_, by repeat (first | exact HB.out | apply below_alloc)⟩⟩
    · exact box_new _ _ _ _ _ (by simp)
    · exact Kd.C_below (w := w.alloc (Obj.cells #[Value.string ⟨#[97]⟩] 9)) (C_lsA w) (below_alloc (below_alloc (Below.refl _ _) _) _)
    · refine Kd.C_below (w := (w.alloc (Obj.cells #[Value.string ⟨#[97]⟩] 9)).alloc (Obj.cells #[Value.int IntKind.i64 0, Value.int IntKind.i64 0, Value.int IntKind.i64 1] 81)) ?_ (below_alloc (Below.refl _ _) _)
      have := C_of_blk (d := k81) (ps := esB) (cells := [.int .i64 0, .int .i64 0, .int .i64 1]) (blk_new (w.alloc (Obj.cells #[Value.string ⟨#[97]⟩] 9)) (Obj.cells #[Value.int IntKind.i64 0, Value.int IntKind.i64 0, Value.int IntKind.i64 1] 81)) (Reps.snoc (Reps.none _ _) (k81_mk _ (⟨0, 0, 1⟩ : Ed)) rfl) (by simp [esB])
      simpa using this
  generalize (((w.alloc (Obj.cells #[Value.string ⟨#[97]⟩] 9)).alloc (Obj.cells #[Value.int IntKind.i64 0, Value.int IntKind.i64 0, Value.int IntKind.i64 1] 81)).alloc (Obj.cells #[Value.int IntKind.i64 2, Value.slice (some ⟨w.heap.size, 0, none⟩) 1 1, Value.slice (some ⟨w.heap.size + 1, 0, none⟩) 1 1] 25)) = W0 at HS ⊢
  obtain ⟨B, hB0⟩ : ∃ B, B = w.heap.size + 1 + 1 := ⟨_, rfl⟩
  rw [← hB0] at HS ⊢
  clear hB0
  -- the first word
  have hq := of_any 2 lsA esB 0 1 9 (some ⟨w.heap.size, 0, none⟩) (some ⟨w.heap.size + 1, 0, none⟩) 1 1 W0 HS.out.cl HS.out.ce
  rw [aw40_of1] at hq
  refine hq.mono ?_
  clear hq
  rintro e w1 ⟨vw, rfl, hR, hB⟩
  obtain ⟨Aw, cw, rfl, _, hC⟩ := Kd.R_reads hR
  have HS1 := Aside0.mk (HS.out.on hB)
  have HC1 := Aside0.mk hC
  clear hB hR hC HS
  have hbn := below_alloc (Below.refl w1.heap.size w1) (Obj.cells #[Value.int IntKind.i64 1, Value.slice Aw lsA.length cw] 54)
  have HS1' := Aside0.mk (HS1.out.on hbn)
  have b0 := HS1'.out.box.c0
  have b1 := HS1'.out.box.c1
  have b2 := HS1'.out.box.c2
  have HC1' := Aside0.mk (Kd.C_below HC1.out hbn)
  have HWa := Aside0.mk (word_new w1 w1.heap.size (.int .i64 1) (.slice Aw lsA.length cw) rfl)
  clear hbn HC1
  go_wp2_with fail
  clear b0 b1 b2
  obtain ⟨g1, hg1⟩ : ∃ g, g = w1.heap.size := ⟨_, rfl⟩
  rw [← hg1] at HWa ⊢
  clear hg1
  generalize (w1.alloc (Obj.cells #[Value.int IntKind.i64 1, Value.slice Aw lsA.length cw] 54)) = W1 at HS1' HC1' HWa ⊢
  clear HS1
  -- the second
  have hq := of_any 2 lsA esB 1 0 9 (some ⟨w.heap.size, 0, none⟩) (some ⟨w.heap.size + 1, 0, none⟩) 1 1 W1 HS1'.out.cl HS1'.out.ce
  rw [aw40_of2] at hq
  refine hq.mono ?_
  clear hq
  rintro e w2 ⟨vw, rfl, hR, hB⟩
  obtain ⟨Ax, cx, rfl, _, hC⟩ := Kd.R_reads hR
  have HS2 := Aside0.mk (HS1'.out.on hB)
  have HC2 := Aside0.mk (Kd.C_below HC1'.out hB)
  have HWa2 := Aside0.mk (HWa.out.below hB)
  clear hB hR hC HS1' HC1' HWa
  have hbn := below_alloc (Below.refl w2.heap.size w2) (Obj.cells #[Value.int IntKind.i64 2, Value.slice Ax lsA.length cx] 54)
  have HS2' := Aside0.mk (HS2.out.on hbn)
  have b0 := HS2'.out.box.c0
  have b1 := HS2'.out.box.c1
  have b2 := HS2'.out.box.c2
  have HC2' := Aside0.mk (Kd.C_below HC2.out hbn)
  have HWa2' := Aside0.mk (HWa2.out.below hbn)
  have HWb := Aside0.mk (word_new w2 w2.heap.size (.int .i64 2) (.slice Ax lsA.length cx) rfl)
  clear hbn HC2 HWa2
  go_wp2_with fail
  clear b0 b1 b2
  obtain ⟨g2, hg2⟩ : ∃ g, g = w2.heap.size := ⟨_, rfl⟩
  rw [← hg2] at HWb ⊢
  clear hg2
  generalize (w2.alloc (Obj.cells #[Value.int IntKind.i64 2, Value.slice Ax lsA.length cx] 54)) = W2 at HS2' HC2' HWa2' HWb ⊢
  clear HS2
  -- the third
  have hq := of_any 2 lsA esB 1 1 9 (some ⟨w.heap.size, 0, none⟩) (some ⟨w.heap.size + 1, 0, none⟩) 1 1 W2 HS2'.out.cl HS2'.out.ce
  rw [aw40_of3] at hq
  refine hq.mono ?_
  clear hq
  rintro e w3 ⟨vw, rfl, hR, hB⟩
  obtain ⟨Ay, cy, rfl, _, hC⟩ := Kd.R_reads hR
  have HS3 := Aside0.mk (HS2'.out.on hB)
  have HC3 := Aside0.mk (Kd.C_below HC2'.out hB)
  have HWa3 := Aside0.mk (HWa2'.out.below hB)
  have HWb3 := Aside0.mk (HWb.out.below hB)
  clear hB hR hC HS2' HC2' HWa2' HWb
  -- the first one's look
  have hbn := below_alloc (Below.refl w3.heap.size w3) (Obj.cells #[Value.int IntKind.i64 3, Value.slice Ay 0 cy] 54)
  have HS3' := Aside0.mk (HS3.out.on hbn)
  have HC3' := Aside0.mk (Kd.C_below HC3.out hbn)
  have HWa3' := Aside0.mk (HWa3.out.below hbn)
  have HWb3' := Aside0.mk (HWb3.out.below hbn)
  have HWc3 := Aside0.mk (word_new w3 w3.heap.size (.int .i64 3) (.slice Ay 0 cy) rfl)
  have hbn2 := below_alloc (Below.refl (w3.alloc (Obj.cells #[Value.int IntKind.i64 3, Value.slice Ay 0 cy] 54)).heap.size (w3.alloc (Obj.cells #[Value.int IntKind.i64 3, Value.slice Ay 0 cy] 54))) (Obj.cells #[Value.string ⟨#[97]⟩] 9)
  have HS4 := Aside0.mk (HS3'.out.on hbn2)
  have HC4 := Aside0.mk (Kd.C_below HC3'.out hbn2)
  have HWa4 := Aside0.mk (HWa3'.out.below hbn2)
  have HWb4 := Aside0.mk (HWb3'.out.below hbn2)
  have HWc4 := Aside0.mk (HWc3.out.below hbn2)
  have HL4 := Aside0.mk (show Kd.C Kd.string ((w3.alloc (Obj.cells #[Value.int IntKind.i64 3, Value.slice Ay 0 cy] 54)).alloc (Obj.cells #[Value.string ⟨#[97]⟩] 9)) (some ⟨w3.heap.size + 1, 0, none⟩) 1 lsA by have := C_lsA (w3.alloc (Obj.cells #[Value.int IntKind.i64 3, Value.slice Ay 0 cy] 54)); simpa using this)
  have b3 := HWa3'.out.c0
  have b4 := HWa3'.out.c1
  clear hbn hbn2 HC3 HWa3 HWb3 HS3 HS3' HC3' HWa3' HWb3'
  go_wp2_with fail
  clear b3 b4
  generalize ((w3.alloc (Obj.cells #[Value.int IntKind.i64 3, Value.slice Ay 0 cy] 54)).alloc (Obj.cells #[Value.string ⟨#[97]⟩] 9)) = W4 at HS4 HC4 HWa4 HWb4 HWc4 HL4 ⊢
  have hq := wsame_any (1, lsA) (1, lsA) true aw40_same Aw (some ⟨w3.heap.size + 1, 0, none⟩) cw 1 W4 HC4.out HL4.out
  refine hq.mono ?_
  clear hq
  rintro e w5 ⟨rfl, hB⟩
  have HS5 := Aside0.mk (HS4.out.on hB)
  have HWb5 := Aside0.mk (HWb4.out.below hB)
  have HWc5 := Aside0.mk (HWc4.out.below hB)
  clear hB HS4 HC4 HL4 HWb4 HWc4 HWa4
  have b0 := HS5.out.box.c0
  have b1 := HS5.out.box.c1
  have b2 := HS5.out.box.c2
  have b3 := HWb5.out.c0
  have b4 := HWc5.out.c0
  have hbn := below_alloc (Below.refl w5.heap.size w5) (Obj.cells #[Value.string ⟨#[97]⟩] 9)
  have HS6 := Aside0.mk (HS5.out.on hbn)
  clear hbn
  go_wp2_with fail
  clear b0 b1 b2 b3 b4 HWb5 HWc5
  have hq := thas_any 2 lsA esB 0 lsA true aw40_has1 (some ⟨w.heap.size, 0, none⟩) (some ⟨w.heap.size + 1, 0, none⟩) (some ⟨w5.heap.size, 0, none⟩) 1 1 1 _ HS6.out.cl HS6.out.ce (C_lsA w5)
  refine hq.mono ?_
  clear hq
  rintro e w7 ⟨rfl, hB⟩
  have HS7 := Aside0.mk (HS6.out.on hB)
  clear hB HS6 HS5
  have b0 := HS7.out.box.c0
  have b1 := HS7.out.box.c1
  have b2 := HS7.out.box.c2
  have hbn := below_alloc (Below.refl w7.heap.size w7) (Obj.cells #[Value.string ⟨#[97]⟩] 9)
  have HS8 := Aside0.mk (HS7.out.on hbn)
  clear hbn
  go_wp2_with fail
  clear b0 b1 b2
  have hq := thas_any 2 lsA esB 1 lsA false aw40_has2 (some ⟨w.heap.size, 0, none⟩) (some ⟨w.heap.size + 1, 0, none⟩) (some ⟨w7.heap.size, 0, none⟩) 1 1 1 _ HS8.out.cl HS8.out.ce (C_lsA w7)
  refine hq.mono ?_
  clear hq
  rintro e w9 ⟨rfl, hB⟩
  have HS9 := Aside0.mk (HS8.out.on hB)
  clear hB HS8 HS7
  have b0 := HS9.out.box.c0
  have b1 := HS9.out.box.c1
  have b2 := HS9.out.box.c2
  go_wp2_with fail
  clear b0 b1 b2
  have hq := thas_any 2 lsA esB 1 [] true aw40_has3 (some ⟨w.heap.size, 0, none⟩) (some ⟨w.heap.size + 1, 0, none⟩) none 1 1 0 w9 HS9.out.cl HS9.out.ce (Kd.C_nil _ _)
  refine hq.mono ?_
  clear hq
  rintro e w10 ⟨rfl, hB⟩
  have HS10 := Aside0.mk (HS9.out.on hB)
  clear hB HS9
  go_wp2
  go_ret
  exact ⟨rfl, HS10.out.below⟩

end Go.Proofs.Ytmpiokdomjchiaa.H
