/-
  The walk of semblancelaw35.awake.
-/
import Derived.Test.YtmpiokdomjchiaaHn
set_option linter.unusedVariables false
set_option linter.unusedSimpArgs false
namespace Go.Proofs.Ytmpiokdomjchiaa.H
open Go.RowKit Go.Proofs.Ytmpiokdomjchiaa.Pr Go.Proofs.YtmpiokdomjchiaaW.PrintWords Go.Proofs.Ytmpiokdomjchiaa.Sem Go.Proofs.YtmpiokdomjchiaaW.PrintLast

/-- A row that lies in a block. -/
theorem C_of_blk {α : Type} {d : Kd α} {w : World} {b t : Nat} {cells : List Value} {ps : List α} (hb : w.heap[b]? = some (.cells cells.toArray t (0, 0))) (hrep : Reps (d.K w) d.sz ps cells) (hn : ps.length ≤ 9223372036854775807) : d.C w (some ⟨b, 0, none⟩) ps.length ps := by
  refine ⟨rfl, hn, fun _ => ⟨_, rfl, fun j p hj => ?_⟩⟩
  obtain ⟨hjl, _⟩ := List.getElem?_eq_some_iff.1 hj
  have h1 : j * d.sz + d.sz ≤ cells.length := by rw [hrep.1, ← Nat.succ_mul]; exact Nat.mul_le_mul_right _ hjl
  refine ⟨(cells.drop (j * d.sz)).take d.sz, by rw [List.length_take, List.length_drop]; omega, hrep.2 j p hj, fun i u hu => ?_⟩
  have hi : i < d.sz := by
    have := (List.getElem?_eq_some_iff.1 hu).1
    rw [List.length_take] at this
    omega
  have e : (⟨b, 0, none⟩ : Addr).add (j * d.sz + i) = ⟨b, j * d.sz + i, none⟩ := by
    simp [Addr.add]
    intro h1 h2
    omega
  rw [e, blk_cell hb]
  rw [List.getElem?_take, if_pos hi, List.getElem?_drop] at hu
  simpa using hu

theorem box_new (W : World) (b : Nat) (n : Int) (v1 v2 : Value) (hb : W.heap.size = b) : BoxL (W.alloc (.cells #[.int .i64 n, v1, v2] 25)) b n v1 v2 := by
  subst hb
  exact blk_new _ _
def lsA : List ByteArray := [⟨#[97]⟩]
def esA : List Ed := [⟨1, 0, 1⟩]
/-- A system in memory: a variable, block B, and its two rows. -/
structure LSt (w W : World) (B : Nat) (n : Int) (ls : List ByteArray) (es : List Ed) (A1 A2 : Option Addr) (c1 c2 : Nat) : Prop where
  box : BoxL W B n (.slice A1 ls.length c1) (.slice A2 es.length c2)
  cl : Kd.C Kd.string W A1 ls.length ls
  ce : Kd.C k81 W A2 es.length es
  below : Below w.heap.size w W
theorem LSt.on {w W W1 : World} {B : Nat} {n : Int} {ls : List ByteArray} {es : List Ed} {A1 A2 : Option Addr} {c1 c2 : Nat} (h : LSt w W B n ls es A1 A2 c1 c2) (hb : Below W.heap.size W W1) : LSt w W1 B n ls es A1 A2 c1 c2 :=
  ⟨h.box.below hb, Kd.C_below h.cl hb, Kd.C_below h.ce hb, below_then h.below h.below.size hb⟩

theorem one31 (W : World) (a b : Int) : Kd.C k31 (W.alloc (.cells #[.int .i64 a, .int .i64 b] 31)) (some ⟨W.heap.size, 0, none⟩) 1 [(⟨a, b⟩ : Pair)] :=
  C_of_blk (ps := [(⟨a, b⟩ : Pair)]) (cells := [.int .i64 a, .int .i64 b]) (blk_new W _) (Reps.snoc (Reps.none _ _) (k31_mk _ (⟨a, b⟩ : Pair)) rfl) (by simp)
theorem two31 (W : World) (a b c d : Int) : Kd.C k31 (W.alloc (.cells #[.int .i64 a, .int .i64 b, .int .i64 c, .int .i64 d] 31)) (some ⟨W.heap.size, 0, none⟩) 2 [(⟨a, b⟩ : Pair), ⟨c, d⟩] :=
  C_of_blk (ps := [(⟨a, b⟩ : Pair), ⟨c, d⟩]) (cells := [.int .i64 a, .int .i64 b, .int .i64 c, .int .i64 d]) (blk_new W _) (Reps.snoc (Reps.snoc (Reps.none _ _) (k31_mk _ (⟨a, b⟩ : Pair)) rfl) (k31_mk _ (⟨c, d⟩ : Pair)) rfl) (by simp)

theorem aw_may : mayR 2 lsA esA = true := by kernel_rfl
theorem aw_great : greatL 2 esA = [⟨0, 0⟩, ⟨1, 1⟩] := by kernel_rfl
theorem aw_sim : simulatesB 2 lsA esA [⟨0, 1⟩] = true := by kernel_rfl
theorem aw_is : isB 2 lsA esA [⟨0, 1⟩] = false := by kernel_rfl
theorem aw_nil : isB 2 lsA esA [] = true := by kernel_rfl
theorem aw_has : hasB 2 lsA esA 1 1 = true := by kernel_rfl
theorem aw_hasnt : hasB 2 lsA esA 0 1 = false := by kernel_rfl

set_option maxHeartbeats 8000000 in
set_option maxRecDepth 100000 in
theorem awake35 (w : World) : Calls Try.prog 16 #[] w fun e w' => e = .returned (.bool true) ∧ Below w.heap.size w w' := by
  have HB := Aside0.mk (Below.refl w.heap.size w)
  go_enter Try.func16, Try.ntmps16
  go_wp2_with fail
  have HS : Aside0 (LSt w (((w.alloc (Obj.cells #[Value.string ⟨#[97]⟩] 9)).alloc (Obj.cells #[Value.int IntKind.i64 1, Value.int IntKind.i64 0, Value.int IntKind.i64 1] 81)).alloc (Obj.cells #[Value.int IntKind.i64 2, Value.slice (some ⟨w.heap.size, 0, none⟩) 1 1, Value.slice (some ⟨w.heap.size + 1, 0, none⟩) 1 1] 25)) (w.heap.size + 1 + 1) 2 lsA esA (some ⟨w.heap.size, 0, none⟩) (some ⟨w.heap.size + 1, 0, none⟩) 1 1) := by
    refine ⟨⟨?_, ?_, ?_, by repeat (first | exact HB.out | apply below_alloc)⟩⟩
    · exact box_new _ _ _ _ _ (by simp)
    · refine Kd.C_below (w := w.alloc (Obj.cells #[Value.string ⟨#[97]⟩] 9)) ?_ (below_alloc (below_alloc (Below.refl _ _) _) _)
      exact C_of_blk (ps := lsA) (cells := [.string ⟨#[97]⟩]) (blk_new w _) (Reps.snoc (Reps.none _ _) (by rfl) rfl) (by simp [lsA])
    · refine Kd.C_below (w := (w.alloc (Obj.cells #[Value.string ⟨#[97]⟩] 9)).alloc (Obj.cells #[Value.int IntKind.i64 1, Value.int IntKind.i64 0, Value.int IntKind.i64 1] 81)) ?_ (below_alloc (Below.refl _ _) _)
      have := C_of_blk (d := k81) (ps := esA) (cells := [.int .i64 1, .int .i64 0, .int .i64 1]) (blk_new (w.alloc (Obj.cells #[Value.string ⟨#[97]⟩] 9)) (Obj.cells #[Value.int IntKind.i64 1, Value.int IntKind.i64 0, Value.int IntKind.i64 1] 81)) (Reps.snoc (Reps.none _ _) (k81_mk _ (⟨1, 0, 1⟩ : Ed)) rfl) (by simp [esA])
      simpa using this
  generalize (((w.alloc (Obj.cells #[Value.string ⟨#[97]⟩] 9)).alloc (Obj.cells #[Value.int IntKind.i64 1, Value.int IntKind.i64 0, Value.int IntKind.i64 1] 81)).alloc (Obj.cells #[Value.int IntKind.i64 2, Value.slice (some ⟨w.heap.size, 0, none⟩) 1 1, Value.slice (some ⟨w.heap.size + 1, 0, none⟩) 1 1] 25)) = W0 at HS ⊢
  obtain ⟨B, hB0⟩ : ∃ B, B = w.heap.size + 1 + 1 := ⟨_, rfl⟩
  rw [← hB0] at HS ⊢
  clear hB0
  have hG := greatest_any 2 lsA esA (some ⟨w.heap.size, 0, none⟩) (some ⟨w.heap.size + 1, 0, none⟩) 1 1 W0 HS.out.cl HS.out.ce
  unfold GreatPost at hG
  rw [aw_may, if_pos rfl, show (2 : Int).toNat = 2 from rfl, aw_great] at hG
  refine hG.mono ?_
  clear hG
  rintro e w1 ⟨v, rfl, hR, hB⟩
  obtain ⟨A3, c3, rfl, _, hC⟩ := Kd.R_reads hR
  have HS1 := Aside0.mk (HS.out.on hB)
  have HC1 := Aside0.mk hC
  clear hB hR hC HS
  have b0 := HS1.out.box.c0
  have b1 := HS1.out.box.c1
  have b2 := HS1.out.box.c2
  go_wp2_with fail
  clear b0 b1 b2
  have hq := simulates_any 2 lsA esA [⟨0, 1⟩] (some ⟨w.heap.size, 0, none⟩) (some ⟨w.heap.size + 1, 0, none⟩) (some ⟨w1.heap.size, 0, none⟩) 1 1 1 (w1.alloc (Obj.cells #[Value.int IntKind.i64 0, Value.int IntKind.i64 1] 31)) (Kd.C_below HS1.out.cl (below_alloc (Below.refl _ _) _)) (Kd.C_below HS1.out.ce (below_alloc (Below.refl _ _) _)) (one31 w1 0 1)
  rw [aw_sim] at hq
  refine hq.mono ?_
  clear hq
  rintro e w2 ⟨rfl, hB⟩
  have HB2 := Aside0.mk (below_then (below_alloc (Below.refl w1.heap.size w1) (Obj.cells #[Value.int IntKind.i64 0, Value.int IntKind.i64 1] 31)) (by simp) hB)
  have HS2 := Aside0.mk (HS1.out.on HB2.out)
  have HC2 := Aside0.mk (Kd.C_below HC1.out HB2.out)
  clear hB HB2 HS1 HC1
  have b0 := HS2.out.box.c0
  have b1 := HS2.out.box.c1
  have b2 := HS2.out.box.c2
  go_wp2_with fail
  clear b0 b1 b2
  have hq := is_any 2 lsA esA [⟨0, 1⟩] (some ⟨w.heap.size, 0, none⟩) (some ⟨w.heap.size + 1, 0, none⟩) (some ⟨w2.heap.size, 0, none⟩) 1 1 1 (w2.alloc (Obj.cells #[Value.int IntKind.i64 0, Value.int IntKind.i64 1] 31)) (Kd.C_below HS2.out.cl (below_alloc (Below.refl _ _) _)) (Kd.C_below HS2.out.ce (below_alloc (Below.refl _ _) _)) (one31 w2 0 1)
  rw [aw_is] at hq
  refine hq.mono ?_
  clear hq
  rintro e w3 ⟨rfl, hB⟩
  have HB3 := Aside0.mk (below_then (below_alloc (Below.refl w2.heap.size w2) (Obj.cells #[Value.int IntKind.i64 0, Value.int IntKind.i64 1] 31)) (by simp) hB)
  have HS3 := Aside0.mk (HS2.out.on HB3.out)
  have HC3 := Aside0.mk (Kd.C_below HC2.out HB3.out)
  clear hB HB3 HS2 HC2
  have b0 := HS3.out.box.c0
  have b1 := HS3.out.box.c1
  have b2 := HS3.out.box.c2
  go_wp2_with fail
  clear b0 b1 b2
  have hq := is_any 2 lsA esA [] (some ⟨w.heap.size, 0, none⟩) (some ⟨w.heap.size + 1, 0, none⟩) none 1 1 0 w3 HS3.out.cl HS3.out.ce (Kd.C_nil _ _)
  rw [aw_nil] at hq
  refine hq.mono ?_
  clear hq
  rintro e w4 ⟨rfl, hB⟩
  have HS4 := Aside0.mk (HS3.out.on hB)
  have HC4 := Aside0.mk (Kd.C_below HC3.out hB)
  clear hB HS3 HC3
  go_wp2_with fail
  have hq := same_any [⟨0, 0⟩, ⟨1, 1⟩] [⟨0, 0⟩, ⟨1, 1⟩] A3 (some ⟨w4.heap.size, 0, none⟩) c3 2 (w4.alloc (Obj.cells #[Value.int IntKind.i64 0, Value.int IntKind.i64 0, Value.int IntKind.i64 1, Value.int IntKind.i64 1] 31)) (Kd.C_below HC4.out (below_alloc (Below.refl _ _) _)) (two31 w4 0 0 1 1)
  rw [decide_eq_true rfl] at hq
  refine hq.mono ?_
  clear hq
  rintro e w5 ⟨rfl, hD⟩
  have HS5 := Aside0.mk (HS4.out.on (below_then (below_alloc (Below.refl w4.heap.size w4) (Obj.cells #[Value.int IntKind.i64 0, Value.int IntKind.i64 0, Value.int IntKind.i64 1, Value.int IntKind.i64 1] 31)) (by simp) hD.below))
  clear hD HS4 HC4
  have b0 := HS5.out.box.c0
  have b1 := HS5.out.box.c1
  have b2 := HS5.out.box.c2
  go_wp2_with fail
  clear b0 b1 b2
  refine (has_any 2 lsA esA 1 1 true aw_has (some ⟨w.heap.size, 0, none⟩) (some ⟨w.heap.size + 1, 0, none⟩) 1 1 w5 HS5.out.cl HS5.out.ce).mono ?_
  rintro e w6 ⟨rfl, hB⟩
  have HS6 := Aside0.mk (HS5.out.on hB)
  clear hB HS5
  have b0 := HS6.out.box.c0
  have b1 := HS6.out.box.c1
  have b2 := HS6.out.box.c2
  go_wp2_with fail
  clear b0 b1 b2
  refine (has_any 2 lsA esA 0 1 false aw_hasnt (some ⟨w.heap.size, 0, none⟩) (some ⟨w.heap.size + 1, 0, none⟩) 1 1 w6 HS6.out.cl HS6.out.ce).mono ?_
  rintro e w7 ⟨rfl, hB⟩
  have HS7 := Aside0.mk (HS6.out.on hB)
  clear hB HS6
  go_wp2
  go_ret
  exact ⟨rfl, HS7.out.below⟩

end Go.Proofs.Ytmpiokdomjchiaa.H
