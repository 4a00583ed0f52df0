/-
  Parts of the proof of RelabelOf (joined by wip/tools/bundle.py), part 3: plain words and walks of the functions that the law reaches.
-/
import Derived.Test.YtmcbkmfpmcbdpaaZRelabelOf2
namespace Go.Proofs.Ytmcbkmfpmcbdpaa.Pr
open Go.RowKit Go.Proofs.YtmcbkmfpmcbdpaaW.PrintWords Go.Proofs.YtmcbkmfpmcbdpaaW.PrintLast Go.Proofs.YtmcbkmfpmcbdpaaW.PrintMore
attribute [local go_sem] max2_int min2_int max_two min_two max_three min_three max_four min_four
set_option linter.unusedVariables false
set_option linter.unusedSimpArgs false
def relabel_Rename_1.l0 : Nat → ByteArray → List (S55) → Int → Int → Option (ByteArray × Bool)
 | 0, _, _, _, _ => none
 | k + 1, x0, x7, x8, x9 => if x9 < x8 then (if 0 ≤ x9 then (if x9 < (x7.length : Int) then (if ((rd_T55 x7 x9).f0).toList = x0.toList then (some ((rd_T55 x7 x9).f1, true)) else (relabel_Rename_1.l0 k x0 x7 x8 (wrap64 (x9 + 1)))) else (none)) else (none)) else (some (x0, true))
def relabel_Rename_1.f (k : Nat) (a0 : ByteArray) (l1 : List (S55)) : Option (ByteArray × Bool) := relabel_Rename_1.l0 k a0 l1 (l1.length : Int) 0
theorem relabel_Rename_1.mono_l : ∀ k, (∀ y0 y1 y2 y3, LeO (relabel_Rename_1.l0 k y0 y1 y2 y3) (relabel_Rename_1.l0 (k + 1) y0 y1 y2 y3))
 | 0 => fun _ _ _ _ r h => by simp [relabel_Rename_1.l0] at h
 | k + 1 => by
  have ih0 := relabel_Rename_1.mono_l k
  ·intro y0 y1 y2 y3
   unfold relabel_Rename_1.l0
   repeat' first
   | (with_reducible exact ih0 _ _ _ _)
   | (with_reducible exact LeO.refl _)
   | (with_reducible exact LeO.none _)
   | (with_reducible refine LeO.ite ?_ ?_)
   | (with_reducible refine LeO.bind ?_ (fun _ => ?_))
   | exact ih0 _ _ _ _
   | exact LeO.none _
   | refine LeO.ite ?_ ?_
   | refine LeO.bind ?_ (fun _ => ?_)
theorem relabel_Rename_1.mono : ∀ a0 a1 k, LeO (relabel_Rename_1.f k a0 a1) (relabel_Rename_1.f (k + 1) a0 a1) := by
 intro a0 a1 k
 have ih0 := relabel_Rename_1.mono_l k
 unfold relabel_Rename_1.f
 repeat' first
   | (with_reducible exact ih0 _ _ _ _)
   | (with_reducible exact LeO.refl _)
   | (with_reducible exact LeO.none _)
   | (with_reducible refine LeO.ite ?_ ?_)
   | (with_reducible refine LeO.bind ?_ (fun _ => ?_))
   | exact ih0 _ _ _ _
   | exact LeO.none _
   | refine LeO.ite ?_ ?_
   | refine LeO.bind ?_ (fun _ => ?_)
set_option maxHeartbeats 8000000 in
set_option maxRecDepth 100000 in
theorem relabel_Rename_1.calls (k : Nat) (a0 : ByteArray) (A1 : Option Addr) (c1 : Nat) (l1 : List (S55)) (r1 : ByteArray) (r2 : Bool) (gc_ : Nat) (w : World) (hcap_ : w.cell? ⟨gc_, 0, none⟩ = some (.slice A1 l1.length c1)) (hr1 : Kd.C k55 w A1 l1.length l1) (hc1 : l1.length ≤ c1) (h : relabel_Rename_1.f k a0 l1 = some (r1, r2)) :
  Calls Try.prog 95 #[.string a0, .pointer (some ⟨gc_, 0, none⟩)] w fun e w' => e = .returned (.tuple #[.string r1, .bool r2]) ∧ Below w.heap.size w w' := by
 have d6 := Try.underlying55;have b7 := Aside0.mk hr1;have d7 := Aside0.mk hc1;clear hr1 hc1;have HB := Aside0.mk (Below.refl w.heap.size w);have H : (relabel_Rename_1.l0 k a0 l1 (l1.length : Int) 0) = some (r1, r2) := h;clear h;have H' := Aside0.mk H;clear H;go_enter Try.func95, Try.ntmps95
 go_wp2
 go_loopg [9] k (fun kq v9 w' => ∃ (a1 : Int), v9 = .int .i64 a1 ∧ Aside0 (relabel_Rename_1.l0 kq a0 l1 (l1.length : Int) a1 = some (r1, r2)) ∧ Aside0 (kq ≤ k) ∧ Aside0 (Below w.heap.size w w'))
 case atStart => exact ⟨(0), (by first | rfl | (simp; done) | (simp [*]; done)), H', ⟨Nat.le_refl _⟩, ⟨wz HB.out⟩⟩
 case round =>
  clear H';(try clear c1);obtain ⟨a1, rfl, HA, b6, HB⟩ := hrel
  cases gk with
  | zero => exact absurd HA.out (by simp [relabel_Rename_1.l0])
  | succ k1 =>
   have H := HA.out;clear HA;simp only [relabel_Rename_1.l0] at H;by_cases c3 : a1 < (l1.length : Int)
   ·rw [if_pos c3] at H;have c3b0 : decide (a1 < (l1.length : Int)) = true := decide_eq_true c3;clear c3;by_cases c4 : 0 ≤ a1
    ·rw [if_pos c4] at H;have c4b0 : decide (0 ≤ a1) = true := decide_eq_true c4;clear c4;by_cases c5 : a1 < (l1.length : Int)
     ·rw [if_pos c5] at H;have c5b0 : decide (a1 < (l1.length : Int)) = true := decide_eq_true c5;clear c5;by_cases c6 : ((rd_T55 l1 a1).f0).toList = a0.toList
      ·rw [if_pos c6] at H;have c6b0 : (((rd_T55 l1 a1).f0).toList == a0.toList) = true := beq_iff_eq.mpr c6;have c6b1 : (((rd_T55 l1 a1).f0).toList != a0.toList) = false := bne_eq_false_iff_eq.mpr c6;clear c6;simp only [Option.some.injEq, Prod.mk.injEq] at H;obtain ⟨rfl, rfl⟩ := H;have a6 : 0 ≤ (a1 : Int) := of_decide_eq_true (by first | (with_reducible assumption) | assumption);have a7 : a1 < (l1.length : Int) := of_decide_eq_true (by first | (with_reducible assumption) | assumption);obtain ⟨b5, b2, a2, a3⟩ := at_T55 b7.out a1 a6 a7
       cases b2;replace a2 := (HB.out.cell (World.block_lt_of_cell? w _ a2)).trans a2;replace a3 := (HB.out.cell (World.block_lt_of_cell? w _ a3)).trans a3;replace a6 := eq_true a6;replace a7 := eq_true a7;go_wp2_with (first | ((with_reducible refine gate_dst (N := 6) rfl ?_); refine box_event ?hg (N := 6) ?hd (cs := #[.string (⟨#[]⟩ : ByteArray), .string (⟨#[]⟩ : ByteArray)]) (t := 55) ?hr ?_; (case hd => rfl); (case hg => rfl); (case hr => first | (go_simp; done) | (go_simp; rfl)); intro a5 hg w7 hbox hb; have a8 := Aside0.mk (below_step (wz HB.out) hb); have a9 := Aside0.mk (hbox); have b0 := Aside0.mk ((by rw [hg]; exact (below_size (wz HB.out)) : w.heap.size ≤ a5)); have b1 := Aside0.mk ((by rw [hg]; exact (below_size (wz HB.out)) : w.heap.size ≤ a5)); clear HB; have HB := a8; have a4 := a9; have b4 := b0; have b3 := b1; clear a8 a9 b0 b1 hb hbox hg; have d2 : w7.cell? ⟨a5, 0, none⟩ = some (.string (⟨#[]⟩ : ByteArray)) := bcz a4 0 rfl; have d3 : w7.cell? ⟨a5, 1, none⟩ = some (.string (⟨#[]⟩ : ByteArray)) := bcz a4 1 rfl; have d4 := blk_frozen a4.out 0; have d5 := blk_frozen a4.out 1))
       go_ret2
       exact ⟨by first | rfl | (simp [errW_none, errW_some] <;> rfl) | (simp [*, errW_none, errW_some] <;> rfl), wz HB.out⟩
      ·rw [if_neg c6] at H;have c6b0 : (((rd_T55 l1 a1).f0).toList == a0.toList) = false := beq_eq_false_iff_ne.mpr c6;have c6b1 : (((rd_T55 l1 a1).f0).toList != a0.toList) = true := bne_iff_ne.mpr c6;have H' := Aside0.mk H;clear H;have a6 : 0 ≤ (a1 : Int) := of_decide_eq_true (by first | (with_reducible assumption) | assumption);have a7 : a1 < (l1.length : Int) := of_decide_eq_true (by first | (with_reducible assumption) | assumption);obtain ⟨b5, b2, a2, a3⟩ := at_T55 b7.out a1 a6 a7
       cases b2;replace a2 := (HB.out.cell (World.block_lt_of_cell? w _ a2)).trans a2;replace a3 := (HB.out.cell (World.block_lt_of_cell? w _ a3)).trans a3;replace a6 := eq_true a6;replace a7 := eq_true a7;go_wp2_with (first | ((with_reducible refine gate_dst (N := 6) rfl ?_); refine box_event ?hg (N := 6) ?hd (cs := #[.string (⟨#[]⟩ : ByteArray), .string (⟨#[]⟩ : ByteArray)]) (t := 55) ?hr ?_; (case hd => rfl); (case hg => rfl); (case hr => first | (go_simp; done) | (go_simp; rfl)); intro a5 hg w9 hbox hb; have a8 := Aside0.mk (below_step (wz HB.out) hb); have a9 := Aside0.mk (hbox); have b0 := Aside0.mk ((by rw [hg]; exact (below_size (wz HB.out)) : w.heap.size ≤ a5)); have b1 := Aside0.mk ((by rw [hg]; exact (below_size (wz HB.out)) : w.heap.size ≤ a5)); clear HB; have HB := a8; have a4 := a9; have b4 := b0; have b3 := b1; clear a8 a9 b0 b1 hb hbox hg; have b8 : w9.cell? ⟨a5, 0, none⟩ = some (.string (⟨#[]⟩ : ByteArray)) := bcz a4 0 rfl; have b9 : w9.cell? ⟨a5, 1, none⟩ = some (.string (⟨#[]⟩ : ByteArray)) := bcz a4 1 rfl; have d0 := blk_frozen a4.out 0; have d1 := blk_frozen a4.out 1))
       go_roundg k1
       case measure => have := b6.out; omega
       case rel => exact ⟨(wrap64 (a1 + 1)), (by first | rfl | (simp; done) | (simp [*]; done)), H', ⟨by have := b6.out; omega⟩, ⟨wz HB.out⟩⟩
     ·rw [if_neg c5] at H;exact absurd H (by simp)
    ·rw [if_neg c4] at H;exact absurd H (by simp)
   ·rw [if_neg c3] at H;have c3b0 : decide (a1 < (l1.length : Int)) = false := decide_eq_false c3;clear c3;simp only [Option.some.injEq, Prod.mk.injEq] at H;obtain ⟨rfl, rfl⟩ := H;go_wp2
    go_ret2
    exact ⟨by first | rfl | (simp [errW_none, errW_some] <;> rfl) | (simp [*, errW_none, errW_some] <;> rfl), wz HB.out⟩
mutual
def Pxd.l0 : Nat → (ByteArray → ByteArray × Bool) → List ByteArray → Int → Int → Int → List ByteArray → List (S80) → Int → List ByteArray → Option (Int × List ByteArray × (List (S80)) × Int)
 | 0, _, _, _, _, _, _, _, _, _ => none
 | k + 1, x1, x26, x27, x28, x104000, x104001, x104002, x107000, x107001 => if x28 < x27 then (if 0 ≤ x28 then (if x28 < (x26.length : Int) then ((fate.f k (rdOf ByteArray.empty x26 x28) x1).bind fun bt108 => (if bt108.2 = true then (if x107001.length < 8796093022208 then (Pxd.l0 k x1 x26 x27 (wrap64 (x28 + 1)) x104000 x104001 x104002 x107000 (x107001 ++ [bt108.1])) else (none)) else (Pxd.l0 k x1 x26 x27 (wrap64 (x28 + 1)) x104000 x104001 x104002 x107000 x107001))) else (none)) else (none)) else ((Pxf.f x107001 ([] : List ByteArray)).bind fun t113 => (Pxd.l1 k x1 x104002 (x104002.length : Int) 0 x104000 x104001 x104002 x107000 t113 ([] : List (S80))))
def Pxd.l1 : Nat → (ByteArray → ByteArray × Bool) → List (S80) → Int → Int → Int → List ByteArray → List (S80) → Int → List ByteArray → List (S80) → Option (Int × List ByteArray × (List (S80)) × Int)
 | 0, _, _, _, _, _, _, _, _, _, _ => none
 | k + 1, x1, x51, x52, x53, x104000, x104001, x104002, x107000, x107001, x107002 => if x53 < x52 then (if 0 ≤ x53 then (if x53 < (x51.length : Int) then (if 0 ≤ ((rd_T80 x51 x53).f1) then (if ((rd_T80 x51 x53).f1) < (x104001.length : Int) then ((fate.f k (rdOf ByteArray.empty x104001 ((rd_T80 x51 x53).f1)) x1).bind fun bt127 => (if bt127.2 = true then ((Pxg.f k x107001 bt127.1).bind fun t129 => (if x107002.length < 5864062014805 then (Pxd.l1 k x1 x51 x52 (wrap64 (x53 + 1)) x104000 x104001 x104002 x107000 x107001 (x107002 ++ [(⟨(rd_T80 x51 x53).f0, t129, (rd_T80 x51 x53).f2⟩ : S80)])) else (none))) else (Pxd.l1 k x1 x51 x52 (wrap64 (x53 + 1)) x104000 x104001 x104002 x107000 x107001 x107002))) else (none)) else (none)) else (none)) else (none)) else ((Pxi.f x107000 x107001 x107002).bind fun bt116 => (some (bt116.1, bt116.2.1, bt116.2.2.1, bt116.2.2.2)))
end
def Pxd.f (k : Nat) (a0_0 : Int) (l0_1 : List ByteArray) (l0_2 : List (S80)) (l1 : ByteArray → ByteArray × Bool) : Option (Int × List ByteArray × (List (S80)) × Int) := (Pxh.f a0_0 l0_1 l0_2).bind fun t105 => (if t105 = 0 then (Pxd.l0 k l1 l0_1 (l0_1.length : Int) 0 a0_0 l0_1 l0_2 a0_0 ([] : List ByteArray)) else (some (0, ([] : List ByteArray), ([] : List (S80)), t105)))
theorem Pxd.mono_l : ∀ k, (∀ y0 y1 y2 y3 y4 y5 y6 y7 y8, LeO (Pxd.l0 k y0 y1 y2 y3 y4 y5 y6 y7 y8) (Pxd.l0 (k + 1) y0 y1 y2 y3 y4 y5 y6 y7 y8)) ∧ (∀ y0 y1 y2 y3 y4 y5 y6 y7 y8 y9, LeO (Pxd.l1 k y0 y1 y2 y3 y4 y5 y6 y7 y8 y9) (Pxd.l1 (k + 1) y0 y1 y2 y3 y4 y5 y6 y7 y8 y9))
 | 0 => ⟨fun _ _ _ _ _ _ _ _ _ r h => by simp [Pxd.l0] at h, fun _ _ _ _ _ _ _ _ _ _ r h => by simp [Pxd.l1] at h⟩
 | k + 1 => by
  obtain ⟨ih0, ih1⟩ := Pxd.mono_l k
  refine ⟨?_, ?_⟩
  ·intro y0 y1 y2 y3 y4 y5 y6 y7 y8
   unfold Pxd.l0
   repeat' first
   | (with_reducible exact ih0 _ _ _ _ _ _ _ _ _)
   | (with_reducible exact ih1 _ _ _ _ _ _ _ _ _ _)
   | (with_reducible exact Pxg.mono _ _ _)
   | (with_reducible exact fate.mono _ _ _)
   | (with_reducible exact LeO.refl _)
   | (with_reducible exact LeO.none _)
   | (with_reducible refine LeO.ite ?_ ?_)
   | (with_reducible refine LeO.bind ?_ (fun _ => ?_))
   | exact ih0 _ _ _ _ _ _ _ _ _
   | exact ih1 _ _ _ _ _ _ _ _ _ _
   | exact Pxg.mono _ _ _
   | exact fate.mono _ _ _
   | exact LeO.none _
   | refine LeO.ite ?_ ?_
   | refine LeO.bind ?_ (fun _ => ?_)
  ·intro y0 y1 y2 y3 y4 y5 y6 y7 y8 y9
   unfold Pxd.l1
   repeat' first
   | (with_reducible exact ih0 _ _ _ _ _ _ _ _ _)
   | (with_reducible exact ih1 _ _ _ _ _ _ _ _ _ _)
   | (with_reducible exact Pxg.mono _ _ _)
   | (with_reducible exact fate.mono _ _ _)
   | (with_reducible exact LeO.refl _)
   | (with_reducible exact LeO.none _)
   | (with_reducible refine LeO.ite ?_ ?_)
   | (with_reducible refine LeO.bind ?_ (fun _ => ?_))
   | exact ih0 _ _ _ _ _ _ _ _ _
   | exact ih1 _ _ _ _ _ _ _ _ _ _
   | exact Pxg.mono _ _ _
   | exact fate.mono _ _ _
   | exact LeO.none _
   | refine LeO.ite ?_ ?_
   | refine LeO.bind ?_ (fun _ => ?_)
theorem Pxd.mono : ∀ a0 a1 a2 a3 k, LeO (Pxd.f k a0 a1 a2 a3) (Pxd.f (k + 1) a0 a1 a2 a3) := by
 intro a0 a1 a2 a3 k
 obtain ⟨ih0, ih1⟩ := Pxd.mono_l k
 unfold Pxd.f
 repeat' first
   | (with_reducible exact ih0 _ _ _ _ _ _ _ _ _)
   | (with_reducible exact ih1 _ _ _ _ _ _ _ _ _ _)
   | (with_reducible exact Pxg.mono _ _ _)
   | (with_reducible exact fate.mono _ _ _)
   | (with_reducible exact LeO.refl _)
   | (with_reducible exact LeO.none _)
   | (with_reducible refine LeO.ite ?_ ?_)
   | (with_reducible refine LeO.bind ?_ (fun _ => ?_))
   | exact ih0 _ _ _ _ _ _ _ _ _
   | exact ih1 _ _ _ _ _ _ _ _ _ _
   | exact Pxg.mono _ _ _
   | exact fate.mono _ _ _
   | exact LeO.none _
   | refine LeO.ite ?_ ?_
   | refine LeO.bind ?_ (fun _ => ?_)
def Pxd.T18 : Bool × List (List Nat × List Nat) := (true, [([], []), ([0], [0]), ([], []), ([2], [2]), ([], []), ([4], [4]), ([], []), ([5, 6], [5, 6]), ([], []), ([8], [8]), ([3, 7, 9], [3, 7, 9]), ([10], [10]), ([1, 11, 7], [1, 11]), ([0, 1, 2, 3, 4, 5, 6, 7, 8, 9, 10, 11, 12], []), ([13, 12, 12, 0, 1, 2, 3, 4, 5, 6, 7, 8, 9, 10, 11, 12], [12, 13])])
def Pxd.B18 : List Nat := [0, 1, 0, 4, 0, 16, 0, 112, 0, 256, 1020, 2044, 4095, 8191, 16383]
theorem Pxd.tab18 : rtab .any (opsOf Try.f94 18) = Pxd.T18 := by kernel_rfl
theorem Pxd.bits18 : waitsOk Pxd.T18.2 Pxd.B18 = true := by kernel_rfl
set_option maxHeartbeats 8000000 in
set_option maxRecDepth 100000 in
theorem Pxd.calls (k : Nat) (a0_0 : Int) (A0_1 : Option Addr) (c0_1 : Nat) (l0_1 : List ByteArray) (A0_2 : Option Addr) (c0_2 : Nat) (l0_2 : List (S80)) (A1 : FuncId) (c1 : Array Value) (l1 : ByteArray → ByteArray × Bool) (r1 : Int) (r2 : List ByteArray) (r3 : List (S80)) (r4 : Int) (w : World) (hr0_1 : Kd.C Kd.string w A0_1 l0_1.length l0_1) (hc0_1 : l0_1.length ≤ c0_1) (hr0_2 : Kd.C k80 w A0_2 l0_2.length l0_2) (hc0_2 : l0_2.length ≤ c0_2) (hr1 : Fate w A1 c1 l1) (h : Pxd.f k a0_0 l0_1 l0_2 l1 = some (r1, r2, r3, r4)) :
  Calls Try.prog 94 #[.agg #[.int .i64 a0_0, .slice A0_1 l0_1.length c0_1, .slice A0_2 l0_2.length c0_2], .func (.func A1) #[] c1] w fun e w' => ∃ v1_ v2_ : Value, e = .returned (.tuple #[.agg #[.int .i64 r1, v1_, v2_], .int .i64 r4]) ∧ Kd.R Kd.string 9 w' w.heap.size (fun _ => True) v1_ r2 ∧ Kd.R k80 80 w' w.heap.size (fun _ => True) v2_ r3 ∧ Below w.heap.size w w' := by
 have K4 := Try.underlying25;have K5 := Try.underlying80;have g7 := Aside0.mk hr0_1;have p0 := Aside0.mk hc0_1;clear hr0_1 hc0_1;have i1 := Aside0.mk hr0_2;have p1 := Aside0.mk hc0_2;clear hr0_2 hc0_2;have p8 := Aside0.mk hr1;clear hr1;have HB := Aside0.mk (Below.refl w.heap.size w);have H : ((Pxh.f a0_0 l0_1 l0_2).bind fun f6 => (if f6 = 0 then (Pxd.l0 k l1 l0_1 (l0_1.length : Int) 0 a0_0 l0_1 l0_2 a0_0 ([] : List ByteArray)) else (some (0, ([] : List ByteArray), ([] : List (S80)), f6)))) = some (r1, r2, r3, r4) := h;clear h;replace H := Option.bind_eq_some_iff.mp H;obtain ⟨f6, o9, H⟩ := H;replace H : (if f6 = 0 then (Pxd.l0 k l1 l0_1 (l0_1.length : Int) 0 a0_0 l0_1 l0_2 a0_0 ([] : List ByteArray)) else (some (0, ([] : List ByteArray), ([] : List (S80)), f6))) = some (r1, r2, r3, r4) := H;have A3 := Aside0.mk o9;clear o9;by_cases c4 : f6 = 0
 ·rw [if_pos c4] at H;have c4b0 : (f6 == 0) = true := beq_iff_eq.mpr c4;have c4b1 : (f6 != 0) = false := bne_eq_false_iff_eq.mpr c4;clear c4;have H' := Aside0.mk H;clear H;go_enter Try.func94, Try.ntmps94
  go_wp2_with (first | ((with_reducible refine gate_dst (N := 2) rfl ?_); refine box_event ?hg (N := 2) ?hd (cs := #[.int .i64 a0_0, .slice A0_1 l0_1.length c0_1, .slice A0_2 l0_2.length c0_2]) (t := 25) ?hr ?_; (case hd => rfl); (case hg => rfl); (case hr => first | (go_simp; done) | (go_simp; rfl)); intro a7 hg w5 hbox hb; have b2 := Aside0.mk (below_step (wz HB.out) hb); have b3 := Aside0.mk (hbox); have b4 := Aside0.mk ((by rw [hg]; exact (below_size (wz HB.out)) : w.heap.size ≤ a7)); have b7 := Aside0.mk ((by rw [hg]; exact (below_size (wz HB.out)) : w.heap.size ≤ a7)); clear HB; have HB := b2; have a0 := b3; have x3 := b4; have x0 := b7; clear b2 b3 b4 b7; clear hb hbox hg) | ((with_reducible refine gate_dst (N := 4) rfl ?_); refine box_event ?hg (N := 4) ?hd (cs := #[.int .i64 0, .slice none 0 0, .slice none 0 0]) (t := 25) ?hr ?_; (case hd => rfl); (case hg => rfl); (case hr => first | (go_simp; done) | (go_simp; rfl)); intro b0 hg w6 hbox hb; have b2 := Aside0.mk (blk_below (bz a0.out) hb); have b3 := Aside0.mk (below_step (wz HB.out) hb); have b4 := Aside0.mk (hbox); have b7 := Aside0.mk ((by rw [hg]; exact (below_size (wz HB.out)) : w.heap.size ≤ b0)); have b9 := Aside0.mk ((by rw [hg]; exact (below_size (wz HB.out)) : w.heap.size ≤ b0)); have d3 := Aside0.mk ((by rw [hg]; exact Nat.ne_of_lt (blk_lt (g := a7) (o := .cells #[.int .i64 a0_0, .slice A0_1 l0_1.length c0_1, .slice A0_2 l0_2.length c0_2] 25 (0, 0)) (bz a0.out)) : a7 ≠ b0)); have d5 := Aside0.mk ((by rw [hg]; exact Nat.ne_of_gt (blk_lt (g := a7) (o := .cells #[.int .i64 a0_0, .slice A0_1 l0_1.length c0_1, .slice A0_2 l0_2.length c0_2] 25 (0, 0)) (bz a0.out)) : b0 ≠ a7)); clear a0; clear HB; have a0 := b2; have HB := b3; have a4 := b4; have x4 := b7; have x1 := b9; have d6 := d3; have d7 := d5; clear b2 b3 b4 b7 b9 d3 d5; clear hb hbox hg; have K1 := d6.out; have K2 := d7.out; have n4 : w6.cell? ⟨a7, 0, none⟩ = some (.int .i64 a0_0) := bcz a0 0 rfl; have n5 : w6.cell? ⟨a7, 1, none⟩ = some (.slice A0_1 l0_1.length c0_1) := bcz a0 1 rfl; have n6 : w6.cell? ⟨a7, 2, none⟩ = some (.slice A0_2 l0_2.length c0_2) := bcz a0 2 rfl; have n7 := blk_frozen a0.out 0; have n8 := blk_frozen a0.out 1; have n9 := blk_frozen a0.out 2) | ((with_reducible refine gate_callee (f := 72) rfl ?_); refine goesL_ (some 17) rfl rfl Try.func72 (by kernel_rfl) rfl #[.agg #[.int .i64 a0_0, .slice A0_1 l0_1.length c0_1, .slice A0_2 l0_2.length c0_2]] rfl (by (try simp only [List.map_toArray, List.map_cons, List.map_nil]); first | done | rfl | (simp only [List.length_drop, List.length_take]; rfl)) ?_; (with_reducible refine (Pxh.calls a0_0 _ _ l0_1 _ _ l0_2 f6 _ ?i2 ?i3 ?m7 ?m8 A3.out).mono ?_); (case i2 => exact cz g7.out HB.out); (case i3 => exact p0.out); (case m7 => exact cz i1.out HB.out); (case m8 => exact p1.out); rintro e w9 ⟨rfl, hb⟩; refine ⟨_, rfl, ?_⟩; have b2 := Aside0.mk (blk_below (bz a0.out) hb); have b3 := Aside0.mk (blk_below (bz a4.out) hb); have b4 := Aside0.mk (below_step (wz HB.out) hb); clear a0; clear a4; clear HB; have a0 := b2; have a4 := b3; have HB := b4; clear b2 b3 b4; (try clear hb); (try clear i7); (try clear hk); (try clear hi); have j9 : w9.cell? ⟨a7, 0, none⟩ = some (.int .i64 a0_0) := bcz a0 0 rfl; have k0 : w9.cell? ⟨a7, 1, none⟩ = some (.slice A0_1 l0_1.length c0_1) := bcz a0 1 rfl; have k3 : w9.cell? ⟨a7, 2, none⟩ = some (.slice A0_2 l0_2.length c0_2) := bcz a0 2 rfl; have l2 := blk_frozen a0.out 0; have l3 := blk_frozen a0.out 1; have l4 := blk_frozen a0.out 2) | ((with_reducible refine gate_dst (N := 7) rfl ?_); refine box_event ?hg (N := 7) ?hd (cs := #[.int .i64 0, .slice none 0 0, .slice none 0 0]) (t := 25) ?hr ?_; (case hd => rfl); (case hg => rfl); (case hr => first | (go_simp; done) | (go_simp; rfl)); intro a8 hg m1 hbox hb; have b2 := Aside0.mk (blk_below (bz a0.out) hb); have b3 := Aside0.mk (blk_below (bz a4.out) hb); have b4 := Aside0.mk (below_step (wz HB.out) hb); have b7 := Aside0.mk (hbox); have b9 := Aside0.mk ((by rw [hg]; exact (below_size (wz HB.out)) : w.heap.size ≤ a8)); have d3 := Aside0.mk ((by rw [hg]; exact (below_size (wz HB.out)) : w.heap.size ≤ a8)); have d5 := Aside0.mk ((by rw [hg]; exact Nat.ne_of_lt (blk_lt (g := a7) (o := .cells #[.int .i64 a0_0, .slice A0_1 l0_1.length c0_1, .slice A0_2 l0_2.length c0_2] 25 (0, 0)) (bz a0.out)) : a7 ≠ a8)); have g4 := Aside0.mk ((by rw [hg]; exact Nat.ne_of_gt (blk_lt (g := a7) (o := .cells #[.int .i64 a0_0, .slice A0_1 l0_1.length c0_1, .slice A0_2 l0_2.length c0_2] 25 (0, 0)) (bz a0.out)) : a8 ≠ a7)); have h9 := Aside0.mk ((by rw [hg]; exact Nat.ne_of_lt (blk_lt (g := b0) (o := .cells #[.int .i64 0, .slice none 0 0, .slice none 0 0] 25 (0, 0)) (bz a4.out)) : b0 ≠ a8)); have i0 := Aside0.mk ((by rw [hg]; exact Nat.ne_of_gt (blk_lt (g := b0) (o := .cells #[.int .i64 0, .slice none 0 0, .slice none 0 0] 25 (0, 0)) (bz a4.out)) : a8 ≠ b0)); clear a0; clear a4; clear HB; have a0 := b2; have a4 := b3; have HB := b4; have a1 := b7; have F4 := b9; have F3 := d3; have d2 := d5; have d8 := g4; have d4 := h9; have f5 := i0; clear b2 b3 b4 b7 b9 d3 d5 g4 h9 i0; clear hb hbox hg; have F6 := d8.out; have I0 := d2.out; have F7 := f5.out; have I1 := d4.out; have k4 : m1.cell? ⟨a8, 0, none⟩ = some (.int .i64 0) := bcz a1 0 rfl; have k5 : m1.cell? ⟨a8, 1, none⟩ = some (.slice none 0 0) := bcz a1 1 rfl; have k6 : m1.cell? ⟨a8, 2, none⟩ = some (.slice none 0 0) := bcz a1 2 rfl; have l5 := blk_frozen a1.out 0; have l6 := blk_frozen a1.out 1; have l7 := blk_frozen a1.out 2; have k7 : m1.cell? ⟨a7, 0, none⟩ = some (.int .i64 a0_0) := bcz a0 0 rfl; have k8 : m1.cell? ⟨a7, 1, none⟩ = some (.slice A0_1 l0_1.length c0_1) := bcz a0 1 rfl; have k9 : m1.cell? ⟨a7, 2, none⟩ = some (.slice A0_2 l0_2.length c0_2) := bcz a0 2 rfl; have l8 := blk_frozen a0.out 0; have l9 := blk_frozen a0.out 1; have m0 := blk_frozen a0.out 2))
  go_loopg [28] k (fun kq E9 w' => ∃ (b8 : Int) (b5 : List ByteArray) (e2 : Value), E9 = .int .i64 b8 ∧ Aside0 (Pxd.l0 kq l1 l0_1 (l0_1.length : Int) b8 a0_0 l0_1 l0_2 a0_0 b5 = some (r1, r2, r3, r4)) ∧ Aside0 (kq ≤ k) ∧ Aside0 (Kd.R Kd.string 9 w' w.heap.size (fun _ => True) e2 b5) ∧ Aside0 (w'.heap[a7]? = some (.cells #[.int .i64 a0_0, (.slice A0_1 l0_1.length c0_1), (.slice A0_2 l0_2.length c0_2)] 25 (0, 0))) ∧ Aside0 (w'.heap[b0]? = some (.cells #[.int .i64 0, (.slice none 0 0), (.slice none 0 0)] 25 (0, 0))) ∧ Aside0 (w'.heap[a8]? = some (.cells #[.int .i64 a0_0, e2, (.slice none 0 0)] 25 (0, 0))) ∧ Aside0 (Below w.heap.size w w'))
  case atStart => exact ⟨(0), (([] : List ByteArray)), (.slice none 0 0), (by first | rfl | (simp; done) | (simp [*]; done)), H', ⟨Nat.le_refl _⟩, ⟨by first | exact Kd.R_nil _ _ _ _ _ | exact Kd.N_nil _ _ _ _ _ | exact Kd.V_nil _ _ _ _ _ | exact Kd.Q_nil _ _ _ _ _ | exact Kd.S_nil _ _ _ _ _⟩, ⟨fz a0.out d2.out⟩, ⟨fz a4.out d4.out⟩, ⟨by (with_reducible repeat (first | refine blk_drewN ?_ _ | refine blk_drew ?_ | refine blk_alloc ?_ _)); refine blk_put (cs := #[.int .i64 a0_0, .slice none 0 0, .slice none 0 0]) ?_ 2 _ rfl; (with_reducible repeat (first | refine blk_drewN ?_ _ | refine blk_drew ?_ | refine blk_alloc ?_ _)); refine blk_put (cs := #[.int .i64 a0_0, .slice none 0 0, .slice none 0 0]) ?_ 1 _ rfl; (with_reducible repeat (first | refine blk_drewN ?_ _ | refine blk_drew ?_ | refine blk_alloc ?_ _)); refine blk_put (cs := #[.int .i64 0, .slice none 0 0, .slice none 0 0]) ?_ 0 _ rfl; (with_reducible repeat (first | refine blk_drewN ?_ _ | refine blk_drew ?_ | refine blk_alloc ?_ _)); exact a1.out⟩, ⟨wz HB.out⟩⟩
  case round =>
   clear H';(try clear c4);(try clear c4b0);(try clear c4b1);(try clear j9);(try clear k0);(try clear k3);(try clear k4);(try clear k5);(try clear k6);(try clear k7);(try clear k8);(try clear k9);(try clear n4);(try clear n5);(try clear n6);(try clear l2);(try clear l3);(try clear l4);(try clear l5);(try clear l6);(try clear l7);(try clear l8);(try clear l9);(try clear m0);(try clear n7);(try clear n8);(try clear n9);obtain ⟨b8, b5, e2, rfl, HA, h8, a2, a0, a4, a1, HB⟩ := hrel
   cases gk with
   | zero => exact absurd HA.out (by simp [Pxd.l0])
   | succ k1 =>
    have H := HA.out;clear HA;simp only [Pxd.l0] at H;by_cases i5 : b8 < (l0_1.length : Int)
    ·rw [if_pos i5] at H;have c16b0 : decide (b8 < (l0_1.length : Int)) = true := decide_eq_true i5;clear i5;by_cases n0 : 0 ≤ b8
     ·rw [if_pos n0] at H;have c17b0 : decide (0 ≤ b8) = true := decide_eq_true n0;clear n0;by_cases n1 : b8 < (l0_1.length : Int)
      ·rw [if_pos n1] at H;have c18b0 : decide (b8 < (l0_1.length : Int)) = true := decide_eq_true n1;clear n1;replace H := Option.bind_eq_some_iff.mp H;obtain ⟨⟨h2, v7⟩, u8, H⟩ := H;replace H : (if v7 = true then (if b5.length < 8796093022208 then (Pxd.l0 k1 l1 l0_1 (l0_1.length : Int) (wrap64 (b8 + 1)) a0_0 l0_1 l0_2 a0_0 (b5 ++ [h2])) else (none)) else (Pxd.l0 k1 l1 l0_1 (l0_1.length : Int) (wrap64 (b8 + 1)) a0_0 l0_1 l0_2 a0_0 b5)) = some (r1, r2, r3, r4) := H;have y0 := Aside0.mk u8;clear u8;by_cases n2 : v7 = true
       ·subst n2;have H1 : (if b5.length < 8796093022208 then (Pxd.l0 k1 l1 l0_1 (l0_1.length : Int) (wrap64 (b8 + 1)) a0_0 l0_1 l0_2 a0_0 (b5 ++ [h2])) else (none)) = some (r1, r2, r3, r4) := by rw [if_pos rfl] at H; exact H
        clear H;have H := H1;clear H1;by_cases n3 : b5.length < 8796093022208
        ·rw [if_pos n3] at H;have x5 := Aside0.mk n3;clear n3;obtain ⟨m9, h4⟩ : ∃ y_ : List ByteArray, y_ = (b5 ++ [h2]) := ⟨_, rfl⟩
         replace H : (Pxd.l0 k1 l1 l0_1 (l0_1.length : Int) (wrap64 (b8 + 1)) a0_0 l0_1 l0_2 a0_0 m9) = some (r1, r2, r3, r4) := by first | (rw [h4]; with_reducible exact H) | (have i4 := (Option.bind_some _ _).symm.trans H; rw [h4]; with_reducible exact i4) | (have i4 := (Option.bind_some _ _).symm.trans H; with_reducible exact i4) | with_reducible exact H | (rw [h4]; exact H) | exact H
         have x7 := Aside0.mk h4;clear h4;have H' := Aside0.mk H;clear H;have g5 : 0 ≤ (b8 : Int) := of_decide_eq_true (by first | (with_reducible assumption) | assumption);have g6 : b8 < (l0_1.length : Int) := of_decide_eq_true (by first | (with_reducible assumption) | assumption);obtain ⟨x9, o6, e4⟩ := Kd.at_string g7.out b8 g5 g6
         cases o6;replace e4 := (HB.out.cell (World.block_lt_of_cell? w _ e4)).trans e4;replace g5 := eq_true g5;replace g6 := eq_true g6;go_wp2_with (first | ((with_reducible refine gate_dst (N := 35) rfl ?_); refine goesF_ (some 35) rfl rfl p8.out (wz HB.out) k1 (rdOf ByteArray.empty l0_1 b8) h2 true y0.out rfl (by rfl) (by (try simp only [List.map_toArray, List.map_cons, List.map_nil]); first | done | rfl) ?_; intro w2 hb; have b2 := Aside0.mk (Kd.R_below (rz a2.out) hb); have b3 := Aside0.mk (blk_below (bz a0.out) hb); have b4 := Aside0.mk (blk_below (bz a4.out) hb); have b7 := Aside0.mk (blk_below (bz a1.out) hb); have b9 := Aside0.mk (below_step (wz HB.out) hb); clear a2; clear a0; clear a4; clear a1; clear HB; have a2 := b2; have a0 := b3; have a4 := b4; have a1 := b7; have HB := b9; clear b2 b3 b4 b7 b9; (try clear hb); (try clear i7); (try clear hk); (try clear hi); have F8 := d8.out; have I2 := d2.out; have F9 := f5.out; have I3 := d4.out; have q5 : w2.cell? ⟨a8, 0, none⟩ = some (.int .i64 a0_0) := bcz a1 0 rfl; have q6 : w2.cell? ⟨a8, 1, none⟩ = some (e2) := bcz a1 1 rfl; have q7 : w2.cell? ⟨a8, 2, none⟩ = some (.slice none 0 0) := bcz a1 2 rfl; have t2 := blk_frozen a1.out 0; have t4 := blk_frozen a1.out 1; have t5 := blk_frozen a1.out 2) | ((with_reducible refine gate_builtin (b := .append) (xs := #[.tmp 40, .tmp 42]) rfl ?_); at_builtin; refine Kd.R_append Kd.string (w0 := w) w.heap.size rfl (.tmp 40) (.tmp 42) 22 9 (.string ⟨#[]⟩) 16 rfl Try.underlying22 info9 rfl (by decide) (by omega) e2 b5 h2 [.string h2] (fun _ => True) (fun _ => False) rfl rfl ?aP (fun _ hk => hk.elim) ?aF ?aO ?aB ?aS ?aL ?_; (case aP => exact rfl); (case aB => exact (wz HB.out)); (case aF => exact (fun _ _ => trivial)); (case aO => exact (rz a2.out)); (case aS => exact (below_size (wz HB.out))); (case aL => have := x5.out; omega); intro K6 w3 ho hb hg hat; rw [← x7.out] at ho; have b2 := Aside0.mk (blk_grown (bz a0.out) hg (Kd.R_ne a2.out a0.out (by decide))); have b3 := Aside0.mk (blk_grown (bz a4.out) hg (Kd.R_ne a2.out a4.out (by decide))); have b4 := Aside0.mk (blk_grown (bz a1.out) hg (Kd.R_ne a2.out a1.out (by decide))); have b7 := Aside0.mk (hb); have b9 := Aside0.mk (ho); clear a0; clear a4; clear a1; clear HB; clear a2; have a0 := b2; have a4 := b3; have a1 := b4; have HB := b7; have p3 := b9; clear b2 b3 b4 b7 b9; clear ho hb hg hat; obtain ⟨v3, v4, y4⟩ := Kd.R_slice p3.out; subst y4; have q8 : w3.cell? ⟨a8, 0, none⟩ = some (.int .i64 a0_0) := bcz a1 0 rfl; have q9 : w3.cell? ⟨a8, 1, none⟩ = some (e2) := bcz a1 1 rfl; have r0 : w3.cell? ⟨a8, 2, none⟩ = some (.slice none 0 0) := bcz a1 2 rfl; have t6 := blk_frozen a1.out 0; have t7 := blk_frozen a1.out 1; have t8 := blk_frozen a1.out 2))
         go_roundg k1
         case measure => have := h8.out; omega
         case rel => exact ⟨(wrap64 (b8 + 1)), (m9), (.slice v3 m9.length v4), (by first | rfl | (simp; done) | (simp [*]; done)), H', ⟨by have := h8.out; omega⟩, ⟨rz (Kd.R_mono (Kd.R_far (p := ⟨a8, 1, none⟩) (Kd.R_types p3.out a1.out (by decide)) (fun _ hk => hk.2) (.slice v3 m9.length v4)) (fun _ hk => trivial))⟩, ⟨fz a0.out d2.out⟩, ⟨fz a4.out d4.out⟩, ⟨by (with_reducible repeat (first | refine blk_drewN ?_ _ | refine blk_drew ?_ | refine blk_alloc ?_ _)); refine blk_put (cs := #[.int .i64 a0_0, e2, .slice none 0 0]) ?_ 1 _ rfl; (with_reducible repeat (first | refine blk_drewN ?_ _ | refine blk_drew ?_ | refine blk_alloc ?_ _)); exact a1.out⟩, ⟨wz HB.out⟩⟩
        ·rw [if_neg n3] at H;exact absurd H (by simp)
       ·replace n2 := Bool.eq_false_iff.mpr n2;subst n2;have H1 : (Pxd.l0 k1 l1 l0_1 (l0_1.length : Int) (wrap64 (b8 + 1)) a0_0 l0_1 l0_2 a0_0 b5) = some (r1, r2, r3, r4) := by rw [if_neg (show ¬ (false = true) by decide)] at H; exact H
        clear H;have H := H1;clear H1;have H' := Aside0.mk H;clear H;have g5 : 0 ≤ (b8 : Int) := of_decide_eq_true (by first | (with_reducible assumption) | assumption);have g6 : b8 < (l0_1.length : Int) := of_decide_eq_true (by first | (with_reducible assumption) | assumption);obtain ⟨x9, o6, e4⟩ := Kd.at_string g7.out b8 g5 g6
        cases o6;replace e4 := (HB.out.cell (World.block_lt_of_cell? w _ e4)).trans e4;replace g5 := eq_true g5;replace g6 := eq_true g6;go_wp2_with (first | ((with_reducible refine gate_dst (N := 35) rfl ?_); refine goesF_ (some 35) rfl rfl p8.out (wz HB.out) k1 (rdOf ByteArray.empty l0_1 b8) h2 false y0.out rfl (by rfl) (by (try simp only [List.map_toArray, List.map_cons, List.map_nil]); first | done | rfl) ?_; intro L1 hb; have b2 := Aside0.mk (Kd.R_below (rz a2.out) hb); have b3 := Aside0.mk (blk_below (bz a0.out) hb); have b4 := Aside0.mk (blk_below (bz a4.out) hb); have b7 := Aside0.mk (blk_below (bz a1.out) hb); have b9 := Aside0.mk (below_step (wz HB.out) hb); clear a2; clear a0; clear a4; clear a1; clear HB; have a2 := b2; have a0 := b3; have a4 := b4; have a1 := b7; have HB := b9; clear b2 b3 b4 b7 b9; (try clear hb); (try clear i7); (try clear hk); (try clear hi)))
        go_roundg k1
        case measure => have := h8.out; omega
        case rel => exact ⟨(wrap64 (b8 + 1)), (b5), (e2), (by first | rfl | (simp; done) | (simp [*]; done)), H', ⟨by have := h8.out; omega⟩, ⟨rz a2.out⟩, ⟨bz a0.out⟩, ⟨bz a4.out⟩, ⟨bz a1.out⟩, ⟨wz HB.out⟩⟩
      ·rw [if_neg n1] at H;exact absurd H (by simp)
     ·rw [if_neg n0] at H;exact absurd H (by simp)
    ·rw [if_neg i5] at H;have c16b0 : decide (b8 < (l0_1.length : Int)) = false := decide_eq_false i5;clear i5;replace H := Option.bind_eq_some_iff.mp H;obtain ⟨d0, u9, H⟩ := H;replace H : (Pxd.l1 k1 l1 l0_2 (l0_2.length : Int) 0 a0_0 l0_1 l0_2 a0_0 d0 ([] : List (S80))) = some (r1, r2, r3, r4) := H;have o9 := Aside0.mk u9;clear u9;have H' := Aside0.mk H;clear H;have G0 := d8.out;have I4 := d2.out;have G3 := f5.out;have I5 := d4.out;have r5 : wr.cell? ⟨a8, 0, none⟩ = some (.int .i64 a0_0) := bcz a1 0 rfl;have r6 : wr.cell? ⟨a8, 1, none⟩ = some (e2) := bcz a1 1 rfl;have r7 : wr.cell? ⟨a8, 2, none⟩ = some (.slice none 0 0) := bcz a1 2 rfl;have t9 := blk_frozen a1.out 0;have u0 := blk_frozen a1.out 1;have u1 := blk_frozen a1.out 2;obtain ⟨o0, o3, y5⟩ := Kd.R_slice a2.out;subst y5;go_wp2_with (first | ((with_reducible refine gate_callee (f := 108) rfl ?_); refine goesL_ (some 48) rfl rfl Try.func108 (by kernel_rfl) rfl #[.slice o0 b5.length o3, .slice none 0 0] rfl (by (try simp only [List.map_toArray, List.map_cons, List.map_nil]); first | done | rfl | (simp only [List.length_drop, List.length_take]; rfl)) ?_; (refine (Pxf.calls _ _ b5 _ _ ([] : List ByteArray) d0 _ ?i2 ?i3 ?m7 ?m8 o9.out).mono ?_); (case i2 => repeat (first | exact (Kd.R_reads' a2.out).2.2 | (with_reducible refine Kd.C_alloc ?_ _) | (with_reducible refine Kd.C_drewN ?_ _) | (with_reducible refine Kd.C_drew ?_))); (case i3 => exact (Kd.R_reads' a2.out).2.1); (case m7 => exact Kd.C_nil _ _); (case m8 => exact Nat.le_refl _); rintro e m2 ⟨K7, rfl, i8, hb⟩; refine ⟨_, rfl, ?_⟩; have b2 := Aside0.mk (Kd.R_elder' (rz a2.out) (Kd.R_base i8) hb); have b3 := Aside0.mk (Kd.R_lower (Kd.R_new' i8 (Kd.R_lt (rz a2.out))) (below_size (wz HB.out))); have b4 := Aside0.mk (blk_below (bz a0.out) hb); have b7 := Aside0.mk (blk_below (bz a4.out) hb); have b9 := Aside0.mk (blk_below (bz a1.out) hb); have d3 := Aside0.mk (below_step (wz HB.out) hb); clear a2; clear a0; clear a4; clear a1; clear HB; have a2 := b2; have p4 := b3; have a0 := b4; have a4 := b7; have a1 := b9; have HB := d3; clear b2 b3 b4 b7 b9 d3; (try clear hb); (try clear i7); (try clear hk); (try clear hi); (try clear i8); obtain ⟨e5, e6, y6⟩ := Kd.R_slice p4.out; subst y6; have r8 : m2.cell? ⟨a8, 0, none⟩ = some (.int .i64 a0_0) := bcz a1 0 rfl; have r9 : m2.cell? ⟨a8, 1, none⟩ = some (.slice o0 b5.length o3) := bcz a1 1 rfl; have s6 : m2.cell? ⟨a8, 2, none⟩ = some (.slice none 0 0) := bcz a1 2 rfl; have u2 := blk_frozen a1.out 0; have u3 := blk_frozen a1.out 1; have u4 := blk_frozen a1.out 2; have G4 := d6.out; have I6 := d7.out; have s7 : m2.cell? ⟨a7, 0, none⟩ = some (.int .i64 a0_0) := bcz a0 0 rfl; have s8 : m2.cell? ⟨a7, 1, none⟩ = some (.slice A0_1 l0_1.length c0_1) := bcz a0 1 rfl; have s9 : m2.cell? ⟨a7, 2, none⟩ = some (.slice A0_2 l0_2.length c0_2) := bcz a0 2 rfl; have u5 := blk_frozen a0.out 0; have u6 := blk_frozen a0.out 1; have u7 := blk_frozen a0.out 2))
     go_loopg [53] k1 (fun kq F0 w' => ∃ (a3 : Int) (b6 : List (S80)) (d1 : Value), F0 = .int .i64 a3 ∧ Aside0 (Pxd.l1 kq l1 l0_2 (l0_2.length : Int) a3 a0_0 l0_1 l0_2 a0_0 d0 b6 = some (r1, r2, r3, r4)) ∧ Aside0 (kq ≤ k1) ∧ Aside0 (Kd.R Kd.string 9 w' w.heap.size (fun _ => True) (.slice e5 d0.length e6) d0) ∧ Aside0 (Kd.R k80 80 w' w.heap.size (fun _ => True) d1 b6) ∧ Aside0 (w'.heap[a7]? = some (.cells #[.int .i64 a0_0, (.slice A0_1 l0_1.length c0_1), (.slice A0_2 l0_2.length c0_2)] 25 (0, 0))) ∧ Aside0 (w'.heap[b0]? = some (.cells #[.int .i64 0, (.slice none 0 0), (.slice none 0 0)] 25 (0, 0))) ∧ Aside0 (w'.heap[a8]? = some (.cells #[.int .i64 a0_0, (.slice e5 d0.length e6), d1] 25 (0, 0))) ∧ Aside0 (Below w.heap.size w w'))
     case atStart => exact ⟨(0), (([] : List (S80))), (.slice none 0 0), (by first | rfl | (simp; done) | (simp [*]; done)), H', ⟨Nat.le_refl _⟩, ⟨rz (Kd.R_mono (Kd.R_far (p := ⟨a8, 1, none⟩) (Kd.R_types p4.out a1.out (by decide)) (fun _ hk => hk.2) (.slice e5 d0.length e6)) (fun _ hk => trivial))⟩, ⟨by first | exact Kd.R_nil _ _ _ _ _ | exact Kd.N_nil _ _ _ _ _ | exact Kd.V_nil _ _ _ _ _ | exact Kd.Q_nil _ _ _ _ _ | exact Kd.S_nil _ _ _ _ _⟩, ⟨fz a0.out d2.out⟩, ⟨fz a4.out d4.out⟩, ⟨by (with_reducible repeat (first | refine blk_drewN ?_ _ | refine blk_drew ?_ | refine blk_alloc ?_ _)); refine blk_put (cs := #[.int .i64 a0_0, .slice o0 b5.length o3, .slice none 0 0]) ?_ 1 _ rfl; (with_reducible repeat (first | refine blk_drewN ?_ _ | refine blk_drew ?_ | refine blk_alloc ?_ _)); exact a1.out⟩, ⟨wz HB.out⟩⟩
     case round =>
      clear H';(try clear c4);(try clear c4b0);(try clear c4b1);(try clear i5);(try clear c16b0);(try clear n0);(try clear c17b0);(try clear n1);(try clear c18b0);(try clear n2);(try clear n3);(try clear j9);(try clear k0);(try clear k3);(try clear k4);(try clear k5);(try clear k6);(try clear k7);(try clear k8);(try clear k9);(try clear q5);(try clear q6);(try clear q7);(try clear q8);(try clear q9);(try clear r0);(try clear r5);(try clear r6);(try clear r7);(try clear r8);(try clear r9);(try clear s6);(try clear s7);(try clear s8);(try clear s9);(try clear n4);(try clear n5);(try clear n6);(try clear l2);(try clear l3);(try clear l4);(try clear l5);(try clear l6);(try clear l7);(try clear l8);(try clear l9);(try clear m0);(try clear t2);(try clear t4);(try clear t5);(try clear t6);(try clear t7);(try clear t8);(try clear t9);(try clear u0);(try clear u1);(try clear u2);(try clear u3);(try clear u4);(try clear u5);(try clear u6);(try clear u7);(try clear n7);(try clear n8);(try clear n9);(try clear e4);(try clear g5);(try clear g6);obtain ⟨a3, b6, d1, rfl, HA, p2, a2, a6, a0, a4, a1, HB⟩ := hrel
      cases gk with
      | zero => exact absurd HA.out (by simp [Pxd.l1])
      | succ k2 =>
       have H := HA.out;clear HA;simp only [Pxd.l1] at H;by_cases j8 : a3 < (l0_2.length : Int)
       ·rw [if_pos j8] at H;have c40b0 : decide (a3 < (l0_2.length : Int)) = true := decide_eq_true j8;clear j8;by_cases p9 : 0 ≤ a3
        ·rw [if_pos p9] at H;have c41b0 : decide (0 ≤ a3) = true := decide_eq_true p9;clear p9;by_cases q0 : a3 < (l0_2.length : Int)
         ·rw [if_pos q0] at H;have c42b0 : decide (a3 < (l0_2.length : Int)) = true := decide_eq_true q0;clear q0;by_cases q1 : 0 ≤ ((rd_T80 l0_2 a3).f1)
          ·rw [if_pos q1] at H;have c43b0 : decide (0 ≤ ((rd_T80 l0_2 a3).f1)) = true := decide_eq_true q1;clear q1;by_cases q2 : ((rd_T80 l0_2 a3).f1) < (l0_1.length : Int)
           ·rw [if_pos q2] at H;have c44b0 : decide (((rd_T80 l0_2 a3).f1) < (l0_1.length : Int)) = true := decide_eq_true q2;clear q2;replace H := Option.bind_eq_some_iff.mp H;obtain ⟨⟨h7, v9⟩, v0, H⟩ := H;replace H : (if v9 = true then ((Pxg.f k2 d0 h7).bind fun g0 => (if b6.length < 5864062014805 then (Pxd.l1 k2 l1 l0_2 (l0_2.length : Int) (wrap64 (a3 + 1)) a0_0 l0_1 l0_2 a0_0 d0 (b6 ++ [(⟨(rd_T80 l0_2 a3).f0, g0, (rd_T80 l0_2 a3).f2⟩ : S80)])) else (none))) else (Pxd.l1 k2 l1 l0_2 (l0_2.length : Int) (wrap64 (a3 + 1)) a0_0 l0_1 l0_2 a0_0 d0 b6)) = some (r1, r2, r3, r4) := H;have y1 := Aside0.mk v0;clear v0;by_cases q3 : v9 = true
            ·subst q3;have H1 : ((Pxg.f k2 d0 h7).bind fun g0 => (if b6.length < 5864062014805 then (Pxd.l1 k2 l1 l0_2 (l0_2.length : Int) (wrap64 (a3 + 1)) a0_0 l0_1 l0_2 a0_0 d0 (b6 ++ [(⟨(rd_T80 l0_2 a3).f0, g0, (rd_T80 l0_2 a3).f2⟩ : S80)])) else (none))) = some (r1, r2, r3, r4) := by rw [if_pos rfl] at H; exact H
             clear H;have H := H1;clear H1;replace H := Option.bind_eq_some_iff.mp H;obtain ⟨g0, v1, H⟩ := H;replace H : (if b6.length < 5864062014805 then (Pxd.l1 k2 l1 l0_2 (l0_2.length : Int) (wrap64 (a3 + 1)) a0_0 l0_1 l0_2 a0_0 d0 (b6 ++ [(⟨(rd_T80 l0_2 a3).f0, g0, (rd_T80 l0_2 a3).f2⟩ : S80)])) else (none)) = some (r1, r2, r3, r4) := H;have E7 := Aside0.mk v1;clear v1;by_cases q4 : b6.length < 5864062014805
             ·rw [if_pos q4] at H;have x6 := Aside0.mk q4;clear q4;obtain ⟨j7, h5⟩ : ∃ y_ : List (S80), y_ = (b6 ++ [(⟨(rd_T80 l0_2 a3).f0, g0, (rd_T80 l0_2 a3).f2⟩ : S80)]) := ⟨_, rfl⟩
              replace H : (Pxd.l1 k2 l1 l0_2 (l0_2.length : Int) (wrap64 (a3 + 1)) a0_0 l0_1 l0_2 a0_0 d0 j7) = some (r1, r2, r3, r4) := by first | (rw [h5]; with_reducible exact H) | (have i4 := (Option.bind_some _ _).symm.trans H; rw [h5]; with_reducible exact i4) | (have i4 := (Option.bind_some _ _).symm.trans H; with_reducible exact i4) | with_reducible exact H | (rw [h5]; exact H) | exact H
              have x8 := Aside0.mk h5;clear h5;have H' := Aside0.mk H;clear H;have g8 : 0 ≤ (a3 : Int) := of_decide_eq_true (by first | (with_reducible assumption) | assumption);have h0 : a3 < (l0_2.length : Int) := of_decide_eq_true (by first | (with_reducible assumption) | assumption);obtain ⟨f7, o7, e7, e8, e9⟩ := at_T80 i1.out a3 g8 h0
              cases o7;replace e7 := (HB.out.cell (World.block_lt_of_cell? w _ e7)).trans e7;replace e8 := (HB.out.cell (World.block_lt_of_cell? w _ e8)).trans e8;replace e9 := (HB.out.cell (World.block_lt_of_cell? w _ e9)).trans e9;replace g8 := eq_true g8;replace h0 := eq_true h0;try go_wp2_with (first | ((with_reducible refine gate_dst (N := 13) rfl ?_); refine box_event ?hg (N := 13) ?hd (cs := #[.int .i64 0, .int .i64 0, .int .i64 0]) (t := 80) ?hr ?_; (case hd => rfl); (case hg => rfl); (case hr => first | (go_simp; done) | (go_simp; rfl)); intro a5 hg m3 hbox hb; have b2 := Aside0.mk (Kd.R_below (rz a2.out) hb); have b3 := Aside0.mk (Kd.R_below (Kd.R_elderB (rz a6.out) a5 (Nat.le_of_eq hg.symm)) hb); have b4 := Aside0.mk (blk_below (bz a0.out) hb); have b7 := Aside0.mk (blk_below (bz a4.out) hb); have b9 := Aside0.mk (blk_below (bz a1.out) hb); have d3 := Aside0.mk (below_step (wz HB.out) hb); have d5 := Aside0.mk (hbox); have g4 := Aside0.mk ((by rw [hg]; exact (below_size (wz HB.out)) : w.heap.size ≤ a5)); have h9 := Aside0.mk ((by rw [hg]; exact (below_size (wz HB.out)) : w.heap.size ≤ a5)); have i0 := Aside0.mk ((by rw [hg]; exact Nat.ne_of_lt (blk_lt (g := a7) (o := .cells #[.int .i64 a0_0, .slice A0_1 l0_1.length c0_1, .slice (some f7) l0_2.length c0_2] 25 (0, 0)) (bz a0.out)) : a7 ≠ a5)); have i9 := Aside0.mk ((by rw [hg]; exact Nat.ne_of_gt (blk_lt (g := a7) (o := .cells #[.int .i64 a0_0, .slice A0_1 l0_1.length c0_1, .slice (some f7) l0_2.length c0_2] 25 (0, 0)) (bz a0.out)) : a5 ≠ a7)); have j2 := Aside0.mk ((by rw [hg]; exact Nat.ne_of_lt (blk_lt (g := b0) (o := .cells #[.int .i64 0, .slice none 0 0, .slice none 0 0] 25 (0, 0)) (bz a4.out)) : b0 ≠ a5)); have j3 := Aside0.mk ((by rw [hg]; exact Nat.ne_of_gt (blk_lt (g := b0) (o := .cells #[.int .i64 0, .slice none 0 0, .slice none 0 0] 25 (0, 0)) (bz a4.out)) : a5 ≠ b0)); have j4 := Aside0.mk ((by rw [hg]; exact Nat.ne_of_lt (blk_lt (g := a8) (o := .cells #[.int .i64 a0_0, .slice e5 d0.length e6, d1] 25 (0, 0)) (bz a1.out)) : a8 ≠ a5)); have j5 := Aside0.mk ((by rw [hg]; exact Nat.ne_of_gt (blk_lt (g := a8) (o := .cells #[.int .i64 a0_0, .slice e5 d0.length e6, d1] 25 (0, 0)) (bz a1.out)) : a5 ≠ a8)); clear a2; clear a6; clear a0; clear a4; clear a1; clear HB; have a2 := b2; have a6 := b3; have a0 := b4; have a4 := b7; have a1 := b9; have HB := d3; have a9 := d5; have g1 := g4; have x2 := h9; have f3 := i0; have g2 := i9; have f4 := j2; have g3 := j3; have e3 := j4; have f9 := j5; clear b2 b3 b4 b7 b9 d3 d5 g4 h9 i0 i9 j2 j3 j4 j5; clear hb hbox hg; have G5 := g2.out; have I7 := f3.out; have G6 := g3.out; have I8 := f4.out; have G7 := f9.out; have I9 := e3.out; have z0 : m3.cell? ⟨a5, 0, none⟩ = some (.int .i64 0) := bcz a9 0 rfl; have z1 : m3.cell? ⟨a5, 1, none⟩ = some (.int .i64 0) := bcz a9 1 rfl; have z2 : m3.cell? ⟨a5, 2, none⟩ = some (.int .i64 0) := bcz a9 2 rfl; have B6 := blk_frozen a9.out 0; have B7 := blk_frozen a9.out 1; have B9 := blk_frozen a9.out 2; have G8 := d6.out; have J0 := d7.out; have G9 := d2.out; have J1 := d8.out; have z3 : m3.cell? ⟨a7, 0, none⟩ = some (.int .i64 a0_0) := bcz a0 0 rfl; have z4 : m3.cell? ⟨a7, 1, none⟩ = some (.slice A0_1 l0_1.length c0_1) := bcz a0 1 rfl; have z5 : m3.cell? ⟨a7, 2, none⟩ = some (.slice (some f7) l0_2.length c0_2) := bcz a0 2 rfl; have C0 := blk_frozen a0.out 0; have C1 := blk_frozen a0.out 1; have C2 := blk_frozen a0.out 2; have g9 : 0 ≤ (((rd_T80 l0_2 a3).f1) : Int) := of_decide_eq_true (by first | (with_reducible assumption) | assumption); have h1 : ((rd_T80 l0_2 a3).f1) < (l0_1.length : Int) := of_decide_eq_true (by first | (with_reducible assumption) | assumption); obtain ⟨f8, o8, b1⟩ := Kd.at_string g7.out ((rd_T80 l0_2 a3).f1) g9 h1; cases o8; have d9 : f8.block ≠ a5 := Nat.ne_of_lt (Nat.lt_of_lt_of_le (by have := World.block_lt_of_cell? _ _ b1; first | rwa [add_block] at this | exact this) g1.out); have e0 : f8.block ≠ a5 := Nat.ne_of_lt (Nat.lt_of_lt_of_le (by have := World.block_lt_of_cell? _ _ b1; first | rwa [add_block] at this | exact this) g1.out); have e1 : f8.block ≠ a5 := Nat.ne_of_lt (Nat.lt_of_lt_of_le (by have := World.block_lt_of_cell? _ _ b1; first | rwa [add_block] at this | exact this) g1.out); replace b1 := (HB.out.cell (World.block_lt_of_cell? w _ b1)).trans b1; replace b1 := (cell_far (p := ⟨a5, 0, none⟩) (by first | (rw [add_block]; exact d9) | (show (Addr.add _ _).block ≠ _; rw [add_block]; exact d9) | exact d9) (.int .i64 ((rd_T80 l0_2 a3).f0))).trans b1; replace b1 := (cell_far (p := ⟨a5, 1, none⟩) (by first | (rw [add_block]; exact e0) | (show (Addr.add _ _).block ≠ _; rw [add_block]; exact e0) | exact e0) (.int .i64 ((rd_T80 l0_2 a3).f1))).trans b1; replace b1 := (cell_far (p := ⟨a5, 2, none⟩) (by first | (rw [add_block]; exact e1) | (show (Addr.add _ _).block ≠ _; rw [add_block]; exact e1) | exact e1) (.int .i64 ((rd_T80 l0_2 a3).f2))).trans b1; clear d9; clear e0; clear e1; replace g9 := eq_true g9; replace h1 := eq_true h1) | ((with_reducible refine gate_dst (N := 65) rfl ?_); refine goesF_ (some 65) rfl rfl p8.out (wz HB.out) k2 (rdOf ByteArray.empty l0_1 ((rd_T80 l0_2 a3).f1)) h7 true y1.out rfl (by rfl) (by (try simp only [List.map_toArray, List.map_cons, List.map_nil]); first | done | rfl) ?_; intro F1 hb; have b2 := Aside0.mk (Kd.R_below (rz (Kd.R_mono (Kd.R_far (p := ⟨a5, 2, none⟩) (Kd.R_far (p := ⟨a5, 1, none⟩) (Kd.R_far (p := ⟨a5, 0, none⟩) (Kd.R_types a2.out a9.out (by decide)) (fun _ hk => hk.2) (.int .i64 ((rd_T80 l0_2 a3).f0))) (fun _ hk => hk.2) (.int .i64 ((rd_T80 l0_2 a3).f1))) (fun _ hk => hk.2) (.int .i64 ((rd_T80 l0_2 a3).f2))) (fun _ h_ => h_.1))) hb); have b3 := Aside0.mk (Kd.R_below (rz (Kd.R_mono (Kd.R_far (p := ⟨a5, 2, none⟩) (Kd.R_far (p := ⟨a5, 1, none⟩) (Kd.R_far (p := ⟨a5, 0, none⟩) (Kd.R_mono a6.out (fun k_ hk => (⟨hk, hk.2⟩ : _ ∧ k_ ≠ a5))) (fun _ hk => hk.2) (.int .i64 ((rd_T80 l0_2 a3).f0))) (fun _ hk => hk.2) (.int .i64 ((rd_T80 l0_2 a3).f1))) (fun _ hk => hk.2) (.int .i64 ((rd_T80 l0_2 a3).f2))) (fun _ h_ => h_.1))) hb); have b4 := Aside0.mk (blk_below (g := a7) (o := .cells #[.int .i64 a0_0, .slice (some f8) l0_1.length c0_1, .slice (some f7) l0_2.length c0_2] 25 (0, 0)) (fz a0.out f3.out) hb); have b7 := Aside0.mk (blk_below (g := b0) (o := .cells #[.int .i64 0, .slice none 0 0, .slice none 0 0] 25 (0, 0)) (fz a4.out f4.out) hb); have b9 := Aside0.mk (blk_below (g := a8) (o := .cells #[.int .i64 a0_0, .slice e5 d0.length e6, d1] 25 (0, 0)) (fz a1.out e3.out) hb); have d3 := Aside0.mk (blk_below (g := a5) (o := .cells #[.int .i64 ((rd_T80 l0_2 a3).f0), .int .i64 ((rd_T80 l0_2 a3).f1), .int .i64 ((rd_T80 l0_2 a3).f2)] 80 (0, 0)) (by (with_reducible repeat (first | refine blk_drewN ?_ _ | refine blk_drew ?_ | refine blk_alloc ?_ _)); refine blk_put (cs := #[.int .i64 ((rd_T80 l0_2 a3).f0), .int .i64 ((rd_T80 l0_2 a3).f1), .int .i64 0]) ?_ 2 _ rfl; (with_reducible repeat (first | refine blk_drewN ?_ _ | refine blk_drew ?_ | refine blk_alloc ?_ _)); refine blk_put (cs := #[.int .i64 ((rd_T80 l0_2 a3).f0), .int .i64 0, .int .i64 0]) ?_ 1 _ rfl; (with_reducible repeat (first | refine blk_drewN ?_ _ | refine blk_drew ?_ | refine blk_alloc ?_ _)); refine blk_put (cs := #[.int .i64 0, .int .i64 0, .int .i64 0]) ?_ 0 _ rfl; (with_reducible repeat (first | refine blk_drewN ?_ _ | refine blk_drew ?_ | refine blk_alloc ?_ _)); exact a9.out) hb); have d5 := Aside0.mk (below_step (wz HB.out) hb); clear a2; clear a6; clear a0; clear a4; clear a1; clear a9; clear HB; have a2 := b2; have a6 := b3; have a0 := b4; have a4 := b7; have a1 := b9; have a9 := d3; have HB := d5; clear b2 b3 b4 b7 b9 d3 d5; (try clear hb); (try clear i7); (try clear hk); (try clear hi)))
              have b2 := Aside0.mk (Kd.R_drew a2.out);have b3 := Aside0.mk (Kd.R_drew a6.out);have b4 := Aside0.mk (blk_drew a0.out);have b7 := Aside0.mk (blk_drew a4.out);have b9 := Aside0.mk (blk_drew a1.out);have d3 := Aside0.mk (blk_drew a9.out);have d5 := Aside0.mk (below_drew1 HB.out);clear a2 a6 a0 a4 a1 a9 HB;have a2 := b2;have a6 := b3;have a0 := b4;have a4 := b7;have a1 := b9;have a9 := d3;have HB := d5;clear b2 b3 b4 b7 b9 d3 d5;refine start_ (n := 15) (S := fun w' => w'.cell? ⟨a8, 0, none⟩ = some (.int .i64 a0_0) ∧ w'.cell? ⟨a8, 1, none⟩ = some (.slice e5 d0.length e6) ∧ w'.cell? ⟨a8, 2, none⟩ = some (d1) ∧ w'.cell? ⟨a5, 0, none⟩ = some (.int .i64 ((rd_T80 l0_2 a3).f0)) ∧ w'.cell? ⟨a5, 1, none⟩ = some (.int .i64 ((rd_T80 l0_2 a3).f1)) ∧ w'.cell? ⟨a5, 2, none⟩ = some (.int .i64 ((rd_T80 l0_2 a3).f2))) (ds := [14]) (bqz 15 0) (by kernel_rfl) rfl rfl ⟨bcz a1 0 rfl, bcz a1 1 rfl, bcz a1 2 rfl, bcz a9 0 rfl, bcz a9 1 rfl, bcz a9 2 rfl⟩ (fun hHeld => ?_); refine with_tabW Pxd.tab18 Pxd.bits18 (fun HT_ HW_ => ?_)
              generalize F1.drew = w58 at a2 a6 a0 a4 a1 a9 HB hHeld ⊢;refine pqz 0 (some 69) (bqz 15 1) rfl rfl (any_of HT_.out (by kernel_rfl)) ?_ ?_ (fun _ _ _ h => h) (by rfl) ?_ ?_ ?_;rotate_left 2;intro w';go_simp;(with_reducible rfl);simp only [Act.put, qz1, qz2, qz3, i64_w, i32_w];rfl
              refine pqz 2 (some 71) (bqz 15 5) rfl rfl (any_of HT_.out (by kernel_rfl)) ?_ ?_ (fun _ _ _ h => h) (by rfl) ?_ ?_ ?_;rotate_left 2;intro w';go_simp;(with_reducible rfl);simp only [Act.put, qz1, qz2, qz3, i64_w, i32_w];rfl
              refine pqz 4 (some 73) (bqz 15 21) rfl rfl (any_of HT_.out (by kernel_rfl)) ?_ ?_ (fun _ _ _ h => h) (by rfl) ?_ ?_ ?_;rotate_left 2;intro w';go_simp;(with_reducible rfl);simp only [Act.put, qz1, qz2, qz3, i64_w, i32_w];rfl
              refine pqz 6 (some 75) (bqz 15 85) rfl rfl (any_of HT_.out (by kernel_rfl)) ?_ ?_ (fun _ _ _ h => h) (by rfl) ?_ ?_ ?_;rotate_left 2;intro w';go_simp;(with_reducible rfl);simp only [Act.put, qz1, qz2, qz3, i64_w, i32_w];rfl
              refine pqz 8 (some 77) (bqz 15 341) rfl rfl (any_of HT_.out (by kernel_rfl)) ?_ ?_ (fun _ _ _ h => h) (by rfl) ?_ ?_ ?_;rotate_left 2;intro w';go_simp;(with_reducible rfl);simp only [Act.put, qz1, qz2, qz3, i64_w, i32_w];rfl
              refine tqz 1 (some 70) (bqz 15 343) rfl rfl (take_ofW HT_.out HW_.out (by kernel_rfl)) ?_ ?_ (fun _ _ _ h => h) (by rfl) ?_ hHeld ?_ ?_;rotate_left 2;rintro w' ⟨s0, s1, s2, s3, s4, s5⟩;go_simp;(with_reducible rfl);simp only [Act.put, qz1, qz2, qz3, i64_w, i32_w];rfl
              refine tqz 3 (some 72) (bqz 15 351) rfl rfl (take_ofW HT_.out HW_.out (by kernel_rfl)) ?_ ?_ (fun _ _ _ h => h) (by rfl) ?_ hHeld ?_ ?_;rotate_left 2;rintro w' ⟨s0, s1, s2, s3, s4, s5⟩;go_simp;(with_reducible rfl);simp only [Act.put, qz1, qz2, qz3, i64_w, i32_w];rfl
              refine tqz 5 (some 74) (bqz 15 383) rfl rfl (take_ofW HT_.out HW_.out (by kernel_rfl)) ?_ ?_ (fun _ _ _ h => h) (by rfl) ?_ hHeld ?_ ?_;rotate_left 2;rintro w' ⟨s0, s1, s2, s3, s4, s5⟩;go_simp;(with_reducible rfl);simp only [Act.put, qz1, qz2, qz3, i64_w, i32_w];rfl
              refine tqz 9 (some 78) (bqz 15 895) rfl rfl (take_ofW HT_.out HW_.out (by kernel_rfl)) ?_ ?_ (fun _ _ _ h => h) (by rfl) ?_ hHeld ?_ ?_;rotate_left 2;rintro w' ⟨s0, s1, s2, s3, s4, s5⟩;go_simp;(with_reducible rfl);simp only [Act.put, qz1, qz2, qz3, i64_w, i32_w];rfl
              refine one_ (i := 7) (N := some 76) (bqz 15 1023) rfl rfl (one_of HT_.out (by kernel_rfl)) (by decide) (fun K hK => ?_);refine goes_ Try.func97 (by kernel_rfl) rfl #[.slice e5 d0.length e6, .string h7] (by rfl) rfl rfl (by (try simp only [List.map_toArray, List.map_cons, List.map_nil]); first | done | rfl | (simp only [List.length_drop, List.length_take]; rfl)) ?_;with_reducible refine (Pxg.calls k2 _ _ d0 h7 g0 _ ?i2 ?i3 E7.out).mono ?_
              (case i2 => repeat (first | exact (Kd.R_reads' a2.out).2.2 | (with_reducible refine Kd.C_alloc ?_ _) | (with_reducible refine Kd.C_drewN ?_ _) | (with_reducible refine Kd.C_drew ?_)))
              (case i3 => exact (Kd.R_reads' a2.out).2.1)
              rintro e w' ⟨rfl, ⟨nd, rfl⟩⟩;refine ⟨_, rfl, ?_⟩;refine hK.out _ _ ⟨bcz a1 0 rfl, bcz a1 1 rfl, bcz a1 2 rfl, bcz a9 0 rfl, bcz a9 1 rfl, bcz a9 2 rfl⟩ (fun hHeld => ?_);clear hK K;refine norm_ (a' := ?_) ?_ ?_;rotate_left
              ·show Act.put _ (some 76) _ = _;simp only [Act.put, qz1, qz2, qz3, i64_w, i32_w];rfl
              refine pqz 10 (some 79) (bqz 15 2047) rfl rfl (any_of HT_.out (by kernel_rfl)) ?_ ?_ (fun _ _ _ h => h) (by rfl) ?_ ?_ ?_;rotate_left 2;intro w';go_simp;(with_reducible rfl);simp only [Act.put, qz1, qz2, qz3, i64_w, i32_w];rfl
              refine one_ (i := 11) (N := some 80) (bqz 15 4095) rfl rfl (one_of HT_.out (by kernel_rfl)) (by decide) (fun K hK => ?_);refine value_ (w1 := ?_) (v := ?_) (by rfl) rfl ?_ ?_;rotate_left 2
              ·go_simp;constructor
               ·rfl
               ·rfl
              refine hK.out _ _ ⟨(blk_cell (blk_alloc a1.out _) 0).trans rfl, (blk_cell (blk_alloc a1.out _) 1).trans rfl, (blk_cell (blk_alloc a1.out _) 2).trans rfl, (blk_cell (blk_alloc a9.out _) 0).trans rfl, (blk_cell (blk_alloc a9.out _) 1).trans rfl, (blk_cell (blk_alloc a9.out _) 2).trans rfl⟩ (fun hHeld => ?_);clear hK K;refine norm_ (a' := ?_) ?_ ?_;rotate_left
              ·show Act.put _ (some 80) _ = _;simp only [Act.put, qz1, qz2, qz3, i64_w, i32_w];rfl
              refine one_ (i := 12) (N := some 81) (bqz 15 8191) rfl rfl (one_of HT_.out (by kernel_rfl)) (by decide) (fun K hK => ?_);refine Kd.R_append_step k80 (w0 := w) w.heap.size (by rfl) (.tmp 70) (.tmp 80) 23 80 (.agg #[(.int .i64 0), (.int .i64 0), (.int .i64 0)]) 24 rfl Try.underlying23 info80 rfl (by decide) (by omega) d1 b6 (⟨(rd_T80 l0_2 a3).f0, g0, (rd_T80 l0_2 a3).f2⟩ : S80) [.int .i64 ((rd_T80 l0_2 a3).f0), .int .i64 g0, .int .i64 ((rd_T80 l0_2 a3).f2)] (fun k_ => k_ ≠ a5) (fun _ => False) rfl rfl ?aP (fun _ hk => hk.elim) ?aF ?aO ?aB ?aS ?aL ?_
              (case aP => exact k80_mkM _ _ _ (⟨(rd_T80 l0_2 a3).f0, g0, (rd_T80 l0_2 a3).f2⟩ : S80))
              (case aB => exact (wz HB.out))
              (case aF => exact (fun k_ hk => Kd.freshB (g := a5) (o := .cells #[.int .i64 ((rd_T80 l0_2 a3).f0), .int .i64 ((rd_T80 l0_2 a3).f1), .int .i64 ((rd_T80 l0_2 a3).f2)] 80 (0, 0)) (bz a9.out) k_ hk))
              (case aO => exact (rz (Kd.R_mono a6.out (fun _ hk => hk.2))))
              (case aS => exact (below_size (wz HB.out)))
              (case aL => have := x6.out; omega)
              intro L0 F2 ho hb hg hat;rw [← x8.out] at ho;have b2 := Aside0.mk (Kd.R_over' (rz a2.out) (Kd.R_typed (rz a6.out)) (by decide) hg);have b3 := Aside0.mk (blk_grown (bz a0.out) hg (Kd.R_ne a6.out a0.out (by decide)));have b4 := Aside0.mk (blk_grown (bz a4.out) hg (Kd.R_ne a6.out a4.out (by decide)));have b7 := Aside0.mk (blk_grown (bz a1.out) hg (Kd.R_ne a6.out a1.out (by decide)));have b9 := Aside0.mk (blk_grown (bz a9.out) hg (Kd.R_away a6.out (fun _ hk => hk.2)));have d3 := Aside0.mk (hb);have d5 := Aside0.mk (ho);clear a2 a0 a4 a1 a9 HB a6;have a2 := b2;have a0 := b3;have a4 := b4;have a1 := b7;have a9 := b9;have HB := d3;have p7 := d5;clear b2 b3 b4 b7 b9 d3 d5 ho hb hg hat;obtain ⟨o1, o4, v5⟩ := Kd.R_slice p7.out
              (first | subst v5 | (injection v5 with f1_ f2_ f3_; have f4_ := f1_.symm; have f5_ := f3_.symm; clear f1_ f2_ f3_; subst f4_; subst f5_))
              refine hK.out _ _ ⟨bcz a1 0 rfl, bcz a1 1 rfl, bcz a1 2 rfl, bcz a9 0 rfl, bcz a9 1 rfl, bcz a9 2 rfl⟩ (fun hHeld => ?_);clear hK K;refine norm_ (a' := ?_) ?_ ?_;rotate_left
              ·show Act.put _ (some 81) _ = _;simp only [Act.put, qz1, qz2, qz3, i64_w, i32_w];rfl
              refine pqz 13 (some 82) (bqz 15 16383) rfl rfl (any_of HT_.out (by kernel_rfl)) ?_ ?_ (fun _ _ _ h => h) (by rfl) ?_ ?_ ?_;rotate_left 2;intro w';go_simp;(with_reducible rfl);simp only [Act.put, qz1, qz2, qz3, i64_w, i32_w];rfl
              refine last_ (i := 14) (N := none) (bqz 15 32767) rfl rfl (one_of HT_.out (by kernel_rfl)) (by decide) (fun K hK => ?_);have K3 : F2.cell? ⟨a8, 2, none⟩ = some (d1) := bcz a1 2 rfl;have F5 := blk_frozen a1.out 2;have E4 := d2.out;have E5 := d4.out;have E6 := f9.out;have E1 := d8.out;have E2 := f5.out;have E3 := e3.out;refine skip_ (w1 := ?_) (by rfl) rfl ?_ ?_;rotate_left
              ·go_simp;rfl
              refine hK.out _ _ ?_;clear hK K;refine done_ (done_of HT_.out (by kernel_rfl)) ?_;try go_wp2
              go_roundg k2
              case measure => have := h8.out; have := p2.out; omega
              case rel => exact ⟨(wrap64 (a3 + 1)), (j7), (.slice o1 j7.length o4), (by first | rfl | (simp; done) | (simp [*]; done)), H', ⟨by have := h8.out; have := p2.out; omega⟩, ⟨rz (Kd.R_mono (Kd.R_far (p := ⟨a8, 2, none⟩) (Kd.R_types a2.out a1.out (by decide)) (fun _ hk => hk.2) (.slice o1 j7.length o4)) (fun _ hk => trivial))⟩, ⟨rz (Kd.R_mono (Kd.R_far (p := ⟨a8, 2, none⟩) (Kd.R_types p7.out a1.out (by decide)) (fun _ hk => hk.2) (.slice o1 j7.length o4)) (fun _ hk => trivial))⟩, ⟨fz a0.out d2.out⟩, ⟨fz a4.out d4.out⟩, ⟨by (with_reducible repeat (first | refine blk_drewN ?_ _ | refine blk_drew ?_ | refine blk_alloc ?_ _)); refine blk_put (cs := #[.int .i64 a0_0, .slice e5 d0.length e6, d1]) ?_ 2 _ rfl; (with_reducible repeat (first | refine blk_drewN ?_ _ | refine blk_drew ?_ | refine blk_alloc ?_ _)); exact a1.out⟩, ⟨wz HB.out⟩⟩
             ·rw [if_neg q4] at H;exact absurd H (by simp)
            ·replace q3 := Bool.eq_false_iff.mpr q3;subst q3;have H1 : (Pxd.l1 k2 l1 l0_2 (l0_2.length : Int) (wrap64 (a3 + 1)) a0_0 l0_1 l0_2 a0_0 d0 b6) = some (r1, r2, r3, r4) := by rw [if_neg (show ¬ (false = true) by decide)] at H; exact H
             clear H;have H := H1;clear H1;have H' := Aside0.mk H;clear H;have g8 : 0 ≤ (a3 : Int) := of_decide_eq_true (by first | (with_reducible assumption) | assumption);have h0 : a3 < (l0_2.length : Int) := of_decide_eq_true (by first | (with_reducible assumption) | assumption);obtain ⟨f7, o7, e7, e8, e9⟩ := at_T80 i1.out a3 g8 h0
             cases o7;replace e7 := (HB.out.cell (World.block_lt_of_cell? w _ e7)).trans e7;replace e8 := (HB.out.cell (World.block_lt_of_cell? w _ e8)).trans e8;replace e9 := (HB.out.cell (World.block_lt_of_cell? w _ e9)).trans e9;replace g8 := eq_true g8;replace h0 := eq_true h0;go_wp2_with (first | ((with_reducible refine gate_dst (N := 13) rfl ?_); refine box_event ?hg (N := 13) ?hd (cs := #[.int .i64 0, .int .i64 0, .int .i64 0]) (t := 80) ?hr ?_; (case hd => rfl); (case hg => rfl); (case hr => first | (go_simp; done) | (go_simp; rfl)); intro a5 hg m4 hbox hb; have b2 := Aside0.mk (Kd.R_below (rz a2.out) hb); have b3 := Aside0.mk (Kd.R_below (Kd.R_elderB (rz a6.out) a5 (Nat.le_of_eq hg.symm)) hb); have b4 := Aside0.mk (blk_below (bz a0.out) hb); have b7 := Aside0.mk (blk_below (bz a4.out) hb); have b9 := Aside0.mk (blk_below (bz a1.out) hb); have d3 := Aside0.mk (below_step (wz HB.out) hb); have d5 := Aside0.mk (hbox); have g4 := Aside0.mk ((by rw [hg]; exact (below_size (wz HB.out)) : w.heap.size ≤ a5)); have h9 := Aside0.mk ((by rw [hg]; exact (below_size (wz HB.out)) : w.heap.size ≤ a5)); have i0 := Aside0.mk ((by rw [hg]; exact Nat.ne_of_lt (blk_lt (g := a7) (o := .cells #[.int .i64 a0_0, .slice A0_1 l0_1.length c0_1, .slice (some f7) l0_2.length c0_2] 25 (0, 0)) (bz a0.out)) : a7 ≠ a5)); have i9 := Aside0.mk ((by rw [hg]; exact Nat.ne_of_gt (blk_lt (g := a7) (o := .cells #[.int .i64 a0_0, .slice A0_1 l0_1.length c0_1, .slice (some f7) l0_2.length c0_2] 25 (0, 0)) (bz a0.out)) : a5 ≠ a7)); have j2 := Aside0.mk ((by rw [hg]; exact Nat.ne_of_lt (blk_lt (g := b0) (o := .cells #[.int .i64 0, .slice none 0 0, .slice none 0 0] 25 (0, 0)) (bz a4.out)) : b0 ≠ a5)); have j3 := Aside0.mk ((by rw [hg]; exact Nat.ne_of_gt (blk_lt (g := b0) (o := .cells #[.int .i64 0, .slice none 0 0, .slice none 0 0] 25 (0, 0)) (bz a4.out)) : a5 ≠ b0)); have j4 := Aside0.mk ((by rw [hg]; exact Nat.ne_of_lt (blk_lt (g := a8) (o := .cells #[.int .i64 a0_0, .slice e5 d0.length e6, d1] 25 (0, 0)) (bz a1.out)) : a8 ≠ a5)); have j5 := Aside0.mk ((by rw [hg]; exact Nat.ne_of_gt (blk_lt (g := a8) (o := .cells #[.int .i64 a0_0, .slice e5 d0.length e6, d1] 25 (0, 0)) (bz a1.out)) : a5 ≠ a8)); clear a2; clear a6; clear a0; clear a4; clear a1; clear HB; have a2 := b2; have a6 := b3; have a0 := b4; have a4 := b7; have a1 := b9; have HB := d3; have a9 := d5; have g1 := g4; have x2 := h9; have f3 := i0; have g2 := i9; have f4 := j2; have g3 := j3; have e3 := j4; have f9 := j5; clear b2 b3 b4 b7 b9 d3 d5 g4 h9 i0 i9 j2 j3 j4 j5; clear hb hbox hg; have H0 := g2.out; have J2 := f3.out; have H2 := g3.out; have J3 := f4.out; have H3 := f9.out; have J4 := e3.out; have z6 : m4.cell? ⟨a5, 0, none⟩ = some (.int .i64 0) := bcz a9 0 rfl; have z7 : m4.cell? ⟨a5, 1, none⟩ = some (.int .i64 0) := bcz a9 1 rfl; have z8 : m4.cell? ⟨a5, 2, none⟩ = some (.int .i64 0) := bcz a9 2 rfl; have C3 := blk_frozen a9.out 0; have C4 := blk_frozen a9.out 1; have C5 := blk_frozen a9.out 2; have H4 := d6.out; have J5 := d7.out; have H5 := d2.out; have J6 := d8.out; have z9 : m4.cell? ⟨a7, 0, none⟩ = some (.int .i64 a0_0) := bcz a0 0 rfl; have A0 : m4.cell? ⟨a7, 1, none⟩ = some (.slice A0_1 l0_1.length c0_1) := bcz a0 1 rfl; have A2 : m4.cell? ⟨a7, 2, none⟩ = some (.slice (some f7) l0_2.length c0_2) := bcz a0 2 rfl; have C6 := blk_frozen a0.out 0; have C7 := blk_frozen a0.out 1; have C8 := blk_frozen a0.out 2; have g9 : 0 ≤ (((rd_T80 l0_2 a3).f1) : Int) := of_decide_eq_true (by first | (with_reducible assumption) | assumption); have h1 : ((rd_T80 l0_2 a3).f1) < (l0_1.length : Int) := of_decide_eq_true (by first | (with_reducible assumption) | assumption); obtain ⟨f8, o8, b1⟩ := Kd.at_string g7.out ((rd_T80 l0_2 a3).f1) g9 h1; cases o8; have d9 : f8.block ≠ a5 := Nat.ne_of_lt (Nat.lt_of_lt_of_le (by have := World.block_lt_of_cell? _ _ b1; first | rwa [add_block] at this | exact this) g1.out); have e0 : f8.block ≠ a5 := Nat.ne_of_lt (Nat.lt_of_lt_of_le (by have := World.block_lt_of_cell? _ _ b1; first | rwa [add_block] at this | exact this) g1.out); have e1 : f8.block ≠ a5 := Nat.ne_of_lt (Nat.lt_of_lt_of_le (by have := World.block_lt_of_cell? _ _ b1; first | rwa [add_block] at this | exact this) g1.out); replace b1 := (HB.out.cell (World.block_lt_of_cell? w _ b1)).trans b1; replace b1 := (cell_far (p := ⟨a5, 0, none⟩) (by first | (rw [add_block]; exact d9) | (show (Addr.add _ _).block ≠ _; rw [add_block]; exact d9) | exact d9) (.int .i64 ((rd_T80 l0_2 a3).f0))).trans b1; replace b1 := (cell_far (p := ⟨a5, 1, none⟩) (by first | (rw [add_block]; exact e0) | (show (Addr.add _ _).block ≠ _; rw [add_block]; exact e0) | exact e0) (.int .i64 ((rd_T80 l0_2 a3).f1))).trans b1; replace b1 := (cell_far (p := ⟨a5, 2, none⟩) (by first | (rw [add_block]; exact e1) | (show (Addr.add _ _).block ≠ _; rw [add_block]; exact e1) | exact e1) (.int .i64 ((rd_T80 l0_2 a3).f2))).trans b1; clear d9; clear e0; clear e1; replace g9 := eq_true g9; replace h1 := eq_true h1) | ((with_reducible refine gate_dst (N := 65) rfl ?_); refine goesF_ (some 65) rfl rfl p8.out (wz HB.out) k2 (rdOf ByteArray.empty l0_1 ((rd_T80 l0_2 a3).f1)) h7 false y1.out rfl (by rfl) (by (try simp only [List.map_toArray, List.map_cons, List.map_nil]); first | done | rfl) ?_; intro L2 hb; have b2 := Aside0.mk (Kd.R_below (rz (Kd.R_mono (Kd.R_far (p := ⟨a5, 2, none⟩) (Kd.R_far (p := ⟨a5, 1, none⟩) (Kd.R_far (p := ⟨a5, 0, none⟩) (Kd.R_types a2.out a9.out (by decide)) (fun _ hk => hk.2) (.int .i64 ((rd_T80 l0_2 a3).f0))) (fun _ hk => hk.2) (.int .i64 ((rd_T80 l0_2 a3).f1))) (fun _ hk => hk.2) (.int .i64 ((rd_T80 l0_2 a3).f2))) (fun _ h_ => h_.1))) hb); have b3 := Aside0.mk (Kd.R_below (rz (Kd.R_mono (Kd.R_far (p := ⟨a5, 2, none⟩) (Kd.R_far (p := ⟨a5, 1, none⟩) (Kd.R_far (p := ⟨a5, 0, none⟩) (Kd.R_mono a6.out (fun k_ hk => (⟨hk, hk.2⟩ : _ ∧ k_ ≠ a5))) (fun _ hk => hk.2) (.int .i64 ((rd_T80 l0_2 a3).f0))) (fun _ hk => hk.2) (.int .i64 ((rd_T80 l0_2 a3).f1))) (fun _ hk => hk.2) (.int .i64 ((rd_T80 l0_2 a3).f2))) (fun _ h_ => h_.1))) hb); have b4 := Aside0.mk (blk_below (g := a7) (o := .cells #[.int .i64 a0_0, .slice (some f8) l0_1.length c0_1, .slice (some f7) l0_2.length c0_2] 25 (0, 0)) (fz a0.out f3.out) hb); have b7 := Aside0.mk (blk_below (g := b0) (o := .cells #[.int .i64 0, .slice none 0 0, .slice none 0 0] 25 (0, 0)) (fz a4.out f4.out) hb); have b9 := Aside0.mk (blk_below (g := a8) (o := .cells #[.int .i64 a0_0, .slice e5 d0.length e6, d1] 25 (0, 0)) (fz a1.out e3.out) hb); have d3 := Aside0.mk (blk_below (g := a5) (o := .cells #[.int .i64 ((rd_T80 l0_2 a3).f0), .int .i64 ((rd_T80 l0_2 a3).f1), .int .i64 ((rd_T80 l0_2 a3).f2)] 80 (0, 0)) (by (with_reducible repeat (first | refine blk_drewN ?_ _ | refine blk_drew ?_ | refine blk_alloc ?_ _)); refine blk_put (cs := #[.int .i64 ((rd_T80 l0_2 a3).f0), .int .i64 ((rd_T80 l0_2 a3).f1), .int .i64 0]) ?_ 2 _ rfl; (with_reducible repeat (first | refine blk_drewN ?_ _ | refine blk_drew ?_ | refine blk_alloc ?_ _)); refine blk_put (cs := #[.int .i64 ((rd_T80 l0_2 a3).f0), .int .i64 0, .int .i64 0]) ?_ 1 _ rfl; (with_reducible repeat (first | refine blk_drewN ?_ _ | refine blk_drew ?_ | refine blk_alloc ?_ _)); refine blk_put (cs := #[.int .i64 0, .int .i64 0, .int .i64 0]) ?_ 0 _ rfl; (with_reducible repeat (first | refine blk_drewN ?_ _ | refine blk_drew ?_ | refine blk_alloc ?_ _)); exact a9.out) hb); have d5 := Aside0.mk (below_step (wz HB.out) hb); clear a2; clear a6; clear a0; clear a4; clear a1; clear a9; clear HB; have a2 := b2; have a6 := b3; have a0 := b4; have a4 := b7; have a1 := b9; have a9 := d3; have HB := d5; clear b2 b3 b4 b7 b9 d3 d5; (try clear hb); (try clear i7); (try clear hk); (try clear hi)))
             go_roundg k2
             case measure => have := h8.out; have := p2.out; omega
             case rel => exact ⟨(wrap64 (a3 + 1)), (b6), (d1), (by first | rfl | (simp; done) | (simp [*]; done)), H', ⟨by have := h8.out; have := p2.out; omega⟩, ⟨rz a2.out⟩, ⟨rz (Kd.R_mono a6.out (fun _ hk => trivial))⟩, ⟨bz a0.out⟩, ⟨bz a4.out⟩, ⟨bz a1.out⟩, ⟨wz HB.out⟩⟩
           ·rw [if_neg q2] at H;exact absurd H (by simp)
          ·rw [if_neg q1] at H;exact absurd H (by simp)
         ·rw [if_neg q0] at H;exact absurd H (by simp)
        ·rw [if_neg p9] at H;exact absurd H (by simp)
       ·rw [if_neg j8] at H;have c40b0 : decide (a3 < (l0_2.length : Int)) = false := decide_eq_false j8;clear j8;replace H := Option.bind_eq_some_iff.mp H;obtain ⟨⟨h3, h6, j6, v8⟩, v2, H⟩ := H;replace H : (some (h3, h6, j6, v8)) = some (r1, r2, r3, r4) := H;have E8 := Aside0.mk v2;clear v2;simp only [Option.some.injEq, Prod.mk.injEq] at H;obtain ⟨rfl, rfl, rfl, rfl⟩ := H;have H6 := d8.out;have J7 := d2.out;have H7 := f5.out;have J8 := d4.out;have A4 : wr.cell? ⟨a8, 0, none⟩ = some (.int .i64 a0_0) := bcz a1 0 rfl;have A5 : wr.cell? ⟨a8, 1, none⟩ = some (.slice e5 d0.length e6) := bcz a1 1 rfl;have A6 : wr.cell? ⟨a8, 2, none⟩ = some (d1) := bcz a1 2 rfl;have C9 := blk_frozen a1.out 0;have D0 := blk_frozen a1.out 1;have D1 := blk_frozen a1.out 2;obtain ⟨y2, y3, y7⟩ := Kd.R_slice a6.out;subst y7;go_wp2_with (first | ((with_reducible refine gate_callee (f := 104) rfl ?_); refine goesL_ (some 85) rfl rfl Try.func104 (by kernel_rfl) rfl #[.agg #[.int .i64 a0_0, .slice e5 d0.length e6, .slice y2 b6.length y3]] rfl (by (try simp only [List.map_toArray, List.map_cons, List.map_nil]); first | done | rfl | (simp only [List.length_drop, List.length_take]; rfl)) ?_; (with_reducible refine (Pxi.calls a0_0 _ _ d0 _ _ b6 h3 h6 j6 v8 _ ?i2 ?i3 ?m7 ?m8 E8.out).mono ?_); (case i2 => repeat (first | exact (Kd.R_reads' a2.out).2.2 | (with_reducible refine Kd.C_alloc ?_ _) | (with_reducible refine Kd.C_drewN ?_ _) | (with_reducible refine Kd.C_drew ?_))); (case i3 => exact (Kd.R_reads' a2.out).2.1); (case m7 => repeat (first | exact (Kd.R_reads' a6.out).2.2 | (with_reducible refine Kd.C_alloc ?_ _) | (with_reducible refine Kd.C_drewN ?_ _) | (with_reducible refine Kd.C_drew ?_))); (case m8 => exact (Kd.R_reads' a6.out).2.1); rintro e w4 ⟨K8, K9, rfl, i8, v6, hb⟩; refine ⟨_, rfl, ?_⟩; have b2 := Aside0.mk (Kd.R_elder' (rz a2.out) (Kd.R_base i8) hb); have b3 := Aside0.mk (Kd.R_elder' (rz a6.out) (Kd.R_base v6) hb); have b4 := Aside0.mk (Kd.R_lower (Kd.R_new' i8 (Kd.R_lt (rz a2.out))) (below_size (wz HB.out))); have b7 := Aside0.mk (Kd.R_lower (Kd.R_new' v6 (Kd.R_lt (rz a6.out))) (below_size (wz HB.out))); have b9 := Aside0.mk (blk_below (bz a0.out) hb); have d3 := Aside0.mk (blk_below (bz a4.out) hb); have d5 := Aside0.mk (blk_below (bz a1.out) hb); have g4 := Aside0.mk (below_step (wz HB.out) hb); clear a2; clear a6; clear a0; clear a4; clear a1; clear HB; have a2 := b2; have a6 := b3; have p5 := b4; have p6 := b7; have a0 := b9; have a4 := d3; have a1 := d5; have HB := g4; clear b2 b3 b4 b7 b9 d3 d5 g4; (try clear hb); (try clear i7); (try clear hk); (try clear hi); (try clear i8); (try clear v6); have H8 := d7.out; have J9 := d6.out; have A7 : w4.cell? ⟨b0, 0, none⟩ = some (.int .i64 0) := bcz a4 0 rfl; have A8 : w4.cell? ⟨b0, 1, none⟩ = some (.slice none 0 0) := bcz a4 1 rfl; have A9 : w4.cell? ⟨b0, 2, none⟩ = some (.slice none 0 0) := bcz a4 2 rfl; have D2 := blk_frozen a4.out 0; have D3 := blk_frozen a4.out 1; have D4 := blk_frozen a4.out 2; obtain ⟨m5, m6, y8⟩ := Kd.R_slice p5.out; subst y8; obtain ⟨o2, o5, y9⟩ := Kd.R_slice p6.out; subst y9))
        refine bodyPost_ret (results_ct rfl _ _ b0 25 #[.int .i64 h3, .slice m5 h6.length m6, .slice o2 j6.length o5] (0, 0) _ rfl (by (with_reducible repeat (first | refine blk_drewN ?_ _ | refine blk_drew ?_ | refine blk_alloc ?_ _)); refine blk_put (cs := #[.int .i64 h3, .slice m5 h6.length m6, .slice none 0 0]) ?_ 2 _ rfl; (with_reducible repeat (first | refine blk_drewN ?_ _ | refine blk_drew ?_ | refine blk_alloc ?_ _)); refine blk_put (cs := #[.int .i64 h3, .slice none 0 0, .slice none 0 0]) ?_ 1 _ rfl; (with_reducible repeat (first | refine blk_drewN ?_ _ | refine blk_drew ?_ | refine blk_alloc ?_ _)); refine blk_put (cs := #[.int .i64 0, .slice none 0 0, .slice none 0 0]) ?_ 0 _ rfl; (with_reducible repeat (first | refine blk_drewN ?_ _ | refine blk_drew ?_ | refine blk_alloc ?_ _)); exact a4.out) Try.underlying25 rfl (by kernel_rfl)) rfl ?_;exact ⟨_, _, by first | rfl | (simp [errW_none, errW_some] <;> rfl) | (simp [*, errW_none, errW_some] <;> rfl), rz (Kd.R_mono (Kd.R_far (p := ⟨b0, 2, none⟩) (Kd.R_far (p := ⟨b0, 1, none⟩) (Kd.R_far (p := ⟨b0, 0, none⟩) (Kd.R_types p5.out a4.out (by decide)) (fun _ hk => hk.2) (.int .i64 h3)) (fun _ hk => hk.2) (.slice m5 h6.length m6)) (fun _ hk => hk.2) (.slice o2 j6.length o5)) (fun _ hk => trivial)), rz (Kd.R_mono (Kd.R_far (p := ⟨b0, 2, none⟩) (Kd.R_far (p := ⟨b0, 1, none⟩) (Kd.R_far (p := ⟨b0, 0, none⟩) (Kd.R_types p6.out a4.out (by decide)) (fun _ hk => hk.2) (.int .i64 h3)) (fun _ hk => hk.2) (.slice m5 h6.length m6)) (fun _ hk => hk.2) (.slice o2 j6.length o5)) (fun _ hk => trivial)), wz HB.out⟩
 ·rw [if_neg c4] at H;have c4b0 : (f6 == 0) = false := beq_eq_false_iff_ne.mpr c4;have c4b1 : (f6 != 0) = true := bne_iff_ne.mpr c4;simp only [Option.some.injEq, Prod.mk.injEq] at H;obtain ⟨rfl, rfl, rfl, rfl⟩ := H;go_enter Try.func94, Try.ntmps94
  go_wp2_with (first | ((with_reducible refine gate_dst (N := 2) rfl ?_); refine box_event ?hg (N := 2) ?hd (cs := #[.int .i64 a0_0, .slice A0_1 l0_1.length c0_1, .slice A0_2 l0_2.length c0_2]) (t := 25) ?hr ?_; (case hd => rfl); (case hg => rfl); (case hr => first | (go_simp; done) | (go_simp; rfl)); intro a7 hg L3 hbox hb; have b2 := Aside0.mk (below_step (wz HB.out) hb); have b3 := Aside0.mk (hbox); have b4 := Aside0.mk ((by rw [hg]; exact (below_size (wz HB.out)) : w.heap.size ≤ a7)); have b7 := Aside0.mk ((by rw [hg]; exact (below_size (wz HB.out)) : w.heap.size ≤ a7)); clear HB; have HB := b2; have a0 := b3; have x3 := b4; have x0 := b7; clear b2 b3 b4 b7; clear hb hbox hg) | ((with_reducible refine gate_dst (N := 4) rfl ?_); refine box_event ?hg (N := 4) ?hd (cs := #[.int .i64 0, .slice none 0 0, .slice none 0 0]) (t := 25) ?hr ?_; (case hd => rfl); (case hg => rfl); (case hr => first | (go_simp; done) | (go_simp; rfl)); intro b0 hg w7 hbox hb; have b2 := Aside0.mk (blk_below (bz a0.out) hb); have b3 := Aside0.mk (below_step (wz HB.out) hb); have b4 := Aside0.mk (hbox); have b7 := Aside0.mk ((by rw [hg]; exact (below_size (wz HB.out)) : w.heap.size ≤ b0)); have b9 := Aside0.mk ((by rw [hg]; exact (below_size (wz HB.out)) : w.heap.size ≤ b0)); have d3 := Aside0.mk ((by rw [hg]; exact Nat.ne_of_lt (blk_lt (g := a7) (o := .cells #[.int .i64 a0_0, .slice A0_1 l0_1.length c0_1, .slice A0_2 l0_2.length c0_2] 25 (0, 0)) (bz a0.out)) : a7 ≠ b0)); have d5 := Aside0.mk ((by rw [hg]; exact Nat.ne_of_gt (blk_lt (g := a7) (o := .cells #[.int .i64 a0_0, .slice A0_1 l0_1.length c0_1, .slice A0_2 l0_2.length c0_2] 25 (0, 0)) (bz a0.out)) : b0 ≠ a7)); clear a0; clear HB; have a0 := b2; have HB := b3; have a4 := b4; have x4 := b7; have x1 := b9; have d6 := d3; have d7 := d5; clear b2 b3 b4 b7 b9 d3 d5; clear hb hbox hg; have H9 := d6.out; have K0 := d7.out; have B0 : w7.cell? ⟨a7, 0, none⟩ = some (.int .i64 a0_0) := bcz a0 0 rfl; have B1 : w7.cell? ⟨a7, 1, none⟩ = some (.slice A0_1 l0_1.length c0_1) := bcz a0 1 rfl; have B2 : w7.cell? ⟨a7, 2, none⟩ = some (.slice A0_2 l0_2.length c0_2) := bcz a0 2 rfl; have D5 := blk_frozen a0.out 0; have D6 := blk_frozen a0.out 1; have D7 := blk_frozen a0.out 2) | ((with_reducible refine gate_callee (f := 72) rfl ?_); refine goesL_ (some 17) rfl rfl Try.func72 (by kernel_rfl) rfl #[.agg #[.int .i64 a0_0, .slice A0_1 l0_1.length c0_1, .slice A0_2 l0_2.length c0_2]] rfl (by (try simp only [List.map_toArray, List.map_cons, List.map_nil]); first | done | rfl | (simp only [List.length_drop, List.length_take]; rfl)) ?_; (with_reducible refine (Pxh.calls a0_0 _ _ l0_1 _ _ l0_2 f6 _ ?i2 ?i3 ?m7 ?m8 A3.out).mono ?_); (case i2 => exact cz g7.out HB.out); (case i3 => exact p0.out); (case m7 => exact cz i1.out HB.out); (case m8 => exact p1.out); rintro e w8 ⟨rfl, hb⟩; refine ⟨_, rfl, ?_⟩; have b2 := Aside0.mk (blk_below (bz a0.out) hb); have b3 := Aside0.mk (blk_below (bz a4.out) hb); have b4 := Aside0.mk (below_step (wz HB.out) hb); clear a0; clear a4; clear HB; have a0 := b2; have a4 := b3; have HB := b4; clear b2 b3 b4; (try clear hb); (try clear i7); (try clear hk); (try clear hi); have B3 : w8.cell? ⟨b0, 0, none⟩ = some (.int .i64 0) := bcz a4 0 rfl; have B4 : w8.cell? ⟨b0, 1, none⟩ = some (.slice none 0 0) := bcz a4 1 rfl; have B5 : w8.cell? ⟨b0, 2, none⟩ = some (.slice none 0 0) := bcz a4 2 rfl; have D8 := blk_frozen a4.out 0; have D9 := blk_frozen a4.out 1; have E0 := blk_frozen a4.out 2))
  refine bodyPost_ret (results_ct rfl _ _ b0 25 #[.int .i64 0, .slice none 0 0, .slice none 0 0] (0, 0) _ rfl (by (with_reducible repeat (first | refine blk_drewN ?_ _ | refine blk_drew ?_ | refine blk_alloc ?_ _)); refine blk_put (cs := #[.int .i64 0, .slice none 0 0, .slice none 0 0]) ?_ 2 _ rfl; (with_reducible repeat (first | refine blk_drewN ?_ _ | refine blk_drew ?_ | refine blk_alloc ?_ _)); refine blk_put (cs := #[.int .i64 0, .slice none 0 0, .slice none 0 0]) ?_ 1 _ rfl; (with_reducible repeat (first | refine blk_drewN ?_ _ | refine blk_drew ?_ | refine blk_alloc ?_ _)); refine blk_put (cs := #[.int .i64 0, .slice none 0 0, .slice none 0 0]) ?_ 0 _ rfl; (with_reducible repeat (first | refine blk_drewN ?_ _ | refine blk_drew ?_ | refine blk_alloc ?_ _)); exact a4.out) Try.underlying25 rfl (by kernel_rfl)) rfl ?_;exact ⟨_, _, by first | rfl | (simp [errW_none, errW_some] <;> rfl) | (simp [*, errW_none, errW_some] <;> rfl), by first | exact Kd.R_nil _ _ _ _ _ | exact Kd.N_nil _ _ _ _ _ | exact Kd.V_nil _ _ _ _ _ | exact Kd.Q_nil _ _ _ _ _ | exact Kd.S_nil _ _ _ _ _, by first | exact Kd.R_nil _ _ _ _ _ | exact Kd.N_nil _ _ _ _ _ | exact Kd.V_nil _ _ _ _ _ | exact Kd.Q_nil _ _ _ _ _ | exact Kd.S_nil _ _ _ _ _, wz HB.out⟩
def relabel_Hide_1.f (k : Nat) (a0 : ByteArray) (l1 : List ByteArray) : Option (ByteArray × Bool) := (Pxg.f k l1 a0).bind fun t133 => (some (a0, decide (t133 < 0)))
theorem relabel_Hide_1.mono : ∀ a0 a1 k, LeO (relabel_Hide_1.f k a0 a1) (relabel_Hide_1.f (k + 1) a0 a1) := by
 intro a0 a1 k
 unfold relabel_Hide_1.f
 repeat' first
   | (with_reducible exact Pxg.mono _ _ _)
   | (with_reducible exact LeO.refl _)
   | (with_reducible exact LeO.none _)
   | (with_reducible refine LeO.ite ?_ ?_)
   | (with_reducible refine LeO.bind ?_ (fun _ => ?_))
   | exact Pxg.mono _ _ _
   | exact LeO.none _
   | refine LeO.ite ?_ ?_
   | refine LeO.bind ?_ (fun _ => ?_)
set_option maxHeartbeats 8000000 in
set_option maxRecDepth 100000 in
theorem relabel_Hide_1.calls (k : Nat) (a0 : ByteArray) (A1 : Option Addr) (c1 : Nat) (l1 : List ByteArray) (r1 : ByteArray) (r2 : Bool) (gc_ : Nat) (w : World) (hcap_ : w.cell? ⟨gc_, 0, none⟩ = some (.slice A1 l1.length c1)) (hr1 : Kd.C Kd.string w A1 l1.length l1) (hc1 : l1.length ≤ c1) (h : relabel_Hide_1.f k a0 l1 = some (r1, r2)) :
  Calls Try.prog 96 #[.string a0, .pointer (some ⟨gc_, 0, none⟩)] w fun e w' => e = .returned (.tuple #[.string r1, .bool r2]) ∧ Drawn0 w w' := by
 have HR1 := Aside0.mk hr1;have HC1 := Aside0.mk hc1;clear hr1 hc1;have H : ((Pxg.f k l1 a0).bind fun t133 => (some (a0, decide (t133 < 0)))) = some (r1, r2) := h;clear h;replace H := Option.bind_eq_some_iff.mp H;obtain ⟨t133, A30, H⟩ := H;replace H : (some (a0, decide (t133 < 0))) = some (r1, r2) := H;have A3 := Aside0.mk A30;clear A30;simp only [Option.some.injEq, Prod.mk.injEq] at H;obtain ⟨rfl, rfl⟩ := H;go_enter Try.func96, Try.ntmps96
 go_wp2_with (first | ((with_reducible refine gate_callee (f := 97) rfl ?_); refine goesL_ (some 8) rfl rfl Try.func97 (by kernel_rfl) rfl #[.slice A1 l1.length c1, .string a0] rfl (by (try simp only [List.map_toArray, List.map_cons, List.map_nil]); first | done | rfl | (simp only [List.length_drop, List.length_take]; rfl)) ?_; (with_reducible refine (Pxg.calls k _ _ l1 a0 t133 _ ?side1 ?side2 A3.out).mono ?_); (case side1 => repeat (first | exact HR1.out | (with_reducible refine Kd.C_alloc ?_ _) | (with_reducible refine Kd.C_drewN ?_ _) | (with_reducible refine Kd.C_drew ?_))); (case side2 => exact HC1.out); rintro e w' ⟨rfl, ⟨nd, rfl⟩⟩; refine ⟨_, rfl, ?_⟩))
 go_ret2
 exact ⟨by first | rfl | (simp; done) | (simp [*]; done), by repeat (first | exact Drawn0.refl _ | apply Drawn0.step)⟩
def relabel_Keep_1.f (k : Nat) (a0 : ByteArray) (l1 : List ByteArray) : Option (ByteArray × Bool) := (Pxg.f k l1 a0).bind fun t134 => (some (a0, decide (t134 ≥ 0)))
theorem relabel_Keep_1.mono : ∀ a0 a1 k, LeO (relabel_Keep_1.f k a0 a1) (relabel_Keep_1.f (k + 1) a0 a1) := by
 intro a0 a1 k
 unfold relabel_Keep_1.f
 repeat' first
   | (with_reducible exact Pxg.mono _ _ _)
   | (with_reducible exact LeO.refl _)
   | (with_reducible exact LeO.none _)
   | (with_reducible refine LeO.ite ?_ ?_)
   | (with_reducible refine LeO.bind ?_ (fun _ => ?_))
   | exact Pxg.mono _ _ _
   | exact LeO.none _
   | refine LeO.ite ?_ ?_
   | refine LeO.bind ?_ (fun _ => ?_)
set_option maxHeartbeats 8000000 in
set_option maxRecDepth 100000 in
theorem relabel_Keep_1.calls (k : Nat) (a0 : ByteArray) (A1 : Option Addr) (c1 : Nat) (l1 : List ByteArray) (r1 : ByteArray) (r2 : Bool) (gc_ : Nat) (w : World) (hcap_ : w.cell? ⟨gc_, 0, none⟩ = some (.slice A1 l1.length c1)) (hr1 : Kd.C Kd.string w A1 l1.length l1) (hc1 : l1.length ≤ c1) (h : relabel_Keep_1.f k a0 l1 = some (r1, r2)) :
  Calls Try.prog 98 #[.string a0, .pointer (some ⟨gc_, 0, none⟩)] w fun e w' => e = .returned (.tuple #[.string r1, .bool r2]) ∧ Drawn0 w w' := by
 have HR1 := Aside0.mk hr1;have HC1 := Aside0.mk hc1;clear hr1 hc1;have H : ((Pxg.f k l1 a0).bind fun t134 => (some (a0, decide (t134 ≥ 0)))) = some (r1, r2) := h;clear h;replace H := Option.bind_eq_some_iff.mp H;obtain ⟨t134, A30, H⟩ := H;replace H : (some (a0, decide (t134 ≥ 0))) = some (r1, r2) := H;have A3 := Aside0.mk A30;clear A30;simp only [Option.some.injEq, Prod.mk.injEq] at H;obtain ⟨rfl, rfl⟩ := H;go_enter Try.func98, Try.ntmps98
 go_wp2_with (first | ((with_reducible refine gate_callee (f := 97) rfl ?_); refine goesL_ (some 8) rfl rfl Try.func97 (by kernel_rfl) rfl #[.slice A1 l1.length c1, .string a0] rfl (by (try simp only [List.map_toArray, List.map_cons, List.map_nil]); first | done | rfl | (simp only [List.length_drop, List.length_take]; rfl)) ?_; (with_reducible refine (Pxg.calls k _ _ l1 a0 t134 _ ?side1 ?side2 A3.out).mono ?_); (case side1 => repeat (first | exact HR1.out | (with_reducible refine Kd.C_alloc ?_ _) | (with_reducible refine Kd.C_drewN ?_ _) | (with_reducible refine Kd.C_drew ?_))); (case side2 => exact HC1.out); rintro e w' ⟨rfl, ⟨nd, rfl⟩⟩; refine ⟨_, rfl, ?_⟩))
 go_ret2
 exact ⟨by first | rfl | (simp; done) | (simp [*]; done), by repeat (first | exact Drawn0.refl _ | apply Drawn0.step)⟩
end Go.Proofs.Ytmcbkmfpmcbdpaa.Pr
set_option linter.unusedVariables false
set_option linter.unusedSimpArgs false
namespace Go.Proofs.Ytmcbkmfpmcbdpaa.H
open Go.RowKit Go.Proofs.Ytmcbkmfpmcbdpaa.Pr Go.Proofs.YtmcbkmfpmcbdpaaW.PrintWords Go.Proofs.Ytmcbkmfpmcbdpaa.Sem Go.Proofs.Ytmcbkmfpmcbdpaa.PL
def labN (ls : List ByteArray) (i : Int) : ByteArray := ls.getD i.toNat ByteArray.empty
def keptL (g : ByteArray → ByteArray × Bool) (ls : List ByteArray) : List ByteArray := ls.flatMap fun s => if (g s).2 then [(g s).1] else []
def keptE (g : ByteArray → ByteArray × Bool) (ls U : List ByteArray) (es : List Ed) : List Ed := es.flatMap fun e => if (g (labN ls e.f1)).2 then [⟨e.f0, plc U (g (labN ls e.f1)).1, e.f2⟩] else []
def turnU (g : ByteArray → ByteArray × Bool) (ls : List ByteArray) : List ByteArray := uniS (keptL g ls)
def turnE (g : ByteArray → ByteArray × Bool) (ls : List ByteArray) (es : List Ed) : List Ed := sortE (keptE g ls (turnU g ls) es)
def turnP (n : Int) (ls : List ByteArray) (es : List Ed) (g : ByteArray → ByteArray × Bool) : Int × List ByteArray × List Ed × Int :=
 if mayR n ls es = true then (if mayR n (turnU g ls) (turnE g ls es) = true then (n, turnU g ls, turnE g ls es, 0) else (0, [], [], 1)) else (0, [], [], 1)
theorem flat1 {α β : Type} (f : α → List β) (h : ∀ a, (f a).length ≤ 1) : ∀ l : List α, (l.flatMap f).length ≤ l.length
 | [] => by rw [List.flatMap_nil]; exact Nat.le_refl 0
 | a :: r => by
  have h1 := h a
  have h2 := flat1 f h r
  rw [List.flatMap_cons, List.length_append, List.length_cons]
  omega
theorem keptL_len (g : ByteArray → ByteArray × Bool) (ls : List ByteArray) : (keptL g ls).length ≤ ls.length := flat1 _ (fun a => by split <;> simp) ls
theorem keptE_len (g : ByteArray → ByteArray × Bool) (ls U : List ByteArray) (es : List Ed) : (keptE g ls U es).length ≤ es.length := flat1 _ (fun a => by split <;> simp) es
theorem turnU_len (g : ByteArray → ByteArray × Bool) (ls : List ByteArray) : (turnU g ls).length ≤ ls.length := Nat.le_trans (uniS_len _) (keptL_len g ls)
theorem rdL (ls : List ByteArray) (i : Int) : rdOf ByteArray.empty ls i = labN ls i := rfl
section
variable {n : Int} {ls : List ByteArray} {es : List Ed} {g : ByteArray → ByteArray × Bool}
theorem t1_ev {U : List ByteArray} {R : Int × List ByteArray × List Ed × Int} (m : mayR n ls es = true) (hU : U.length ≤ 1000000) (hR : Pxi.f n U (keptE g ls U es) = some R) : ∀ d i : Nat, i + d = es.length → Ev (fun k => Pxd.l1 k g es (es.length : Int) (i : Int) n ls es n U (keptE g ls U (es.take i))) R := by
 have he := may_edge m;have hel := lt_len m;intro d
 induction d with
 | zero =>
  intro i h;rw [List.take_of_length_le (by omega)];refine Ev.step (fun k => Pxd.l1.eq_2 ..) (Ev.neg (by omega) (Ev.bindS hR (Ev.now _)))
 | succ d ih =>
  intro i h;have hi : i < es.length := by omega
  have hb := he es[i] (List.getElem_mem hi);have ih' := ih (i + 1) (by omega);have hl := keptE_len g ls U (es.take i);rw [List.length_take] at hl;rw [take_snoc' hi] at ih'
  have hk : keptE g ls U (es.take i ++ [es[i]]) = keptE g ls U (es.take i) ++ (if (g (labN ls es[i].f1)).2 then [⟨es[i].f0, plc U (g (labN ls es[i].f1)).1, es[i].f2⟩] else []) := by
   unfold keptE;rw [List.flatMap_append, List.flatMap_singleton]
  rw [hk] at ih';refine Ev.step (fun k => Pxd.l1.eq_2 ..) (Ev.pos (by omega) (Ev.pos (by omega) (Ev.pos (by omega) ?_)));rw [rdE es hi, rdL];refine Ev.pos hb.2.2.1 (Ev.pos hb.2.2.2 (Ev.bindS (show fate.f 0 (labN ls es[i].f1) g = some (g (labN ls es[i].f1)) from rfl) ?_));by_cases q : (g (labN ls es[i].f1)).2 = true
  ·rw [if_pos q] at ih';refine Ev.pos q (Ev.bind (nplace_ev U _ hU) (Ev.pos (by omega) ?_));rw [w1n (by omega)];exact ih'
  ·rw [if_neg q, List.append_nil] at ih';refine Ev.neg q ?_;rw [w1n (by omega)];exact ih'
theorem t0_ev {R : Int × List ByteArray × List Ed × Int} (m : mayR n ls es = true) (hR : Pxi.f n (turnU g ls) (keptE g ls (turnU g ls) es) = some R) : ∀ d i : Nat, i + d = ls.length → Ev (fun k => Pxd.l0 k g ls (ls.length : Int) (i : Int) n ls es n (keptL g (ls.take i))) R := by
 have hls := (may_lab m).1;intro d
 induction d with
 | zero =>
  intro i h;rw [List.take_of_length_le (by omega)];have hl := keptL_len g ls
  have hu : Pxf.f (keptL g ls) [] = some (turnU g ls) := by
   unfold Pxf.f;rw [if_pos (by simp; omega), List.append_nil];rfl
  have := t1_ev (g := g) (U := turnU g ls) m (by have := turnU_len g ls; omega) hR es.length 0 (by omega);exact Ev.step (fun k => Pxd.l0.eq_2 ..) (Ev.neg (by omega) (Ev.bindS hu this))
 | succ d ih =>
  intro i h;have hi : i < ls.length := by omega
  have ih' := ih (i + 1) (by omega);have hl := keptL_len g (ls.take i);rw [List.length_take] at hl;rw [take_snoc' hi] at ih'
  have hk : keptL g (ls.take i ++ [ls[i]]) = keptL g (ls.take i) ++ (if (g ls[i]).2 then [(g ls[i]).1] else []) := by
   unfold keptL;rw [List.flatMap_append, List.flatMap_singleton]
  rw [hk] at ih';refine Ev.step (fun k => Pxd.l0.eq_2 ..) (Ev.pos (by omega) (Ev.pos (by omega) (Ev.pos (by omega) ?_)));rw [rdS ls hi];refine Ev.bindS (show fate.f 0 ls[i] g = some (g ls[i]) from rfl) ?_;by_cases q : (g ls[i]).2 = true
  ·rw [if_pos q] at ih';refine Ev.pos q (Ev.pos (by omega) ?_);rw [w1n (by omega)];exact ih'
  ·rw [if_neg q, List.append_nil] at ih';refine Ev.neg q ?_;rw [w1n (by omega)];exact ih'
end
theorem turn_ev (n : Int) (ls : List ByteArray) (es : List Ed) (g : ByteArray → ByteArray × Bool) : Ev (fun k => Pxd.f k n ls es g) (turnP n ls es g) := by
 unfold turnP
 by_cases m : mayR n ls es = true
 ·rw [if_pos m]
  have c1 : Pxh.f n ls es = some 0 := by unfold Pxh.f; rw [m]; rfl
  refine Ev.bindS c1 (Ev.pos rfl ?_)
  refine t0_ev m ?_ ls.length 0 (by omega)
  have h1 := keptE_len g ls (turnU g ls) es
  have h2 := turnU_len g ls
  have h3 := (may_lab m).1
  have h4 := lt_len m
  unfold Pxi.f
  rw [if_pos ⟨by omega, by omega⟩]
  rfl
 ·rw [if_neg m]
  have c1 : Pxh.f n ls es = some 1 := by unfold Pxh.f; rw [Bool.eq_false_iff.2 m]; rfl
  exact Ev.bindS c1 (Ev.neg (by decide) (Ev.now _))
def freshP : List S55 → ByteArray → ByteArray
 | [], s => s
 | p :: r, s => if p.f0 = s then p.f1 else freshP r s
def gRename (ps : List S55) (s : ByteArray) : ByteArray × Bool := (freshP ps s, true)
def gHide (h : List ByteArray) (s : ByteArray) : ByteArray × Bool := (s, decide (plc h s < 0))
def gKeep (h : List ByteArray) (s : ByteArray) : ByteArray × Bool := (s, decide (plc h s ≥ 0))
theorem rename1_ev (ps : List S55) (s : ByteArray) (hl : ps.length ≤ 1000000) : Ev (fun k => relabel_Rename_1.f k s ps) (gRename ps s) := by
 have key : ∀ d i : Nat, i + d = ps.length → Ev (fun k => relabel_Rename_1.l0 k s ps (ps.length : Int) (i : Int)) (freshP (ps.drop i) s, true) := by
  intro d
  induction d with
  | zero =>
   intro i h
   rw [List.drop_of_length_le (by omega)]
   exact Ev.step (fun k => relabel_Rename_1.l0.eq_2 ..) (Ev.neg (by omega) (Ev.now _))
  | succ d ih =>
   intro i h
   have hi : i < ps.length := by omega
   refine Ev.step (fun k => relabel_Rename_1.l0.eq_2 ..) (Ev.pos (by omega) (Ev.pos (by omega) (Ev.pos (by omega) ?_)))
   rw [show rd_T55 ps (i : Int) = ps[i] by unfold rd_T55; rw [Int.toNat_natCast, getD_get hi], List.drop_eq_getElem_cons hi, freshP]
   by_cases q : ps[i].f0 = s
   ·rw [if_pos q]
    exact Ev.pos (toList_eq.2 q) (Ev.now _)
   ·rw [if_neg q]
    refine Ev.neg (fun h => q (toList_eq.1 h)) ?_
    rw [w1n (by omega)]
    exact ih (i + 1) (by omega)
 exact key ps.length 0 (by omega)
theorem hide1_ev (h : List ByteArray) (s : ByteArray) (hl : h.length ≤ 1000000) : Ev (fun k => relabel_Hide_1.f k s h) (gHide h s) := Ev.bind (nplace_ev h s hl) (Ev.now _)
theorem keep1_ev (h : List ByteArray) (s : ByteArray) (hl : h.length ≤ 1000000) : Ev (fun k => relabel_Keep_1.f k s h) (gKeep h s) := Ev.bind (nplace_ev h s hl) (Ev.now _)
end Go.Proofs.Ytmcbkmfpmcbdpaa.H
set_option linter.unusedVariables false
set_option linter.unusedSimpArgs false
namespace Go.Proofs.Ytmcbkmfpmcbdpaa.H
open Go.RowKit Go.Proofs.Ytmcbkmfpmcbdpaa.Pr Go.Proofs.YtmcbkmfpmcbdpaaW.PrintWords Go.Proofs.Ytmcbkmfpmcbdpaa.Sem Go.Proofs.YtmcbkmfpmcbdpaaW.PrintLast
def outE (es : List Ed) (i : Int) : List Ed := es.filter fun e => decide (e.f0 = i)
def answers (S : Int → Int → Bool) (turned : Bool) (e f : Ed) : Bool := (e.f1 == f.f1) && (if turned then S f.f2 e.f2 else S e.f2 f.f2)
def followsB (es : List Ed) (S : Int → Int → Bool) (turned : Bool) (a b : Int) : Bool :=
 (outE es (if turned then b else a)).all fun e => (outE es (if turned then a else b)).any fun f => answers S turned e f
theorem all_no {α : Type} (d : α) {p : α → Bool} {xs : List α} {k : Nat} (hk : k < xs.length) (h : p (xs.getD k d) = false) : xs.all p = false := by
 rw [Bool.eq_false_iff]
 intro he
 have := List.all_eq_true.1 he (xs.getD k d) (by rw [List.getD_eq_getElem?_getD, List.getElem?_eq_getElem hk]; exact List.getElem_mem hk)
 rw [h] at this
 cases this
theorem all_yes {α : Type} (d : α) {p : α → Bool} {xs : List α} {k : Nat} (hk : ¬ k < xs.length) (h : ∀ j, j < k → p (xs.getD j d) = true) : xs.all p = true := by
 rw [List.all_eq_true]
 intro x hx
 obtain ⟨j, hj, rfl⟩ := List.getElem_of_mem hx
 have := h j (by omega)
 rwa [List.getD_eq_getElem?_getD, List.getElem?_eq_getElem hj] at this
end Go.Proofs.Ytmcbkmfpmcbdpaa.H
set_option linter.unusedVariables false
set_option linter.unusedSimpArgs false
namespace Go.Proofs.Ytmcbkmfpmcbdpaa.H
open Go.RowKit Go.Proofs.Ytmcbkmfpmcbdpaa.Pr Go.Proofs.YtmcbkmfpmcbdpaaW.PrintWords Go.Proofs.Ytmcbkmfpmcbdpaa.Sem Go.Proofs.YtmcbkmfpmcbdpaaW.PrintLast
def light26 (n : Int) (ls : List ByteArray) (es : List Ed) : Bool :=
 (ls.take 70).all (fun s => decide (s.size ≤ 300)) && (decide (ls.length < 70) && (decide (es.length ≤ 200) && (decide (n ≤ 60) || decide (2048 < n))))
theorem take_getD {α : Type} (d : α) {xs : List α} {k m : Nat} (hk : k < m) : (xs.take m).getD k d = xs.getD k d := by
 simp [List.getD_eq_getElem?_getD, List.getElem?_take, hk]
set_option maxRecDepth 100000 in
theorem light26_any (n : Int) (ls : List ByteArray) (es : List Ed) (A1 A2 : Option Addr) (c1 c2 : Nat) (w : World) (hr1 : Kd.C Kd.string w A1 ls.length ls) (hl2 : es.length ≤ 9223372036854775807) :
  Calls Try.prog 66 #[.agg #[.int .i64 n, .slice A1 ls.length c1, .slice A2 es.length c2]] w fun e w' => e = .returned (.bool (light26 n ls es)) ∧ Below w.heap.size w w' := by
 have a5 := C_len hr1;have a3 := Aside0.mk hr1;clear hr1;have a2 := Aside0.mk (Below.refl w.heap.size w);go_enter Try.func66, Try.ntmps66
 go_wp2
 go_loopw [3] (fun i wr => ∃ k : Nat, k ≤ ls.length ∧ k ≤ 70 ∧ i = .int .i64 k ∧ Aside0 (∀ j, j < k → decide ((ls.getD j ByteArray.empty).size ≤ 300) = true) ∧ Aside0 (BoxL wr w.heap.size n (.slice A1 ls.length c1) (.slice A2 es.length c2)) ∧ Aside0 (Below w.heap.size w wr)) (fun i _ => ls.length - (intOf i).toNat)
 case atStart => exact ⟨0, Nat.zero_le _, by omega, rfl, ⟨fun j hj => by omega⟩, ⟨blk_new w _⟩, ⟨below_alloc a2.out _⟩⟩
 case round =>
  obtain ⟨k, hk, a4, rfl, hz, HXr, HBr⟩ := hrel;have b1 := HXr.out.c1;by_cases hlt : k < ls.length ∧ k < 70
  ·obtain ⟨a0, a1⟩ := hlt;obtain ⟨ad, hA, g0⟩ := atS a3.out k a0;subst hA;replace g0 := later HBr.out g0;obtain ⟨s, hs⟩ : ∃ s, s = ls.getD k ByteArray.empty := ⟨_, rfl⟩
   rw [← hs] at g0;have hs' := Aside0.mk hs; clear hs
   by_cases hL : (300 : Int) < (s.size : Int)
   ·have HBad := Aside0.mk (show light26 n ls es = false by
     unfold light26;rw [all_no ByteArray.empty (k := k) (by rw [List.length_take]; omega) (by rw [take_getD _ a1, ← hs'.out]; exact decide_eq_false (by omega))];rfl)
    go_wp2
    go_ret
    exact ⟨ret_bool HBad.out.symm, HBr.out⟩
   ·have HOk := Aside0.mk (show decide (s.size ≤ 300) = true from decide_eq_true (by omega));go_wp2
    go_roundw
    case rel => exact ⟨k + 1, by omega, by omega, by go_num, ⟨fun j hj => by
     rcases Nat.lt_succ_iff_lt_or_eq.1 hj with h | rfl
     ·exact hz.out j h
     ·rw [← hs'.out]; exact HOk.out⟩, HXr, HBr⟩
    case measure => simp [intOf]; omega
  ·have HAll := Aside0.mk (show (ls.take 70).all (fun s => decide (s.size ≤ 300)) = true from
    all_yes ByteArray.empty (k := k) (by rw [List.length_take]; omega) (fun j hj => by rw [take_getD _ (by omega)]; exact hz.out j hj))
   have b0 := HXr.out.c0;have b2 := HXr.out.c2;have e0 : light26 n ls es = (decide (ls.length < 70) && (decide (es.length ≤ 200) && (decide (n ≤ 60) || decide (2048 < n)))) := by unfold light26; rw [HAll.out, Bool.true_and]
   have E0 := Aside0.mk e0;clear e0;by_cases q0 : (k : Int) < (ls.length : Int)
   ·have q1 : ¬ (k : Int) < 70 := by omega
    have q2 : ¬ (ls.length : Int) < 70 := by omega
    have HF := Aside0.mk (show (decide (ls.length < 70) && (decide (es.length ≤ 200) && (decide (n ≤ 60) || decide (2048 < n)))) = false by rw [decide_eq_false (by omega)]; rfl);go_wp2
    go_ret
    exact ⟨ret_bool (E0.out.trans HF.out).symm, HBr.out⟩
   ·by_cases q2 : (ls.length : Int) < 70
    ·by_cases q3 : (es.length : Int) ≤ 200
     ·by_cases q4 : n ≤ 60
      ·have HF := Aside0.mk (show (decide (ls.length < 70) && (decide (es.length ≤ 200) && (decide (n ≤ 60) || decide (2048 < n)))) = true by rw [decide_eq_true (by omega), decide_eq_true (by omega), decide_eq_true q4]; rfl);go_wp2
       go_ret
       exact ⟨ret_bool (E0.out.trans HF.out).symm, HBr.out⟩
      ·have HF := Aside0.mk (show (decide (ls.length < 70) && (decide (es.length ≤ 200) && (decide (n ≤ 60) || decide (2048 < n)))) = decide (2048 < n) by rw [decide_eq_true (by omega), decide_eq_true (by omega), decide_eq_false q4]; rfl);go_wp2
       go_ret
       exact ⟨ret_bool (E0.out.trans HF.out).symm, HBr.out⟩
     ·have HF := Aside0.mk (show (decide (ls.length < 70) && (decide (es.length ≤ 200) && (decide (n ≤ 60) || decide (2048 < n)))) = false by rw [decide_eq_true (by omega), decide_eq_false (by omega)]; rfl);go_wp2
      go_ret
      exact ⟨ret_bool (E0.out.trans HF.out).symm, HBr.out⟩
    ·have HF := Aside0.mk (show (decide (ls.length < 70) && (decide (es.length ≤ 200) && (decide (n ≤ 60) || decide (2048 < n)))) = false by rw [decide_eq_false (by omega)]; rfl);go_wp2
     go_ret
     exact ⟨ret_bool (E0.out.trans HF.out).symm, HBr.out⟩
def light33 (n : Int) (ls : List ByteArray) (es : List Ed) : Bool :=
 light26 n ls es && ((decide (n ≤ 16) || decide (2048 < n)) && (decide (es.length ≤ 60) && decide (ls.length ≤ 8)))
theorem light33_any (n : Int) (ls : List ByteArray) (es : List Ed) (A1 A2 : Option Addr) (c1 c2 : Nat) (w : World) (hr1 : Kd.C Kd.string w A1 ls.length ls) (hl2 : es.length ≤ 9223372036854775807) :
  Calls Try.prog 15 #[.agg #[.int .i64 n, .slice A1 ls.length c1, .slice A2 es.length c2]] w fun e w' => e = .returned (.bool (light33 n ls es)) ∧ Below w.heap.size w w' := by
 have HC : ∀ W, Below w.heap.size w W → Calls Try.prog 66 #[.agg #[.int .i64 n, .slice A1 ls.length c1, .slice A2 es.length c2]] W fun e w' => e = .returned (.bool (light26 n ls es)) ∧ Below W.heap.size W w' := fun W hW =>
  light26_any n ls es A1 A2 c1 c2 W (Kd.C_below hr1 hW) hl2
 have HC' := Lib.hid HC;clear HC;have a2 := C_len hr1;clear hr1;have a0 := Aside0.mk (Below.refl w.heap.size w);obtain ⟨r, hr⟩ : ∃ r, r = light33 n ls es := ⟨_, rfl⟩
 rw [← hr];unfold light33 at hr
 cases q : light26 n ls es with
 | false =>
  rw [q] at hr HC';have HR := Aside0.mk hr;clear q hr;go_enter Try.func15, Try.ntmps15
  go_wp2_with fail
  refine (HC'.out _ (below_alloc a0.out _)).mono ?_;rintro e w1 ⟨rfl, hB⟩;have a1 := Aside0.mk (below_then (below_alloc a0.out _) (by simp) hB);clear hB;go_wp2
  go_ret
  exact ⟨ret_bool HR.out.symm, a1.out⟩
 | true =>
  rw [q, Bool.true_and] at hr;rw [q] at HC';clear q;by_cases q0 : n ≤ 16
  ·by_cases q1 : (es.length : Int) ≤ 60
   ·have HR := Aside0.mk (show decide (ls.length ≤ 8) = r by rw [hr, decide_eq_true q0, decide_eq_true (show es.length ≤ 60 by omega)]; rfl);clear hr;go_enter Try.func15, Try.ntmps15
    go_wp2_with fail
    refine (HC'.out _ (below_alloc a0.out _)).mono ?_;rintro e w1 ⟨rfl, hB⟩;have a1 := Aside0.mk (below_then (below_alloc a0.out _) (by simp) hB);have hX : BoxL w1 w.heap.size n (.slice A1 ls.length c1) (.slice A2 es.length c2) := blk_below (blk_new w _) hB;have b0 := hX.c0;have b1 := hX.c1;have b2 := hX.c2;clear hB hX;go_wp2
    go_ret
    exact ⟨ret_bool (by rw [← HR.out]; apply decide_eq_decide.2; omega), a1.out⟩
   ·have HR := Aside0.mk (show r = false by rw [hr, decide_eq_false (show ¬ es.length ≤ 60 by omega)]; simp);clear hr;go_enter Try.func15, Try.ntmps15
    go_wp2_with fail
    refine (HC'.out _ (below_alloc a0.out _)).mono ?_;rintro e w1 ⟨rfl, hB⟩;have a1 := Aside0.mk (below_then (below_alloc a0.out _) (by simp) hB);have hX : BoxL w1 w.heap.size n (.slice A1 ls.length c1) (.slice A2 es.length c2) := blk_below (blk_new w _) hB;have b0 := hX.c0;have b1 := hX.c1;have b2 := hX.c2;clear hB hX;go_wp2
    go_ret
    exact ⟨ret_bool HR.out.symm, a1.out⟩
  ·by_cases q2 : 2048 < n
   ·by_cases q1 : (es.length : Int) ≤ 60
    ·have HR := Aside0.mk (show decide (ls.length ≤ 8) = r by rw [hr, decide_eq_false q0, decide_eq_true q2, decide_eq_true (show es.length ≤ 60 by omega)]; rfl);clear hr;go_enter Try.func15, Try.ntmps15
     go_wp2_with fail
     refine (HC'.out _ (below_alloc a0.out _)).mono ?_;rintro e w1 ⟨rfl, hB⟩;have a1 := Aside0.mk (below_then (below_alloc a0.out _) (by simp) hB);have hX : BoxL w1 w.heap.size n (.slice A1 ls.length c1) (.slice A2 es.length c2) := blk_below (blk_new w _) hB;have b0 := hX.c0;have b1 := hX.c1;have b2 := hX.c2;clear hB hX;go_wp2
     go_ret
     exact ⟨ret_bool (by rw [← HR.out]; apply decide_eq_decide.2; omega), a1.out⟩
    ·have HR := Aside0.mk (show r = false by rw [hr, decide_eq_false (show ¬ es.length ≤ 60 by omega)]; simp);clear hr;go_enter Try.func15, Try.ntmps15
     go_wp2_with fail
     refine (HC'.out _ (below_alloc a0.out _)).mono ?_;rintro e w1 ⟨rfl, hB⟩;have a1 := Aside0.mk (below_then (below_alloc a0.out _) (by simp) hB);have hX : BoxL w1 w.heap.size n (.slice A1 ls.length c1) (.slice A2 es.length c2) := blk_below (blk_new w _) hB;have b0 := hX.c0;have b1 := hX.c1;have b2 := hX.c2;clear hB hX;go_wp2
     go_ret
     exact ⟨ret_bool HR.out.symm, a1.out⟩
   ·have HR := Aside0.mk (show r = false by rw [hr, decide_eq_false q0, decide_eq_false q2]; simp);clear hr;go_enter Try.func15, Try.ntmps15
    go_wp2_with fail
    refine (HC'.out _ (below_alloc a0.out _)).mono ?_;rintro e w1 ⟨rfl, hB⟩;have a1 := Aside0.mk (below_then (below_alloc a0.out _) (by simp) hB);have hX : BoxL w1 w.heap.size n (.slice A1 ls.length c1) (.slice A2 es.length c2) := blk_below (blk_new w _) hB;have b0 := hX.c0;have b1 := hX.c1;have b2 := hX.c2;clear hB hX;go_wp2
    go_ret
    exact ⟨ret_bool HR.out.symm, a1.out⟩
end Go.Proofs.Ytmcbkmfpmcbdpaa.H
set_option linter.unusedVariables false
set_option linter.unusedSimpArgs false
namespace Go.Proofs.Ytmcbkmfpmcbdpaa.H
open Go.RowKit Go.Proofs.Ytmcbkmfpmcbdpaa.Pr Go.Proofs.YtmcbkmfpmcbdpaaW.PrintWords Go.Proofs.Ytmcbkmfpmcbdpaa.Sem
theorem pair_eq {x y : Pair} : x = y ↔ x.f0 = y.f0 ∧ x.f1 = y.f1 := by
 obtain ⟨a, b⟩ := x
 obtain ⟨c, d⟩ := y
 simp
instance : DecidableEq Pair := fun x y => decidable_of_iff _ (pair_eq (x := x) (y := y)).symm
end Go.Proofs.Ytmcbkmfpmcbdpaa.H
set_option linter.unusedVariables false
set_option linter.unusedSimpArgs false
namespace Go.Proofs.Ytmcbkmfpmcbdpaa.H
open Go.RowKit Go.Proofs.Ytmcbkmfpmcbdpaa.Pr Go.Proofs.YtmcbkmfpmcbdpaaW.PrintWords Go.Proofs.Ytmcbkmfpmcbdpaa.Sem Go.Proofs.YtmcbkmfpmcbdpaaW.PrintLast
def bothB (es : List Ed) (S : Int → Int → Bool) (p : Pair) : Bool := followsB es S false p.f0 p.f1 && followsB es S true p.f0 p.f1
def passK (es : List Ed) : List Pair → (Int → Int → Bool) → List Pair
 | [], _ => []
 | p :: r, S => if bothB es S p then p :: passK es r S else passK es r (lessP S p.f0 p.f1)
def passS (es : List Ed) : List Pair → (Int → Int → Bool) → (Int → Int → Bool)
 | [], S => S
 | p :: r, S => if bothB es S p then passS es r S else passS es r (lessP S p.f0 p.f1)
def rounds (es : List Ed) : Nat → List Pair → (Int → Int → Bool) → List Pair
 | 0, rel, _ => rel
 | f + 1, rel, S => if (passK es rel S).length = rel.length then passK es rel S else rounds es f (passK es rel S) (passS es rel S)
end Go.Proofs.Ytmcbkmfpmcbdpaa.H
set_option linter.unusedVariables false
set_option linter.unusedSimpArgs false
namespace Go.Proofs.Ytmcbkmfpmcbdpaa.H
open Go.RowKit Go.Proofs.Ytmcbkmfpmcbdpaa.Pr Go.Proofs.YtmcbkmfpmcbdpaaW.PrintWords Go.Proofs.Ytmcbkmfpmcbdpaa.Sem
structure PSt where
  block : List Int
  blocks : List (List Int)
  heap : List Int
  heaps : List (List Int)
section
variable {n : Nat} {p : PSt}
end
section
variable {n : Nat} {p : PSt} {b : Int} {ins : List Int}
end
section
variable {n : Nat} {p : PSt} {old : Int} {a : Nat}
end
end Go.Proofs.Ytmcbkmfpmcbdpaa.H
set_option linter.unusedVariables false
set_option linter.unusedSimpArgs false
namespace Go.Proofs.Ytmcbkmfpmcbdpaa.H
open Go.RowKit Go.Proofs.Ytmcbkmfpmcbdpaa.Pr Go.Proofs.YtmcbkmfpmcbdpaaW.PrintWords Go.Proofs.Ytmcbkmfpmcbdpaa.Sem Go.Proofs.Ytmcbkmfpmcbdpaa.PL
section
variable {n : Nat} {ls : List ByteArray} {es : List Ed} {g : ByteArray → ByteArray × Bool}
end
theorem may_keep {n : Int} {ls : List ByteArray} {es : List Ed} (m : mayR n ls es = true) (p : ByteArray → Bool) : mayR n (turnU (fun s => (s, p s)) ls) (turnE (fun s => (s, p s)) ls es) = true := by
 have hin : ∀ s ∈ turnU (fun s => (s, p s)) ls, s ∈ ls := by
  intro s hs
  obtain ⟨x, hx, h2⟩ := List.mem_flatMap.1 ((uniS_mem _ s).1 hs)
  split at h2
  ·rw [List.mem_singleton] at h2
   rw [h2]; exact hx
  ·cases h2
 have hE : (turnE (fun s => (s, p s)) ls es).length ≤ es.length := Nat.le_trans (sortE_length _) (keptE_len _ ls _ es)
 refine may_of (lt_n m) (Nat.le_trans (turnU_len _ ls) (may_lab m).1) (uniS_sorted _) (fun s hs => (may_lab m).2 s (hin s hs)) (Nat.le_trans hE (lt_len m)) (sortE_sorted _) (fun e he => ?_)
 obtain ⟨x, hx, h2⟩ := List.mem_flatMap.1 ((sortE_mem _ e).1 he)
 split at h2
 ·rename_i hp
  rw [List.mem_singleton] at h2
  have hb := may_edge m x hx
  have hl : labN ls x.f1 ∈ ls := by
   unfold labN
   rw [getD_get (show x.f1.toNat < ls.length by omega)]
   exact List.getElem_mem _
  have hU : labN ls x.f1 ∈ turnU (fun s => (s, p s)) ls := (uniS_mem _ _).2 (List.mem_flatMap.2 ⟨_, hl, by rw [if_pos hp]; exact List.mem_singleton.2 rfl⟩)
  subst h2
  refine ⟨hb.1, hb.2.1, plc_nonneg.2 hU, ?_⟩
  rcases plc_lt (ls := turnU (fun s => (s, p s)) ls) (s := labN ls x.f1) with h3 | h3
  ·exact h3
  ·rw [h3] at hU; cases hU
 ·cases h2
section
variable {n : Int} {ls : List ByteArray} {es : List Ed}
end
end Go.Proofs.Ytmcbkmfpmcbdpaa.H
namespace Go.Proofs.Ytmcbkmfpmcbdpaa.Pr
open Go.RowKit Go.Proofs.YtmcbkmfpmcbdpaaW.PrintWords Go.Proofs.YtmcbkmfpmcbdpaaW.PrintLast Go.Proofs.YtmcbkmfpmcbdpaaW.PrintMore
attribute [local go_sem] max2_int min2_int max_two min_two max_three min_three max_four min_four
set_option linter.unusedVariables false
set_option linter.unusedSimpArgs false
mutual
def Pl51c.l0 : Nat → List ByteArray → Int → Option (Bool)
 | 0, _, _ => none
 | k + 1, x0, x3 => if x3 < (x0.length : Int) then (Pl51c.j1 k x0 x3 (decide (x3 < 20))) else (Pl51c.j1 k x0 x3 false)
def Pl51c.j1 : Nat → List ByteArray → Int → Bool → Option (Bool)
 | 0, _, _, _ => none
 | k + 1, x0, x3, x11 => if x11 = true then (if 0 ≤ x3 then (if x3 < (x0.length : Int) then (if ((rdOf ByteArray.empty x0 x3).size : Int) > 300 then (some false) else (Pl51c.l0 k x0 (wrap64 (x3 + 1)))) else (none)) else (none)) else (some (decide ((x0.length : Int) < 20)))
end
def Pl51c.f (k : Nat) (l0 : List ByteArray) : Option (Bool) := Pl51c.l0 k l0 0
theorem Pl51c.mono_l : ∀ k, (∀ y0 y1, LeO (Pl51c.l0 k y0 y1) (Pl51c.l0 (k + 1) y0 y1)) ∧ (∀ y0 y1 y2, LeO (Pl51c.j1 k y0 y1 y2) (Pl51c.j1 (k + 1) y0 y1 y2))
 | 0 => ⟨fun _ _ r h => by simp [Pl51c.l0] at h, fun _ _ _ r h => by simp [Pl51c.j1] at h⟩
 | k + 1 => by
  obtain ⟨ih0, ih1⟩ := Pl51c.mono_l k
  refine ⟨?_, ?_⟩
  ·intro y0 y1
   unfold Pl51c.l0
   repeat' first
   | (with_reducible exact ih0 _ _)
   | (with_reducible exact ih1 _ _ _)
   | (with_reducible exact LeO.refl _)
   | (with_reducible exact LeO.none _)
   | (with_reducible refine LeO.ite ?_ ?_)
   | (with_reducible refine LeO.bind ?_ (fun _ => ?_))
   | exact ih0 _ _
   | exact ih1 _ _ _
   | exact LeO.none _
   | refine LeO.ite ?_ ?_
   | refine LeO.bind ?_ (fun _ => ?_)
  ·intro y0 y1 y2
   unfold Pl51c.j1
   repeat' first
   | (with_reducible exact ih0 _ _)
   | (with_reducible exact ih1 _ _ _)
   | (with_reducible exact LeO.refl _)
   | (with_reducible exact LeO.none _)
   | (with_reducible refine LeO.ite ?_ ?_)
   | (with_reducible refine LeO.bind ?_ (fun _ => ?_))
   | exact ih0 _ _
   | exact ih1 _ _ _
   | exact LeO.none _
   | refine LeO.ite ?_ ?_
   | refine LeO.bind ?_ (fun _ => ?_)
theorem Pl51c.mono : ∀ a0 k, LeO (Pl51c.f k a0) (Pl51c.f (k + 1) a0) := by
 intro a0 k
 obtain ⟨ih0, ih1⟩ := Pl51c.mono_l k
 unfold Pl51c.f
 repeat' first
   | (with_reducible exact ih0 _ _)
   | (with_reducible exact ih1 _ _ _)
   | (with_reducible exact LeO.refl _)
   | (with_reducible exact LeO.none _)
   | (with_reducible refine LeO.ite ?_ ?_)
   | (with_reducible refine LeO.bind ?_ (fun _ => ?_))
   | exact ih0 _ _
   | exact ih1 _ _ _
   | exact LeO.none _
   | refine LeO.ite ?_ ?_
   | refine LeO.bind ?_ (fun _ => ?_)
set_option maxHeartbeats 8000000 in
set_option maxRecDepth 100000 in
theorem Pl51c.calls (k : Nat) (A0 : Option Addr) (c0 : Nat) (l0 : List ByteArray) (r : Bool) (w : World) (hr0 : Kd.C Kd.string w A0 l0.length l0) (hc0 : l0.length ≤ c0) (h : Pl51c.f k l0 = some r) :
  Calls Try.prog 39 #[.slice A0 l0.length c0] w fun e w' => e = .returned (.bool r) ∧ Drawn0 w w' := by
 have b0 := Aside0.mk hr0;have b2 := Aside0.mk hc0;clear hr0 hc0;have H : (Pl51c.l0 k l0 0) = some r := h;clear h;have H' := Aside0.mk H;clear H;go_enter Try.func39, Try.ntmps39
 go_wp2
 go_loopg [3] k (fun kq v3 w' => ∃ (a0 : Int), v3 = .int .i64 a0 ∧ Aside0 (Pl51c.l0 kq l0 a0 = some r) ∧ Aside0 (kq ≤ k) ∧ Drawn0 w w')
 case atStart => exact ⟨(0), (by first | rfl | (simp; done) | (simp [*]; done)), H', ⟨Nat.le_refl _⟩, by repeat (first | exact Drawn0.refl _ | apply Drawn0.step)⟩
 case round =>
  clear H';obtain ⟨a0, rfl, HA, a5, ⟨m1, rfl⟩⟩ := hrel
  cases gk with
  | zero => exact absurd HA.out (by simp [Pl51c.l0])
  | succ k1 =>
   have H := HA.out;clear HA;simp only [Pl51c.l0] at H;have a7 := Aside0.mk H;clear H;go_upto_region 2 with (fail)
   go_cut [11] (fun b1 wc => ∃ (kq : Nat) (a3 : Bool), b1 = .bool a3 ∧ Aside0 (Pl51c.j1 kq l0 a0 a3 = some r) ∧ Aside0 (kq ≤ k1) ∧ Drawn0 w wc)
   case first =>
    have H := a7.out;clear a7;by_cases c3 : a0 < (l0.length : Int)
    ·rw [if_pos c3] at H;have c3b0 : decide (a0 < (l0.length : Int)) = true := decide_eq_true c3;clear c3
     (first | rw [c3b0] | (simp only [i64_w, i32_w]; rw [c3b0]) | skip)
     have H' := Aside0.mk H;clear H;go_wp2
     go_meet
     case rel => exact ⟨_, (decide (a0 < 20)), (by first | rfl | (simp; done) | (simp [*]; done)), H', ⟨by have := a5.out; first | omega | exact Nat.le_refl _⟩, by repeat (first | exact Drawn0.refl _ | apply Drawn0.step)⟩
    ·rw [if_neg c3] at H;have c3b0 : decide (a0 < (l0.length : Int)) = false := decide_eq_false c3;clear c3
     (first | rw [c3b0] | (simp only [i64_w, i32_w]; rw [c3b0]) | skip)
     have H' := Aside0.mk H;clear H;go_wp2
     go_meet
     case rel => exact ⟨_, (false), (by first | rfl | (simp; done) | (simp [*]; done)), H', ⟨by have := a5.out; first | omega | exact Nat.le_refl _⟩, by repeat (first | exact Drawn0.refl _ | apply Drawn0.step)⟩
   case rest =>
    clear a7;(try clear c3);(try clear c3b0);obtain ⟨kq, a3, rfl, HA, a9, ⟨b3, rfl⟩⟩ := hcut
    cases kq with
    | zero => exact absurd HA.out (by simp [Pl51c.j1])
    | succ kj1 =>
     have H := HA.out;clear HA;simp only [Pl51c.j1] at H;by_cases c4 : a3 = true
     ·subst c4;have H1 : (if 0 ≤ a0 then (if a0 < (l0.length : Int) then (if ((rdOf ByteArray.empty l0 a0).size : Int) > 300 then (some false) else (Pl51c.l0 kj1 l0 (wrap64 (a0 + 1)))) else (none)) else (none)) = some r := by rw [if_pos rfl] at H; exact H
      clear H;have H := H1;clear H1;by_cases c5 : 0 ≤ a0
      ·rw [if_pos c5] at H;have c5b0 : decide (0 ≤ a0) = true := decide_eq_true c5;clear c5;by_cases c6 : a0 < (l0.length : Int)
       ·rw [if_pos c6] at H;have c6b0 : decide (a0 < (l0.length : Int)) = true := decide_eq_true c6;clear c6;by_cases c7 : ((rdOf ByteArray.empty l0 a0).size : Int) > 300
        ·rw [if_pos c7] at H;have c7b0 : decide (300 < ((rdOf ByteArray.empty l0 a0).size : Int)) = true := decide_eq_true c7;have c7b1 : decide (300 < (rdOf ByteArray.empty l0 a0).size) = true := decide_eq_true (by omega);clear c7;obtain rfl := Option.some.inj H;have a1 : 0 ≤ (a0 : Int) := of_decide_eq_true (by first | (with_reducible assumption) | assumption);have a2 : a0 < (l0.length : Int) := of_decide_eq_true (by first | (with_reducible assumption) | assumption);obtain ⟨a8, a4, a6⟩ := Kd.at_string b0.out a0 a1 a2
         cases a4;replace a1 := eq_true a1;replace a2 := eq_true a2;go_wp2
         go_ret
         exact ⟨by first | rfl | (simp; done) | (simp [*]; done), by repeat (first | exact Drawn0.refl _ | apply Drawn0.step)⟩
        ·rw [if_neg c7] at H;have c7b0 : decide (300 < ((rdOf ByteArray.empty l0 a0).size : Int)) = false := decide_eq_false c7;have c7b1 : decide (300 < (rdOf ByteArray.empty l0 a0).size) = false := decide_eq_false (by omega);clear c7;have H' := Aside0.mk H;clear H;have a1 : 0 ≤ (a0 : Int) := of_decide_eq_true (by first | (with_reducible assumption) | assumption);have a2 : a0 < (l0.length : Int) := of_decide_eq_true (by first | (with_reducible assumption) | assumption);obtain ⟨a8, a4, a6⟩ := Kd.at_string b0.out a0 a1 a2
         cases a4;replace a1 := eq_true a1;replace a2 := eq_true a2;go_wp2
         go_roundg kj1
         case measure => have := a5.out; have := a9.out; omega
         case rel => exact ⟨(wrap64 (a0 + 1)), (by first | rfl | (simp; done) | (simp [*]; done)), H', ⟨by have := a5.out; have := a9.out; omega⟩, by repeat (first | exact Drawn0.refl _ | apply Drawn0.step)⟩
       ·rw [if_neg c6] at H;exact absurd H (by simp)
      ·rw [if_neg c5] at H;exact absurd H (by simp)
     ·replace c4 := Bool.eq_false_iff.mpr c4;subst c4;have H1 : (some (decide ((l0.length : Int) < 20))) = some r := by rw [if_neg (show ¬ (false = true) by decide)] at H; exact H
      clear H;have H := H1;clear H1;obtain rfl := Option.some.inj H;go_wp2
      go_ret
      exact ⟨by first | rfl | (simp; done) | (simp [*]; done), by repeat (first | exact Drawn0.refl _ | apply Drawn0.step)⟩
end Go.Proofs.Ytmcbkmfpmcbdpaa.Pr
set_option linter.unusedVariables false
set_option linter.unusedSimpArgs false
set_option linter.unusedSectionVars false
namespace Go.Proofs.Ytmcbkmfpmcbdpaa.H
open Go.RowKit Go.Proofs.Ytmcbkmfpmcbdpaa.Pr Go.Proofs.YtmcbkmfpmcbdpaaW.PrintWords Go.Proofs.Ytmcbkmfpmcbdpaa.Sem
open Go.Maps (Keyed)
def hR (v : Value) : Option (DataW Value × List MemPlace) := some (.held v, [])
section
variable {α : Type} [DecidableEq α] {P : Program} {k : TypeId} {mk : α → Value} {lt : α → Lit} {ok : α → Prop}
def Holds (lt : α → Lit) (ok : α → Prop) (D : DataW Value) (f : α → Option Value) : Prop := ∀ a, ok a → Maps.has D (lt a) = (f a).isSome ∧ ∀ z, D.atKey (lt a) (.held z) = .held ((f a).getD z)
variable {w w1 : World} {m c r cnt : Nat} {f : α → Option Value} {left : α → Bool}
end
section
variable {α : Type} [DecidableEq α] {P : Program} {k : TypeId} {mk : α → Value} {lt : α → Lit} {ok : α → Prop} (w : World) {ops : Array Oper} {rest : List Oper} {o : Oper} {a : Act} {Q : Exit → Act → World → Prop}
end
end Go.Proofs.Ytmcbkmfpmcbdpaa.H
set_option linter.unusedVariables false
set_option linter.unusedSimpArgs false
set_option linter.unusedSectionVars false
namespace Go.Proofs.Ytmcbkmfpmcbdpaa.H
open Go.RowKit Go.Proofs.Ytmcbkmfpmcbdpaa.Pr Go.Proofs.YtmcbkmfpmcbdpaaW.PrintWords Go.Proofs.Ytmcbkmfpmcbdpaa.Sem Go.Proofs.YtmcbkmfpmcbdpaaW.PrintLast
abbrev Sl := Option Addr × Nat × Nat
inductive Cl where
  | tt | blk | hp | bs | hs | mc | mw | tab | tro
  | bro (i : Nat) | hro (i : Nat) | cmp (i : Nat) | far (j : Nat)
def Cl.own : Cl → Bool
 | .far _ => false
 | _ => true
structure Sg where
  tc : List Value
  vI : Value
  is : List Sl
  ins : List (List Ed)
  vB : Value
  block : List Int
  vBs : Value
  bs : List Sl
  bsl : List Sl
  blocks : List (List Int)
  vH : Value
  heap : List Int
  vHs : Value
  hs : List Sl
  hsl : List Sl
  heaps : List (List Int)
  mC : Nat
  fC : Int → Option Value
  cC : Nat
  cm : List Nat
  fc : Nat → Int × Int → Option Value
  cc : Nat → Nat
  mW : Nat
  fW : Int → Option Value
  cW : Nat
section
variable {base T : Nat} {w w1 : World} {cls cls' : Nat → Cl} {s s' : Sg} {c : Cl} {C : Cl → Prop}
end
end Go.Proofs.Ytmcbkmfpmcbdpaa.H
set_option linter.unusedVariables false
set_option linter.unusedSimpArgs false
set_option linter.unusedSectionVars false
namespace Go.Proofs.Ytmcbkmfpmcbdpaa.H
open Go.RowKit Go.Proofs.Ytmcbkmfpmcbdpaa.Pr Go.Proofs.YtmcbkmfpmcbdpaaW.PrintWords Go.Proofs.Ytmcbkmfpmcbdpaa.Sem Go.Proofs.YtmcbkmfpmcbdpaaW.PrintLast
structure Std (n : Nat) (v1 v2 : Value) (s : Sg) (p : PSt) : Prop where
  tc : s.tc = [.int .i64 n, v1, v2, s.vI, s.vB, s.vBs, s.vH, s.vHs, .map (some s.mC), .map (some s.mW), .int .i64 ((p.blocks.length : Int) - 1)]
  block : s.block = p.block
  heap : s.heap = p.heap
  blocks : s.blocks = p.blocks
  heaps : s.heaps = p.heaps
  bs : s.bs = s.bsl
  bl : s.bsl.length = p.blocks.length
  hs : s.hs = s.hsl
  hl : s.hsl.length = p.heaps.length
section
variable {base T n : Nat} {w w1 w2 : World} {cls cls1 cls2 : Nat → Cl} {s s' : Sg} {p : PSt} {v1 v2 : Value} {D : Nat → Prop}
theorem blk_frozen {g i : Nat} {cs : Array Value} {t : TypeId} (hb : w.heap[g]? = some (.cells cs t (0, 0))) : w.frozen? ⟨g, i, none⟩ = false := by
 unfold World.frozen?
 simp only [hb]
 simp
end
end Go.Proofs.Ytmcbkmfpmcbdpaa.H
namespace Go.Proofs.Ytmcbkmfpmcbdpaa.Pr
open Go.RowKit Go.Proofs.YtmcbkmfpmcbdpaaW.PrintWords Go.Proofs.YtmcbkmfpmcbdpaaW.PrintLast Go.Proofs.YtmcbkmfpmcbdpaaW.PrintMore
attribute [local go_sem] max2_int min2_int max_two min_two max_three min_three max_four min_four
set_option linter.unusedVariables false
set_option linter.unusedSimpArgs false
theorem eqA80 (d : Nat) (w : World) (x0 y0 : Int) (x1 y1 : Int) (x2 y2 : Int) :
  (Op.equalIn (d + 2) 80 (.agg #[.int .i64 x0, .int .i64 x1, .int .i64 x2]) (.agg #[.int .i64 y0, .int .i64 y1, .int .i64 y2])).run Try.prog w = .ok (x0 == y0 && (x1 == y1 && (x2 == y2))) w := by
 refine eqA_of Try.underlying80 (by kernel_rfl) ?_
 refine eqf_cons (by rfl) (by go_simp; rfl) (by go_simp; rfl) (by go_simp) ?_
 refine eqf_cons (by rfl) (by go_simp; rfl) (by go_simp; rfl) (by go_simp) ?_
 exact eqf_last (by rfl) (by go_simp; rfl) (by go_simp; rfl) (by go_simp)
def Pr01a.l0 : Nat → List ByteArray → List ByteArray → Int → Option (Bool)
 | 0, _, _, _ => none
 | k + 1, x0, x1, x5 => if x5 < (x0.length : Int) then (if 0 ≤ x5 then (if x5 < (x1.length : Int) then (if (rdOf ByteArray.empty x0 x5).toList = (rdOf ByteArray.empty x1 x5).toList then (Pr01a.l0 k x0 x1 (wrap64 (x5 + 1))) else (some false)) else (none)) else (none)) else (some true)
def Pr01a.f (k : Nat) (l0 : List ByteArray) (l1 : List ByteArray) : Option (Bool) := if (l0.length : Int) = (l1.length : Int) then (Pr01a.l0 k l0 l1 0) else (some false)
theorem Pr01a.mono_l : ∀ k, (∀ y0 y1 y2, LeO (Pr01a.l0 k y0 y1 y2) (Pr01a.l0 (k + 1) y0 y1 y2))
 | 0 => fun _ _ _ r h => by simp [Pr01a.l0] at h
 | k + 1 => by
  have ih0 := Pr01a.mono_l k
  ·intro y0 y1 y2
   unfold Pr01a.l0
   repeat' first
   | (with_reducible exact ih0 _ _ _)
   | (with_reducible exact LeO.refl _)
   | (with_reducible exact LeO.none _)
   | (with_reducible refine LeO.ite ?_ ?_)
   | (with_reducible refine LeO.bind ?_ (fun _ => ?_))
   | exact ih0 _ _ _
   | exact LeO.none _
   | refine LeO.ite ?_ ?_
   | refine LeO.bind ?_ (fun _ => ?_)
theorem Pr01a.mono : ∀ a0 a1 k, LeO (Pr01a.f k a0 a1) (Pr01a.f (k + 1) a0 a1) := by
 intro a0 a1 k
 have ih0 := Pr01a.mono_l k
 unfold Pr01a.f
 repeat' first
   | (with_reducible exact ih0 _ _ _)
   | (with_reducible exact LeO.refl _)
   | (with_reducible exact LeO.none _)
   | (with_reducible refine LeO.ite ?_ ?_)
   | (with_reducible refine LeO.bind ?_ (fun _ => ?_))
   | exact ih0 _ _ _
   | exact LeO.none _
   | refine LeO.ite ?_ ?_
   | refine LeO.bind ?_ (fun _ => ?_)
set_option maxHeartbeats 8000000 in
set_option maxRecDepth 100000 in
theorem Pr01a.calls (k : Nat) (A0 : Option Addr) (c0 : Nat) (l0 : List ByteArray) (A1 : Option Addr) (c1 : Nat) (l1 : List ByteArray) (r : Bool) (w : World) (hr0 : Kd.C Kd.string w A0 l0.length l0) (hc0 : l0.length ≤ c0) (hr1 : Kd.C Kd.string w A1 l1.length l1) (hc1 : l1.length ≤ c1) (h : Pr01a.f k l0 l1 = some r) :
  Calls Try.prog 28 #[.slice A0 l0.length c0, .slice A1 l1.length c1] w fun e w' => e = .returned (.bool r) ∧ Drawn0 w w' := by
 have b2 := Aside0.mk hr0;have b4 := Aside0.mk hc0;clear hr0 hc0;have b3 := Aside0.mk hr1;have b5 := Aside0.mk hc1;clear hr1 hc1;have H : (if (l0.length : Int) = (l1.length : Int) then (Pr01a.l0 k l0 l1 0) else (some false)) = some r := h;clear h;by_cases c3 : (l0.length : Int) = (l1.length : Int)
 ·rw [if_pos c3] at H;have c3b0 : ((l0.length : Int) == (l1.length : Int)) = true := beq_iff_eq.mpr c3;have c3b1 : ((l0.length : Int) != (l1.length : Int)) = false := bne_eq_false_iff_eq.mpr c3;have c3b2 : (l0.length == l1.length) = true := by first | simpa using c3 | (simp at c3 ⊢; omega)
  clear c3;have H' := Aside0.mk H;clear H;go_enter Try.func28, Try.ntmps28
  go_wp2
  repeat (go_quiet (fail); try go_wp2)
  go_loopg [5] k (fun kq v5 w' => ∃ (a0 : Int), v5 = .int .i64 a0 ∧ Aside0 (Pr01a.l0 kq l0 l1 a0 = some r) ∧ Aside0 (kq ≤ k) ∧ Drawn0 w w')
  case atStart => exact ⟨(0), (by first | rfl | (simp; done) | (simp [*]; done)), H', ⟨Nat.le_refl _⟩, by repeat (first | exact Drawn0.refl _ | apply Drawn0.step)⟩
  case round =>
   clear H';(try clear c1);(try clear c3);(try clear c3b0);(try clear c3b1);(try clear c3b2);obtain ⟨a0, rfl, HA, b1, ⟨m1, rfl⟩⟩ := hrel
   cases gk with
   | zero => exact absurd HA.out (by simp [Pr01a.l0])
   | succ k1 =>
    have H := HA.out;clear HA;simp only [Pr01a.l0] at H;by_cases c4 : a0 < (l0.length : Int)
    ·rw [if_pos c4] at H;have c4b0 : decide (a0 < (l0.length : Int)) = true := decide_eq_true c4;clear c4;by_cases c5 : 0 ≤ a0
     ·rw [if_pos c5] at H;have c5b0 : decide (0 ≤ a0) = true := decide_eq_true c5;clear c5;by_cases c6 : a0 < (l1.length : Int)
      ·rw [if_pos c6] at H;have c6b0 : decide (a0 < (l1.length : Int)) = true := decide_eq_true c6;clear c6;by_cases c7 : (rdOf ByteArray.empty l0 a0).toList = (rdOf ByteArray.empty l1 a0).toList
       ·rw [if_pos c7] at H;have c7b0 : ((rdOf ByteArray.empty l0 a0).toList == (rdOf ByteArray.empty l1 a0).toList) = true := beq_iff_eq.mpr c7;have c7b1 : ((rdOf ByteArray.empty l0 a0).toList != (rdOf ByteArray.empty l1 a0).toList) = false := bne_eq_false_iff_eq.mpr c7;clear c7;have H' := Aside0.mk H;clear H;have a1 : 0 ≤ (a0 : Int) := of_decide_eq_true (by first | (with_reducible assumption) | assumption);have a3 : a0 < (l0.length : Int) := of_decide_eq_true (by first | (with_reducible assumption) | assumption);obtain ⟨a9, a5, a7⟩ := Kd.at_string b2.out a0 a1 a3
        cases a5;replace a1 := eq_true a1;replace a3 := eq_true a3;have a2 : 0 ≤ (a0 : Int) := of_decide_eq_true (by first | (with_reducible assumption) | assumption);have a4 : a0 < (l1.length : Int) := of_decide_eq_true (by first | (with_reducible assumption) | assumption);obtain ⟨b0, a6, a8⟩ := Kd.at_string b3.out a0 a2 a4
        cases a6;replace a2 := eq_true a2;replace a4 := eq_true a4;go_wp2
        repeat (go_quiet (fail); try go_wp2)
        go_roundg k1
        case measure => have := b1.out; omega
        case rel => exact ⟨(wrap64 (a0 + 1)), (by first | rfl | (simp; done) | (simp [*]; done)), H', ⟨by have := b1.out; omega⟩, by repeat (first | exact Drawn0.refl _ | apply Drawn0.step)⟩
       ·rw [if_neg c7] at H;have c7b0 : ((rdOf ByteArray.empty l0 a0).toList == (rdOf ByteArray.empty l1 a0).toList) = false := beq_eq_false_iff_ne.mpr c7;have c7b1 : ((rdOf ByteArray.empty l0 a0).toList != (rdOf ByteArray.empty l1 a0).toList) = true := bne_iff_ne.mpr c7;obtain rfl := Option.some.inj H;have a1 : 0 ≤ (a0 : Int) := of_decide_eq_true (by first | (with_reducible assumption) | assumption);have a3 : a0 < (l0.length : Int) := of_decide_eq_true (by first | (with_reducible assumption) | assumption);obtain ⟨a9, a5, a7⟩ := Kd.at_string b2.out a0 a1 a3
        cases a5;replace a1 := eq_true a1;replace a3 := eq_true a3;have a2 : 0 ≤ (a0 : Int) := of_decide_eq_true (by first | (with_reducible assumption) | assumption);have a4 : a0 < (l1.length : Int) := of_decide_eq_true (by first | (with_reducible assumption) | assumption);obtain ⟨b0, a6, a8⟩ := Kd.at_string b3.out a0 a2 a4
        cases a6;replace a2 := eq_true a2;replace a4 := eq_true a4;go_wp2
        repeat (go_quiet (fail); try go_wp2)
        go_ret
        exact ⟨by first | rfl | (simp; done) | (simp [*]; done), by repeat (first | exact Drawn0.refl _ | apply Drawn0.step)⟩
      ·rw [if_neg c6] at H;exact absurd H (by simp)
     ·rw [if_neg c5] at H;exact absurd H (by simp)
    ·rw [if_neg c4] at H;have c4b0 : decide (a0 < (l0.length : Int)) = false := decide_eq_false c4;clear c4;obtain rfl := Option.some.inj H;go_wp2
     repeat (go_quiet (fail); try go_wp2)
     go_ret
     exact ⟨by first | rfl | (simp; done) | (simp [*]; done), by repeat (first | exact Drawn0.refl _ | apply Drawn0.step)⟩
 ·rw [if_neg c3] at H;have c3b0 : ((l0.length : Int) == (l1.length : Int)) = false := beq_eq_false_iff_ne.mpr c3;have c3b1 : ((l0.length : Int) != (l1.length : Int)) = true := bne_iff_ne.mpr c3;have c3b2 : (l0.length == l1.length) = false := by first | simpa using c3 | (simp at c3 ⊢; omega)
  obtain rfl := Option.some.inj H;go_enter Try.func28, Try.ntmps28
  go_wp2
  repeat (go_quiet (fail); try go_wp2)
  go_ret
  exact ⟨by first | rfl | (simp; done) | (simp [*]; done), by repeat (first | exact Drawn0.refl _ | apply Drawn0.step)⟩
attribute [local go_sem high] eqA80
mutual
def Pr26a.j0 : Nat → Bool → Int → List ByteArray → List (S80) → Int → List ByteArray → List (S80) → Option (Bool)
 | 0, _, _, _, _, _, _, _ => none
 | k + 1, x27, x108000, x108001, x108002, x109000, x109001, x109002 => if x27 = true then (some false) else (Pr26a.l0 k 0 x108000 x108001 x108002 x109000 x109001 x109002)
def Pr26a.l0 : Nat → Int → Int → List ByteArray → List (S80) → Int → List ByteArray → List (S80) → Option (Bool)
 | 0, _, _, _, _, _, _, _ => none
 | k + 1, x5, x108000, x108001, x108002, x109000, x109001, x109002 => if x5 < (x108002.length : Int) then (if 0 ≤ x5 then (if x5 < (x109002.length : Int) then (if (!(((rd_T80 x108002 x5).f0) == ((rd_T80 x109002 x5).f0)) || (!(((rd_T80 x108002 x5).f1) == ((rd_T80 x109002 x5).f1)) || (!(((rd_T80 x108002 x5).f2) == ((rd_T80 x109002 x5).f2))))) = true then (some false) else (Pr26a.l0 k (wrap64 (x5 + 1)) x108000 x108001 x108002 x109000 x109001 x109002)) else (none)) else (none)) else (some true)
end
def Pr26a.f (k : Nat) (a0_0 : Int) (l0_1 : List ByteArray) (l0_2 : List (S80)) (a1_0 : Int) (l1_1 : List ByteArray) (l1_2 : List (S80)) : Option (Bool) := if a0_0 = a1_0 then ((Pr01a.f k l0_1 l1_1).bind fun t109 => (if t109 = true then (Pr26a.j0 k ((l0_2.length : Int) != (l1_2.length : Int)) a0_0 l0_1 l0_2 a1_0 l1_1 l1_2) else (Pr26a.j0 k true a0_0 l0_1 l0_2 a1_0 l1_1 l1_2))) else (Pr26a.j0 k true a0_0 l0_1 l0_2 a1_0 l1_1 l1_2)
theorem Pr26a.mono_l : ∀ k, (∀ y0 y1 y2 y3 y4 y5 y6, LeO (Pr26a.j0 k y0 y1 y2 y3 y4 y5 y6) (Pr26a.j0 (k + 1) y0 y1 y2 y3 y4 y5 y6)) ∧ (∀ y0 y1 y2 y3 y4 y5 y6, LeO (Pr26a.l0 k y0 y1 y2 y3 y4 y5 y6) (Pr26a.l0 (k + 1) y0 y1 y2 y3 y4 y5 y6))
 | 0 => ⟨fun _ _ _ _ _ _ _ r h => by simp [Pr26a.j0] at h, fun _ _ _ _ _ _ _ r h => by simp [Pr26a.l0] at h⟩
 | k + 1 => by
  obtain ⟨ih0, ih1⟩ := Pr26a.mono_l k
  refine ⟨?_, ?_⟩
  ·intro y0 y1 y2 y3 y4 y5 y6
   unfold Pr26a.j0
   repeat' first
   | (with_reducible exact ih0 _ _ _ _ _ _ _)
   | (with_reducible exact ih1 _ _ _ _ _ _ _)
   | (with_reducible exact Pr01a.mono _ _ _)
   | (with_reducible exact LeO.refl _)
   | (with_reducible exact LeO.none _)
   | (with_reducible refine LeO.ite ?_ ?_)
   | (with_reducible refine LeO.bind ?_ (fun _ => ?_))
   | exact ih0 _ _ _ _ _ _ _
   | exact ih1 _ _ _ _ _ _ _
   | exact Pr01a.mono _ _ _
   | exact LeO.none _
   | refine LeO.ite ?_ ?_
   | refine LeO.bind ?_ (fun _ => ?_)
  ·intro y0 y1 y2 y3 y4 y5 y6
   unfold Pr26a.l0
   repeat' first
   | (with_reducible exact ih0 _ _ _ _ _ _ _)
   | (with_reducible exact ih1 _ _ _ _ _ _ _)
   | (with_reducible exact Pr01a.mono _ _ _)
   | (with_reducible exact LeO.refl _)
   | (with_reducible exact LeO.none _)
   | (with_reducible refine LeO.ite ?_ ?_)
   | (with_reducible refine LeO.bind ?_ (fun _ => ?_))
   | exact ih0 _ _ _ _ _ _ _
   | exact ih1 _ _ _ _ _ _ _
   | exact Pr01a.mono _ _ _
   | exact LeO.none _
   | refine LeO.ite ?_ ?_
   | refine LeO.bind ?_ (fun _ => ?_)
theorem Pr26a.mono : ∀ a0 a1 a2 a3 a4 a5 k, LeO (Pr26a.f k a0 a1 a2 a3 a4 a5) (Pr26a.f (k + 1) a0 a1 a2 a3 a4 a5) := by
 intro a0 a1 a2 a3 a4 a5 k
 obtain ⟨ih0, ih1⟩ := Pr26a.mono_l k
 unfold Pr26a.f
 repeat' first
   | (with_reducible exact ih0 _ _ _ _ _ _ _)
   | (with_reducible exact ih1 _ _ _ _ _ _ _)
   | (with_reducible exact Pr01a.mono _ _ _)
   | (with_reducible exact LeO.refl _)
   | (with_reducible exact LeO.none _)
   | (with_reducible refine LeO.ite ?_ ?_)
   | (with_reducible refine LeO.bind ?_ (fun _ => ?_))
   | exact ih0 _ _ _ _ _ _ _
   | exact ih1 _ _ _ _ _ _ _
   | exact Pr01a.mono _ _ _
   | exact LeO.none _
   | refine LeO.ite ?_ ?_
   | refine LeO.bind ?_ (fun _ => ?_)
set_option maxHeartbeats 8000000 in
set_option maxRecDepth 100000 in
theorem Pr26a.calls (k : Nat) (a0_0 : Int) (A0_1 : Option Addr) (c0_1 : Nat) (l0_1 : List ByteArray) (A0_2 : Option Addr) (c0_2 : Nat) (l0_2 : List (S80)) (a1_0 : Int) (A1_1 : Option Addr) (c1_1 : Nat) (l1_1 : List ByteArray) (A1_2 : Option Addr) (c1_2 : Nat) (l1_2 : List (S80)) (r : Bool) (w : World) (hr0_1 : Kd.C Kd.string w A0_1 l0_1.length l0_1) (hc0_1 : l0_1.length ≤ c0_1) (hr0_2 : Kd.C k80 w A0_2 l0_2.length l0_2) (hc0_2 : l0_2.length ≤ c0_2) (hr1_1 : Kd.C Kd.string w A1_1 l1_1.length l1_1) (hc1_1 : l1_1.length ≤ c1_1) (hr1_2 : Kd.C k80 w A1_2 l1_2.length l1_2) (hc1_2 : l1_2.length ≤ c1_2) (h : Pr26a.f k a0_0 l0_1 l0_2 a1_0 l1_1 l1_2 = some r) :
  Calls Try.prog 44 #[.agg #[.int .i64 a0_0, .slice A0_1 l0_1.length c0_1, .slice A0_2 l0_2.length c0_2], .agg #[.int .i64 a1_0, .slice A1_1 l1_1.length c1_1, .slice A1_2 l1_2.length c1_2]] w fun e w' => e = .returned (.bool r) ∧ Below w.heap.size w w' := by
 have p3 := Try.underlying25;have p4 := Try.underlying80;have b9 := Aside0.mk hr0_1;have b7 := Aside0.mk hc0_1;clear hr0_1 hc0_1;have j5 := Aside0.mk hr0_2;have n9 := Aside0.mk hc0_2;clear hr0_2 hc0_2;have d0 := Aside0.mk hr1_1;have b8 := Aside0.mk hc1_1;clear hr1_1 hc1_1;have j6 := Aside0.mk hr1_2;have o0 := Aside0.mk hc1_2;clear hr1_2 hc1_2;have HB := Aside0.mk (Below.refl w.heap.size w);have H : (if a0_0 = a1_0 then ((Pr01a.f k l0_1 l1_1).bind fun i4 => (if i4 = true then (Pr26a.j0 k ((l0_2.length : Int) != (l1_2.length : Int)) a0_0 l0_1 l0_2 a1_0 l1_1 l1_2) else (Pr26a.j0 k true a0_0 l0_1 l0_2 a1_0 l1_1 l1_2))) else (Pr26a.j0 k true a0_0 l0_1 l0_2 a1_0 l1_1 l1_2)) = some r := h;clear h;have j9 := Aside0.mk H;clear H;go_enter Try.func44, Try.ntmps44
 go_upto_region 1 with (first | ((with_reducible refine gate_dst (N := 2) rfl ?_); (try (refine gate_guard (by rfl) ?_; dsimp only)); refine box_event ?hg (N := 2) ?hd (cs := #[.int .i64 a0_0, .slice A0_1 l0_1.length c0_1, .slice A0_2 l0_2.length c0_2]) (t := 25) ?hr ?_; (case hd => rfl); (case hg => rfl); (case hr => first | (go_simp; done) | (go_simp; rfl)); intro a1 hg w4 hbox hb; have b3 := Aside0.mk (below_step (wz HB.out) hb); have b4 := Aside0.mk (hbox); have b5 := Aside0.mk ((by rw [hg]; exact (below_size (wz HB.out)) : w.heap.size ≤ a1)); have b6 := Aside0.mk ((by rw [hg]; exact (below_size (wz HB.out)) : w.heap.size ≤ a1)); clear HB; have HB := b3; have a0 := b4; have j3 := b5; have i9 := b6; clear b3 b4 b5 b6 hb hbox hg) | ((with_reducible refine gate_dst (N := 3) rfl ?_); (try (refine gate_guard (by rfl) ?_; dsimp only)); refine box_event ?hg (N := 3) ?hd (cs := #[.int .i64 a1_0, .slice A1_1 l1_1.length c1_1, .slice A1_2 l1_2.length c1_2]) (t := 25) ?hr ?_; (case hd => rfl); (case hg => rfl); (case hr => first | (go_simp; done) | (go_simp; rfl)); intro a4 hg w5 hbox hb; have b3 := Aside0.mk (blk_below (bz a0.out) hb); have b4 := Aside0.mk (below_step (wz HB.out) hb); have b5 := Aside0.mk (hbox); have b6 := Aside0.mk ((by rw [hg]; exact (below_size (wz HB.out)) : w.heap.size ≤ a4)); have d9 := Aside0.mk ((by rw [hg]; exact (below_size (wz HB.out)) : w.heap.size ≤ a4)); have e0 := Aside0.mk ((by rw [hg]; exact Nat.ne_of_lt (blk_lt (g := a1) (o := .cells #[.int .i64 a0_0, .slice A0_1 l0_1.length c0_1, .slice A0_2 l0_2.length c0_2] 25 (0, 0)) (bz a0.out)) : a1 ≠ a4)); have e1 := Aside0.mk ((by rw [hg]; exact Nat.ne_of_gt (blk_lt (g := a1) (o := .cells #[.int .i64 a0_0, .slice A0_1 l0_1.length c0_1, .slice A0_2 l0_2.length c0_2] 25 (0, 0)) (bz a0.out)) : a4 ≠ a1)); clear a0 HB; have a0 := b3; have HB := b4; have a2 := b5; have j4 := b6; have j2 := d9; have a5 := e0; have a6 := e1; clear b3 b4 b5 b6 d9 e0 e1 hb hbox hg))
 repeat (go_quiet (first | ((with_reducible refine gate_dst (N := 2) rfl ?_); (try (refine gate_guard (by rfl) ?_; dsimp only)); refine box_event ?hg (N := 2) ?hd (cs := #[.int .i64 a0_0, .slice A0_1 l0_1.length c0_1, .slice A0_2 l0_2.length c0_2]) (t := 25) ?hr ?_; (case hd => rfl); (case hg => rfl); (case hr => first | (go_simp; done) | (go_simp; rfl)); intro a1 hg w4 hbox hb; have b3 := Aside0.mk (below_step (wz HB.out) hb); have b4 := Aside0.mk (hbox); have b5 := Aside0.mk ((by rw [hg]; exact (below_size (wz HB.out)) : w.heap.size ≤ a1)); have b6 := Aside0.mk ((by rw [hg]; exact (below_size (wz HB.out)) : w.heap.size ≤ a1)); clear HB; have HB := b3; have a0 := b4; have j3 := b5; have i9 := b6; clear b3 b4 b5 b6 hb hbox hg) | ((with_reducible refine gate_dst (N := 3) rfl ?_); (try (refine gate_guard (by rfl) ?_; dsimp only)); refine box_event ?hg (N := 3) ?hd (cs := #[.int .i64 a1_0, .slice A1_1 l1_1.length c1_1, .slice A1_2 l1_2.length c1_2]) (t := 25) ?hr ?_; (case hd => rfl); (case hg => rfl); (case hr => first | (go_simp; done) | (go_simp; rfl)); intro a4 hg w5 hbox hb; have b3 := Aside0.mk (blk_below (bz a0.out) hb); have b4 := Aside0.mk (below_step (wz HB.out) hb); have b5 := Aside0.mk (hbox); have b6 := Aside0.mk ((by rw [hg]; exact (below_size (wz HB.out)) : w.heap.size ≤ a4)); have d9 := Aside0.mk ((by rw [hg]; exact (below_size (wz HB.out)) : w.heap.size ≤ a4)); have e0 := Aside0.mk ((by rw [hg]; exact Nat.ne_of_lt (blk_lt (g := a1) (o := .cells #[.int .i64 a0_0, .slice A0_1 l0_1.length c0_1, .slice A0_2 l0_2.length c0_2] 25 (0, 0)) (bz a0.out)) : a1 ≠ a4)); have e1 := Aside0.mk ((by rw [hg]; exact Nat.ne_of_gt (blk_lt (g := a1) (o := .cells #[.int .i64 a0_0, .slice A0_1 l0_1.length c0_1, .slice A0_2 l0_2.length c0_2] 25 (0, 0)) (bz a0.out)) : a4 ≠ a1)); clear a0 HB; have a0 := b3; have HB := b4; have a2 := b5; have j4 := b6; have j2 := d9; have a5 := e0; have a6 := e1; clear b3 b4 b5 b6 d9 e0 e1 hb hbox hg)); go_upto_region 1 with (first | ((with_reducible refine gate_dst (N := 2) rfl ?_); (try (refine gate_guard (by rfl) ?_; dsimp only)); refine box_event ?hg (N := 2) ?hd (cs := #[.int .i64 a0_0, .slice A0_1 l0_1.length c0_1, .slice A0_2 l0_2.length c0_2]) (t := 25) ?hr ?_; (case hd => rfl); (case hg => rfl); (case hr => first | (go_simp; done) | (go_simp; rfl)); intro a1 hg w4 hbox hb; have b3 := Aside0.mk (below_step (wz HB.out) hb); have b4 := Aside0.mk (hbox); have b5 := Aside0.mk ((by rw [hg]; exact (below_size (wz HB.out)) : w.heap.size ≤ a1)); have b6 := Aside0.mk ((by rw [hg]; exact (below_size (wz HB.out)) : w.heap.size ≤ a1)); clear HB; have HB := b3; have a0 := b4; have j3 := b5; have i9 := b6; clear b3 b4 b5 b6 hb hbox hg) | ((with_reducible refine gate_dst (N := 3) rfl ?_); (try (refine gate_guard (by rfl) ?_; dsimp only)); refine box_event ?hg (N := 3) ?hd (cs := #[.int .i64 a1_0, .slice A1_1 l1_1.length c1_1, .slice A1_2 l1_2.length c1_2]) (t := 25) ?hr ?_; (case hd => rfl); (case hg => rfl); (case hr => first | (go_simp; done) | (go_simp; rfl)); intro a4 hg w5 hbox hb; have b3 := Aside0.mk (blk_below (bz a0.out) hb); have b4 := Aside0.mk (below_step (wz HB.out) hb); have b5 := Aside0.mk (hbox); have b6 := Aside0.mk ((by rw [hg]; exact (below_size (wz HB.out)) : w.heap.size ≤ a4)); have d9 := Aside0.mk ((by rw [hg]; exact (below_size (wz HB.out)) : w.heap.size ≤ a4)); have e0 := Aside0.mk ((by rw [hg]; exact Nat.ne_of_lt (blk_lt (g := a1) (o := .cells #[.int .i64 a0_0, .slice A0_1 l0_1.length c0_1, .slice A0_2 l0_2.length c0_2] 25 (0, 0)) (bz a0.out)) : a1 ≠ a4)); have e1 := Aside0.mk ((by rw [hg]; exact Nat.ne_of_gt (blk_lt (g := a1) (o := .cells #[.int .i64 a0_0, .slice A0_1 l0_1.length c0_1, .slice A0_2 l0_2.length c0_2] 25 (0, 0)) (bz a0.out)) : a4 ≠ a1)); clear a0 HB; have a0 := b3; have HB := b4; have a2 := b5; have j4 := b6; have j2 := d9; have a5 := e0; have a6 := e1; clear b3 b4 b5 b6 d9 e0 e1 hb hbox hg)))
 (try simp only [Act.put, qz1, qz2, qz3])
 go_cut [27] (fun n8 wc => ∃ (kq : Nat) (e2 : Bool), n8 = .bool e2 ∧ Aside0 (Pr26a.j0 kq e2 a0_0 l0_1 l0_2 a1_0 l1_1 l1_2 = some r) ∧ Aside0 (kq ≤ k) ∧ Aside0 (wc.heap[a1]? = some (.cells #[.int .i64 a0_0, (.slice A0_1 l0_1.length c0_1), (.slice A0_2 l0_2.length c0_2)] 25 (0, 0))) ∧ Aside0 (wc.heap[a4]? = some (.cells #[.int .i64 a1_0, (.slice A1_1 l1_1.length c1_1), (.slice A1_2 l1_2.length c1_2)] 25 (0, 0))) ∧ Aside0 (Below w.heap.size w wc))
 case first =>
  have H := j9.out;clear j9;by_cases c6 : a0_0 = a1_0
  ·rw [if_pos c6] at H;have c6b0 : (a0_0 == a1_0) = true := beq_iff_eq.mpr c6;have c6b1 : (a0_0 != a1_0) = false := bne_eq_false_iff_eq.mpr c6;clear c6
   (first | rw [c6b0] | (simp only [i64_w, i32_w]; rw [c6b0]) | skip)
   replace H := Option.bind_eq_some_iff.mp H;obtain ⟨i4, k3, H⟩ := H;replace H : (if i4 = true then (Pr26a.j0 k ((l0_2.length : Int) != (l1_2.length : Int)) a0_0 l0_1 l0_2 a1_0 l1_1 l1_2) else (Pr26a.j0 k true a0_0 l0_1 l0_2 a1_0 l1_1 l1_2)) = some r := H;have A7 := Aside0.mk k3;clear k3;by_cases c8 : i4 = true
   ·subst c8;have H1 : (Pr26a.j0 k ((l0_2.length : Int) != (l1_2.length : Int)) a0_0 l0_1 l0_2 a1_0 l1_1 l1_2) = some r := by rw [if_pos rfl] at H; exact H
    clear H;have H := H1;clear H1;have H' := Aside0.mk H;clear H;have p1 := a5.out;have p2 := a6.out;have e5 : w5.cell? ⟨a1, 0, none⟩ = some (.int .i64 a0_0) := bcz a0 0 rfl;have e6 : w5.cell? ⟨a1, 1, none⟩ = some (.slice A0_1 l0_1.length c0_1) := bcz a0 1 rfl;have e7 : w5.cell? ⟨a1, 2, none⟩ = some (.slice A0_2 l0_2.length c0_2) := bcz a0 2 rfl;have g6 := blk_frozen a0.out 0;have g7 := blk_frozen a0.out 1;have g8 := blk_frozen a0.out 2;have e8 : w5.cell? ⟨a4, 0, none⟩ = some (.int .i64 a1_0) := bcz a2 0 rfl;have e9 : w5.cell? ⟨a4, 1, none⟩ = some (.slice A1_1 l1_1.length c1_1) := bcz a2 1 rfl;have f3 : w5.cell? ⟨a4, 2, none⟩ = some (.slice A1_2 l1_2.length c1_2) := bcz a2 2 rfl;have g9 := blk_frozen a2.out 0;have h0 := blk_frozen a2.out 1;have h1 := blk_frozen a2.out 2;go_wp2_with (first | (go_at_call 28; (with_reducible refine (Pr01a.calls k _ _ l0_1 _ _ l1_1 true _ ?d5 ?d6 ?d7 ?d8 A7.out).mono ?_); (case d5 => exact cz b9.out HB.out); (case d6 => exact b7.out); (case d7 => exact cz d0.out HB.out); (case d8 => exact b8.out); rintro e w' ⟨rfl, ⟨nd, rfl⟩⟩; (try first | exact ⟨rfl, _, World.drewN_drewN _ _ _⟩ | exact ⟨rfl, _, Eq.trans (World.drewN_drewN _ _ _) (congrArg (World.drewN _) (Nat.add_assoc _ _ _))⟩)))
    repeat (go_quiet (first | (go_at_call 28; (with_reducible refine (Pr01a.calls k _ _ l0_1 _ _ l1_1 true _ ?d5 ?d6 ?d7 ?d8 A7.out).mono ?_); (case d5 => exact cz b9.out HB.out); (case d6 => exact b7.out); (case d7 => exact cz d0.out HB.out); (case d8 => exact b8.out); rintro e w' ⟨rfl, ⟨nd, rfl⟩⟩; (try first | exact ⟨rfl, _, World.drewN_drewN _ _ _⟩ | exact ⟨rfl, _, Eq.trans (World.drewN_drewN _ _ _) (congrArg (World.drewN _) (Nat.add_assoc _ _ _))⟩))); try go_wp2_with (first | (go_at_call 28; (with_reducible refine (Pr01a.calls k _ _ l0_1 _ _ l1_1 true _ ?d5 ?d6 ?d7 ?d8 A7.out).mono ?_); (case d5 => exact cz b9.out HB.out); (case d6 => exact b7.out); (case d7 => exact cz d0.out HB.out); (case d8 => exact b8.out); rintro e w' ⟨rfl, ⟨nd, rfl⟩⟩; (try first | exact ⟨rfl, _, World.drewN_drewN _ _ _⟩ | exact ⟨rfl, _, Eq.trans (World.drewN_drewN _ _ _) (congrArg (World.drewN _) (Nat.add_assoc _ _ _))⟩))))
    go_meet
    case rel => exact ⟨_, (((l0_2.length : Int) != (l1_2.length : Int))), (by first | rfl | (simp; done) | (simp [*]; done)), H', ⟨by first | omega | exact Nat.le_refl _⟩, ⟨bz a0.out⟩, ⟨bz a2.out⟩, ⟨wz HB.out⟩⟩
   ·replace c8 := Bool.eq_false_iff.mpr c8;subst c8;have H1 : (Pr26a.j0 k true a0_0 l0_1 l0_2 a1_0 l1_1 l1_2) = some r := by rw [if_neg (show ¬ (false = true) by decide)] at H; exact H
    clear H;have H := H1;clear H1;have H' := Aside0.mk H;clear H;have o1 := a5.out;have o6 := a6.out;have f4 : w5.cell? ⟨a1, 0, none⟩ = some (.int .i64 a0_0) := bcz a0 0 rfl;have f5 : w5.cell? ⟨a1, 1, none⟩ = some (.slice A0_1 l0_1.length c0_1) := bcz a0 1 rfl;have f6 : w5.cell? ⟨a1, 2, none⟩ = some (.slice A0_2 l0_2.length c0_2) := bcz a0 2 rfl;have h2 := blk_frozen a0.out 0;have h3 := blk_frozen a0.out 1;have h4 := blk_frozen a0.out 2;have f7 : w5.cell? ⟨a4, 0, none⟩ = some (.int .i64 a1_0) := bcz a2 0 rfl;have f8 : w5.cell? ⟨a4, 1, none⟩ = some (.slice A1_1 l1_1.length c1_1) := bcz a2 1 rfl;have f9 : w5.cell? ⟨a4, 2, none⟩ = some (.slice A1_2 l1_2.length c1_2) := bcz a2 2 rfl;have h5 := blk_frozen a2.out 0;have h6 := blk_frozen a2.out 1;have h7 := blk_frozen a2.out 2;go_wp2_with (first | (go_at_call 28; (with_reducible refine (Pr01a.calls k _ _ l0_1 _ _ l1_1 false _ ?d5 ?d6 ?d7 ?d8 A7.out).mono ?_); (case d5 => exact cz b9.out HB.out); (case d6 => exact b7.out); (case d7 => exact cz d0.out HB.out); (case d8 => exact b8.out); rintro e w' ⟨rfl, ⟨nd, rfl⟩⟩; (try first | exact ⟨rfl, _, World.drewN_drewN _ _ _⟩ | exact ⟨rfl, _, Eq.trans (World.drewN_drewN _ _ _) (congrArg (World.drewN _) (Nat.add_assoc _ _ _))⟩)))
    repeat (go_quiet (first | (go_at_call 28; (with_reducible refine (Pr01a.calls k _ _ l0_1 _ _ l1_1 false _ ?d5 ?d6 ?d7 ?d8 A7.out).mono ?_); (case d5 => exact cz b9.out HB.out); (case d6 => exact b7.out); (case d7 => exact cz d0.out HB.out); (case d8 => exact b8.out); rintro e w' ⟨rfl, ⟨nd, rfl⟩⟩; (try first | exact ⟨rfl, _, World.drewN_drewN _ _ _⟩ | exact ⟨rfl, _, Eq.trans (World.drewN_drewN _ _ _) (congrArg (World.drewN _) (Nat.add_assoc _ _ _))⟩))); try go_wp2_with (first | (go_at_call 28; (with_reducible refine (Pr01a.calls k _ _ l0_1 _ _ l1_1 false _ ?d5 ?d6 ?d7 ?d8 A7.out).mono ?_); (case d5 => exact cz b9.out HB.out); (case d6 => exact b7.out); (case d7 => exact cz d0.out HB.out); (case d8 => exact b8.out); rintro e w' ⟨rfl, ⟨nd, rfl⟩⟩; (try first | exact ⟨rfl, _, World.drewN_drewN _ _ _⟩ | exact ⟨rfl, _, Eq.trans (World.drewN_drewN _ _ _) (congrArg (World.drewN _) (Nat.add_assoc _ _ _))⟩))))
    go_meet
    case rel => exact ⟨_, (true), (by first | rfl | (simp; done) | (simp [*]; done)), H', ⟨by first | omega | exact Nat.le_refl _⟩, ⟨bz a0.out⟩, ⟨bz a2.out⟩, ⟨wz HB.out⟩⟩
  ·rw [if_neg c6] at H;have c6b0 : (a0_0 == a1_0) = false := beq_eq_false_iff_ne.mpr c6;have c6b1 : (a0_0 != a1_0) = true := bne_iff_ne.mpr c6
   (first | rw [c6b0] | (simp only [i64_w, i32_w]; rw [c6b0]) | skip)
   have H' := Aside0.mk H;clear H;have o2 := a5.out;have o7 := a6.out;have g0 : w5.cell? ⟨a1, 0, none⟩ = some (.int .i64 a0_0) := bcz a0 0 rfl;have g1 : w5.cell? ⟨a1, 1, none⟩ = some (.slice A0_1 l0_1.length c0_1) := bcz a0 1 rfl;have g2 : w5.cell? ⟨a1, 2, none⟩ = some (.slice A0_2 l0_2.length c0_2) := bcz a0 2 rfl;have h8 := blk_frozen a0.out 0;have h9 := blk_frozen a0.out 1;have i0 := blk_frozen a0.out 2;have g3 : w5.cell? ⟨a4, 0, none⟩ = some (.int .i64 a1_0) := bcz a2 0 rfl;have g4 : w5.cell? ⟨a4, 1, none⟩ = some (.slice A1_1 l1_1.length c1_1) := bcz a2 1 rfl;have g5 : w5.cell? ⟨a4, 2, none⟩ = some (.slice A1_2 l1_2.length c1_2) := bcz a2 2 rfl;have i1 := blk_frozen a2.out 0;have i2 := blk_frozen a2.out 1;have i3 := blk_frozen a2.out 2;go_wp2
   repeat (go_quiet (fail); try go_wp2)
   go_meet
   case rel => exact ⟨_, (true), (by first | rfl | (simp; done) | (simp [*]; done)), H', ⟨by first | omega | exact Nat.le_refl _⟩, ⟨bz a0.out⟩, ⟨bz a2.out⟩, ⟨wz HB.out⟩⟩
 case rest =>
  clear j9;(try clear c6);(try clear c6b0);(try clear c6b1);(try clear c8);(try clear e5);(try clear e6);(try clear e7);(try clear e8);(try clear e9);(try clear f3);(try clear f4);(try clear f5);(try clear f6);(try clear f7);(try clear f8);(try clear f9);(try clear g0);(try clear g1);(try clear g2);(try clear g3);(try clear g4);(try clear g5);(try clear g6);(try clear g7);(try clear g8);(try clear g9);(try clear h0);(try clear h1);(try clear h2);(try clear h3);(try clear h4);(try clear h5);(try clear h6);(try clear h7);(try clear h8);(try clear h9);(try clear i0);(try clear i1);(try clear i2);(try clear i3);obtain ⟨kq, e2, rfl, HA, k4, a0, a2, HB⟩ := hcut
  cases kq with
  | zero => exact absurd HA.out (by simp [Pr26a.j0])
  | succ kj2 =>
   have H := HA.out;clear HA;simp only [Pr26a.j0] at H;by_cases i5 : e2 = true
   ·subst i5;have H1 : (some false) = some r := by rw [if_pos rfl] at H; exact H
    clear H;have H := H1;clear H1;obtain rfl := Option.some.inj H;go_wp2
    repeat (go_quiet (fail); try go_wp2)
    go_ret
    exact ⟨by first | rfl | (simp [errW_none, errW_some] <;> rfl) | (simp [*, errW_none, errW_some] <;> rfl), wz HB.out⟩
   ·replace i5 := Bool.eq_false_iff.mpr i5;subst i5;have H1 : (Pr26a.l0 kj2 0 a0_0 l0_1 l0_2 a1_0 l1_1 l1_2) = some r := by rw [if_neg (show ¬ (false = true) by decide)] at H; exact H
    clear H;have H := H1;clear H1;have H' := Aside0.mk H;clear H;go_wp2
    repeat (go_quiet (fail); try go_wp2)
    go_loopg [5] kj2 (fun kq v5 w' => ∃ (a3 : Int), v5 = .int .i64 a3 ∧ Aside0 (Pr26a.l0 kq a3 a0_0 l0_1 l0_2 a1_0 l1_1 l1_2 = some r) ∧ Aside0 (kq ≤ kj2) ∧ Aside0 (w'.heap[a1]? = some (.cells #[.int .i64 a0_0, (.slice A0_1 l0_1.length c0_1), (.slice A0_2 l0_2.length c0_2)] 25 (0, 0))) ∧ Aside0 (w'.heap[a4]? = some (.cells #[.int .i64 a1_0, (.slice A1_1 l1_1.length c1_1), (.slice A1_2 l1_2.length c1_2)] 25 (0, 0))) ∧ Aside0 (Below w.heap.size w w'))
    case atStart => exact ⟨(0), (by first | rfl | (simp; done) | (simp [*]; done)), H', ⟨Nat.le_refl _⟩, ⟨bz a0.out⟩, ⟨bz a2.out⟩, ⟨wz HB.out⟩⟩
    case round =>
     clear H';(try clear c6);(try clear c6b0);(try clear c6b1);(try clear c8);(try clear i5);(try clear e5);(try clear e6);(try clear e7);(try clear e8);(try clear e9);(try clear f3);(try clear f4);(try clear f5);(try clear f6);(try clear f7);(try clear f8);(try clear f9);(try clear g0);(try clear g1);(try clear g2);(try clear g3);(try clear g4);(try clear g5);(try clear g6);(try clear g7);(try clear g8);(try clear g9);(try clear h0);(try clear h1);(try clear h2);(try clear h3);(try clear h4);(try clear h5);(try clear h6);(try clear h7);(try clear h8);(try clear h9);(try clear i0);(try clear i1);(try clear i2);(try clear i3);obtain ⟨a3, rfl, HA, k5, a0, a2, HB⟩ := hrel
     cases gk with
     | zero => exact absurd HA.out (by simp [Pr26a.l0])
     | succ k2 =>
      have H := HA.out;clear HA;simp only [Pr26a.l0] at H;by_cases e3 : a3 < (l0_2.length : Int)
      ·rw [if_pos e3] at H;have c19b0 : decide (a3 < (l0_2.length : Int)) = true := decide_eq_true e3;clear e3;by_cases j7 : 0 ≤ a3
       ·rw [if_pos j7] at H;have c20b0 : decide (0 ≤ a3) = true := decide_eq_true j7;clear j7;by_cases j8 : a3 < (l1_2.length : Int)
        ·rw [if_pos j8] at H;have c21b0 : decide (a3 < (l1_2.length : Int)) = true := decide_eq_true j8;clear j8;by_cases e4 : (!(((rd_T80 l0_2 a3).f0) == ((rd_T80 l1_2 a3).f0)) || (!(((rd_T80 l0_2 a3).f1) == ((rd_T80 l1_2 a3).f1)) || (!(((rd_T80 l0_2 a3).f2) == ((rd_T80 l1_2 a3).f2))))) = true
         ·rw [if_pos e4] at H;have c22b0 : (!(((rd_T80 l0_2 a3).f0) == ((rd_T80 l1_2 a3).f0)) || (!(((rd_T80 l0_2 a3).f1) == ((rd_T80 l1_2 a3).f1)) || (!(((rd_T80 l0_2 a3).f2) == ((rd_T80 l1_2 a3).f2))))) = true := e4;clear e4;obtain rfl := Option.some.inj H;have o3 := a5.out;have o8 := a6.out;have k6 : wr.cell? ⟨a1, 0, none⟩ = some (.int .i64 a0_0) := bcz a0 0 rfl;have k7 : wr.cell? ⟨a1, 1, none⟩ = some (.slice A0_1 l0_1.length c0_1) := bcz a0 1 rfl;have k8 : wr.cell? ⟨a1, 2, none⟩ = some (.slice A0_2 l0_2.length c0_2) := bcz a0 2 rfl;have m3 := blk_frozen a0.out 0;have m4 := blk_frozen a0.out 1;have m5 := blk_frozen a0.out 2;have d1 : 0 ≤ (a3 : Int) := of_decide_eq_true (by first | (with_reducible assumption) | assumption);have d3 : a3 < (l0_2.length : Int) := of_decide_eq_true (by first | (with_reducible assumption) | assumption);obtain ⟨k0, i7, a7, a8, a9⟩ := at_T80 j5.out a3 d1 d3
          cases i7;replace a7 := (HB.out.cell (World.block_lt_of_cell? w _ a7)).trans a7;replace a8 := (HB.out.cell (World.block_lt_of_cell? w _ a8)).trans a8;replace a9 := (HB.out.cell (World.block_lt_of_cell? w _ a9)).trans a9;replace d1 := eq_true d1;replace d3 := eq_true d3;have k9 : wr.cell? ⟨a4, 0, none⟩ = some (.int .i64 a1_0) := bcz a2 0 rfl;have l2 : wr.cell? ⟨a4, 1, none⟩ = some (.slice A1_1 l1_1.length c1_1) := bcz a2 1 rfl;have l3 : wr.cell? ⟨a4, 2, none⟩ = some (.slice A1_2 l1_2.length c1_2) := bcz a2 2 rfl;have m6 := blk_frozen a2.out 0;have m7 := blk_frozen a2.out 1;have m8 := blk_frozen a2.out 2;have d2 : 0 ≤ (a3 : Int) := of_decide_eq_true (by first | (with_reducible assumption) | assumption);have d4 : a3 < (l1_2.length : Int) := of_decide_eq_true (by first | (with_reducible assumption) | assumption);obtain ⟨k1, i8, b0, b1, b2⟩ := at_T80 j6.out a3 d2 d4
          cases i8;replace b0 := (HB.out.cell (World.block_lt_of_cell? w _ b0)).trans b0;replace b1 := (HB.out.cell (World.block_lt_of_cell? w _ b1)).trans b1;replace b2 := (HB.out.cell (World.block_lt_of_cell? w _ b2)).trans b2;replace d2 := eq_true d2;replace d4 := eq_true d4;go_wp2
          repeat (go_quiet (fail); try go_wp2)
          go_ret
          exact ⟨by first | rfl | (simp [errW_none, errW_some] <;> rfl) | (simp [*, errW_none, errW_some] <;> rfl), wz HB.out⟩
         ·rw [if_neg e4] at H;have c22b0 : (!(((rd_T80 l0_2 a3).f0) == ((rd_T80 l1_2 a3).f0)) || (!(((rd_T80 l0_2 a3).f1) == ((rd_T80 l1_2 a3).f1)) || (!(((rd_T80 l0_2 a3).f2) == ((rd_T80 l1_2 a3).f2))))) = false := by simpa using e4
          clear e4;have H' := Aside0.mk H;clear H;have o4 := a5.out;have o9 := a6.out;have l4 : wr.cell? ⟨a1, 0, none⟩ = some (.int .i64 a0_0) := bcz a0 0 rfl;have l5 : wr.cell? ⟨a1, 1, none⟩ = some (.slice A0_1 l0_1.length c0_1) := bcz a0 1 rfl;have l6 : wr.cell? ⟨a1, 2, none⟩ = some (.slice A0_2 l0_2.length c0_2) := bcz a0 2 rfl;have m9 := blk_frozen a0.out 0;have n0 := blk_frozen a0.out 1;have n1 := blk_frozen a0.out 2;have d1 : 0 ≤ (a3 : Int) := of_decide_eq_true (by first | (with_reducible assumption) | assumption);have d3 : a3 < (l0_2.length : Int) := of_decide_eq_true (by first | (with_reducible assumption) | assumption);obtain ⟨k0, i7, a7, a8, a9⟩ := at_T80 j5.out a3 d1 d3
          cases i7;replace a7 := (HB.out.cell (World.block_lt_of_cell? w _ a7)).trans a7;replace a8 := (HB.out.cell (World.block_lt_of_cell? w _ a8)).trans a8;replace a9 := (HB.out.cell (World.block_lt_of_cell? w _ a9)).trans a9;replace d1 := eq_true d1;replace d3 := eq_true d3;have l7 : wr.cell? ⟨a4, 0, none⟩ = some (.int .i64 a1_0) := bcz a2 0 rfl;have l8 : wr.cell? ⟨a4, 1, none⟩ = some (.slice A1_1 l1_1.length c1_1) := bcz a2 1 rfl;have l9 : wr.cell? ⟨a4, 2, none⟩ = some (.slice A1_2 l1_2.length c1_2) := bcz a2 2 rfl;have n2 := blk_frozen a2.out 0;have n3 := blk_frozen a2.out 1;have n4 := blk_frozen a2.out 2;have d2 : 0 ≤ (a3 : Int) := of_decide_eq_true (by first | (with_reducible assumption) | assumption);have d4 : a3 < (l1_2.length : Int) := of_decide_eq_true (by first | (with_reducible assumption) | assumption);obtain ⟨k1, i8, b0, b1, b2⟩ := at_T80 j6.out a3 d2 d4
          cases i8;replace b0 := (HB.out.cell (World.block_lt_of_cell? w _ b0)).trans b0;replace b1 := (HB.out.cell (World.block_lt_of_cell? w _ b1)).trans b1;replace b2 := (HB.out.cell (World.block_lt_of_cell? w _ b2)).trans b2;replace d2 := eq_true d2;replace d4 := eq_true d4;go_wp2
          repeat (go_quiet (fail); try go_wp2)
          go_roundg k2
          case measure => have := k4.out; have := k5.out; omega
          case rel => exact ⟨(wrap64 (a3 + 1)), (by first | rfl | (simp; done) | (simp [*]; done)), H', ⟨by have := k4.out; have := k5.out; omega⟩, ⟨bz a0.out⟩, ⟨bz a2.out⟩, ⟨wz HB.out⟩⟩
        ·rw [if_neg j8] at H;exact absurd H (by simp)
       ·rw [if_neg j7] at H;exact absurd H (by simp)
      ·rw [if_neg e3] at H;have c19b0 : decide (a3 < (l0_2.length : Int)) = false := decide_eq_false e3;clear e3;obtain rfl := Option.some.inj H;have o5 := a5.out;have p0 := a6.out;have m0 : wr.cell? ⟨a1, 0, none⟩ = some (.int .i64 a0_0) := bcz a0 0 rfl;have m1 : wr.cell? ⟨a1, 1, none⟩ = some (.slice A0_1 l0_1.length c0_1) := bcz a0 1 rfl;have m2 : wr.cell? ⟨a1, 2, none⟩ = some (.slice A0_2 l0_2.length c0_2) := bcz a0 2 rfl;have n5 := blk_frozen a0.out 0;have n6 := blk_frozen a0.out 1;have n7 := blk_frozen a0.out 2;go_wp2
       repeat (go_quiet (fail); try go_wp2)
       go_ret
       exact ⟨by first | rfl | (simp [errW_none, errW_some] <;> rfl) | (simp [*, errW_none, errW_some] <;> rfl), wz HB.out⟩
end Go.Proofs.Ytmcbkmfpmcbdpaa.Pr
namespace Go.Proofs.Ytmcbkmfpmcbdpaa.Pr
open Go.RowKit Go.Proofs.YtmcbkmfpmcbdpaaW.PrintWords Go.Proofs.YtmcbkmfpmcbdpaaW.PrintLast Go.Proofs.YtmcbkmfpmcbdpaaW.PrintMore
attribute [local go_sem] max2_int min2_int max_two min_two max_three min_three max_four min_four
set_option linter.unusedVariables false
set_option linter.unusedSimpArgs false
def Pxb.f (a0_0 : Int) (l0_1 : List ByteArray) (l0_2 : List (S80)) (l1 : List (S55)) : Option (Int × List ByteArray × (List (S80)) × Int) := if l1.length ≤ 1000000 then some (H.turnP a0_0 l0_1 l0_2 (H.gRename l1)) else none
set_option maxHeartbeats 8000000 in
set_option maxRecDepth 100000 in
theorem Pxb.calls (a0_0 : Int) (A0_1 : Option Addr) (c0_1 : Nat) (l0_1 : List ByteArray) (A0_2 : Option Addr) (c0_2 : Nat) (l0_2 : List (S80)) (A1 : Option Addr) (c1 : Nat) (l1 : List (S55)) (r1 : Int) (r2 : List ByteArray) (r3 : List (S80)) (r4 : Int) (w : World) (hr0_1 : Kd.C Kd.string w A0_1 l0_1.length l0_1) (hc0_1 : l0_1.length ≤ c0_1) (hr0_2 : Kd.C k80 w A0_2 l0_2.length l0_2) (hc0_2 : l0_2.length ≤ c0_2) (hr1 : Kd.C k55 w A1 l1.length l1) (hc1 : l1.length ≤ c1) (h : Pxb.f a0_0 l0_1 l0_2 l1 = some (r1, r2, r3, r4)) :
  Calls Try.prog 41 #[.agg #[.int .i64 a0_0, .slice A0_1 l0_1.length c0_1, .slice A0_2 l0_2.length c0_2], .slice A1 l1.length c1] w fun e w' => ∃ v1_ v2_ : Value, e = .returned (.tuple #[.agg #[.int .i64 r1, v1_, v2_], .int .i64 r4]) ∧ Kd.R Kd.string 9 w' w.heap.size (fun _ => True) v1_ r2 ∧ Kd.R k80 80 w' w.heap.size (fun _ => True) v2_ r3 ∧ Below w.heap.size w w' := by
 have h0 := Try.underlying25;have d4 := Aside0.mk hr0_1;have d2 := Aside0.mk hc0_1;clear hr0_1 hc0_1;have d5 := Aside0.mk hr0_2;have d3 := Aside0.mk hc0_2;clear hr0_2 hc0_2;have e6 := Aside0.mk hr1;have e5 := Aside0.mk hc1;clear hr1 hc1;have HB := Aside0.mk (Below.refl w.heap.size w);unfold Pxb.f at h;split at h
 rotate_left 1
 ·cases h
 rename_i hlen_;have HL := Aside0.mk hlen_;clear hlen_;obtain ⟨a7, a9, b2, e4, hT_⟩ : ∃ a b c d, (a, b, c, d) = H.turnP a0_0 l0_1 l0_2 (H.gRename l1) := ⟨_, _, _, _, rfl⟩
 rw [← hT_] at h;simp only [Option.some.injEq, Prod.mk.injEq] at h;obtain ⟨rfl, rfl, rfl, rfl⟩ := h;obtain ⟨kt_, hkt_⟩ := H.turn_ev a0_0 l0_1 l0_2 (H.gRename l1);have d1 := hkt_ kt_ (Nat.le_refl _);rw [← hT_] at d1;have A3 := Aside0.mk d1;clear d1 hkt_ hT_;have hmf : ∀ (fn : Fn) (first cap : Array Value) (w : World), (Instr.makeFunc fn first cap).run Try.prog w = .ok (.func fn first cap) w := fun _ _ _ _ => rfl
 go_enter Try.func41, Try.ntmps41
 go_wp2_with (first | ((with_reducible refine gate_dst (N := 2) rfl ?_); refine box_event ?hg (N := 2) ?hd (cs := #[.int .i64 a0_0, .slice A0_1 l0_1.length c0_1, .slice A0_2 l0_2.length c0_2]) (t := 25) ?hr ?_; (case hd => rfl); (case hg => rfl); (case hr => first | (go_simp; done) | (go_simp; rfl)); intro a3 hg w4 hbox hb; have a4 := Aside0.mk (below_step (wz HB.out) hb); have a5 := Aside0.mk (hbox); have a6 := Aside0.mk ((by rw [hg]; exact (below_size (wz HB.out)) : w.heap.size ≤ a3)); have a8 := Aside0.mk ((by rw [hg]; exact (below_size (wz HB.out)) : w.heap.size ≤ a3)); clear HB; have HB := a4; have a0 := a5; have g1 := a6; have f9 := a8; clear a4 a5 a6 a8; clear hb hbox hg) | ((with_reducible refine gate_dst (N := 3) rfl ?_); refine box_event ?hg (N := 3) ?hd (cs := #[.slice A1 l1.length c1]) (t := 53) ?hr ?_; (case hd => rfl); (case hg => rfl); (case hr => first | (go_simp; done) | (go_simp; rfl)); intro d6 hg w9 hbox hb; have a4 := Aside0.mk (blk_below (bz a0.out) hb); have a5 := Aside0.mk (below_step (wz HB.out) hb); have a6 := Aside0.mk (hbox); clear a0; clear HB; have a0 := a4; have HB := a5; have b8 := a6; clear a4 a5 a6; clear hb hbox hg) | ((with_reducible refine gate_dst (N := 4) rfl ?_); refine box_event ?hg (N := 4) ?hd (cs := #[.int .i64 0, .slice none 0 0, .slice none 0 0]) (t := 25) ?hr ?_; (case hd => rfl); (case hg => rfl); (case hr => first | (go_simp; done) | (go_simp; rfl)); intro a1 hg w5 hbox hb; have e1 := Aside0.mk (blk_below (bz b8.out) hb); clear b8; have b8 := e1; clear e1; have a4 := Aside0.mk (blk_below (bz a0.out) hb); have a5 := Aside0.mk (below_step (wz HB.out) hb); have a6 := Aside0.mk (hbox); have a8 := Aside0.mk ((by rw [hg]; exact (below_size (wz HB.out)) : w.heap.size ≤ a1)); have b5 := Aside0.mk ((by rw [hg]; exact (below_size (wz HB.out)) : w.heap.size ≤ a1)); have d9 := Aside0.mk ((by rw [hg]; exact Nat.ne_of_lt (blk_lt (g := a3) (o := .cells #[.int .i64 a0_0, .slice A0_1 l0_1.length c0_1, .slice A0_2 l0_2.length c0_2] 25 (0, 0)) (bz a0.out)) : a3 ≠ a1)); have e0 := Aside0.mk ((by rw [hg]; exact Nat.ne_of_gt (blk_lt (g := a3) (o := .cells #[.int .i64 a0_0, .slice A0_1 l0_1.length c0_1, .slice A0_2 l0_2.length c0_2] 25 (0, 0)) (bz a0.out)) : a1 ≠ a3)); clear a0; clear HB; have a0 := a4; have HB := a5; have a2 := a6; have g2 := a8; have g0 := b5; have b3 := d9; have b4 := e0; clear a4 a5 a6 a8 b5 d9 e0; clear hb hbox hg; have g8 := b3.out; have g9 := b4.out; have e7 : w5.cell? ⟨a3, 0, none⟩ = some (.int .i64 a0_0) := bcz a0 0 rfl; have e8 : w5.cell? ⟨a3, 1, none⟩ = some (.slice A0_1 l0_1.length c0_1) := bcz a0 1 rfl; have e9 : w5.cell? ⟨a3, 2, none⟩ = some (.slice A0_2 l0_2.length c0_2) := bcz a0 2 rfl; have f3 := blk_frozen a0.out 0; have f4 := blk_frozen a0.out 1; have f5 := blk_frozen a0.out 2) | ((with_reducible refine gate_callee (f := 94) rfl ?_); refine goesL_ (some 8) rfl rfl Try.func94 (by kernel_rfl) rfl #[.agg #[.int .i64 a0_0, .slice A0_1 l0_1.length c0_1, .slice A0_2 l0_2.length c0_2], .func (.func 95) #[] #[.pointer (some ⟨d6, 0, none⟩)]] rfl (by (try simp only [List.map_toArray, List.map_cons, List.map_nil]); first | done | rfl | (simp only [List.length_drop, List.length_take]; rfl)) ?_; (with_reducible refine (Pxd.calls kt_ a0_0 _ _ l0_1 _ _ l0_2 _ _ (H.gRename l1) a7 a9 b2 e4 _ ?g3 ?g4 ?g5 ?g6 ?g7 A3.out).mono ?_); (case g3 => exact cz d4.out HB.out); (case g4 => exact d2.out); (case g5 => exact cz d5.out HB.out); (case g6 => exact d3.out); (case g7 => exact ⟨⟨_, Try.func95, by kernel_rfl, by kernel_rfl⟩, fun W_ hW_ s_ => by obtain ⟨kc_, hkc_⟩ := H.rename1_ev l1 s_ HL.out; exact (relabel_Rename_1.calls kc_ s_ A1 c1 l1 _ _ d6 W_ (H.later hW_ ((blk_cell (bz b8.out) 0).trans rfl)) (Kd.C_below (by repeat (first | exact (Kd.C_below e6.out HB.out) | (with_reducible refine Kd.C_alloc ?_ _) | (with_reducible refine Kd.C_drewN ?_ _) | (with_reducible refine Kd.C_drew ?_))) hW_) e5.out (hkc_ kc_ (Nat.le_refl _)))⟩); rintro e w8 ⟨h1, h2, rfl, d7, d8, hb⟩; refine ⟨_, rfl, ?_⟩; have a4 := Aside0.mk (Kd.R_lower d7 (below_size (wz HB.out))); have a5 := Aside0.mk (Kd.R_lower d8 (below_size (wz HB.out))); have a6 := Aside0.mk (blk_below (bz a0.out) hb); have a8 := Aside0.mk (blk_below (bz a2.out) hb); have b5 := Aside0.mk (below_step (wz HB.out) hb); clear a0; clear a2; clear HB; have b9 := a4; have d0 := a5; have a0 := a6; have a2 := a8; have HB := b5; clear a4 a5 a6 a8 b5; (try clear hb); (try clear h3); (try clear hk); (try clear hi); (try clear d7); (try clear d8); have f0 : w8.cell? ⟨a1, 0, none⟩ = some (.int .i64 0) := bcz a2 0 rfl; have f1 : w8.cell? ⟨a1, 1, none⟩ = some (.slice none 0 0) := bcz a2 1 rfl; have f2 : w8.cell? ⟨a1, 2, none⟩ = some (.slice none 0 0) := bcz a2 2 rfl; have f6 := blk_frozen a2.out 0; have f7 := blk_frozen a2.out 1; have f8 := blk_frozen a2.out 2; obtain ⟨b0, b1, e2⟩ := Kd.R_slice b9.out; subst e2; obtain ⟨b6, b7, e3⟩ := Kd.R_slice d0.out; subst e3))
 refine bodyPost_ret (results_ct rfl _ _ a1 25 #[.int .i64 a7, .slice b0 a9.length b1, .slice b6 b2.length b7] (0, 0) _ rfl (by (with_reducible repeat (first | refine blk_drewN ?_ _ | refine blk_drew ?_ | refine blk_alloc ?_ _)); refine blk_put (cs := #[.int .i64 a7, .slice b0 a9.length b1, .slice none 0 0]) ?_ 2 _ rfl; (with_reducible repeat (first | refine blk_drewN ?_ _ | refine blk_drew ?_ | refine blk_alloc ?_ _)); refine blk_put (cs := #[.int .i64 a7, .slice none 0 0, .slice none 0 0]) ?_ 1 _ rfl; (with_reducible repeat (first | refine blk_drewN ?_ _ | refine blk_drew ?_ | refine blk_alloc ?_ _)); refine blk_put (cs := #[.int .i64 0, .slice none 0 0, .slice none 0 0]) ?_ 0 _ rfl; (with_reducible repeat (first | refine blk_drewN ?_ _ | refine blk_drew ?_ | refine blk_alloc ?_ _)); exact a2.out) Try.underlying25 rfl (by kernel_rfl)) rfl ?_;exact ⟨_, _, by first | rfl | (simp [errW_none, errW_some] <;> rfl) | (simp [*, errW_none, errW_some] <;> rfl), rz (Kd.R_mono (Kd.R_far (p := ⟨a1, 2, none⟩) (Kd.R_far (p := ⟨a1, 1, none⟩) (Kd.R_far (p := ⟨a1, 0, none⟩) (Kd.R_types b9.out a2.out (by decide)) (fun _ hk => hk.2) (.int .i64 a7)) (fun _ hk => hk.2) (.slice b0 a9.length b1)) (fun _ hk => hk.2) (.slice b6 b2.length b7)) (fun _ hk => trivial)), rz (Kd.R_mono (Kd.R_far (p := ⟨a1, 2, none⟩) (Kd.R_far (p := ⟨a1, 1, none⟩) (Kd.R_far (p := ⟨a1, 0, none⟩) (Kd.R_types d0.out a2.out (by decide)) (fun _ hk => hk.2) (.int .i64 a7)) (fun _ hk => hk.2) (.slice b0 a9.length b1)) (fun _ hk => hk.2) (.slice b6 b2.length b7)) (fun _ hk => trivial)), wz HB.out⟩
def Pxc.f (a0_0 : Int) (l0_1 : List ByteArray) (l0_2 : List (S80)) (l1 : List ByteArray) : Option (Int × List ByteArray × (List (S80)) × Int) := if l1.length ≤ 1000000 then some (H.turnP a0_0 l0_1 l0_2 (H.gHide l1)) else none
set_option maxHeartbeats 8000000 in
set_option maxRecDepth 100000 in
theorem Pxc.calls (a0_0 : Int) (A0_1 : Option Addr) (c0_1 : Nat) (l0_1 : List ByteArray) (A0_2 : Option Addr) (c0_2 : Nat) (l0_2 : List (S80)) (A1 : Option Addr) (c1 : Nat) (l1 : List ByteArray) (r1 : Int) (r2 : List ByteArray) (r3 : List (S80)) (r4 : Int) (w : World) (hr0_1 : Kd.C Kd.string w A0_1 l0_1.length l0_1) (hc0_1 : l0_1.length ≤ c0_1) (hr0_2 : Kd.C k80 w A0_2 l0_2.length l0_2) (hc0_2 : l0_2.length ≤ c0_2) (hr1 : Kd.C Kd.string w A1 l1.length l1) (hc1 : l1.length ≤ c1) (h : Pxc.f a0_0 l0_1 l0_2 l1 = some (r1, r2, r3, r4)) :
  Calls Try.prog 42 #[.agg #[.int .i64 a0_0, .slice A0_1 l0_1.length c0_1, .slice A0_2 l0_2.length c0_2], .slice A1 l1.length c1] w fun e w' => ∃ v1_ v2_ : Value, e = .returned (.tuple #[.agg #[.int .i64 r1, v1_, v2_], .int .i64 r4]) ∧ Kd.R Kd.string 9 w' w.heap.size (fun _ => True) v1_ r2 ∧ Kd.R k80 80 w' w.heap.size (fun _ => True) v2_ r3 ∧ Below w.heap.size w w' := by
 have h0 := Try.underlying25;have d4 := Aside0.mk hr0_1;have d2 := Aside0.mk hc0_1;clear hr0_1 hc0_1;have d5 := Aside0.mk hr0_2;have d3 := Aside0.mk hc0_2;clear hr0_2 hc0_2;have e6 := Aside0.mk hr1;have e5 := Aside0.mk hc1;clear hr1 hc1;have HB := Aside0.mk (Below.refl w.heap.size w);unfold Pxc.f at h;split at h
 rotate_left 1
 ·cases h
 rename_i hlen_;have HL := Aside0.mk hlen_;clear hlen_;obtain ⟨a7, a9, b2, e4, hT_⟩ : ∃ a b c d, (a, b, c, d) = H.turnP a0_0 l0_1 l0_2 (H.gHide l1) := ⟨_, _, _, _, rfl⟩
 rw [← hT_] at h;simp only [Option.some.injEq, Prod.mk.injEq] at h;obtain ⟨rfl, rfl, rfl, rfl⟩ := h;obtain ⟨kt_, hkt_⟩ := H.turn_ev a0_0 l0_1 l0_2 (H.gHide l1);have d1 := hkt_ kt_ (Nat.le_refl _);rw [← hT_] at d1;have A3 := Aside0.mk d1;clear d1 hkt_ hT_;have hmf : ∀ (fn : Fn) (first cap : Array Value) (w : World), (Instr.makeFunc fn first cap).run Try.prog w = .ok (.func fn first cap) w := fun _ _ _ _ => rfl
 go_enter Try.func42, Try.ntmps42
 go_wp2_with (first | ((with_reducible refine gate_dst (N := 2) rfl ?_); refine box_event ?hg (N := 2) ?hd (cs := #[.int .i64 a0_0, .slice A0_1 l0_1.length c0_1, .slice A0_2 l0_2.length c0_2]) (t := 25) ?hr ?_; (case hd => rfl); (case hg => rfl); (case hr => first | (go_simp; done) | (go_simp; rfl)); intro a3 hg w4 hbox hb; have a4 := Aside0.mk (below_step (wz HB.out) hb); have a5 := Aside0.mk (hbox); have a6 := Aside0.mk ((by rw [hg]; exact (below_size (wz HB.out)) : w.heap.size ≤ a3)); have a8 := Aside0.mk ((by rw [hg]; exact (below_size (wz HB.out)) : w.heap.size ≤ a3)); clear HB; have HB := a4; have a0 := a5; have g1 := a6; have f9 := a8; clear a4 a5 a6 a8; clear hb hbox hg) | ((with_reducible refine gate_dst (N := 3) rfl ?_); refine box_event ?hg (N := 3) ?hd (cs := #[.slice A1 l1.length c1]) (t := 22) ?hr ?_; (case hd => rfl); (case hg => rfl); (case hr => first | (go_simp; done) | (go_simp; rfl)); intro d6 hg w9 hbox hb; have a4 := Aside0.mk (blk_below (bz a0.out) hb); have a5 := Aside0.mk (below_step (wz HB.out) hb); have a6 := Aside0.mk (hbox); clear a0; clear HB; have a0 := a4; have HB := a5; have b8 := a6; clear a4 a5 a6; clear hb hbox hg) | ((with_reducible refine gate_dst (N := 4) rfl ?_); refine box_event ?hg (N := 4) ?hd (cs := #[.int .i64 0, .slice none 0 0, .slice none 0 0]) (t := 25) ?hr ?_; (case hd => rfl); (case hg => rfl); (case hr => first | (go_simp; done) | (go_simp; rfl)); intro a1 hg w5 hbox hb; have e1 := Aside0.mk (blk_below (bz b8.out) hb); clear b8; have b8 := e1; clear e1; have a4 := Aside0.mk (blk_below (bz a0.out) hb); have a5 := Aside0.mk (below_step (wz HB.out) hb); have a6 := Aside0.mk (hbox); have a8 := Aside0.mk ((by rw [hg]; exact (below_size (wz HB.out)) : w.heap.size ≤ a1)); have b5 := Aside0.mk ((by rw [hg]; exact (below_size (wz HB.out)) : w.heap.size ≤ a1)); have d9 := Aside0.mk ((by rw [hg]; exact Nat.ne_of_lt (blk_lt (g := a3) (o := .cells #[.int .i64 a0_0, .slice A0_1 l0_1.length c0_1, .slice A0_2 l0_2.length c0_2] 25 (0, 0)) (bz a0.out)) : a3 ≠ a1)); have e0 := Aside0.mk ((by rw [hg]; exact Nat.ne_of_gt (blk_lt (g := a3) (o := .cells #[.int .i64 a0_0, .slice A0_1 l0_1.length c0_1, .slice A0_2 l0_2.length c0_2] 25 (0, 0)) (bz a0.out)) : a1 ≠ a3)); clear a0; clear HB; have a0 := a4; have HB := a5; have a2 := a6; have g2 := a8; have g0 := b5; have b3 := d9; have b4 := e0; clear a4 a5 a6 a8 b5 d9 e0; clear hb hbox hg; have g8 := b3.out; have g9 := b4.out; have e7 : w5.cell? ⟨a3, 0, none⟩ = some (.int .i64 a0_0) := bcz a0 0 rfl; have e8 : w5.cell? ⟨a3, 1, none⟩ = some (.slice A0_1 l0_1.length c0_1) := bcz a0 1 rfl; have e9 : w5.cell? ⟨a3, 2, none⟩ = some (.slice A0_2 l0_2.length c0_2) := bcz a0 2 rfl; have f3 := blk_frozen a0.out 0; have f4 := blk_frozen a0.out 1; have f5 := blk_frozen a0.out 2) | ((with_reducible refine gate_callee (f := 94) rfl ?_); refine goesL_ (some 8) rfl rfl Try.func94 (by kernel_rfl) rfl #[.agg #[.int .i64 a0_0, .slice A0_1 l0_1.length c0_1, .slice A0_2 l0_2.length c0_2], .func (.func 96) #[] #[.pointer (some ⟨d6, 0, none⟩)]] rfl (by (try simp only [List.map_toArray, List.map_cons, List.map_nil]); first | done | rfl | (simp only [List.length_drop, List.length_take]; rfl)) ?_; (with_reducible refine (Pxd.calls kt_ a0_0 _ _ l0_1 _ _ l0_2 _ _ (H.gHide l1) a7 a9 b2 e4 _ ?g3 ?g4 ?g5 ?g6 ?g7 A3.out).mono ?_); (case g3 => exact cz d4.out HB.out); (case g4 => exact d2.out); (case g5 => exact cz d5.out HB.out); (case g6 => exact d3.out); (case g7 => exact ⟨⟨_, Try.func96, by kernel_rfl, by kernel_rfl⟩, fun W_ hW_ s_ => by obtain ⟨kc_, hkc_⟩ := H.hide1_ev l1 s_ HL.out; exact (relabel_Hide_1.calls kc_ s_ A1 c1 l1 _ _ d6 W_ (H.later hW_ ((blk_cell (bz b8.out) 0).trans rfl)) (Kd.C_below (by repeat (first | exact (Kd.C_below e6.out HB.out) | (with_reducible refine Kd.C_alloc ?_ _) | (with_reducible refine Kd.C_drewN ?_ _) | (with_reducible refine Kd.C_drew ?_))) hW_) e5.out (hkc_ kc_ (Nat.le_refl _))).mono fun e_ w_ h_ => ⟨h_.1, Drawn0.below h_.2⟩⟩); rintro e w8 ⟨h1, h2, rfl, d7, d8, hb⟩; refine ⟨_, rfl, ?_⟩; have a4 := Aside0.mk (Kd.R_lower d7 (below_size (wz HB.out))); have a5 := Aside0.mk (Kd.R_lower d8 (below_size (wz HB.out))); have a6 := Aside0.mk (blk_below (bz a0.out) hb); have a8 := Aside0.mk (blk_below (bz a2.out) hb); have b5 := Aside0.mk (below_step (wz HB.out) hb); clear a0; clear a2; clear HB; have b9 := a4; have d0 := a5; have a0 := a6; have a2 := a8; have HB := b5; clear a4 a5 a6 a8 b5; (try clear hb); (try clear h3); (try clear hk); (try clear hi); (try clear d7); (try clear d8); have f0 : w8.cell? ⟨a1, 0, none⟩ = some (.int .i64 0) := bcz a2 0 rfl; have f1 : w8.cell? ⟨a1, 1, none⟩ = some (.slice none 0 0) := bcz a2 1 rfl; have f2 : w8.cell? ⟨a1, 2, none⟩ = some (.slice none 0 0) := bcz a2 2 rfl; have f6 := blk_frozen a2.out 0; have f7 := blk_frozen a2.out 1; have f8 := blk_frozen a2.out 2; obtain ⟨b0, b1, e2⟩ := Kd.R_slice b9.out; subst e2; obtain ⟨b6, b7, e3⟩ := Kd.R_slice d0.out; subst e3))
 refine bodyPost_ret (results_ct rfl _ _ a1 25 #[.int .i64 a7, .slice b0 a9.length b1, .slice b6 b2.length b7] (0, 0) _ rfl (by (with_reducible repeat (first | refine blk_drewN ?_ _ | refine blk_drew ?_ | refine blk_alloc ?_ _)); refine blk_put (cs := #[.int .i64 a7, .slice b0 a9.length b1, .slice none 0 0]) ?_ 2 _ rfl; (with_reducible repeat (first | refine blk_drewN ?_ _ | refine blk_drew ?_ | refine blk_alloc ?_ _)); refine blk_put (cs := #[.int .i64 a7, .slice none 0 0, .slice none 0 0]) ?_ 1 _ rfl; (with_reducible repeat (first | refine blk_drewN ?_ _ | refine blk_drew ?_ | refine blk_alloc ?_ _)); refine blk_put (cs := #[.int .i64 0, .slice none 0 0, .slice none 0 0]) ?_ 0 _ rfl; (with_reducible repeat (first | refine blk_drewN ?_ _ | refine blk_drew ?_ | refine blk_alloc ?_ _)); exact a2.out) Try.underlying25 rfl (by kernel_rfl)) rfl ?_;exact ⟨_, _, by first | rfl | (simp [errW_none, errW_some] <;> rfl) | (simp [*, errW_none, errW_some] <;> rfl), rz (Kd.R_mono (Kd.R_far (p := ⟨a1, 2, none⟩) (Kd.R_far (p := ⟨a1, 1, none⟩) (Kd.R_far (p := ⟨a1, 0, none⟩) (Kd.R_types b9.out a2.out (by decide)) (fun _ hk => hk.2) (.int .i64 a7)) (fun _ hk => hk.2) (.slice b0 a9.length b1)) (fun _ hk => hk.2) (.slice b6 b2.length b7)) (fun _ hk => trivial)), rz (Kd.R_mono (Kd.R_far (p := ⟨a1, 2, none⟩) (Kd.R_far (p := ⟨a1, 1, none⟩) (Kd.R_far (p := ⟨a1, 0, none⟩) (Kd.R_types d0.out a2.out (by decide)) (fun _ hk => hk.2) (.int .i64 a7)) (fun _ hk => hk.2) (.slice b0 a9.length b1)) (fun _ hk => hk.2) (.slice b6 b2.length b7)) (fun _ hk => trivial)), wz HB.out⟩
def Pxe.f (a0_0 : Int) (l0_1 : List ByteArray) (l0_2 : List (S80)) (l1 : List ByteArray) : Option (Int × List ByteArray × (List (S80)) × Int) := if l1.length ≤ 1000000 then some (H.turnP a0_0 l0_1 l0_2 (H.gKeep l1)) else none
set_option maxHeartbeats 8000000 in
set_option maxRecDepth 100000 in
theorem Pxe.calls (a0_0 : Int) (A0_1 : Option Addr) (c0_1 : Nat) (l0_1 : List ByteArray) (A0_2 : Option Addr) (c0_2 : Nat) (l0_2 : List (S80)) (A1 : Option Addr) (c1 : Nat) (l1 : List ByteArray) (r1 : Int) (r2 : List ByteArray) (r3 : List (S80)) (r4 : Int) (w : World) (hr0_1 : Kd.C Kd.string w A0_1 l0_1.length l0_1) (hc0_1 : l0_1.length ≤ c0_1) (hr0_2 : Kd.C k80 w A0_2 l0_2.length l0_2) (hc0_2 : l0_2.length ≤ c0_2) (hr1 : Kd.C Kd.string w A1 l1.length l1) (hc1 : l1.length ≤ c1) (h : Pxe.f a0_0 l0_1 l0_2 l1 = some (r1, r2, r3, r4)) :
  Calls Try.prog 43 #[.agg #[.int .i64 a0_0, .slice A0_1 l0_1.length c0_1, .slice A0_2 l0_2.length c0_2], .slice A1 l1.length c1] w fun e w' => ∃ v1_ v2_ : Value, e = .returned (.tuple #[.agg #[.int .i64 r1, v1_, v2_], .int .i64 r4]) ∧ Kd.R Kd.string 9 w' w.heap.size (fun _ => True) v1_ r2 ∧ Kd.R k80 80 w' w.heap.size (fun _ => True) v2_ r3 ∧ Below w.heap.size w w' := by
 have h0 := Try.underlying25;have d4 := Aside0.mk hr0_1;have d2 := Aside0.mk hc0_1;clear hr0_1 hc0_1;have d5 := Aside0.mk hr0_2;have d3 := Aside0.mk hc0_2;clear hr0_2 hc0_2;have e6 := Aside0.mk hr1;have e5 := Aside0.mk hc1;clear hr1 hc1;have HB := Aside0.mk (Below.refl w.heap.size w);unfold Pxe.f at h;split at h
 rotate_left 1
 ·cases h
 rename_i hlen_;have HL := Aside0.mk hlen_;clear hlen_;obtain ⟨a7, a9, b2, e4, hT_⟩ : ∃ a b c d, (a, b, c, d) = H.turnP a0_0 l0_1 l0_2 (H.gKeep l1) := ⟨_, _, _, _, rfl⟩
 rw [← hT_] at h;simp only [Option.some.injEq, Prod.mk.injEq] at h;obtain ⟨rfl, rfl, rfl, rfl⟩ := h;obtain ⟨kt_, hkt_⟩ := H.turn_ev a0_0 l0_1 l0_2 (H.gKeep l1);have d1 := hkt_ kt_ (Nat.le_refl _);rw [← hT_] at d1;have A3 := Aside0.mk d1;clear d1 hkt_ hT_;have hmf : ∀ (fn : Fn) (first cap : Array Value) (w : World), (Instr.makeFunc fn first cap).run Try.prog w = .ok (.func fn first cap) w := fun _ _ _ _ => rfl
 go_enter Try.func43, Try.ntmps43
 go_wp2_with (first | ((with_reducible refine gate_dst (N := 2) rfl ?_); refine box_event ?hg (N := 2) ?hd (cs := #[.int .i64 a0_0, .slice A0_1 l0_1.length c0_1, .slice A0_2 l0_2.length c0_2]) (t := 25) ?hr ?_; (case hd => rfl); (case hg => rfl); (case hr => first | (go_simp; done) | (go_simp; rfl)); intro a3 hg w4 hbox hb; have a4 := Aside0.mk (below_step (wz HB.out) hb); have a5 := Aside0.mk (hbox); have a6 := Aside0.mk ((by rw [hg]; exact (below_size (wz HB.out)) : w.heap.size ≤ a3)); have a8 := Aside0.mk ((by rw [hg]; exact (below_size (wz HB.out)) : w.heap.size ≤ a3)); clear HB; have HB := a4; have a0 := a5; have g1 := a6; have f9 := a8; clear a4 a5 a6 a8; clear hb hbox hg) | ((with_reducible refine gate_dst (N := 3) rfl ?_); refine box_event ?hg (N := 3) ?hd (cs := #[.slice A1 l1.length c1]) (t := 22) ?hr ?_; (case hd => rfl); (case hg => rfl); (case hr => first | (go_simp; done) | (go_simp; rfl)); intro d6 hg w9 hbox hb; have a4 := Aside0.mk (blk_below (bz a0.out) hb); have a5 := Aside0.mk (below_step (wz HB.out) hb); have a6 := Aside0.mk (hbox); clear a0; clear HB; have a0 := a4; have HB := a5; have b8 := a6; clear a4 a5 a6; clear hb hbox hg) | ((with_reducible refine gate_dst (N := 4) rfl ?_); refine box_event ?hg (N := 4) ?hd (cs := #[.int .i64 0, .slice none 0 0, .slice none 0 0]) (t := 25) ?hr ?_; (case hd => rfl); (case hg => rfl); (case hr => first | (go_simp; done) | (go_simp; rfl)); intro a1 hg w5 hbox hb; have e1 := Aside0.mk (blk_below (bz b8.out) hb); clear b8; have b8 := e1; clear e1; have a4 := Aside0.mk (blk_below (bz a0.out) hb); have a5 := Aside0.mk (below_step (wz HB.out) hb); have a6 := Aside0.mk (hbox); have a8 := Aside0.mk ((by rw [hg]; exact (below_size (wz HB.out)) : w.heap.size ≤ a1)); have b5 := Aside0.mk ((by rw [hg]; exact (below_size (wz HB.out)) : w.heap.size ≤ a1)); have d9 := Aside0.mk ((by rw [hg]; exact Nat.ne_of_lt (blk_lt (g := a3) (o := .cells #[.int .i64 a0_0, .slice A0_1 l0_1.length c0_1, .slice A0_2 l0_2.length c0_2] 25 (0, 0)) (bz a0.out)) : a3 ≠ a1)); have e0 := Aside0.mk ((by rw [hg]; exact Nat.ne_of_gt (blk_lt (g := a3) (o := .cells #[.int .i64 a0_0, .slice A0_1 l0_1.length c0_1, .slice A0_2 l0_2.length c0_2] 25 (0, 0)) (bz a0.out)) : a1 ≠ a3)); clear a0; clear HB; have a0 := a4; have HB := a5; have a2 := a6; have g2 := a8; have g0 := b5; have b3 := d9; have b4 := e0; clear a4 a5 a6 a8 b5 d9 e0; clear hb hbox hg; have g8 := b3.out; have g9 := b4.out; have e7 : w5.cell? ⟨a3, 0, none⟩ = some (.int .i64 a0_0) := bcz a0 0 rfl; have e8 : w5.cell? ⟨a3, 1, none⟩ = some (.slice A0_1 l0_1.length c0_1) := bcz a0 1 rfl; have e9 : w5.cell? ⟨a3, 2, none⟩ = some (.slice A0_2 l0_2.length c0_2) := bcz a0 2 rfl; have f3 := blk_frozen a0.out 0; have f4 := blk_frozen a0.out 1; have f5 := blk_frozen a0.out 2) | ((with_reducible refine gate_callee (f := 94) rfl ?_); refine goesL_ (some 8) rfl rfl Try.func94 (by kernel_rfl) rfl #[.agg #[.int .i64 a0_0, .slice A0_1 l0_1.length c0_1, .slice A0_2 l0_2.length c0_2], .func (.func 98) #[] #[.pointer (some ⟨d6, 0, none⟩)]] rfl (by (try simp only [List.map_toArray, List.map_cons, List.map_nil]); first | done | rfl | (simp only [List.length_drop, List.length_take]; rfl)) ?_; (with_reducible refine (Pxd.calls kt_ a0_0 _ _ l0_1 _ _ l0_2 _ _ (H.gKeep l1) a7 a9 b2 e4 _ ?g3 ?g4 ?g5 ?g6 ?g7 A3.out).mono ?_); (case g3 => exact cz d4.out HB.out); (case g4 => exact d2.out); (case g5 => exact cz d5.out HB.out); (case g6 => exact d3.out); (case g7 => exact ⟨⟨_, Try.func98, by kernel_rfl, by kernel_rfl⟩, fun W_ hW_ s_ => by obtain ⟨kc_, hkc_⟩ := H.keep1_ev l1 s_ HL.out; exact (relabel_Keep_1.calls kc_ s_ A1 c1 l1 _ _ d6 W_ (H.later hW_ ((blk_cell (bz b8.out) 0).trans rfl)) (Kd.C_below (by repeat (first | exact (Kd.C_below e6.out HB.out) | (with_reducible refine Kd.C_alloc ?_ _) | (with_reducible refine Kd.C_drewN ?_ _) | (with_reducible refine Kd.C_drew ?_))) hW_) e5.out (hkc_ kc_ (Nat.le_refl _))).mono fun e_ w_ h_ => ⟨h_.1, Drawn0.below h_.2⟩⟩); rintro e w8 ⟨h1, h2, rfl, d7, d8, hb⟩; refine ⟨_, rfl, ?_⟩; have a4 := Aside0.mk (Kd.R_lower d7 (below_size (wz HB.out))); have a5 := Aside0.mk (Kd.R_lower d8 (below_size (wz HB.out))); have a6 := Aside0.mk (blk_below (bz a0.out) hb); have a8 := Aside0.mk (blk_below (bz a2.out) hb); have b5 := Aside0.mk (below_step (wz HB.out) hb); clear a0; clear a2; clear HB; have b9 := a4; have d0 := a5; have a0 := a6; have a2 := a8; have HB := b5; clear a4 a5 a6 a8 b5; (try clear hb); (try clear h3); (try clear hk); (try clear hi); (try clear d7); (try clear d8); have f0 : w8.cell? ⟨a1, 0, none⟩ = some (.int .i64 0) := bcz a2 0 rfl; have f1 : w8.cell? ⟨a1, 1, none⟩ = some (.slice none 0 0) := bcz a2 1 rfl; have f2 : w8.cell? ⟨a1, 2, none⟩ = some (.slice none 0 0) := bcz a2 2 rfl; have f6 := blk_frozen a2.out 0; have f7 := blk_frozen a2.out 1; have f8 := blk_frozen a2.out 2; obtain ⟨b0, b1, e2⟩ := Kd.R_slice b9.out; subst e2; obtain ⟨b6, b7, e3⟩ := Kd.R_slice d0.out; subst e3))
 refine bodyPost_ret (results_ct rfl _ _ a1 25 #[.int .i64 a7, .slice b0 a9.length b1, .slice b6 b2.length b7] (0, 0) _ rfl (by (with_reducible repeat (first | refine blk_drewN ?_ _ | refine blk_drew ?_ | refine blk_alloc ?_ _)); refine blk_put (cs := #[.int .i64 a7, .slice b0 a9.length b1, .slice none 0 0]) ?_ 2 _ rfl; (with_reducible repeat (first | refine blk_drewN ?_ _ | refine blk_drew ?_ | refine blk_alloc ?_ _)); refine blk_put (cs := #[.int .i64 a7, .slice none 0 0, .slice none 0 0]) ?_ 1 _ rfl; (with_reducible repeat (first | refine blk_drewN ?_ _ | refine blk_drew ?_ | refine blk_alloc ?_ _)); refine blk_put (cs := #[.int .i64 0, .slice none 0 0, .slice none 0 0]) ?_ 0 _ rfl; (with_reducible repeat (first | refine blk_drewN ?_ _ | refine blk_drew ?_ | refine blk_alloc ?_ _)); exact a2.out) Try.underlying25 rfl (by kernel_rfl)) rfl ?_;exact ⟨_, _, by first | rfl | (simp [errW_none, errW_some] <;> rfl) | (simp [*, errW_none, errW_some] <;> rfl), rz (Kd.R_mono (Kd.R_far (p := ⟨a1, 2, none⟩) (Kd.R_far (p := ⟨a1, 1, none⟩) (Kd.R_far (p := ⟨a1, 0, none⟩) (Kd.R_types b9.out a2.out (by decide)) (fun _ hk => hk.2) (.int .i64 a7)) (fun _ hk => hk.2) (.slice b0 a9.length b1)) (fun _ hk => hk.2) (.slice b6 b2.length b7)) (fun _ hk => trivial)), rz (Kd.R_mono (Kd.R_far (p := ⟨a1, 2, none⟩) (Kd.R_far (p := ⟨a1, 1, none⟩) (Kd.R_far (p := ⟨a1, 0, none⟩) (Kd.R_types d0.out a2.out (by decide)) (fun _ hk => hk.2) (.int .i64 a7)) (fun _ hk => hk.2) (.slice b0 a9.length b1)) (fun _ hk => hk.2) (.slice b6 b2.length b7)) (fun _ hk => trivial)), wz HB.out⟩
end Go.Proofs.Ytmcbkmfpmcbdpaa.Pr
namespace Go.Proofs.Ytmcbkmfpmcbdpaa.Pr
open Go.RowKit Go.Proofs.YtmcbkmfpmcbdpaaW.PrintWords Go.Proofs.YtmcbkmfpmcbdpaaW.PrintLast Go.Proofs.YtmcbkmfpmcbdpaaW.PrintMore
attribute [local go_sem] max2_int min2_int max_two min_two max_three min_three max_four min_four
set_option linter.unusedVariables false
set_option linter.unusedSimpArgs false
def Pl51b.f (k : Nat)  : Option (Bool) := (some (([(⟨#[97]⟩ : ByteArray), (⟨#[98]⟩ : ByteArray)] : List ByteArray) : List ByteArray)).bind fun y102 => ((some (([(⟨0, 0, 0⟩ : S80), (⟨0, 1, 0⟩ : S80)] : List (S80)) : List (S80))).bind fun y105 => ((Pxb.f 1 y102 y105 (([(⟨(⟨#[97]⟩ : ByteArray), (⟨#[98]⟩ : ByteArray)⟩ : S55)] : List (S55)))).bind fun bt112 => ((Pxc.f 1 y102 y105 (([(⟨#[97]⟩ : ByteArray)] : List ByteArray))).bind fun bt124 => ((Pxe.f 1 y102 y105 (([(⟨#[98]⟩ : ByteArray)] : List ByteArray))).bind fun bt136 => (if bt112.2.2.2 = 0 then (if (bt112.2.2.1.length : Int) = 1 then ((Pr01a.f k bt112.2.1 (([(⟨#[98]⟩ : ByteArray)] : List ByteArray))).bind fun t148 => (if t148 = true then (if bt124.2.2.2 = 0 then ((Pr26a.f k bt112.1 bt112.2.1 bt112.2.2.1 bt124.1 bt124.2.1 bt124.2.2.1).bind fun t149 => (if t149 = true then (if bt136.2.2.2 = 0 then ((Pr26a.f k bt124.1 bt124.2.1 bt124.2.2.1 bt136.1 bt136.2.1 bt136.2.2.1).bind fun t150 => (some t150)) else (some false)) else (some false))) else (some false)) else (some false))) else (some false)) else (some false))))))
theorem Pl51b.mono : ∀ k, LeO (Pl51b.f k ) (Pl51b.f (k + 1) ) := by
 intro  k
 unfold Pl51b.f
 repeat' first
   | (with_reducible exact Pr01a.mono _ _ _)
   | (with_reducible exact Pr26a.mono _ _ _ _ _ _ _)
   | (with_reducible exact LeO.refl _)
   | (with_reducible exact LeO.none _)
   | (with_reducible refine LeO.ite ?_ ?_)
   | (with_reducible refine LeO.bind ?_ (fun _ => ?_))
   | exact Pr01a.mono _ _ _
   | exact Pr26a.mono _ _ _ _ _ _ _
   | exact LeO.none _
   | refine LeO.ite ?_ ?_
   | refine LeO.bind ?_ (fun _ => ?_)
set_option maxHeartbeats 8000000 in
set_option maxRecDepth 100000 in
theorem Pl51b.calls (k : Nat)  (r : Bool) (w : World) (h : Pl51b.f k  = some r) (hr_ : Aside0 (r = true)) :
  Calls Try.prog 40 #[] w fun e w' => e = .returned (.bool r) ∧ Below w.heap.size w w' := by
 have B2 := Try.underlying80;have B0 := Try.underlying25;have B1 := Try.underlying55;have HB := Aside0.mk (Below.refl w.heap.size w);have H : ((some (([(⟨#[97]⟩ : ByteArray), (⟨#[98]⟩ : ByteArray)] : List ByteArray) : List ByteArray)).bind fun b5 => ((some (([(⟨0, 0, 0⟩ : S80), (⟨0, 1, 0⟩ : S80)] : List (S80)) : List (S80))).bind fun b6 => ((Pxb.f 1 b5 b6 (([(⟨(⟨#[97]⟩ : ByteArray), (⟨#[98]⟩ : ByteArray)⟩ : S55)] : List (S55)))).bind fun d4 => ((Pxc.f 1 b5 b6 (([(⟨#[97]⟩ : ByteArray)] : List ByteArray))).bind fun a7 => ((Pxe.f 1 b5 b6 (([(⟨#[98]⟩ : ByteArray)] : List ByteArray))).bind fun b0 => (if d4.2.2.2 = 0 then (if (d4.2.2.1.length : Int) = 1 then ((Pr01a.f k d4.2.1 (([(⟨#[98]⟩ : ByteArray)] : List ByteArray))).bind fun f2 => (if f2 = true then (if a7.2.2.2 = 0 then ((Pr26a.f k d4.1 d4.2.1 d4.2.2.1 a7.1 a7.2.1 a7.2.2.1).bind fun e8 => (if e8 = true then (if b0.2.2.2 = 0 then ((Pr26a.f k a7.1 a7.2.1 a7.2.2.1 b0.1 b0.2.1 b0.2.2.1).bind fun d9 => (some d9)) else (some false)) else (some false))) else (some false)) else (some false))) else (some false)) else (some false))))))) = some r := h;clear h;obtain ⟨b5, j2⟩ : ∃ y_ : List ByteArray, y_ = (([(⟨#[97]⟩ : ByteArray), (⟨#[98]⟩ : ByteArray)] : List ByteArray)) := ⟨_, rfl⟩
 replace H : ((some (([(⟨0, 0, 0⟩ : S80), (⟨0, 1, 0⟩ : S80)] : List (S80)) : List (S80))).bind fun b6 => ((Pxb.f 1 b5 b6 (([(⟨(⟨#[97]⟩ : ByteArray), (⟨#[98]⟩ : ByteArray)⟩ : S55)] : List (S55)))).bind fun d4 => ((Pxc.f 1 b5 b6 (([(⟨#[97]⟩ : ByteArray)] : List ByteArray))).bind fun a7 => ((Pxe.f 1 b5 b6 (([(⟨#[98]⟩ : ByteArray)] : List ByteArray))).bind fun b0 => (if d4.2.2.2 = 0 then (if (d4.2.2.1.length : Int) = 1 then ((Pr01a.f k d4.2.1 (([(⟨#[98]⟩ : ByteArray)] : List ByteArray))).bind fun f2 => (if f2 = true then (if a7.2.2.2 = 0 then ((Pr26a.f k d4.1 d4.2.1 d4.2.2.1 a7.1 a7.2.1 a7.2.2.1).bind fun e8 => (if e8 = true then (if b0.2.2.2 = 0 then ((Pr26a.f k a7.1 a7.2.1 a7.2.2.1 b0.1 b0.2.1 b0.2.2.1).bind fun d9 => (some d9)) else (some false)) else (some false))) else (some false)) else (some false))) else (some false)) else (some false)))))) = some r := by first | (rw [j2]; with_reducible exact H) | (have h1 := (Option.bind_some _ _).symm.trans H; rw [j2]; with_reducible exact h1) | (have h1 := (Option.bind_some _ _).symm.trans H; with_reducible exact h1) | with_reducible exact H | (rw [j2]; exact H) | exact H
 have n1 := Aside0.mk j2;clear j2;obtain ⟨b6, j3⟩ : ∃ y_ : List (S80), y_ = (([(⟨0, 0, 0⟩ : S80), (⟨0, 1, 0⟩ : S80)] : List (S80))) := ⟨_, rfl⟩
 replace H : ((Pxb.f 1 b5 b6 (([(⟨(⟨#[97]⟩ : ByteArray), (⟨#[98]⟩ : ByteArray)⟩ : S55)] : List (S55)))).bind fun d4 => ((Pxc.f 1 b5 b6 (([(⟨#[97]⟩ : ByteArray)] : List ByteArray))).bind fun a7 => ((Pxe.f 1 b5 b6 (([(⟨#[98]⟩ : ByteArray)] : List ByteArray))).bind fun b0 => (if d4.2.2.2 = 0 then (if (d4.2.2.1.length : Int) = 1 then ((Pr01a.f k d4.2.1 (([(⟨#[98]⟩ : ByteArray)] : List ByteArray))).bind fun f2 => (if f2 = true then (if a7.2.2.2 = 0 then ((Pr26a.f k d4.1 d4.2.1 d4.2.2.1 a7.1 a7.2.1 a7.2.2.1).bind fun e8 => (if e8 = true then (if b0.2.2.2 = 0 then ((Pr26a.f k a7.1 a7.2.1 a7.2.2.1 b0.1 b0.2.1 b0.2.2.1).bind fun d9 => (some d9)) else (some false)) else (some false))) else (some false)) else (some false))) else (some false)) else (some false))))) = some r := by first | (rw [j3]; with_reducible exact H) | (have h1 := (Option.bind_some _ _).symm.trans H; rw [j3]; with_reducible exact h1) | (have h1 := (Option.bind_some _ _).symm.trans H; with_reducible exact h1) | with_reducible exact H | (rw [j3]; exact H) | exact H
 have n2 := Aside0.mk j3;clear j3;obtain ⟨m8, j4⟩ : ∃ y_ : List (S55), y_ = (([(⟨(⟨#[97]⟩ : ByteArray), (⟨#[98]⟩ : ByteArray)⟩ : S55)] : List (S55))) := ⟨_, rfl⟩
 replace H : ((Pxb.f 1 b5 b6 m8).bind fun d4 => ((Pxc.f 1 b5 b6 (([(⟨#[97]⟩ : ByteArray)] : List ByteArray))).bind fun a7 => ((Pxe.f 1 b5 b6 (([(⟨#[98]⟩ : ByteArray)] : List ByteArray))).bind fun b0 => (if d4.2.2.2 = 0 then (if (d4.2.2.1.length : Int) = 1 then ((Pr01a.f k d4.2.1 (([(⟨#[98]⟩ : ByteArray)] : List ByteArray))).bind fun f2 => (if f2 = true then (if a7.2.2.2 = 0 then ((Pr26a.f k d4.1 d4.2.1 d4.2.2.1 a7.1 a7.2.1 a7.2.2.1).bind fun e8 => (if e8 = true then (if b0.2.2.2 = 0 then ((Pr26a.f k a7.1 a7.2.1 a7.2.2.1 b0.1 b0.2.1 b0.2.2.1).bind fun d9 => (some d9)) else (some false)) else (some false))) else (some false)) else (some false))) else (some false)) else (some false))))) = some r := by first | (rw [j4]; with_reducible exact H) | (have h1 := (Option.bind_some _ _).symm.trans H; rw [j4]; with_reducible exact h1) | (have h1 := (Option.bind_some _ _).symm.trans H; with_reducible exact h1) | with_reducible exact H | (rw [j4]; exact H) | exact H
 have n3 := Aside0.mk j4;clear j4;replace H := Option.bind_eq_some_iff.mp H;obtain ⟨⟨e3, d5, d0, i5⟩, o9, H⟩ := H;replace H : ((Pxc.f 1 b5 b6 (([(⟨#[97]⟩ : ByteArray)] : List ByteArray))).bind fun a7 => ((Pxe.f 1 b5 b6 (([(⟨#[98]⟩ : ByteArray)] : List ByteArray))).bind fun b0 => (if i5 = 0 then (if (d0.length : Int) = 1 then ((Pr01a.f k d5 (([(⟨#[98]⟩ : ByteArray)] : List ByteArray))).bind fun f2 => (if f2 = true then (if a7.2.2.2 = 0 then ((Pr26a.f k e3 d5 d0 a7.1 a7.2.1 a7.2.2.1).bind fun e8 => (if e8 = true then (if b0.2.2.2 = 0 then ((Pr26a.f k a7.1 a7.2.1 a7.2.2.1 b0.1 b0.2.1 b0.2.2.1).bind fun d9 => (some d9)) else (some false)) else (some false))) else (some false)) else (some false))) else (some false)) else (some false)))) = some r := H;have A1 := Aside0.mk o9;clear o9;obtain ⟨m9, j5⟩ : ∃ y_ : List ByteArray, y_ = (([(⟨#[97]⟩ : ByteArray)] : List ByteArray)) := ⟨_, rfl⟩
 replace H : ((Pxc.f 1 b5 b6 m9).bind fun a7 => ((Pxe.f 1 b5 b6 (([(⟨#[98]⟩ : ByteArray)] : List ByteArray))).bind fun b0 => (if i5 = 0 then (if (d0.length : Int) = 1 then ((Pr01a.f k d5 (([(⟨#[98]⟩ : ByteArray)] : List ByteArray))).bind fun f2 => (if f2 = true then (if a7.2.2.2 = 0 then ((Pr26a.f k e3 d5 d0 a7.1 a7.2.1 a7.2.2.1).bind fun e8 => (if e8 = true then (if b0.2.2.2 = 0 then ((Pr26a.f k a7.1 a7.2.1 a7.2.2.1 b0.1 b0.2.1 b0.2.2.1).bind fun d9 => (some d9)) else (some false)) else (some false))) else (some false)) else (some false))) else (some false)) else (some false)))) = some r := by first | (rw [j5]; with_reducible exact H) | (have h1 := (Option.bind_some _ _).symm.trans H; rw [j5]; with_reducible exact h1) | (have h1 := (Option.bind_some _ _).symm.trans H; with_reducible exact h1) | with_reducible exact H | (rw [j5]; exact H) | exact H
 have n4 := Aside0.mk j5;clear j5;replace H := Option.bind_eq_some_iff.mp H;obtain ⟨⟨b8, d1, d2, i1⟩, p0, H⟩ := H;replace H : ((Pxe.f 1 b5 b6 (([(⟨#[98]⟩ : ByteArray)] : List ByteArray))).bind fun b0 => (if i5 = 0 then (if (d0.length : Int) = 1 then ((Pr01a.f k d5 (([(⟨#[98]⟩ : ByteArray)] : List ByteArray))).bind fun f2 => (if f2 = true then (if i1 = 0 then ((Pr26a.f k e3 d5 d0 b8 d1 d2).bind fun e8 => (if e8 = true then (if b0.2.2.2 = 0 then ((Pr26a.f k b8 d1 d2 b0.1 b0.2.1 b0.2.2.1).bind fun d9 => (some d9)) else (some false)) else (some false))) else (some false)) else (some false))) else (some false)) else (some false))) = some r := H;have A2 := Aside0.mk p0;clear p0;obtain ⟨n0, j6⟩ : ∃ y_ : List ByteArray, y_ = (([(⟨#[98]⟩ : ByteArray)] : List ByteArray)) := ⟨_, rfl⟩
 replace H : ((Pxe.f 1 b5 b6 n0).bind fun b0 => (if i5 = 0 then (if (d0.length : Int) = 1 then ((Pr01a.f k d5 (([(⟨#[98]⟩ : ByteArray)] : List ByteArray))).bind fun f2 => (if f2 = true then (if i1 = 0 then ((Pr26a.f k e3 d5 d0 b8 d1 d2).bind fun e8 => (if e8 = true then (if b0.2.2.2 = 0 then ((Pr26a.f k b8 d1 d2 b0.1 b0.2.1 b0.2.2.1).bind fun d9 => (some d9)) else (some false)) else (some false))) else (some false)) else (some false))) else (some false)) else (some false))) = some r := by first | (rw [j6]; with_reducible exact H) | (have h1 := (Option.bind_some _ _).symm.trans H; rw [j6]; with_reducible exact h1) | (have h1 := (Option.bind_some _ _).symm.trans H; with_reducible exact h1) | with_reducible exact H | (rw [j6]; exact H) | exact H
 have n5 := Aside0.mk j6;clear j6;replace H := Option.bind_eq_some_iff.mp H;obtain ⟨⟨e0, e4, e5, i2⟩, p1, H⟩ := H;replace H : (if i5 = 0 then (if (d0.length : Int) = 1 then ((Pr01a.f k d5 (([(⟨#[98]⟩ : ByteArray)] : List ByteArray))).bind fun f2 => (if f2 = true then (if i1 = 0 then ((Pr26a.f k e3 d5 d0 b8 d1 d2).bind fun e8 => (if e8 = true then (if i2 = 0 then ((Pr26a.f k b8 d1 d2 e0 e4 e5).bind fun d9 => (some d9)) else (some false)) else (some false))) else (some false)) else (some false))) else (some false)) else (some false)) = some r := H;have A3 := Aside0.mk p1;clear p1;by_cases c4 : i5 = 0
 ·rw [if_pos c4] at H;have c4b0 : (i5 == 0) = true := beq_iff_eq.mpr c4;have c4b1 : (i5 != 0) = false := bne_eq_false_iff_eq.mpr c4;clear c4;by_cases c5 : (d0.length : Int) = 1
  ·rw [if_pos c5] at H;have c5b0 : ((d0.length : Int) == 1) = true := beq_iff_eq.mpr c5;have c5b1 : ((d0.length : Int) != 1) = false := bne_eq_false_iff_eq.mpr c5;clear c5;obtain ⟨o6, j7⟩ : ∃ y_ : List ByteArray, y_ = (([(⟨#[98]⟩ : ByteArray)] : List ByteArray)) := ⟨_, rfl⟩
   replace H : ((Pr01a.f k d5 o6).bind fun f2 => (if f2 = true then (if i1 = 0 then ((Pr26a.f k e3 d5 d0 b8 d1 d2).bind fun e8 => (if e8 = true then (if i2 = 0 then ((Pr26a.f k b8 d1 d2 e0 e4 e5).bind fun d9 => (some d9)) else (some false)) else (some false))) else (some false)) else (some false))) = some r := by first | (rw [j7]; with_reducible exact H) | (have h1 := (Option.bind_some _ _).symm.trans H; rw [j7]; with_reducible exact h1) | (have h1 := (Option.bind_some _ _).symm.trans H; with_reducible exact h1) | with_reducible exact H | (rw [j7]; exact H) | exact H
   have n6 := Aside0.mk j7;clear j7;replace H := Option.bind_eq_some_iff.mp H;obtain ⟨f2, p2, H⟩ := H;replace H : (if f2 = true then (if i1 = 0 then ((Pr26a.f k e3 d5 d0 b8 d1 d2).bind fun e8 => (if e8 = true then (if i2 = 0 then ((Pr26a.f k b8 d1 d2 e0 e4 e5).bind fun d9 => (some d9)) else (some false)) else (some false))) else (some false)) else (some false)) = some r := H;have A6 := Aside0.mk p2;clear p2;by_cases c7 : f2 = true
   ·subst c7;have H1 : (if i1 = 0 then ((Pr26a.f k e3 d5 d0 b8 d1 d2).bind fun e8 => (if e8 = true then (if i2 = 0 then ((Pr26a.f k b8 d1 d2 e0 e4 e5).bind fun d9 => (some d9)) else (some false)) else (some false))) else (some false)) = some r := by rw [if_pos rfl] at H; exact H
    clear H;have H := H1;clear H1;by_cases c8 : i1 = 0
    ·rw [if_pos c8] at H;have c8b0 : (i1 == 0) = true := beq_iff_eq.mpr c8;have c8b1 : (i1 != 0) = false := bne_eq_false_iff_eq.mpr c8;clear c8;replace H := Option.bind_eq_some_iff.mp H;obtain ⟨e8, p3, H⟩ := H;replace H : (if e8 = true then (if i2 = 0 then ((Pr26a.f k b8 d1 d2 e0 e4 e5).bind fun d9 => (some d9)) else (some false)) else (some false)) = some r := H;have A9 := Aside0.mk p3;clear p3;by_cases c10 : e8 = true
     ·subst c10;have H1 : (if i2 = 0 then ((Pr26a.f k b8 d1 d2 e0 e4 e5).bind fun d9 => (some d9)) else (some false)) = some r := by rw [if_pos rfl] at H; exact H
      clear H;have H := H1;clear H1;by_cases l2 : i2 = 0
      ·rw [if_pos l2] at H;have c11b0 : (i2 == 0) = true := beq_iff_eq.mpr l2;have c11b1 : (i2 != 0) = false := bne_eq_false_iff_eq.mpr l2;clear l2;replace H := Option.bind_eq_some_iff.mp H;obtain ⟨d9, n8, H⟩ := H;replace H : (some d9) = some r := H;have y2 := Aside0.mk n8;clear n8;obtain rfl := Option.some.inj H;go_enter Try.func40, Try.ntmps40
       go_wp2_with (first | ((with_reducible refine gate_dst (N := 8) rfl ?_); (try (refine gate_guard (by rfl) ?_; dsimp only)); refine Kd.R_lit Kd.string _ 9 ?hg (N := 8) ?hd (xs := ([(⟨#[97]⟩ : ByteArray), (⟨#[98]⟩ : ByteArray)] : List ByteArray)) (inner := [.string (⟨#[97]⟩ : ByteArray), .string (⟨#[98]⟩ : ByteArray)]) (ok := fun _ => True) (okp := fun _ => True) ?hr ?hp (fun _ hk => hk) trivial (Below.refl _ _) (Nat.le_refl _) (by simp) ?_; (case hd => rfl); (case hg => rfl); (case hr => first | (go_simp; done) | (go_simp; rfl)); (case hp => exact (Reps.one (show Kd.M Kd.string _ _ _ (⟨#[97]⟩ : ByteArray) [.string (⟨#[97]⟩ : ByteArray)] from rfl) (Reps.one (show Kd.M Kd.string _ _ _ (⟨#[98]⟩ : ByteArray) [.string (⟨#[98]⟩ : ByteArray)] from rfl) (Reps.none _ _)))); intro B3 C6 l3 hb hg_ hnew_; clear hg_ hnew_; (first | rw [← n1.out] at l3 | (simp only [Int.reduceToNat] at l3; rw [← n1.out] at l3)); have d6 := Aside0.mk (Kd.R_lower l3 (below_size (wz HB.out))); have d7 := Aside0.mk (below_step (wz HB.out) hb); clear HB; have a4 := d6; have HB := d7; clear d6 d7; clear hb l3) | ((with_reducible refine gate_dst (N := 11) rfl ?_); (try (refine gate_guard (by rfl) ?_; dsimp only)); refine Kd.R_lit k80 _ 80 ?hg (N := 11) ?hd (xs := ([(⟨0, 0, 0⟩ : S80), (⟨0, 1, 0⟩ : S80)] : List (S80))) (inner := [.int .i64 0, .int .i64 0, .int .i64 0, .int .i64 0, .int .i64 1, .int .i64 0]) (ok := fun _ => True) (okp := fun _ => True) ?hr ?hp (fun _ hk => hk) trivial (Below.refl _ _) (Nat.le_refl _) (by simp) ?_; (case hd => rfl); (case hg => rfl); (case hr => first | (go_simp; done) | (go_simp; rfl)); (case hp => exact (Reps.c3 (show Kd.M k80 _ _ _ (⟨0, 0, 0⟩ : S80) [.int .i64 0, .int .i64 0, .int .i64 0] from (k80_mkM _ _ _ (⟨0, 0, 0⟩ : S80) )) (Reps.c3 (show Kd.M k80 _ _ _ (⟨0, 1, 0⟩ : S80) [.int .i64 0, .int .i64 1, .int .i64 0] from (k80_mkM _ _ _ (⟨0, 1, 0⟩ : S80) )) (Reps.none _ _)))); intro B4 C7 l4 hb hg_ hnew_; clear hg_ hnew_; (first | rw [← n2.out] at l4 | (simp only [Int.reduceToNat] at l4; rw [← n2.out] at l4)); have d6 := Aside0.mk (Kd.R_below (rz a4.out) hb); have d7 := Aside0.mk (Kd.R_lower l4 (below_size (wz HB.out))); have d8 := Aside0.mk (below_step (wz HB.out) hb); clear a4; clear HB; have a4 := d6; have a6 := d7; have HB := d8; clear d6 d7 d8; clear hb l4; obtain ⟨g9, h2, q0⟩ := Kd.R_slice a6.out; subst q0; obtain ⟨g5, g7, q1⟩ := Kd.R_slice a4.out; subst q1) | ((with_reducible refine gate_dst (N := 1) rfl ?_); (try (refine gate_guard (by rfl) ?_; dsimp only)); refine box_event ?hg (N := 1) ?hd (cs := #[.int .i64 0, .slice none 0 0, .slice none 0 0]) (t := 25) ?hr ?_; (case hd => rfl); (case hg => rfl); (case hr => first | (go_simp; done) | (go_simp; rfl)); intro b4 hg o5 hbox hb; have d6 := Aside0.mk (Kd.R_below (rz a4.out) hb); have d7 := Aside0.mk (Kd.R_below (rz a6.out) hb); have d8 := Aside0.mk (below_step (wz HB.out) hb); have e1 := Aside0.mk (hbox); have e2 := Aside0.mk ((by rw [hg]; exact (below_size (wz HB.out)) : w.heap.size ≤ b4)); have e7 := Aside0.mk ((by rw [hg]; exact (below_size (wz HB.out)) : w.heap.size ≤ b4)); clear a4; clear a6; clear HB; have a4 := d6; have a6 := d7; have HB := d8; have a1 := e1; have y7 := e2; have y3 := e7; clear d6 d7 d8 e1 e2 e7; clear hb hbox hg; have r2 : o5.cell? ⟨b4, 0, none⟩ = some (.int .i64 0) := bcz a1 0 rfl; have r3 : o5.cell? ⟨b4, 1, none⟩ = some (.slice none 0 0) := bcz a1 1 rfl; have r4 : o5.cell? ⟨b4, 2, none⟩ = some (.slice none 0 0) := bcz a1 2 rfl; have u8 := blk_frozen a1.out 0; have u9 := blk_frozen a1.out 1; have v0 := blk_frozen a1.out 2) | ((with_reducible refine gate_dst (N := 16) rfl ?_); (try (refine gate_guard (by rfl) ?_; dsimp only)); refine Kd.R_lit k55 _ 55 ?hg (N := 16) ?hd (xs := ([(⟨(⟨#[97]⟩ : ByteArray), (⟨#[98]⟩ : ByteArray)⟩ : S55)] : List (S55))) (inner := [.string (⟨#[97]⟩ : ByteArray), .string (⟨#[98]⟩ : ByteArray)]) (ok := fun _ => True) (okp := fun _ => True) ?hr ?hp (fun _ hk => hk) trivial (Below.refl _ _) (Nat.le_refl _) (by simp) ?_; (case hd => rfl); (case hg => rfl); (case hr => first | (go_simp; done) | (go_simp; rfl)); (case hp => exact (Reps.c2 (show Kd.M k55 _ _ _ (⟨(⟨#[97]⟩ : ByteArray), (⟨#[98]⟩ : ByteArray)⟩ : S55) [.string (⟨#[97]⟩ : ByteArray), .string (⟨#[98]⟩ : ByteArray)] from (k55_mkM _ _ _ (⟨(⟨#[97]⟩ : ByteArray), (⟨#[98]⟩ : ByteArray)⟩ : S55) )) (Reps.none _ _))); intro B5 C8 l5 hb hg_ hnew_; clear hg_ hnew_; (first | rw [← n3.out] at l5 | (simp only [Int.reduceToNat] at l5; rw [← n3.out] at l5)); have d6 := Aside0.mk (Kd.R_below (rz (Kd.R_mono (Kd.R_far (p := ⟨b4, 2, none⟩) (Kd.R_far (p := ⟨b4, 1, none⟩) (Kd.R_far (p := ⟨b4, 0, none⟩) (Kd.R_types a4.out a1.out (by decide)) (fun _ hk => hk.2) (.int .i64 1)) (fun _ hk => hk.2) (.slice g5 b5.length g7)) (fun _ hk => hk.2) (.slice g9 b6.length h2)) (fun _ h_ => h_.1))) hb); have d7 := Aside0.mk (Kd.R_below (rz (Kd.R_mono (Kd.R_far (p := ⟨b4, 2, none⟩) (Kd.R_far (p := ⟨b4, 1, none⟩) (Kd.R_far (p := ⟨b4, 0, none⟩) (Kd.R_types a6.out a1.out (by decide)) (fun _ hk => hk.2) (.int .i64 1)) (fun _ hk => hk.2) (.slice g5 b5.length g7)) (fun _ hk => hk.2) (.slice g9 b6.length h2)) (fun _ h_ => h_.1))) hb); have d8 := Aside0.mk (Kd.R_lower l5 (below_size (wz HB.out))); have e1 := Aside0.mk (blk_below (g := b4) (o := .cells #[.int .i64 1, .slice g5 b5.length g7, .slice g9 b6.length h2] 25 (0, 0)) (by (with_reducible repeat (first | refine blk_drewN ?_ _ | refine blk_drew ?_ | refine blk_alloc ?_ _)); refine blk_put (cs := #[.int .i64 1, .slice g5 b5.length g7, .slice none 0 0]) ?_ 2 _ rfl; (with_reducible repeat (first | refine blk_drewN ?_ _ | refine blk_drew ?_ | refine blk_alloc ?_ _)); refine blk_put (cs := #[.int .i64 1, .slice none 0 0, .slice none 0 0]) ?_ 1 _ rfl; (with_reducible repeat (first | refine blk_drewN ?_ _ | refine blk_drew ?_ | refine blk_alloc ?_ _)); refine blk_put (cs := #[.int .i64 0, .slice none 0 0, .slice none 0 0]) ?_ 0 _ rfl; (with_reducible repeat (first | refine blk_drewN ?_ _ | refine blk_drew ?_ | refine blk_alloc ?_ _)); exact a1.out) hb); have e2 := Aside0.mk (below_step (wz HB.out) hb); clear a4; clear a6; clear a1; clear HB; have a4 := d6; have a6 := d7; have b2 := d8; have a1 := e1; have HB := e2; clear d6 d7 d8 e1 e2; clear hb l5; obtain ⟨p4, p7, q2⟩ := Kd.R_slice b2.out; subst q2) | ((with_reducible refine gate_callee (f := 41) rfl ?_); refine goesL_ (some 17) rfl rfl Try.func41 (by kernel_rfl) rfl #[.agg #[.int .i64 1, .slice g5 b5.length g7, .slice g9 b6.length h2], .slice p4 m8.length p7] rfl (by (try simp only [List.map_toArray, List.map_cons, List.map_nil]); first | done | rfl | (simp only [List.length_drop, List.length_take]; rfl)) ?_; (with_reducible refine (Pxb.calls 1 _ _ b5 _ _ b6 _ _ m8 e3 d5 d0 i5 _ ?j8 ?j9 ?k0 ?k1 ?k8 ?k9 A1.out).mono ?_); (case j8 => repeat (first | exact (Kd.R_reads' a4.out).2.2 | (with_reducible refine Kd.C_alloc ?_ _) | (with_reducible refine Kd.C_drewN ?_ _) | (with_reducible refine Kd.C_drew ?_))); (case j9 => exact (Kd.R_reads' a4.out).2.1); (case k0 => repeat (first | exact (Kd.R_reads' a6.out).2.2 | (with_reducible refine Kd.C_alloc ?_ _) | (with_reducible refine Kd.C_drewN ?_ _) | (with_reducible refine Kd.C_drew ?_))); (case k1 => exact (Kd.R_reads' a6.out).2.1); (case k8 => repeat (first | exact (Kd.R_reads' b2.out).2.2 | (with_reducible refine Kd.C_alloc ?_ _) | (with_reducible refine Kd.C_drewN ?_ _) | (with_reducible refine Kd.C_drew ?_))); (case k9 => exact (Kd.R_reads' b2.out).2.1); rintro e C9 ⟨B6, B7, rfl, i0, i7, hb⟩; refine ⟨_, rfl, ?_⟩; have d6 := Aside0.mk (Kd.R_elder' (rz a4.out) (Kd.R_base i0) hb); have d7 := Aside0.mk (Kd.R_elder' (rz a6.out) (Kd.R_base i7) hb); have d8 := Aside0.mk (Kd.R_below (rz b2.out) hb); have e1 := Aside0.mk (Kd.R_lower (Kd.R_new' i0 (Kd.R_lt (rz a4.out))) (below_size (wz HB.out))); have e2 := Aside0.mk (Kd.R_lower (Kd.R_new' i7 (Kd.R_lt (rz a6.out))) (below_size (wz HB.out))); have e7 := Aside0.mk (blk_below (bz a1.out) hb); have f0 := Aside0.mk (below_step (wz HB.out) hb); clear a4; clear a6; clear b2; clear a1; clear HB; have a4 := d6; have a6 := d7; have b2 := d8; have a9 := e1; have b3 := e2; have a1 := e7; have HB := f0; clear d6 d7 d8 e1 e2 e7 f0; (try clear hb); (try clear n7); (try clear hk); (try clear hi); (try clear i0); (try clear i7)) | ((with_reducible refine gate_dst (N := 2) rfl ?_); (try (refine gate_guard (by rfl) ?_; dsimp only)); refine box_event ?hg (N := 2) ?hd (cs := #[.int .i64 0, .slice none 0 0, .slice none 0 0]) (t := 25) ?hr ?_; (case hd => rfl); (case hg => rfl); (case hr => first | (go_simp; done) | (go_simp; rfl)); intro a8 hg l7 hbox hb; have d6 := Aside0.mk (Kd.R_below (rz a4.out) hb); have d7 := Aside0.mk (Kd.R_below (rz a6.out) hb); have d8 := Aside0.mk (Kd.R_below (rz b2.out) hb); have e1 := Aside0.mk (Kd.R_below (rz a9.out) hb); have e2 := Aside0.mk (Kd.R_below (rz b3.out) hb); have e7 := Aside0.mk (blk_below (bz a1.out) hb); have f0 := Aside0.mk (below_step (wz HB.out) hb); have f3 := Aside0.mk (hbox); have f4 := Aside0.mk ((by rw [hg]; exact (below_size (wz HB.out)) : w.heap.size ≤ a8)); have f9 := Aside0.mk ((by rw [hg]; exact (below_size (wz HB.out)) : w.heap.size ≤ a8)); have e6 := Aside0.mk ((by rw [hg]; exact Nat.ne_of_lt (blk_lt (g := b4) (o := .cells #[.int .i64 1, .slice g5 b5.length g7, .slice g9 b6.length h2] 25 (0, 0)) (bz a1.out)) : b4 ≠ a8)); have f1 := Aside0.mk ((by rw [hg]; exact Nat.ne_of_gt (blk_lt (g := b4) (o := .cells #[.int .i64 1, .slice g5 b5.length g7, .slice g9 b6.length h2] 25 (0, 0)) (bz a1.out)) : a8 ≠ b4)); clear a4; clear a6; clear b2; clear a9; clear b3; clear a1; clear HB; have a4 := d6; have a6 := d7; have b2 := d8; have a9 := e1; have b3 := e2; have a1 := e7; have HB := f0; have a3 := f3; have y8 := f4; have y4 := f9; have k2 := e6; have m2 := f1; clear d6 d7 d8 e1 e2 e7 f0 f3 f4 f9 e6 f1; clear hb hbox hg; have z1 := m2.out; have z7 := k2.out; have r5 : l7.cell? ⟨a8, 0, none⟩ = some (.int .i64 0) := bcz a3 0 rfl; have r6 : l7.cell? ⟨a8, 1, none⟩ = some (.slice none 0 0) := bcz a3 1 rfl; have r7 : l7.cell? ⟨a8, 2, none⟩ = some (.slice none 0 0) := bcz a3 2 rfl; have v1 := blk_frozen a3.out 0; have v2 := blk_frozen a3.out 1; have v3 := blk_frozen a3.out 2; obtain ⟨h0, h3, q3⟩ := Kd.R_slice a9.out; subst q3; obtain ⟨h6, h7, q4⟩ := Kd.R_slice b3.out; subst q4; have r8 : l7.cell? ⟨b4, 0, none⟩ = some (.int .i64 1) := bcz a1 0 rfl; have r9 : l7.cell? ⟨b4, 1, none⟩ = some (.slice g5 b5.length g7) := bcz a1 1 rfl; have s0 : l7.cell? ⟨b4, 2, none⟩ = some (.slice g9 b6.length h2) := bcz a1 2 rfl; have v4 := blk_frozen a1.out 0; have v5 := blk_frozen a1.out 1; have v6 := blk_frozen a1.out 2) | ((with_reducible refine gate_dst (N := 22) rfl ?_); (try (refine gate_guard (by rfl) ?_; dsimp only)); refine Kd.R_lit Kd.string _ 9 ?hg (N := 22) ?hd (xs := ([(⟨#[97]⟩ : ByteArray)] : List ByteArray)) (inner := [.string (⟨#[97]⟩ : ByteArray)]) (ok := fun _ => True) (okp := fun _ => True) ?hr ?hp (fun _ hk => hk) trivial (Below.refl _ _) (Nat.le_refl _) (by simp) ?_; (case hd => rfl); (case hg => rfl); (case hr => first | (go_simp; done) | (go_simp; rfl)); (case hp => exact (Reps.one (show Kd.M Kd.string _ _ _ (⟨#[97]⟩ : ByteArray) [.string (⟨#[97]⟩ : ByteArray)] from rfl) (Reps.none _ _))); intro B9 D0 i9 hb hg_ hnew_; clear hg_ hnew_; (first | rw [← n4.out] at i9 | (simp only [Int.reduceToNat] at i9; rw [← n4.out] at i9)); have d6 := Aside0.mk (Kd.R_elder' (rz (Kd.R_mono (Kd.R_far (p := ⟨a8, 2, none⟩) (Kd.R_far (p := ⟨a8, 1, none⟩) (Kd.R_far (p := ⟨a8, 0, none⟩) (Kd.R_types a4.out a3.out (by decide)) (fun _ hk => hk.2) (.int .i64 e3)) (fun _ hk => hk.2) (.slice h0 d5.length h3)) (fun _ hk => hk.2) (.slice h6 d0.length h7)) (fun _ h_ => h_.1))) (Kd.R_base i9) hb); have d7 := Aside0.mk (Kd.R_below (rz (Kd.R_mono (Kd.R_far (p := ⟨a8, 2, none⟩) (Kd.R_far (p := ⟨a8, 1, none⟩) (Kd.R_far (p := ⟨a8, 0, none⟩) (Kd.R_types a6.out a3.out (by decide)) (fun _ hk => hk.2) (.int .i64 e3)) (fun _ hk => hk.2) (.slice h0 d5.length h3)) (fun _ hk => hk.2) (.slice h6 d0.length h7)) (fun _ h_ => h_.1))) hb); have d8 := Aside0.mk (Kd.R_below (rz (Kd.R_mono (Kd.R_far (p := ⟨a8, 2, none⟩) (Kd.R_far (p := ⟨a8, 1, none⟩) (Kd.R_far (p := ⟨a8, 0, none⟩) (Kd.R_types b2.out a3.out (by decide)) (fun _ hk => hk.2) (.int .i64 e3)) (fun _ hk => hk.2) (.slice h0 d5.length h3)) (fun _ hk => hk.2) (.slice h6 d0.length h7)) (fun _ h_ => h_.1))) hb); have e1 := Aside0.mk (Kd.R_elder' (rz (Kd.R_mono (Kd.R_far (p := ⟨a8, 2, none⟩) (Kd.R_far (p := ⟨a8, 1, none⟩) (Kd.R_far (p := ⟨a8, 0, none⟩) (Kd.R_types a9.out a3.out (by decide)) (fun _ hk => hk.2) (.int .i64 e3)) (fun _ hk => hk.2) (.slice h0 d5.length h3)) (fun _ hk => hk.2) (.slice h6 d0.length h7)) (fun _ h_ => h_.1))) (Kd.R_base i9) hb); have e2 := Aside0.mk (Kd.R_below (rz (Kd.R_mono (Kd.R_far (p := ⟨a8, 2, none⟩) (Kd.R_far (p := ⟨a8, 1, none⟩) (Kd.R_far (p := ⟨a8, 0, none⟩) (Kd.R_types b3.out a3.out (by decide)) (fun _ hk => hk.2) (.int .i64 e3)) (fun _ hk => hk.2) (.slice h0 d5.length h3)) (fun _ hk => hk.2) (.slice h6 d0.length h7)) (fun _ h_ => h_.1))) hb); have e7 := Aside0.mk (Kd.R_lower (Kd.R_new' (Kd.R_new' i9 (Kd.R_lt (rz (Kd.R_mono (Kd.R_far (p := ⟨a8, 2, none⟩) (Kd.R_far (p := ⟨a8, 1, none⟩) (Kd.R_far (p := ⟨a8, 0, none⟩) (Kd.R_types a4.out a3.out (by decide)) (fun _ hk => hk.2) (.int .i64 e3)) (fun _ hk => hk.2) (.slice h0 d5.length h3)) (fun _ hk => hk.2) (.slice h6 d0.length h7)) (fun _ h_ => h_.1))))) (Kd.R_lt (rz (Kd.R_mono (Kd.R_far (p := ⟨a8, 2, none⟩) (Kd.R_far (p := ⟨a8, 1, none⟩) (Kd.R_far (p := ⟨a8, 0, none⟩) (Kd.R_types a9.out a3.out (by decide)) (fun _ hk => hk.2) (.int .i64 e3)) (fun _ hk => hk.2) (.slice h0 d5.length h3)) (fun _ hk => hk.2) (.slice h6 d0.length h7)) (fun _ h_ => h_.1))))) (below_size (wz HB.out))); have f0 := Aside0.mk (blk_below (g := b4) (o := .cells #[.int .i64 1, .slice g5 b5.length g7, .slice g9 b6.length h2] 25 (0, 0)) (fz a1.out k2.out) hb); have f3 := Aside0.mk (blk_below (g := a8) (o := .cells #[.int .i64 e3, .slice h0 d5.length h3, .slice h6 d0.length h7] 25 (0, 0)) (by (with_reducible repeat (first | refine blk_drewN ?_ _ | refine blk_drew ?_ | refine blk_alloc ?_ _)); refine blk_put (cs := #[.int .i64 e3, .slice h0 d5.length h3, .slice none 0 0]) ?_ 2 _ rfl; (with_reducible repeat (first | refine blk_drewN ?_ _ | refine blk_drew ?_ | refine blk_alloc ?_ _)); refine blk_put (cs := #[.int .i64 e3, .slice none 0 0, .slice none 0 0]) ?_ 1 _ rfl; (with_reducible repeat (first | refine blk_drewN ?_ _ | refine blk_drew ?_ | refine blk_alloc ?_ _)); refine blk_put (cs := #[.int .i64 0, .slice none 0 0, .slice none 0 0]) ?_ 0 _ rfl; (with_reducible repeat (first | refine blk_drewN ?_ _ | refine blk_drew ?_ | refine blk_alloc ?_ _)); exact a3.out) hb); have f4 := Aside0.mk (below_step (wz HB.out) hb); clear a4; clear a6; clear b2; clear a9; clear b3; clear a1; clear a3; clear HB; have a4 := d6; have a6 := d7; have b2 := d8; have a9 := e1; have b3 := e2; have b7 := e7; have a1 := f0; have a3 := f3; have HB := f4; clear d6 d7 d8 e1 e2 e7 f0 f3 f4; clear hb i9; obtain ⟨p5, p8, q5⟩ := Kd.R_slice b7.out; subst q5) | ((with_reducible refine gate_callee (f := 42) rfl ?_); refine goesL_ (some 23) rfl rfl Try.func42 (by kernel_rfl) rfl #[.agg #[.int .i64 1, .slice g5 b5.length g7, .slice g9 b6.length h2], .slice p5 m9.length p8] rfl (by (try simp only [List.map_toArray, List.map_cons, List.map_nil]); first | done | rfl | (simp only [List.length_drop, List.length_take]; rfl)) ?_; (with_reducible refine (Pxc.calls 1 _ _ b5 _ _ b6 _ _ m9 b8 d1 d2 i1 _ ?j8 ?j9 ?k0 ?k1 ?k8 ?k9 A2.out).mono ?_); (case j8 => repeat (first | exact (Kd.R_reads' a4.out).2.2 | (with_reducible refine Kd.C_alloc ?_ _) | (with_reducible refine Kd.C_drewN ?_ _) | (with_reducible refine Kd.C_drew ?_))); (case j9 => exact (Kd.R_reads' a4.out).2.1); (case k0 => repeat (first | exact (Kd.R_reads' a6.out).2.2 | (with_reducible refine Kd.C_alloc ?_ _) | (with_reducible refine Kd.C_drewN ?_ _) | (with_reducible refine Kd.C_drew ?_))); (case k1 => exact (Kd.R_reads' a6.out).2.1); (case k8 => repeat (first | exact (Kd.R_reads' b7.out).2.2 | (with_reducible refine Kd.C_alloc ?_ _) | (with_reducible refine Kd.C_drewN ?_ _) | (with_reducible refine Kd.C_drew ?_))); (case k9 => exact (Kd.R_reads' b7.out).2.1); rintro e D1 ⟨C0, C1, rfl, i0, i7, hb⟩; refine ⟨_, rfl, ?_⟩; have d6 := Aside0.mk (Kd.R_elder' (rz a4.out) (Kd.R_base i0) hb); have d7 := Aside0.mk (Kd.R_elder' (rz a6.out) (Kd.R_base i7) hb); have d8 := Aside0.mk (Kd.R_below (rz b2.out) hb); have e1 := Aside0.mk (Kd.R_elder' (rz a9.out) (Kd.R_base i0) hb); have e2 := Aside0.mk (Kd.R_elder' (rz b3.out) (Kd.R_base i7) hb); have e7 := Aside0.mk (Kd.R_elder' (rz b7.out) (Kd.R_base i0) hb); have f0 := Aside0.mk (Kd.R_lower (Kd.R_new' (Kd.R_new' (Kd.R_new' i0 (Kd.R_lt (rz a4.out))) (Kd.R_lt (rz a9.out))) (Kd.R_lt (rz b7.out))) (below_size (wz HB.out))); have f3 := Aside0.mk (Kd.R_lower (Kd.R_new' (Kd.R_new' i7 (Kd.R_lt (rz a6.out))) (Kd.R_lt (rz b3.out))) (below_size (wz HB.out))); have f4 := Aside0.mk (blk_below (bz a1.out) hb); have f9 := Aside0.mk (blk_below (bz a3.out) hb); have e6 := Aside0.mk (below_step (wz HB.out) hb); clear a4; clear a6; clear b2; clear a9; clear b3; clear b7; clear a1; clear a3; clear HB; have a4 := d6; have a6 := d7; have b2 := d8; have a9 := e1; have b3 := e2; have b7 := e7; have b9 := f0; have d3 := f3; have a1 := f4; have a3 := f9; have HB := e6; clear d6 d7 d8 e1 e2 e7 f0 f3 f4 f9 e6; (try clear hb); (try clear n7); (try clear hk); (try clear hi); (try clear i0); (try clear i7)) | ((with_reducible refine gate_dst (N := 4) rfl ?_); (try (refine gate_guard (by rfl) ?_; dsimp only)); refine box_event ?hg (N := 4) ?hd (cs := #[.int .i64 0, .slice none 0 0, .slice none 0 0]) (t := 25) ?hr ?_; (case hd => rfl); (case hg => rfl); (case hr => first | (go_simp; done) | (go_simp; rfl)); intro a2 hg l8 hbox hb; have d6 := Aside0.mk (Kd.R_below (rz a4.out) hb); have d7 := Aside0.mk (Kd.R_below (rz a6.out) hb); have d8 := Aside0.mk (Kd.R_below (rz b2.out) hb); have e1 := Aside0.mk (Kd.R_below (rz a9.out) hb); have e2 := Aside0.mk (Kd.R_below (rz b3.out) hb); have e7 := Aside0.mk (Kd.R_below (rz b7.out) hb); have f0 := Aside0.mk (Kd.R_below (rz b9.out) hb); have f3 := Aside0.mk (Kd.R_below (rz d3.out) hb); have f4 := Aside0.mk (blk_below (bz a1.out) hb); have f9 := Aside0.mk (blk_below (bz a3.out) hb); have e6 := Aside0.mk (below_step (wz HB.out) hb); have f1 := Aside0.mk (hbox); have f8 := Aside0.mk ((by rw [hg]; exact (below_size (wz HB.out)) : w.heap.size ≤ a2)); have h4 := Aside0.mk ((by rw [hg]; exact (below_size (wz HB.out)) : w.heap.size ≤ a2)); have h5 := Aside0.mk ((by rw [hg]; exact Nat.ne_of_lt (blk_lt (g := b4) (o := .cells #[.int .i64 1, .slice g5 b5.length g7, .slice g9 b6.length h2] 25 (0, 0)) (bz a1.out)) : b4 ≠ a2)); have h8 := Aside0.mk ((by rw [hg]; exact Nat.ne_of_gt (blk_lt (g := b4) (o := .cells #[.int .i64 1, .slice g5 b5.length g7, .slice g9 b6.length h2] 25 (0, 0)) (bz a1.out)) : a2 ≠ b4)); have h9 := Aside0.mk ((by rw [hg]; exact Nat.ne_of_lt (blk_lt (g := a8) (o := .cells #[.int .i64 e3, .slice h0 d5.length h3, .slice h6 d0.length h7] 25 (0, 0)) (bz a3.out)) : a8 ≠ a2)); have l6 := Aside0.mk ((by rw [hg]; exact Nat.ne_of_gt (blk_lt (g := a8) (o := .cells #[.int .i64 e3, .slice h0 d5.length h3, .slice h6 d0.length h7] 25 (0, 0)) (bz a3.out)) : a2 ≠ a8)); clear a4; clear a6; clear b2; clear a9; clear b3; clear b7; clear b9; clear d3; clear a1; clear a3; clear HB; have a4 := d6; have a6 := d7; have b2 := d8; have a9 := e1; have b3 := e2; have b7 := e7; have b9 := f0; have d3 := f3; have a1 := f4; have a3 := f9; have HB := e6; have a5 := f1; have y9 := f8; have y5 := h4; have k3 := h5; have m3 := h8; have k5 := h9; have m4 := l6; clear d6 d7 d8 e1 e2 e7 f0 f3 f4 f9 e6 f1 f8 h4 h5 h8 h9 l6; clear hb hbox hg; have z2 := m3.out; have z8 := k3.out; have z3 := m4.out; have z9 := k5.out; have s1 : l8.cell? ⟨a2, 0, none⟩ = some (.int .i64 0) := bcz a5 0 rfl; have s2 : l8.cell? ⟨a2, 1, none⟩ = some (.slice none 0 0) := bcz a5 1 rfl; have s3 : l8.cell? ⟨a2, 2, none⟩ = some (.slice none 0 0) := bcz a5 2 rfl; have v7 := blk_frozen a5.out 0; have v8 := blk_frozen a5.out 1; have v9 := blk_frozen a5.out 2; obtain ⟨g0, g3, q6⟩ := Kd.R_slice b9.out; subst q6; obtain ⟨g6, g8, q7⟩ := Kd.R_slice d3.out; subst q7; have s4 : l8.cell? ⟨b4, 0, none⟩ = some (.int .i64 1) := bcz a1 0 rfl; have s5 : l8.cell? ⟨b4, 1, none⟩ = some (.slice g5 b5.length g7) := bcz a1 1 rfl; have s6 : l8.cell? ⟨b4, 2, none⟩ = some (.slice g9 b6.length h2) := bcz a1 2 rfl; have w0 := blk_frozen a1.out 0; have w2 := blk_frozen a1.out 1; have w3 := blk_frozen a1.out 2) | ((with_reducible refine gate_dst (N := 28) rfl ?_); (try (refine gate_guard (by rfl) ?_; dsimp only)); refine Kd.R_lit Kd.string _ 9 ?hg (N := 28) ?hd (xs := ([(⟨#[98]⟩ : ByteArray)] : List ByteArray)) (inner := [.string (⟨#[98]⟩ : ByteArray)]) (ok := fun _ => True) (okp := fun _ => True) ?hr ?hp (fun _ hk => hk) trivial (Below.refl _ _) (Nat.le_refl _) (by simp) ?_; (case hd => rfl); (case hg => rfl); (case hr => first | (go_simp; done) | (go_simp; rfl)); (case hp => exact (Reps.one (show Kd.M Kd.string _ _ _ (⟨#[98]⟩ : ByteArray) [.string (⟨#[98]⟩ : ByteArray)] from rfl) (Reps.none _ _))); intro C2 D2 i8 hb hg_ hnew_; clear hg_ hnew_; (first | rw [← n5.out] at i8 | (simp only [Int.reduceToNat] at i8; rw [← n5.out] at i8)); have d6 := Aside0.mk (Kd.R_elder' (rz (Kd.R_mono (Kd.R_far (p := ⟨a2, 2, none⟩) (Kd.R_far (p := ⟨a2, 1, none⟩) (Kd.R_far (p := ⟨a2, 0, none⟩) (Kd.R_types a4.out a5.out (by decide)) (fun _ hk => hk.2) (.int .i64 b8)) (fun _ hk => hk.2) (.slice g0 d1.length g3)) (fun _ hk => hk.2) (.slice g6 d2.length g8)) (fun _ h_ => h_.1))) (Kd.R_base i8) hb); have d7 := Aside0.mk (Kd.R_below (rz (Kd.R_mono (Kd.R_far (p := ⟨a2, 2, none⟩) (Kd.R_far (p := ⟨a2, 1, none⟩) (Kd.R_far (p := ⟨a2, 0, none⟩) (Kd.R_types a6.out a5.out (by decide)) (fun _ hk => hk.2) (.int .i64 b8)) (fun _ hk => hk.2) (.slice g0 d1.length g3)) (fun _ hk => hk.2) (.slice g6 d2.length g8)) (fun _ h_ => h_.1))) hb); have d8 := Aside0.mk (Kd.R_below (rz (Kd.R_mono (Kd.R_far (p := ⟨a2, 2, none⟩) (Kd.R_far (p := ⟨a2, 1, none⟩) (Kd.R_far (p := ⟨a2, 0, none⟩) (Kd.R_types b2.out a5.out (by decide)) (fun _ hk => hk.2) (.int .i64 b8)) (fun _ hk => hk.2) (.slice g0 d1.length g3)) (fun _ hk => hk.2) (.slice g6 d2.length g8)) (fun _ h_ => h_.1))) hb); have e1 := Aside0.mk (Kd.R_elder' (rz (Kd.R_mono (Kd.R_far (p := ⟨a2, 2, none⟩) (Kd.R_far (p := ⟨a2, 1, none⟩) (Kd.R_far (p := ⟨a2, 0, none⟩) (Kd.R_types a9.out a5.out (by decide)) (fun _ hk => hk.2) (.int .i64 b8)) (fun _ hk => hk.2) (.slice g0 d1.length g3)) (fun _ hk => hk.2) (.slice g6 d2.length g8)) (fun _ h_ => h_.1))) (Kd.R_base i8) hb); have e2 := Aside0.mk (Kd.R_below (rz (Kd.R_mono (Kd.R_far (p := ⟨a2, 2, none⟩) (Kd.R_far (p := ⟨a2, 1, none⟩) (Kd.R_far (p := ⟨a2, 0, none⟩) (Kd.R_types b3.out a5.out (by decide)) (fun _ hk => hk.2) (.int .i64 b8)) (fun _ hk => hk.2) (.slice g0 d1.length g3)) (fun _ hk => hk.2) (.slice g6 d2.length g8)) (fun _ h_ => h_.1))) hb); have e7 := Aside0.mk (Kd.R_elder' (rz (Kd.R_mono (Kd.R_far (p := ⟨a2, 2, none⟩) (Kd.R_far (p := ⟨a2, 1, none⟩) (Kd.R_far (p := ⟨a2, 0, none⟩) (Kd.R_types b7.out a5.out (by decide)) (fun _ hk => hk.2) (.int .i64 b8)) (fun _ hk => hk.2) (.slice g0 d1.length g3)) (fun _ hk => hk.2) (.slice g6 d2.length g8)) (fun _ h_ => h_.1))) (Kd.R_base i8) hb); have f0 := Aside0.mk (Kd.R_elder' (rz (Kd.R_mono (Kd.R_far (p := ⟨a2, 2, none⟩) (Kd.R_far (p := ⟨a2, 1, none⟩) (Kd.R_far (p := ⟨a2, 0, none⟩) (Kd.R_types b9.out a5.out (by decide)) (fun _ hk => hk.2) (.int .i64 b8)) (fun _ hk => hk.2) (.slice g0 d1.length g3)) (fun _ hk => hk.2) (.slice g6 d2.length g8)) (fun _ h_ => h_.1))) (Kd.R_base i8) hb); have f3 := Aside0.mk (Kd.R_below (rz (Kd.R_mono (Kd.R_far (p := ⟨a2, 2, none⟩) (Kd.R_far (p := ⟨a2, 1, none⟩) (Kd.R_far (p := ⟨a2, 0, none⟩) (Kd.R_types d3.out a5.out (by decide)) (fun _ hk => hk.2) (.int .i64 b8)) (fun _ hk => hk.2) (.slice g0 d1.length g3)) (fun _ hk => hk.2) (.slice g6 d2.length g8)) (fun _ h_ => h_.1))) hb); have f4 := Aside0.mk (Kd.R_lower (Kd.R_new' (Kd.R_new' (Kd.R_new' (Kd.R_new' i8 (Kd.R_lt (rz (Kd.R_mono (Kd.R_far (p := ⟨a2, 2, none⟩) (Kd.R_far (p := ⟨a2, 1, none⟩) (Kd.R_far (p := ⟨a2, 0, none⟩) (Kd.R_types a4.out a5.out (by decide)) (fun _ hk => hk.2) (.int .i64 b8)) (fun _ hk => hk.2) (.slice g0 d1.length g3)) (fun _ hk => hk.2) (.slice g6 d2.length g8)) (fun _ h_ => h_.1))))) (Kd.R_lt (rz (Kd.R_mono (Kd.R_far (p := ⟨a2, 2, none⟩) (Kd.R_far (p := ⟨a2, 1, none⟩) (Kd.R_far (p := ⟨a2, 0, none⟩) (Kd.R_types a9.out a5.out (by decide)) (fun _ hk => hk.2) (.int .i64 b8)) (fun _ hk => hk.2) (.slice g0 d1.length g3)) (fun _ hk => hk.2) (.slice g6 d2.length g8)) (fun _ h_ => h_.1))))) (Kd.R_lt (rz (Kd.R_mono (Kd.R_far (p := ⟨a2, 2, none⟩) (Kd.R_far (p := ⟨a2, 1, none⟩) (Kd.R_far (p := ⟨a2, 0, none⟩) (Kd.R_types b7.out a5.out (by decide)) (fun _ hk => hk.2) (.int .i64 b8)) (fun _ hk => hk.2) (.slice g0 d1.length g3)) (fun _ hk => hk.2) (.slice g6 d2.length g8)) (fun _ h_ => h_.1))))) (Kd.R_lt (rz (Kd.R_mono (Kd.R_far (p := ⟨a2, 2, none⟩) (Kd.R_far (p := ⟨a2, 1, none⟩) (Kd.R_far (p := ⟨a2, 0, none⟩) (Kd.R_types b9.out a5.out (by decide)) (fun _ hk => hk.2) (.int .i64 b8)) (fun _ hk => hk.2) (.slice g0 d1.length g3)) (fun _ hk => hk.2) (.slice g6 d2.length g8)) (fun _ h_ => h_.1))))) (below_size (wz HB.out))); have f9 := Aside0.mk (blk_below (g := b4) (o := .cells #[.int .i64 1, .slice g5 b5.length g7, .slice g9 b6.length h2] 25 (0, 0)) (fz a1.out k3.out) hb); have e6 := Aside0.mk (blk_below (g := a8) (o := .cells #[.int .i64 e3, .slice h0 d5.length h3, .slice h6 d0.length h7] 25 (0, 0)) (fz a3.out k5.out) hb); have f1 := Aside0.mk (blk_below (g := a2) (o := .cells #[.int .i64 b8, .slice g0 d1.length g3, .slice g6 d2.length g8] 25 (0, 0)) (by (with_reducible repeat (first | refine blk_drewN ?_ _ | refine blk_drew ?_ | refine blk_alloc ?_ _)); refine blk_put (cs := #[.int .i64 b8, .slice g0 d1.length g3, .slice none 0 0]) ?_ 2 _ rfl; (with_reducible repeat (first | refine blk_drewN ?_ _ | refine blk_drew ?_ | refine blk_alloc ?_ _)); refine blk_put (cs := #[.int .i64 b8, .slice none 0 0, .slice none 0 0]) ?_ 1 _ rfl; (with_reducible repeat (first | refine blk_drewN ?_ _ | refine blk_drew ?_ | refine blk_alloc ?_ _)); refine blk_put (cs := #[.int .i64 0, .slice none 0 0, .slice none 0 0]) ?_ 0 _ rfl; (with_reducible repeat (first | refine blk_drewN ?_ _ | refine blk_drew ?_ | refine blk_alloc ?_ _)); exact a5.out) hb); have f8 := Aside0.mk (below_step (wz HB.out) hb); clear a4; clear a6; clear b2; clear a9; clear b3; clear b7; clear b9; clear d3; clear a1; clear a3; clear a5; clear HB; have a4 := d6; have a6 := d7; have b2 := d8; have a9 := e1; have b3 := e2; have b7 := e7; have b9 := f0; have d3 := f3; have e9 := f4; have a1 := f9; have a3 := e6; have a5 := f1; have HB := f8; clear d6 d7 d8 e1 e2 e7 f0 f3 f4 f9 e6 f1 f8; clear hb i8; obtain ⟨p6, p9, q8⟩ := Kd.R_slice e9.out; subst q8) | ((with_reducible refine gate_callee (f := 43) rfl ?_); refine goesL_ (some 29) rfl rfl Try.func43 (by kernel_rfl) rfl #[.agg #[.int .i64 1, .slice g5 b5.length g7, .slice g9 b6.length h2], .slice p6 n0.length p9] rfl (by (try simp only [List.map_toArray, List.map_cons, List.map_nil]); first | done | rfl | (simp only [List.length_drop, List.length_take]; rfl)) ?_; (with_reducible refine (Pxe.calls 1 _ _ b5 _ _ b6 _ _ n0 e0 e4 e5 i2 _ ?j8 ?j9 ?k0 ?k1 ?k8 ?k9 A3.out).mono ?_); (case j8 => repeat (first | exact (Kd.R_reads' a4.out).2.2 | (with_reducible refine Kd.C_alloc ?_ _) | (with_reducible refine Kd.C_drewN ?_ _) | (with_reducible refine Kd.C_drew ?_))); (case j9 => exact (Kd.R_reads' a4.out).2.1); (case k0 => repeat (first | exact (Kd.R_reads' a6.out).2.2 | (with_reducible refine Kd.C_alloc ?_ _) | (with_reducible refine Kd.C_drewN ?_ _) | (with_reducible refine Kd.C_drew ?_))); (case k1 => exact (Kd.R_reads' a6.out).2.1); (case k8 => repeat (first | exact (Kd.R_reads' e9.out).2.2 | (with_reducible refine Kd.C_alloc ?_ _) | (with_reducible refine Kd.C_drewN ?_ _) | (with_reducible refine Kd.C_drew ?_))); (case k9 => exact (Kd.R_reads' e9.out).2.1); rintro e D3 ⟨C3, C4, rfl, i0, i7, hb⟩; refine ⟨_, rfl, ?_⟩; have d6 := Aside0.mk (Kd.R_elder' (rz a4.out) (Kd.R_base i0) hb); have d7 := Aside0.mk (Kd.R_elder' (rz a6.out) (Kd.R_base i7) hb); have d8 := Aside0.mk (Kd.R_below (rz b2.out) hb); have e1 := Aside0.mk (Kd.R_elder' (rz a9.out) (Kd.R_base i0) hb); have e2 := Aside0.mk (Kd.R_elder' (rz b3.out) (Kd.R_base i7) hb); have e7 := Aside0.mk (Kd.R_elder' (rz b7.out) (Kd.R_base i0) hb); have f0 := Aside0.mk (Kd.R_elder' (rz b9.out) (Kd.R_base i0) hb); have f3 := Aside0.mk (Kd.R_elder' (rz d3.out) (Kd.R_base i7) hb); have f4 := Aside0.mk (Kd.R_elder' (rz e9.out) (Kd.R_base i0) hb); have f9 := Aside0.mk (Kd.R_lower (Kd.R_new' (Kd.R_new' (Kd.R_new' (Kd.R_new' (Kd.R_new' i0 (Kd.R_lt (rz a4.out))) (Kd.R_lt (rz a9.out))) (Kd.R_lt (rz b7.out))) (Kd.R_lt (rz b9.out))) (Kd.R_lt (rz e9.out))) (below_size (wz HB.out))); have e6 := Aside0.mk (Kd.R_lower (Kd.R_new' (Kd.R_new' (Kd.R_new' i7 (Kd.R_lt (rz a6.out))) (Kd.R_lt (rz b3.out))) (Kd.R_lt (rz d3.out))) (below_size (wz HB.out))); have f1 := Aside0.mk (blk_below (bz a1.out) hb); have f8 := Aside0.mk (blk_below (bz a3.out) hb); have h4 := Aside0.mk (blk_below (bz a5.out) hb); have h5 := Aside0.mk (below_step (wz HB.out) hb); clear a4; clear a6; clear b2; clear a9; clear b3; clear b7; clear b9; clear d3; clear e9; clear a1; clear a3; clear a5; clear HB; have a4 := d6; have a6 := d7; have b2 := d8; have a9 := e1; have b3 := e2; have b7 := e7; have b9 := f0; have d3 := f3; have e9 := f4; have f5 := f9; have g2 := e6; have a1 := f1; have a3 := f8; have a5 := h4; have HB := h5; clear d6 d7 d8 e1 e2 e7 f0 f3 f4 f9 e6 f1 f8 h4 h5; (try clear hb); (try clear n7); (try clear hk); (try clear hi); (try clear i0); (try clear i7)) | ((with_reducible refine gate_dst (N := 6) rfl ?_); (try (refine gate_guard (by rfl) ?_; dsimp only)); refine box_event ?hg (N := 6) ?hd (cs := #[.int .i64 0, .slice none 0 0, .slice none 0 0]) (t := 25) ?hr ?_; (case hd => rfl); (case hg => rfl); (case hr => first | (go_simp; done) | (go_simp; rfl)); intro a0 hg l9 hbox hb; have d6 := Aside0.mk (Kd.R_below (rz a4.out) hb); have d7 := Aside0.mk (Kd.R_below (rz a6.out) hb); have d8 := Aside0.mk (Kd.R_below (rz b2.out) hb); have e1 := Aside0.mk (Kd.R_below (rz a9.out) hb); have e2 := Aside0.mk (Kd.R_below (rz b3.out) hb); have e7 := Aside0.mk (Kd.R_below (rz b7.out) hb); have f0 := Aside0.mk (Kd.R_below (rz b9.out) hb); have f3 := Aside0.mk (Kd.R_below (rz d3.out) hb); have f4 := Aside0.mk (Kd.R_below (rz e9.out) hb); have f9 := Aside0.mk (Kd.R_below (rz f5.out) hb); have e6 := Aside0.mk (Kd.R_below (rz g2.out) hb); have f1 := Aside0.mk (blk_below (bz a1.out) hb); have f8 := Aside0.mk (blk_below (bz a3.out) hb); have h4 := Aside0.mk (blk_below (bz a5.out) hb); have h5 := Aside0.mk (below_step (wz HB.out) hb); have h8 := Aside0.mk (hbox); have h9 := Aside0.mk ((by rw [hg]; exact (below_size (wz HB.out)) : w.heap.size ≤ a0)); have l6 := Aside0.mk ((by rw [hg]; exact (below_size (wz HB.out)) : w.heap.size ≤ a0)); have n9 := Aside0.mk ((by rw [hg]; exact Nat.ne_of_lt (blk_lt (g := b4) (o := .cells #[.int .i64 1, .slice g5 b5.length g7, .slice g9 b6.length h2] 25 (0, 0)) (bz a1.out)) : b4 ≠ a0)); have o0 := Aside0.mk ((by rw [hg]; exact Nat.ne_of_gt (blk_lt (g := b4) (o := .cells #[.int .i64 1, .slice g5 b5.length g7, .slice g9 b6.length h2] 25 (0, 0)) (bz a1.out)) : a0 ≠ b4)); have o1 := Aside0.mk ((by rw [hg]; exact Nat.ne_of_lt (blk_lt (g := a8) (o := .cells #[.int .i64 e3, .slice h0 d5.length h3, .slice h6 d0.length h7] 25 (0, 0)) (bz a3.out)) : a8 ≠ a0)); have o2 := Aside0.mk ((by rw [hg]; exact Nat.ne_of_gt (blk_lt (g := a8) (o := .cells #[.int .i64 e3, .slice h0 d5.length h3, .slice h6 d0.length h7] 25 (0, 0)) (bz a3.out)) : a0 ≠ a8)); have o3 := Aside0.mk ((by rw [hg]; exact Nat.ne_of_lt (blk_lt (g := a2) (o := .cells #[.int .i64 b8, .slice g0 d1.length g3, .slice g6 d2.length g8] 25 (0, 0)) (bz a5.out)) : a2 ≠ a0)); have o4 := Aside0.mk ((by rw [hg]; exact Nat.ne_of_gt (blk_lt (g := a2) (o := .cells #[.int .i64 b8, .slice g0 d1.length g3, .slice g6 d2.length g8] 25 (0, 0)) (bz a5.out)) : a0 ≠ a2)); clear a4; clear a6; clear b2; clear a9; clear b3; clear b7; clear b9; clear d3; clear e9; clear f5; clear g2; clear a1; clear a3; clear a5; clear HB; have a4 := d6; have a6 := d7; have b2 := d8; have a9 := e1; have b3 := e2; have b7 := e7; have b9 := f0; have d3 := f3; have e9 := f4; have f5 := f9; have g2 := e6; have a1 := f1; have a3 := f8; have a5 := h4; have HB := h5; have b1 := h8; have z0 := h9; have y6 := l6; have k4 := n9; have m5 := o0; have k6 := o1; have m6 := o2; have k7 := o3; have m7 := o4; clear d6 d7 d8 e1 e2 e7 f0 f3 f4 f9 e6 f1 f8 h4 h5 h8 h9 l6 n9 o0 o1 o2 o3 o4; clear hb hbox hg; have z4 := m5.out; have A0 := k4.out; have z5 := m6.out; have A4 := k6.out; have z6 := m7.out; have A5 := k7.out; have s7 : l9.cell? ⟨a0, 0, none⟩ = some (.int .i64 0) := bcz b1 0 rfl; have s8 : l9.cell? ⟨a0, 1, none⟩ = some (.slice none 0 0) := bcz b1 1 rfl; have s9 : l9.cell? ⟨a0, 2, none⟩ = some (.slice none 0 0) := bcz b1 2 rfl; have w4 := blk_frozen b1.out 0; have w5 := blk_frozen b1.out 1; have w6 := blk_frozen b1.out 2; obtain ⟨f6, f7, q9⟩ := Kd.R_slice f5.out; subst q9; obtain ⟨g1, g4, r0⟩ := Kd.R_slice g2.out; subst r0; have t2 : l9.cell? ⟨a8, 0, none⟩ = some (.int .i64 e3) := bcz a3 0 rfl; have t4 : l9.cell? ⟨a8, 1, none⟩ = some (.slice h0 d5.length h3) := bcz a3 1 rfl; have t5 : l9.cell? ⟨a8, 2, none⟩ = some (.slice h6 d0.length h7) := bcz a3 2 rfl; have w7 := blk_frozen a3.out 0; have w8 := blk_frozen a3.out 1; have w9 := blk_frozen a3.out 2) | ((with_reducible refine gate_dst (N := 43) rfl ?_); (try (refine gate_guard (by rfl) ?_; dsimp only)); refine Kd.R_lit Kd.string _ 9 ?hg (N := 43) ?hd (xs := ([(⟨#[98]⟩ : ByteArray)] : List ByteArray)) (inner := [.string (⟨#[98]⟩ : ByteArray)]) (ok := fun _ => True) (okp := fun _ => True) ?hr ?hp (fun _ hk => hk) trivial (Below.refl _ _) (Nat.le_refl _) (by simp) ?_; (case hd => rfl); (case hg => rfl); (case hr => first | (go_simp; done) | (go_simp; rfl)); (case hp => exact (Reps.one (show Kd.M Kd.string _ _ _ (⟨#[98]⟩ : ByteArray) [.string (⟨#[98]⟩ : ByteArray)] from rfl) (Reps.none _ _))); intro C5 m0 i4 hb hg_ hnew_; clear hg_ hnew_; (first | rw [← n6.out] at i4 | (simp only [Int.reduceToNat] at i4; rw [← n6.out] at i4)); have d6 := Aside0.mk (Kd.R_elder' (rz (Kd.R_mono (Kd.R_far (p := ⟨a0, 2, none⟩) (Kd.R_far (p := ⟨a0, 1, none⟩) (Kd.R_far (p := ⟨a0, 0, none⟩) (Kd.R_types a4.out b1.out (by decide)) (fun _ hk => hk.2) (.int .i64 e0)) (fun _ hk => hk.2) (.slice f6 e4.length f7)) (fun _ hk => hk.2) (.slice g1 e5.length g4)) (fun _ h_ => h_.1))) (Kd.R_base i4) hb); have d7 := Aside0.mk (Kd.R_below (rz (Kd.R_mono (Kd.R_far (p := ⟨a0, 2, none⟩) (Kd.R_far (p := ⟨a0, 1, none⟩) (Kd.R_far (p := ⟨a0, 0, none⟩) (Kd.R_types a6.out b1.out (by decide)) (fun _ hk => hk.2) (.int .i64 e0)) (fun _ hk => hk.2) (.slice f6 e4.length f7)) (fun _ hk => hk.2) (.slice g1 e5.length g4)) (fun _ h_ => h_.1))) hb); have d8 := Aside0.mk (Kd.R_below (rz (Kd.R_mono (Kd.R_far (p := ⟨a0, 2, none⟩) (Kd.R_far (p := ⟨a0, 1, none⟩) (Kd.R_far (p := ⟨a0, 0, none⟩) (Kd.R_types b2.out b1.out (by decide)) (fun _ hk => hk.2) (.int .i64 e0)) (fun _ hk => hk.2) (.slice f6 e4.length f7)) (fun _ hk => hk.2) (.slice g1 e5.length g4)) (fun _ h_ => h_.1))) hb); have e1 := Aside0.mk (Kd.R_elder' (rz (Kd.R_mono (Kd.R_far (p := ⟨a0, 2, none⟩) (Kd.R_far (p := ⟨a0, 1, none⟩) (Kd.R_far (p := ⟨a0, 0, none⟩) (Kd.R_types a9.out b1.out (by decide)) (fun _ hk => hk.2) (.int .i64 e0)) (fun _ hk => hk.2) (.slice f6 e4.length f7)) (fun _ hk => hk.2) (.slice g1 e5.length g4)) (fun _ h_ => h_.1))) (Kd.R_base i4) hb); have e2 := Aside0.mk (Kd.R_below (rz (Kd.R_mono (Kd.R_far (p := ⟨a0, 2, none⟩) (Kd.R_far (p := ⟨a0, 1, none⟩) (Kd.R_far (p := ⟨a0, 0, none⟩) (Kd.R_types b3.out b1.out (by decide)) (fun _ hk => hk.2) (.int .i64 e0)) (fun _ hk => hk.2) (.slice f6 e4.length f7)) (fun _ hk => hk.2) (.slice g1 e5.length g4)) (fun _ h_ => h_.1))) hb); have e7 := Aside0.mk (Kd.R_elder' (rz (Kd.R_mono (Kd.R_far (p := ⟨a0, 2, none⟩) (Kd.R_far (p := ⟨a0, 1, none⟩) (Kd.R_far (p := ⟨a0, 0, none⟩) (Kd.R_types b7.out b1.out (by decide)) (fun _ hk => hk.2) (.int .i64 e0)) (fun _ hk => hk.2) (.slice f6 e4.length f7)) (fun _ hk => hk.2) (.slice g1 e5.length g4)) (fun _ h_ => h_.1))) (Kd.R_base i4) hb); have f0 := Aside0.mk (Kd.R_elder' (rz (Kd.R_mono (Kd.R_far (p := ⟨a0, 2, none⟩) (Kd.R_far (p := ⟨a0, 1, none⟩) (Kd.R_far (p := ⟨a0, 0, none⟩) (Kd.R_types b9.out b1.out (by decide)) (fun _ hk => hk.2) (.int .i64 e0)) (fun _ hk => hk.2) (.slice f6 e4.length f7)) (fun _ hk => hk.2) (.slice g1 e5.length g4)) (fun _ h_ => h_.1))) (Kd.R_base i4) hb); have f3 := Aside0.mk (Kd.R_below (rz (Kd.R_mono (Kd.R_far (p := ⟨a0, 2, none⟩) (Kd.R_far (p := ⟨a0, 1, none⟩) (Kd.R_far (p := ⟨a0, 0, none⟩) (Kd.R_types d3.out b1.out (by decide)) (fun _ hk => hk.2) (.int .i64 e0)) (fun _ hk => hk.2) (.slice f6 e4.length f7)) (fun _ hk => hk.2) (.slice g1 e5.length g4)) (fun _ h_ => h_.1))) hb); have f4 := Aside0.mk (Kd.R_elder' (rz (Kd.R_mono (Kd.R_far (p := ⟨a0, 2, none⟩) (Kd.R_far (p := ⟨a0, 1, none⟩) (Kd.R_far (p := ⟨a0, 0, none⟩) (Kd.R_types e9.out b1.out (by decide)) (fun _ hk => hk.2) (.int .i64 e0)) (fun _ hk => hk.2) (.slice f6 e4.length f7)) (fun _ hk => hk.2) (.slice g1 e5.length g4)) (fun _ h_ => h_.1))) (Kd.R_base i4) hb); have f9 := Aside0.mk (Kd.R_elder' (rz (Kd.R_mono (Kd.R_far (p := ⟨a0, 2, none⟩) (Kd.R_far (p := ⟨a0, 1, none⟩) (Kd.R_far (p := ⟨a0, 0, none⟩) (Kd.R_types f5.out b1.out (by decide)) (fun _ hk => hk.2) (.int .i64 e0)) (fun _ hk => hk.2) (.slice f6 e4.length f7)) (fun _ hk => hk.2) (.slice g1 e5.length g4)) (fun _ h_ => h_.1))) (Kd.R_base i4) hb); have e6 := Aside0.mk (Kd.R_below (rz (Kd.R_mono (Kd.R_far (p := ⟨a0, 2, none⟩) (Kd.R_far (p := ⟨a0, 1, none⟩) (Kd.R_far (p := ⟨a0, 0, none⟩) (Kd.R_types g2.out b1.out (by decide)) (fun _ hk => hk.2) (.int .i64 e0)) (fun _ hk => hk.2) (.slice f6 e4.length f7)) (fun _ hk => hk.2) (.slice g1 e5.length g4)) (fun _ h_ => h_.1))) hb); have f1 := Aside0.mk (Kd.R_lower (Kd.R_new' (Kd.R_new' (Kd.R_new' (Kd.R_new' (Kd.R_new' (Kd.R_new' i4 (Kd.R_lt (rz (Kd.R_mono (Kd.R_far (p := ⟨a0, 2, none⟩) (Kd.R_far (p := ⟨a0, 1, none⟩) (Kd.R_far (p := ⟨a0, 0, none⟩) (Kd.R_types a4.out b1.out (by decide)) (fun _ hk => hk.2) (.int .i64 e0)) (fun _ hk => hk.2) (.slice f6 e4.length f7)) (fun _ hk => hk.2) (.slice g1 e5.length g4)) (fun _ h_ => h_.1))))) (Kd.R_lt (rz (Kd.R_mono (Kd.R_far (p := ⟨a0, 2, none⟩) (Kd.R_far (p := ⟨a0, 1, none⟩) (Kd.R_far (p := ⟨a0, 0, none⟩) (Kd.R_types a9.out b1.out (by decide)) (fun _ hk => hk.2) (.int .i64 e0)) (fun _ hk => hk.2) (.slice f6 e4.length f7)) (fun _ hk => hk.2) (.slice g1 e5.length g4)) (fun _ h_ => h_.1))))) (Kd.R_lt (rz (Kd.R_mono (Kd.R_far (p := ⟨a0, 2, none⟩) (Kd.R_far (p := ⟨a0, 1, none⟩) (Kd.R_far (p := ⟨a0, 0, none⟩) (Kd.R_types b7.out b1.out (by decide)) (fun _ hk => hk.2) (.int .i64 e0)) (fun _ hk => hk.2) (.slice f6 e4.length f7)) (fun _ hk => hk.2) (.slice g1 e5.length g4)) (fun _ h_ => h_.1))))) (Kd.R_lt (rz (Kd.R_mono (Kd.R_far (p := ⟨a0, 2, none⟩) (Kd.R_far (p := ⟨a0, 1, none⟩) (Kd.R_far (p := ⟨a0, 0, none⟩) (Kd.R_types b9.out b1.out (by decide)) (fun _ hk => hk.2) (.int .i64 e0)) (fun _ hk => hk.2) (.slice f6 e4.length f7)) (fun _ hk => hk.2) (.slice g1 e5.length g4)) (fun _ h_ => h_.1))))) (Kd.R_lt (rz (Kd.R_mono (Kd.R_far (p := ⟨a0, 2, none⟩) (Kd.R_far (p := ⟨a0, 1, none⟩) (Kd.R_far (p := ⟨a0, 0, none⟩) (Kd.R_types e9.out b1.out (by decide)) (fun _ hk => hk.2) (.int .i64 e0)) (fun _ hk => hk.2) (.slice f6 e4.length f7)) (fun _ hk => hk.2) (.slice g1 e5.length g4)) (fun _ h_ => h_.1))))) (Kd.R_lt (rz (Kd.R_mono (Kd.R_far (p := ⟨a0, 2, none⟩) (Kd.R_far (p := ⟨a0, 1, none⟩) (Kd.R_far (p := ⟨a0, 0, none⟩) (Kd.R_types f5.out b1.out (by decide)) (fun _ hk => hk.2) (.int .i64 e0)) (fun _ hk => hk.2) (.slice f6 e4.length f7)) (fun _ hk => hk.2) (.slice g1 e5.length g4)) (fun _ h_ => h_.1))))) (below_size (wz HB.out))); have f8 := Aside0.mk (blk_below (g := b4) (o := .cells #[.int .i64 1, .slice g5 b5.length g7, .slice g9 b6.length h2] 25 (0, 0)) (fz a1.out k4.out) hb); have h4 := Aside0.mk (blk_below (g := a8) (o := .cells #[.int .i64 e3, .slice h0 d5.length h3, .slice h6 d0.length h7] 25 (0, 0)) (fz a3.out k6.out) hb); have h5 := Aside0.mk (blk_below (g := a2) (o := .cells #[.int .i64 b8, .slice g0 d1.length g3, .slice g6 d2.length g8] 25 (0, 0)) (fz a5.out k7.out) hb); have h8 := Aside0.mk (blk_below (g := a0) (o := .cells #[.int .i64 e0, .slice f6 e4.length f7, .slice g1 e5.length g4] 25 (0, 0)) (by (with_reducible repeat (first | refine blk_drewN ?_ _ | refine blk_drew ?_ | refine blk_alloc ?_ _)); refine blk_put (cs := #[.int .i64 e0, .slice f6 e4.length f7, .slice none 0 0]) ?_ 2 _ rfl; (with_reducible repeat (first | refine blk_drewN ?_ _ | refine blk_drew ?_ | refine blk_alloc ?_ _)); refine blk_put (cs := #[.int .i64 e0, .slice none 0 0, .slice none 0 0]) ?_ 1 _ rfl; (with_reducible repeat (first | refine blk_drewN ?_ _ | refine blk_drew ?_ | refine blk_alloc ?_ _)); refine blk_put (cs := #[.int .i64 0, .slice none 0 0, .slice none 0 0]) ?_ 0 _ rfl; (with_reducible repeat (first | refine blk_drewN ?_ _ | refine blk_drew ?_ | refine blk_alloc ?_ _)); exact b1.out) hb); have h9 := Aside0.mk (below_step (wz HB.out) hb); clear a4; clear a6; clear b2; clear a9; clear b3; clear b7; clear b9; clear d3; clear e9; clear f5; clear g2; clear a1; clear a3; clear a5; clear b1; clear HB; have a4 := d6; have a6 := d7; have b2 := d8; have a9 := e1; have b3 := e2; have b7 := e7; have b9 := f0; have d3 := f3; have e9 := f4; have f5 := f9; have g2 := e6; have i3 := f1; have a1 := f8; have a3 := h4; have a5 := h5; have b1 := h8; have HB := h9; clear d6 d7 d8 e1 e2 e7 f0 f3 f4 f9 e6 f1 f8 h4 h5 h8 h9; clear hb i4; obtain ⟨A7, A8, r1⟩ := Kd.R_slice i3.out; subst r1) | (go_at_call 28; (with_reducible refine (Pr01a.calls k _ _ d5 _ _ o6 true _ ?j8 ?j9 ?k0 ?k1 A6.out).mono ?_); (case j8 => repeat (first | exact (Kd.R_reads' a9.out).2.2 | (with_reducible refine Kd.C_alloc ?_ _) | (with_reducible refine Kd.C_drewN ?_ _) | (with_reducible refine Kd.C_drew ?_))); (case j9 => exact (Kd.R_reads' a9.out).2.1); (case k0 => repeat (first | exact (Kd.R_reads' i3.out).2.2 | (with_reducible refine Kd.C_alloc ?_ _) | (with_reducible refine Kd.C_drewN ?_ _) | (with_reducible refine Kd.C_drew ?_))); (case k1 => exact (Kd.R_reads' i3.out).2.1); rintro e w' ⟨rfl, ⟨nd, rfl⟩⟩; have t6 : m0.cell? ⟨a8, 0, none⟩ = some (.int .i64 e3) := bcz a3 0 rfl; have t7 : m0.cell? ⟨a8, 1, none⟩ = some (.slice h0 d5.length h3) := bcz a3 1 rfl; have t8 : m0.cell? ⟨a8, 2, none⟩ = some (.slice h6 d0.length h7) := bcz a3 2 rfl; have x0 := blk_frozen a3.out 0; have x1 := blk_frozen a3.out 1; have x2 := blk_frozen a3.out 2; have t9 : m0.cell? ⟨a2, 0, none⟩ = some (.int .i64 b8) := bcz a5 0 rfl; have u0 : m0.cell? ⟨a2, 1, none⟩ = some (.slice g0 d1.length g3) := bcz a5 1 rfl; have u1 : m0.cell? ⟨a2, 2, none⟩ = some (.slice g6 d2.length g8) := bcz a5 2 rfl; have x3 := blk_frozen a5.out 0; have x4 := blk_frozen a5.out 1; have x5 := blk_frozen a5.out 2) | (go_at_call 44; (with_reducible refine (Pr26a.calls k e3 _ _ d5 _ _ d0 b8 _ _ d1 _ _ d2 true _ ?j8 ?j9 ?k0 ?k1 ?k8 ?k9 ?o7 ?o8 A9.out).mono ?_); (case j8 => repeat (first | exact (Kd.R_reads' a9.out).2.2 | (with_reducible refine Kd.C_alloc ?_ _) | (with_reducible refine Kd.C_drewN ?_ _) | (with_reducible refine Kd.C_drew ?_))); (case j9 => exact (Kd.R_reads' a9.out).2.1); (case k0 => repeat (first | exact (Kd.R_reads' b3.out).2.2 | (with_reducible refine Kd.C_alloc ?_ _) | (with_reducible refine Kd.C_drewN ?_ _) | (with_reducible refine Kd.C_drew ?_))); (case k1 => exact (Kd.R_reads' b3.out).2.1); (case k8 => repeat (first | exact (Kd.R_reads' b9.out).2.2 | (with_reducible refine Kd.C_alloc ?_ _) | (with_reducible refine Kd.C_drewN ?_ _) | (with_reducible refine Kd.C_drew ?_))); (case k9 => exact (Kd.R_reads' b9.out).2.1); (case o7 => repeat (first | exact (Kd.R_reads' d3.out).2.2 | (with_reducible refine Kd.C_alloc ?_ _) | (with_reducible refine Kd.C_drewN ?_ _) | (with_reducible refine Kd.C_drew ?_))); (case o8 => exact (Kd.R_reads' d3.out).2.1); rintro e m1 ⟨rfl, hb⟩; have d6 := Aside0.mk (Kd.R_below (rz a4.out) hb); have d7 := Aside0.mk (Kd.R_below (rz a6.out) hb); have d8 := Aside0.mk (Kd.R_below (rz b2.out) hb); have e1 := Aside0.mk (Kd.R_below (rz a9.out) hb); have e2 := Aside0.mk (Kd.R_below (rz b3.out) hb); have e7 := Aside0.mk (Kd.R_below (rz b7.out) hb); have f0 := Aside0.mk (Kd.R_below (rz b9.out) hb); have f3 := Aside0.mk (Kd.R_below (rz d3.out) hb); have f4 := Aside0.mk (Kd.R_below (rz e9.out) hb); have f9 := Aside0.mk (Kd.R_below (rz f5.out) hb); have e6 := Aside0.mk (Kd.R_below (rz g2.out) hb); have f1 := Aside0.mk (Kd.R_below (rz i3.out) hb); have f8 := Aside0.mk (blk_below (bz a1.out) hb); have h4 := Aside0.mk (blk_below (bz a3.out) hb); have h5 := Aside0.mk (blk_below (bz a5.out) hb); have h8 := Aside0.mk (blk_below (bz b1.out) hb); have h9 := Aside0.mk (below_step (wz HB.out) hb); clear a4; clear a6; clear b2; clear a9; clear b3; clear b7; clear b9; clear d3; clear e9; clear f5; clear g2; clear i3; clear a1; clear a3; clear a5; clear b1; clear HB; have a4 := d6; have a6 := d7; have b2 := d8; have a9 := e1; have b3 := e2; have b7 := e7; have b9 := f0; have d3 := f3; have e9 := f4; have f5 := f9; have g2 := e6; have i3 := f1; have a1 := f8; have a3 := h4; have a5 := h5; have b1 := h8; have HB := h9; clear d6 d7 d8 e1 e2 e7 f0 f3 f4 f9 e6 f1 f8 h4 h5 h8 h9; (try clear hb); (try clear n7); (try clear hk); (try clear hi); have u2 : m1.cell? ⟨a2, 0, none⟩ = some (.int .i64 b8) := bcz a5 0 rfl; have u3 : m1.cell? ⟨a2, 1, none⟩ = some (.slice g0 d1.length g3) := bcz a5 1 rfl; have u4 : m1.cell? ⟨a2, 2, none⟩ = some (.slice g6 d2.length g8) := bcz a5 2 rfl; have x6 := blk_frozen a5.out 0; have x7 := blk_frozen a5.out 1; have x8 := blk_frozen a5.out 2; have u5 : m1.cell? ⟨a0, 0, none⟩ = some (.int .i64 e0) := bcz b1 0 rfl; have u6 : m1.cell? ⟨a0, 1, none⟩ = some (.slice f6 e4.length f7) := bcz b1 1 rfl; have u7 : m1.cell? ⟨a0, 2, none⟩ = some (.slice g1 e5.length g4) := bcz b1 2 rfl; have x9 := blk_frozen b1.out 0; have y0 := blk_frozen b1.out 1; have y1 := blk_frozen b1.out 2) | (go_at_call 44; (with_reducible refine (Pr26a.calls k b8 _ _ d1 _ _ d2 e0 _ _ e4 _ _ e5 d9 _ ?j8 ?j9 ?k0 ?k1 ?k8 ?k9 ?o7 ?o8 y2.out).mono ?_); (case j8 => repeat (first | exact (Kd.R_reads' b9.out).2.2 | (with_reducible refine Kd.C_alloc ?_ _) | (with_reducible refine Kd.C_drewN ?_ _) | (with_reducible refine Kd.C_drew ?_))); (case j9 => exact (Kd.R_reads' b9.out).2.1); (case k0 => repeat (first | exact (Kd.R_reads' d3.out).2.2 | (with_reducible refine Kd.C_alloc ?_ _) | (with_reducible refine Kd.C_drewN ?_ _) | (with_reducible refine Kd.C_drew ?_))); (case k1 => exact (Kd.R_reads' d3.out).2.1); (case k8 => repeat (first | exact (Kd.R_reads' f5.out).2.2 | (with_reducible refine Kd.C_alloc ?_ _) | (with_reducible refine Kd.C_drewN ?_ _) | (with_reducible refine Kd.C_drew ?_))); (case k9 => exact (Kd.R_reads' f5.out).2.1); (case o7 => repeat (first | exact (Kd.R_reads' g2.out).2.2 | (with_reducible refine Kd.C_alloc ?_ _) | (with_reducible refine Kd.C_drewN ?_ _) | (with_reducible refine Kd.C_drew ?_))); (case o8 => exact (Kd.R_reads' g2.out).2.1); rintro e D4 ⟨rfl, hb⟩; have d6 := Aside0.mk (Kd.R_below (rz a4.out) hb); have d7 := Aside0.mk (Kd.R_below (rz a6.out) hb); have d8 := Aside0.mk (Kd.R_below (rz b2.out) hb); have e1 := Aside0.mk (Kd.R_below (rz a9.out) hb); have e2 := Aside0.mk (Kd.R_below (rz b3.out) hb); have e7 := Aside0.mk (Kd.R_below (rz b7.out) hb); have f0 := Aside0.mk (Kd.R_below (rz b9.out) hb); have f3 := Aside0.mk (Kd.R_below (rz d3.out) hb); have f4 := Aside0.mk (Kd.R_below (rz e9.out) hb); have f9 := Aside0.mk (Kd.R_below (rz f5.out) hb); have e6 := Aside0.mk (Kd.R_below (rz g2.out) hb); have f1 := Aside0.mk (Kd.R_below (rz i3.out) hb); have f8 := Aside0.mk (blk_below (bz a1.out) hb); have h4 := Aside0.mk (blk_below (bz a3.out) hb); have h5 := Aside0.mk (blk_below (bz a5.out) hb); have h8 := Aside0.mk (blk_below (bz b1.out) hb); have h9 := Aside0.mk (below_step (wz HB.out) hb); clear a4; clear a6; clear b2; clear a9; clear b3; clear b7; clear b9; clear d3; clear e9; clear f5; clear g2; clear i3; clear a1; clear a3; clear a5; clear b1; clear HB; have a4 := d6; have a6 := d7; have b2 := d8; have a9 := e1; have b3 := e2; have b7 := e7; have b9 := f0; have d3 := f3; have e9 := f4; have f5 := f9; have g2 := e6; have i3 := f1; have a1 := f8; have a3 := h4; have a5 := h5; have b1 := h8; have HB := h9; clear d6 d7 d8 e1 e2 e7 f0 f3 f4 f9 e6 f1 f8 h4 h5 h8 h9; (try clear hb); (try clear n7); (try clear hk); (try clear hi)))
       go_ret
       exact ⟨by first | rfl | (simp [errW_none, errW_some] <;> rfl) | (simp [*, errW_none, errW_some] <;> rfl), wz HB.out⟩
      ·rw [if_neg l2] at H;have c11b0 : (i2 == 0) = false := beq_eq_false_iff_ne.mpr l2;have c11b1 : (i2 != 0) = true := bne_iff_ne.mpr l2;obtain rfl := Option.some.inj H;exact absurd hr_.out (by decide)
     ·replace c10 := Bool.eq_false_iff.mpr c10;subst c10;have H1 : (some false) = some r := by rw [if_neg (show ¬ (false = true) by decide)] at H; exact H
      clear H;have H := H1;clear H1;obtain rfl := Option.some.inj H;exact absurd hr_.out (by decide)
    ·rw [if_neg c8] at H;have c8b0 : (i1 == 0) = false := beq_eq_false_iff_ne.mpr c8;have c8b1 : (i1 != 0) = true := bne_iff_ne.mpr c8;obtain rfl := Option.some.inj H;exact absurd hr_.out (by decide)
   ·replace c7 := Bool.eq_false_iff.mpr c7;subst c7;have H1 : (some false) = some r := by rw [if_neg (show ¬ (false = true) by decide)] at H; exact H
    clear H;have H := H1;clear H1;obtain rfl := Option.some.inj H;exact absurd hr_.out (by decide)
  ·rw [if_neg c5] at H;have c5b0 : ((d0.length : Int) == 1) = false := beq_eq_false_iff_ne.mpr c5;have c5b1 : ((d0.length : Int) != 1) = true := bne_iff_ne.mpr c5;obtain rfl := Option.some.inj H;exact absurd hr_.out (by decide)
 ·rw [if_neg c4] at H;have c4b0 : (i5 == 0) = false := beq_eq_false_iff_ne.mpr c4;have c4b1 : (i5 != 0) = true := bne_iff_ne.mpr c4;obtain rfl := Option.some.inj H;exact absurd hr_.out (by decide)
end Go.Proofs.Ytmcbkmfpmcbdpaa.Pr
set_option linter.unusedVariables false
set_option linter.unusedSimpArgs false
namespace Go.Proofs.Ytmcbkmfpmcbdpaa.H
open Go.RowKit Go.Proofs.Ytmcbkmfpmcbdpaa.Pr Go.Proofs.YtmcbkmfpmcbdpaaW.PrintWords Go.Proofs.Ytmcbkmfpmcbdpaa.Sem Go.Proofs.Ytmcbkmfpmcbdpaa.PL
theorem awake51 : Ev (fun k => Pl51b.f k) true := Ev.of Pl51b.mono (k := 40) (by kernel_rfl)
theorem few_ev (l : List ByteArray) : ∃ b, Ev (fun k => Pl51c.f k l) b ∧ (b = true → l.length < 20) := by
 have stop : ∀ i : Int, ∃ b, Ev (fun k => Pl51c.j1 k l i false) b ∧ (b = true → l.length < 20) := fun i =>
  ⟨_, Ev.step (fun k => Pl51c.j1.eq_2 ..) (Ev.neg (by simp) (Ev.now _)), fun h => by have := of_decide_eq_true h; omega⟩
 have key : ∀ d i : Nat, i + d = 20 → ∃ b, Ev (fun k => Pl51c.l0 k l (i : Int)) b ∧ (b = true → l.length < 20) := by
  intro d
  induction d with
  | zero =>
   intro i h;obtain ⟨b, hb, h2⟩ := stop (i : Int);refine ⟨b, Ev.step (fun k => Pl51c.l0.eq_2 ..) ?_, h2⟩;by_cases q : (i : Int) < (l.length : Int)
   ·refine Ev.pos q ?_;rw [decide_eq_false (by omega)];exact hb
   ·exact Ev.neg q hb
  | succ d ih =>
   intro i h;by_cases q : (i : Int) < (l.length : Int)
   ·by_cases q2 : ((rdOf ByteArray.empty l (i : Int)).size : Int) > 300
    ·refine ⟨false, Ev.step (fun k => Pl51c.l0.eq_2 ..) (Ev.pos q ?_), fun h => by cases h⟩;rw [decide_eq_true (by omega)];exact Ev.step (fun k => Pl51c.j1.eq_2 ..) (Ev.pos rfl (Ev.pos (by omega) (Ev.pos q (Ev.pos q2 (Ev.now _)))))
    ·obtain ⟨b, hb, h2⟩ := ih (i + 1) (by omega);refine ⟨b, Ev.step (fun k => Pl51c.l0.eq_2 ..) (Ev.pos q ?_), h2⟩;rw [decide_eq_true (by omega)];refine Ev.step (fun k => Pl51c.j1.eq_2 ..) (Ev.pos rfl (Ev.pos (by omega) (Ev.pos q (Ev.neg q2 ?_))));rw [w1n (by omega)];exact hb
   ·obtain ⟨b, hb, h2⟩ := stop (i : Int);exact ⟨b, Ev.step (fun k => Pl51c.l0.eq_2 ..) (Ev.neg q hb), h2⟩
 exact key 20 0 rfl
end Go.Proofs.Ytmcbkmfpmcbdpaa.H
set_option linter.unusedVariables false
set_option linter.unusedSimpArgs false
namespace Go.Proofs.Ytmcbkmfpmcbdpaa.H
open Go.RowKit Go.Proofs.Ytmcbkmfpmcbdpaa.Pr Go.Proofs.YtmcbkmfpmcbdpaaW.PrintWords Go.Proofs.Ytmcbkmfpmcbdpaa.Sem
theorem texts_ev (ls : List ByteArray) (hl : ls.length ≤ 1000000) : Ev (fun k => Pr01a.f k ls ls) true := by
 have key : ∀ d i : Nat, i + d = ls.length → Ev (fun k => Pr01a.l0 k ls ls (i : Int)) true := by
  intro d
  induction d with
  | zero => intro i h; exact Ev.step (fun k => Pr01a.l0.eq_2 ..) (Ev.neg (by omega) (Ev.now _))
  | succ d ih =>
   intro i h
   refine Ev.step (fun k => Pr01a.l0.eq_2 ..) (Ev.pos (by omega) (Ev.pos (by omega) (Ev.pos (by omega) (Ev.pos rfl ?_))))
   rw [w1n (by omega)]
   exact ih (i + 1) (by omega)
 exact Ev.pos rfl (key ls.length 0 (by omega))
theorem same26_refl (n : Int) (ls : List ByteArray) (xs : List Ed) (h1 : ls.length ≤ 1000000) (hl : xs.length ≤ 1000000) : Ev (fun k => Pr26a.f k n ls xs n ls xs) true := by
 have key : ∀ d i : Nat, i + d = xs.length → Ev (fun k => Pr26a.l0 k (i : Int) n ls xs n ls xs) true := by
  intro d
  induction d with
  | zero => intro i h; exact Ev.step (fun k => Pr26a.l0.eq_2 ..) (Ev.neg (by omega) (Ev.now _))
  | succ d ih =>
   intro i h
   refine Ev.step (fun k => Pr26a.l0.eq_2 ..) (Ev.pos (by omega) (Ev.pos (by omega) (Ev.pos (by omega) (Ev.neg (by simp) ?_))))
   rw [w1n (by omega)]
   exact ih (i + 1) (by omega)
 exact Ev.pos rfl (Ev.bind (texts_ev ls h1) (Ev.pos rfl (Ev.step (fun k => Pr26a.j0.eq_2 ..) (Ev.neg (by simp) (key xs.length 0 (by omega))))))
end Go.Proofs.Ytmcbkmfpmcbdpaa.H
set_option linter.unusedVariables false
set_option linter.unusedSimpArgs false
namespace Go.Proofs.Ytmcbkmfpmcbdpaa.Pr
open Go.RowKit Go.Proofs.YtmcbkmfpmcbdpaaW.PrintWords Go.Proofs.YtmcbkmfpmcbdpaaW.PrintLast Go.Proofs.YtmcbkmfpmcbdpaaW.PrintMore
def Pl33a.f (k : Nat) (a0_0 : Int) (l0_1 : List ByteArray) (l0_2 : List S80) : Option Bool := some (H.light33 a0_0 l0_1 l0_2)
theorem Pl33a.mono : ∀ a0 a1 a2 k, LeO (Pl33a.f k a0 a1 a2) (Pl33a.f (k + 1) a0 a1 a2) := fun _ _ _ _ => LeO.refl _
theorem Pl33a.calls (k : Nat) (a0_0 : Int) (A0_1 : Option Addr) (c0_1 : Nat) (l0_1 : List ByteArray) (A0_2 : Option Addr) (c0_2 : Nat) (l0_2 : List S80) (r : Bool) (w : World) (hr0_1 : Kd.C Kd.string w A0_1 l0_1.length l0_1) (hc0_1 : l0_1.length ≤ c0_1) (hr0_2 : Kd.C k80 w A0_2 l0_2.length l0_2) (hc0_2 : l0_2.length ≤ c0_2) (h : Pl33a.f k a0_0 l0_1 l0_2 = some r) :
  Calls Try.prog 15 #[.agg #[.int .i64 a0_0, .slice A0_1 l0_1.length c0_1, .slice A0_2 l0_2.length c0_2]] w fun e w' => e = .returned (.bool r) ∧ Below w.heap.size w w' := by
 obtain rfl := Option.some.inj h
 exact H.light33_any a0_0 l0_1 l0_2 A0_1 A0_2 c0_1 c0_2 w hr0_1 (H.C_len hr0_2)
end Go.Proofs.Ytmcbkmfpmcbdpaa.Pr
namespace Go.Proofs.Ytmcbkmfpmcbdpaa.H
open Go.RowKit Go.Proofs.Ytmcbkmfpmcbdpaa.Pr Go.Proofs.YtmcbkmfpmcbdpaaW.PrintWords Go.Proofs.Ytmcbkmfpmcbdpaa.Sem
end Go.Proofs.Ytmcbkmfpmcbdpaa.H
set_option linter.unusedVariables false
set_option linter.unusedSimpArgs false
namespace Go.Proofs.Ytmcbkmfpmcbdpaa.Pr
open Go.RowKit Go.Proofs.YtmcbkmfpmcbdpaaW.PrintWords Go.Proofs.YtmcbkmfpmcbdpaaW.PrintLast Go.Proofs.YtmcbkmfpmcbdpaaW.PrintMore
def Pr26b.f (k : Nat) (a0_0 : Int) (l0_1 : List ByteArray) (l0_2 : List S80) : Option (Int × List ByteArray × List S80) := if l0_2.length ≤ 1000000 then some (a0_0, l0_1, Sem.sortE l0_2) else none
theorem Pr26b.mono : ∀ a0 a1 a2 k, LeO (Pr26b.f k a0 a1 a2) (Pr26b.f (k + 1) a0 a1 a2) := fun _ _ _ _ => LeO.refl _
theorem Pr26b.calls (k : Nat) (a0_0 : Int) (P0_1_ : Nat → Prop) (u9000_ : Value) (l0_1 : List ByteArray) (A0_2 : Option Addr) (c0_2 : Nat) (l0_2 : List (S80)) (r1 : Int) (r2 : List ByteArray) (r3 : List (S80)) (w0 w : World) (hB : Below w0.heap.size w0 w) (ho0_1 : Kd.R Kd.string 9 w w0.heap.size P0_1_ u9000_ l0_1) (hr0_2 : ∀ W_, Kept w W_ (fun k_ => P0_1_ k_) → Kd.C k80 W_ A0_2 l0_2.length l0_2) (hc0_2 : l0_2.length ≤ c0_2) (h : Pr26b.f k a0_0 l0_1 l0_2 = some (r1, r2, r3)) :
  Calls Try.prog 102 #[.agg #[.int .i64 a0_0, u9000_, .slice A0_2 l0_2.length c0_2]] w fun e w' => ∃ v1_ v2_ : Value, e = .returned (.agg #[.int .i64 r1, v1_, v2_]) ∧ Kd.R Kd.string 9 w' w0.heap.size (fun k_ => (P0_1_ k_ ∨ w.heap.size ≤ k_)) v1_ r2 ∧ Kd.R k80 80 w' w0.heap.size (fun k_ => (P0_1_ k_ ∨ w.heap.size ≤ k_)) v2_ r3 ∧ Below w0.heap.size w0 w' ∧ Kept w w' (fun k_ => P0_1_ k_) := by
 unfold Pr26b.f at h
 split at h
 ·rename_i hn
  simp only [Option.some.injEq, Prod.mk.injEq] at h
  obtain ⟨rfl, rfl, rfl⟩ := h
  obtain ⟨A1, c1, hu⟩ := Kd.R_slice ho0_1
  subst hu
  refine (H.rsort_any a0_0 A1 l0_1.length c1 l0_2 A0_2 c0_2 w (hr0_2 w (Kept.refl _ _)) hn).mono fun e w' => ?_
  rintro ⟨v2, rfl, ho, hb⟩
  exact ⟨_, v2, rfl, Kd.R_mono (Kd.R_move (Kd.R_bound ho0_1) (fun k hk => hb.block k hk.2.2.1)) (fun k hk => .inl hk.1), Kd.R_lower (Kd.R_mono (Kd.R_bound ho) (fun k hk => .inr hk.2.1)) hB.size, hB.trans (hb.mono hB.size), Kept.of_below hb _⟩
 ·cases h
attribute [local go_sem] max2_int min2_int max_two min_two max_three min_three max_four min_four
set_option linter.unusedVariables false
set_option linter.unusedSimpArgs false
def Pr51a.l0 : Nat → List (S55) → ByteArray → Int → Option (ByteArray)
 | 0, _, _, _ => none
 | k + 1, x0, x1, x5 => if x5 < (x0.length : Int) then (if 0 ≤ x5 then (if ((rd_T55 x0 x5).f0).toList = x1.toList then (some ((rd_T55 x0 x5).f1)) else (Pr51a.l0 k x0 x1 (wrap64 (x5 + 1)))) else (none)) else (some x1)
def Pr51a.f (k : Nat) (l0 : List (S55)) (a1 : ByteArray) : Option (ByteArray) := Pr51a.l0 k l0 a1 0
theorem Pr51a.mono_l : ∀ k, (∀ y0 y1 y2, LeO (Pr51a.l0 k y0 y1 y2) (Pr51a.l0 (k + 1) y0 y1 y2))
 | 0 => fun _ _ _ r h => by simp [Pr51a.l0] at h
 | k + 1 => by
  have ih0 := Pr51a.mono_l k
  ·intro y0 y1 y2
   unfold Pr51a.l0
   repeat' first
   | (with_reducible exact ih0 _ _ _)
   | (with_reducible exact LeO.refl _)
   | (with_reducible exact LeO.none _)
   | (with_reducible refine LeO.ite ?_ ?_)
   | (with_reducible refine LeO.bind ?_ (fun _ => ?_))
   | exact ih0 _ _ _
   | exact LeO.none _
   | refine LeO.ite ?_ ?_
   | refine LeO.bind ?_ (fun _ => ?_)
theorem Pr51a.mono : ∀ a0 a1 k, LeO (Pr51a.f k a0 a1) (Pr51a.f (k + 1) a0 a1) := by
 intro a0 a1 k
 have ih0 := Pr51a.mono_l k
 unfold Pr51a.f
 repeat' first
   | (with_reducible exact ih0 _ _ _)
   | (with_reducible exact LeO.refl _)
   | (with_reducible exact LeO.none _)
   | (with_reducible refine LeO.ite ?_ ?_)
   | (with_reducible refine LeO.bind ?_ (fun _ => ?_))
   | exact ih0 _ _ _
   | exact LeO.none _
   | refine LeO.ite ?_ ?_
   | refine LeO.bind ?_ (fun _ => ?_)
set_option maxHeartbeats 8000000 in
set_option maxRecDepth 100000 in
theorem Pr51a.calls (k : Nat) (A0 : Option Addr) (c0 : Nat) (l0 : List (S55)) (a1 : ByteArray) (r : ByteArray) (w : World) (hr0 : Kd.C k55 w A0 l0.length l0) (hc0 : l0.length ≤ c0) (h : Pr51a.f k l0 a1 = some r) :
  Calls Try.prog 100 #[.slice A0 l0.length c0, .string a1] w fun e w' => e = .returned (.string r) ∧ Drawn0 w w' := by
 have HR0 := Aside0.mk hr0;have HC0 := Aside0.mk hc0;clear hr0 hc0;have H : (Pr51a.l0 k l0 a1 0) = some r := h;clear h;have H' := Aside0.mk H;clear H;go_enter Try.func100, Try.ntmps100
 go_wp2
 go_loopg [5] k (fun kq v5 w' => ∃ (x5_1 : Int), v5 = .int .i64 x5_1 ∧ Aside0 (Pr51a.l0 kq l0 a1 x5_1 = some r) ∧ Aside0 (kq ≤ k) ∧ Drawn0 w w')
 case atStart => exact ⟨(0), (by first | rfl | (simp; done) | (simp [*]; done)), H', ⟨Nat.le_refl _⟩, by repeat (first | exact Drawn0.refl _ | apply Drawn0.step)⟩
 case round =>
  clear H';obtain ⟨x5_1, rfl, HA, HK1, ⟨m1, rfl⟩⟩ := hrel
  cases gk with
  | zero => exact absurd HA.out (by simp [Pr51a.l0])
  | succ k1 =>
   have H := HA.out;clear HA;simp only [Pr51a.l0] at H;by_cases c3 : x5_1 < (l0.length : Int)
   ·rw [if_pos c3] at H;have c3b0 : decide (x5_1 < (l0.length : Int)) = true := decide_eq_true c3;clear c3;by_cases c4 : 0 ≤ x5_1
    ·rw [if_pos c4] at H;have c4b0 : decide (0 ≤ x5_1) = true := decide_eq_true c4;clear c4;by_cases c5 : ((rd_T55 l0 x5_1).f0).toList = a1.toList
     ·rw [if_pos c5] at H;have c5b0 : (((rd_T55 l0 x5_1).f0).toList == a1.toList) = true := beq_iff_eq.mpr c5;have c5b1 : (((rd_T55 l0 x5_1).f0).toList != a1.toList) = false := bne_eq_false_iff_eq.mpr c5;clear c5;obtain rfl := Option.some.inj H;have p151 : 0 ≤ (x5_1 : Int) := of_decide_eq_true (by first | (with_reducible assumption) | assumption);have q151 : x5_1 < (l0.length : Int) := of_decide_eq_true (by first | (with_reducible assumption) | assumption);obtain ⟨ad151, e151, hx151_0, hx151_1⟩ := at_T55 HR0.out x5_1 p151 q151
      cases e151;replace p151 := eq_true p151;replace q151 := eq_true q151;have p152 : 0 ≤ (x5_1 : Int) := of_decide_eq_true (by first | (with_reducible assumption) | assumption);have q152 : x5_1 < (l0.length : Int) := of_decide_eq_true (by first | (with_reducible assumption) | assumption);obtain ⟨ad152, e152, hx152_0, hx152_1⟩ := at_T55 HR0.out x5_1 p152 q152;obtain rfl : ad151 = ad152 := (by injection e152)
      replace p152 := eq_true p152;replace q152 := eq_true q152;go_wp2
      go_ret
      exact ⟨by first | rfl | (simp; done) | (simp [*]; done), by repeat (first | exact Drawn0.refl _ | apply Drawn0.step)⟩
     ·rw [if_neg c5] at H;have c5b0 : (((rd_T55 l0 x5_1).f0).toList == a1.toList) = false := beq_eq_false_iff_ne.mpr c5;have c5b1 : (((rd_T55 l0 x5_1).f0).toList != a1.toList) = true := bne_iff_ne.mpr c5;have H' := Aside0.mk H;clear H;have p151 : 0 ≤ (x5_1 : Int) := of_decide_eq_true (by first | (with_reducible assumption) | assumption);have q151 : x5_1 < (l0.length : Int) := of_decide_eq_true (by first | (with_reducible assumption) | assumption);obtain ⟨ad151, e151, hx151_0, hx151_1⟩ := at_T55 HR0.out x5_1 p151 q151
      cases e151;replace p151 := eq_true p151;replace q151 := eq_true q151;go_wp2
      go_roundg k1
      case measure => have := HK1.out; omega
      case rel => exact ⟨(wrap64 (x5_1 + 1)), (by first | rfl | (simp; done) | (simp [*]; done)), H', ⟨by have := HK1.out; omega⟩, by repeat (first | exact Drawn0.refl _ | apply Drawn0.step)⟩
    ·rw [if_neg c4] at H;exact absurd H (by simp)
   ·rw [if_neg c3] at H;have c3b0 : decide (x5_1 < (l0.length : Int)) = false := decide_eq_false c3;clear c3;obtain rfl := Option.some.inj H;go_wp2
    go_ret
    exact ⟨by first | rfl | (simp; done) | (simp [*]; done), by repeat (first | exact Drawn0.refl _ | apply Drawn0.step)⟩
end Go.Proofs.Ytmcbkmfpmcbdpaa.Pr
