/-
  The law ProductFull: for every input the call returns true, and what came in reads as it read before.
  Condition: none.
-/
import Derived.Test.YthaaockbapbooaaZProductFull1
namespace Go.Proofs.Ythaaockbapbooaa.Pr
open Go.RowKit Go.Proofs.YthaaockbapbooaaW.PrintWords Go.Proofs.YthaaockbapbooaaW.PrintLast Go.Proofs.YthaaockbapbooaaW.PrintMore
attribute [local go_sem] max2_int min2_int max_two min_two max_three min_three max_four min_four
set_option linter.unusedVariables false
set_option linter.unusedSimpArgs false
mutual
def Pxg.j0 : Nat → Bool → Int → List ByteArray → List (S51) → Int → List ByteArray → List (S51) → Option (Int × List ByteArray × (List (S51)) × Int)
 | 0, _, _, _, _, _, _, _ => none
 | k + 1, x22, x133000, x133001, x133002, x134000, x134001, x134002 => if x22 = true then (some (0, ([] : List ByteArray), ([] : List (S51)), 1)) else ((Pxf.f x133001 x134001).bind fun t137 => (if (wrap64 (x133000 * x134000)) > 2048 then (Pxg.j1 k true x133000 x133001 x133002 x134000 x134001 x134002 (wrap64 (x133000 * x134000)) t137) else (Pxg.j1 k (decide ((t137.length : Int) > 64)) x133000 x133001 x133002 x134000 x134001 x134002 (wrap64 (x133000 * x134000)) t137)))
def Pxg.j1 : Nat → Bool → Int → List ByteArray → List (S51) → Int → List ByteArray → List (S51) → Int → List ByteArray → Option (Int × List ByteArray × (List (S51)) × Int)
 | 0, _, _, _, _, _, _, _, _, _ => none
 | k + 1, x43, x133000, x133001, x133002, x134000, x134001, x134002, x141000, x141001 => if x43 = true then (some (0, ([] : List ByteArray), ([] : List (S51)), 8)) else (Pxg.l0 k x141001 (x141001.length : Int) 0 x133000 x133001 x133002 x134000 x134001 x134002 x141000 x141001 ([] : List (S51)))
def Pxg.l0 : Nat → List ByteArray → Int → Int → Int → List ByteArray → List (S51) → Int → List ByteArray → List (S51) → Int → List ByteArray → List (S51) → Option (Int × List ByteArray × (List (S51)) × Int)
 | 0, _, _, _, _, _, _, _, _, _, _, _, _ => none
 | k + 1, x46, x47, x48, x133000, x133001, x133002, x134000, x134001, x134002, x141000, x141001, x141002 => if x48 < x47 then (if 0 ≤ x48 then (if x48 < (x46.length : Int) then ((Pxd.f k x133000 x133001 x133002 x134000 x134001 x134002 (rdOf ByteArray.empty x46 x48)).bind fun bt150 => (if (wrap64 ((x141002.length : Int) + (wrap64 ((bt150.1.length : Int) * (bt150.2.length : Int))))) > 1000000 then (some (0, ([] : List ByteArray), ([] : List (S51)), 8)) else (Pxg.l1 k x48 bt150.2 x46 x47 x48 bt150.1 (bt150.1.length : Int) 0 x133000 x133001 x133002 x134000 x134001 x134002 x141000 x141001 x141002))) else (none)) else (none)) else ((Pxj.f x141000 x141001 x141002).bind fun bt141 => (some (bt141.1, bt141.2.1, bt141.2.2.1, bt141.2.2.2)))
def Pxg.l1 : Nat → Int → List (S51) → List ByteArray → Int → Int → List (S51) → Int → Int → Int → List ByteArray → List (S51) → Int → List ByteArray → List (S51) → Int → List ByteArray → List (S51) → Option (Int × List ByteArray × (List (S51)) × Int)
 | 0, _, _, _, _, _, _, _, _, _, _, _, _, _, _, _, _, _ => none
 | k + 1, x7, x10, x46, x47, x48, x71, x72, x73, x133000, x133001, x133002, x134000, x134001, x134002, x141000, x141001, x141002 => if x73 < x72 then (if 0 ≤ x73 then (if x73 < (x71.length : Int) then (Pxg.l2 k x7 x10 x46 x47 x48 x71 x72 x73 x10 (x10.length : Int) 0 x133000 x133001 x133002 x134000 x134001 x134002 x141000 x141001 x141002 ((rd_T51 x71 x73).f0) ((rd_T51 x71 x73).f1) ((rd_T51 x71 x73).f2)) else (none)) else (none)) else (Pxg.l0 k x46 x47 (wrap64 (x48 + 1)) x133000 x133001 x133002 x134000 x134001 x134002 x141000 x141001 x141002)
def Pxg.l2 : Nat → Int → List (S51) → List ByteArray → Int → Int → List (S51) → Int → Int → List (S51) → Int → Int → Int → List ByteArray → List (S51) → Int → List ByteArray → List (S51) → Int → List ByteArray → List (S51) → Int → Int → Int → Option (Int × List ByteArray × (List (S51)) × Int)
 | 0, _, _, _, _, _, _, _, _, _, _, _, _, _, _, _, _, _, _, _, _, _, _, _ => none
 | k + 1, x7, x10, x46, x47, x48, x71, x72, x73, x77, x78, x79, x133000, x133001, x133002, x134000, x134001, x134002, x141000, x141001, x141002, x158000, x158001, x158002 => if x79 < x78 then (if 0 ≤ x79 then (if x79 < (x77.length : Int) then (if x141002.length < 5864062014805 then (Pxg.l2 k x7 x10 x46 x47 x48 x71 x72 x73 x77 x78 (wrap64 (x79 + 1)) x133000 x133001 x133002 x134000 x134001 x134002 x141000 x141001 (x141002 ++ [(⟨wrap64 ((wrap64 (x158000 * x134000)) + ((rd_T51 x77 x79).f0)), x7, wrap64 ((wrap64 (x158002 * x134000)) + ((rd_T51 x77 x79).f2))⟩ : S51)]) x158000 x158001 x158002) else (none)) else (none)) else (none)) else (Pxg.l1 k x7 x10 x46 x47 x48 x71 x72 (wrap64 (x73 + 1)) x133000 x133001 x133002 x134000 x134001 x134002 x141000 x141001 x141002)
end
def Pxg.f (k : Nat) (a0_0 : Int) (l0_1 : List ByteArray) (l0_2 : List (S51)) (a1_0 : Int) (l1_1 : List ByteArray) (l1_2 : List (S51)) : Option (Int × List ByteArray × (List (S51)) × Int) := (Pxi.f a0_0 l0_1 l0_2).bind fun t135 => (if t135 = 0 then ((Pxi.f a1_0 l1_1 l1_2).bind fun t136 => (Pxg.j0 k (t136 != 0) a0_0 l0_1 l0_2 a1_0 l1_1 l1_2)) else (Pxg.j0 k true a0_0 l0_1 l0_2 a1_0 l1_1 l1_2))
theorem Pxg.mono_l : ∀ k, (∀ y0 y1 y2 y3 y4 y5 y6, LeO (Pxg.j0 k y0 y1 y2 y3 y4 y5 y6) (Pxg.j0 (k + 1) y0 y1 y2 y3 y4 y5 y6)) ∧ (∀ y0 y1 y2 y3 y4 y5 y6 y7 y8, LeO (Pxg.j1 k y0 y1 y2 y3 y4 y5 y6 y7 y8) (Pxg.j1 (k + 1) y0 y1 y2 y3 y4 y5 y6 y7 y8)) ∧ (∀ y0 y1 y2 y3 y4 y5 y6 y7 y8 y9 y10 y11, LeO (Pxg.l0 k y0 y1 y2 y3 y4 y5 y6 y7 y8 y9 y10 y11) (Pxg.l0 (k + 1) y0 y1 y2 y3 y4 y5 y6 y7 y8 y9 y10 y11)) ∧ (∀ y0 y1 y2 y3 y4 y5 y6 y7 y8 y9 y10 y11 y12 y13 y14 y15 y16, LeO (Pxg.l1 k y0 y1 y2 y3 y4 y5 y6 y7 y8 y9 y10 y11 y12 y13 y14 y15 y16) (Pxg.l1 (k + 1) y0 y1 y2 y3 y4 y5 y6 y7 y8 y9 y10 y11 y12 y13 y14 y15 y16)) ∧ (∀ y0 y1 y2 y3 y4 y5 y6 y7 y8 y9 y10 y11 y12 y13 y14 y15 y16 y17 y18 y19 y20 y21 y22, LeO (Pxg.l2 k y0 y1 y2 y3 y4 y5 y6 y7 y8 y9 y10 y11 y12 y13 y14 y15 y16 y17 y18 y19 y20 y21 y22) (Pxg.l2 (k + 1) y0 y1 y2 y3 y4 y5 y6 y7 y8 y9 y10 y11 y12 y13 y14 y15 y16 y17 y18 y19 y20 y21 y22))
 | 0 => ⟨fun _ _ _ _ _ _ _ r h => by simp [Pxg.j0] at h, fun _ _ _ _ _ _ _ _ _ r h => by simp [Pxg.j1] at h, fun _ _ _ _ _ _ _ _ _ _ _ _ r h => by simp [Pxg.l0] at h, fun _ _ _ _ _ _ _ _ _ _ _ _ _ _ _ _ _ r h => by simp [Pxg.l1] at h, fun _ _ _ _ _ _ _ _ _ _ _ _ _ _ _ _ _ _ _ _ _ _ _ r h => by simp [Pxg.l2] at h⟩
 | k + 1 => by
  obtain ⟨ih0, ih1, ih2, ih3, ih4⟩ := Pxg.mono_l k
  refine ⟨?_, ?_, ?_, ?_, ?_⟩
  ·intro y0 y1 y2 y3 y4 y5 y6
   unfold Pxg.j0
   repeat' first
   | (with_reducible exact ih0 _ _ _ _ _ _ _)
   | (with_reducible exact ih1 _ _ _ _ _ _ _ _ _)
   | (with_reducible exact ih2 _ _ _ _ _ _ _ _ _ _ _ _)
   | (with_reducible exact ih3 _ _ _ _ _ _ _ _ _ _ _ _ _ _ _ _ _)
   | (with_reducible exact ih4 _ _ _ _ _ _ _ _ _ _ _ _ _ _ _ _ _ _ _ _ _ _ _)
   | (with_reducible exact Pxd.mono _ _ _ _ _ _ _ _)
   | (with_reducible exact LeO.refl _)
   | (with_reducible exact LeO.none _)
   | (with_reducible refine LeO.ite ?_ ?_)
   | (with_reducible refine LeO.bind ?_ (fun _ => ?_))
   | exact ih0 _ _ _ _ _ _ _
   | exact ih1 _ _ _ _ _ _ _ _ _
   | exact ih2 _ _ _ _ _ _ _ _ _ _ _ _
   | exact ih3 _ _ _ _ _ _ _ _ _ _ _ _ _ _ _ _ _
   | exact ih4 _ _ _ _ _ _ _ _ _ _ _ _ _ _ _ _ _ _ _ _ _ _ _
   | exact Pxd.mono _ _ _ _ _ _ _ _
   | exact LeO.none _
   | refine LeO.ite ?_ ?_
   | refine LeO.bind ?_ (fun _ => ?_)
  ·intro y0 y1 y2 y3 y4 y5 y6 y7 y8
   unfold Pxg.j1
   repeat' first
   | (with_reducible exact ih0 _ _ _ _ _ _ _)
   | (with_reducible exact ih1 _ _ _ _ _ _ _ _ _)
   | (with_reducible exact ih2 _ _ _ _ _ _ _ _ _ _ _ _)
   | (with_reducible exact ih3 _ _ _ _ _ _ _ _ _ _ _ _ _ _ _ _ _)
   | (with_reducible exact ih4 _ _ _ _ _ _ _ _ _ _ _ _ _ _ _ _ _ _ _ _ _ _ _)
   | (with_reducible exact Pxd.mono _ _ _ _ _ _ _ _)
   | (with_reducible exact LeO.refl _)
   | (with_reducible exact LeO.none _)
   | (with_reducible refine LeO.ite ?_ ?_)
   | (with_reducible refine LeO.bind ?_ (fun _ => ?_))
   | exact ih0 _ _ _ _ _ _ _
   | exact ih1 _ _ _ _ _ _ _ _ _
   | exact ih2 _ _ _ _ _ _ _ _ _ _ _ _
   | exact ih3 _ _ _ _ _ _ _ _ _ _ _ _ _ _ _ _ _
   | exact ih4 _ _ _ _ _ _ _ _ _ _ _ _ _ _ _ _ _ _ _ _ _ _ _
   | exact Pxd.mono _ _ _ _ _ _ _ _
   | exact LeO.none _
   | refine LeO.ite ?_ ?_
   | refine LeO.bind ?_ (fun _ => ?_)
  ·intro y0 y1 y2 y3 y4 y5 y6 y7 y8 y9 y10 y11
   unfold Pxg.l0
   repeat' first
   | (with_reducible exact ih0 _ _ _ _ _ _ _)
   | (with_reducible exact ih1 _ _ _ _ _ _ _ _ _)
   | (with_reducible exact ih2 _ _ _ _ _ _ _ _ _ _ _ _)
   | (with_reducible exact ih3 _ _ _ _ _ _ _ _ _ _ _ _ _ _ _ _ _)
   | (with_reducible exact ih4 _ _ _ _ _ _ _ _ _ _ _ _ _ _ _ _ _ _ _ _ _ _ _)
   | (with_reducible exact Pxd.mono _ _ _ _ _ _ _ _)
   | (with_reducible exact LeO.refl _)
   | (with_reducible exact LeO.none _)
   | (with_reducible refine LeO.ite ?_ ?_)
   | (with_reducible refine LeO.bind ?_ (fun _ => ?_))
   | exact ih0 _ _ _ _ _ _ _
   | exact ih1 _ _ _ _ _ _ _ _ _
   | exact ih2 _ _ _ _ _ _ _ _ _ _ _ _
   | exact ih3 _ _ _ _ _ _ _ _ _ _ _ _ _ _ _ _ _
   | exact ih4 _ _ _ _ _ _ _ _ _ _ _ _ _ _ _ _ _ _ _ _ _ _ _
   | exact Pxd.mono _ _ _ _ _ _ _ _
   | exact LeO.none _
   | refine LeO.ite ?_ ?_
   | refine LeO.bind ?_ (fun _ => ?_)
  ·intro y0 y1 y2 y3 y4 y5 y6 y7 y8 y9 y10 y11 y12 y13 y14 y15 y16
   unfold Pxg.l1
   repeat' first
   | (with_reducible exact ih0 _ _ _ _ _ _ _)
   | (with_reducible exact ih1 _ _ _ _ _ _ _ _ _)
   | (with_reducible exact ih2 _ _ _ _ _ _ _ _ _ _ _ _)
   | (with_reducible exact ih3 _ _ _ _ _ _ _ _ _ _ _ _ _ _ _ _ _)
   | (with_reducible exact ih4 _ _ _ _ _ _ _ _ _ _ _ _ _ _ _ _ _ _ _ _ _ _ _)
   | (with_reducible exact Pxd.mono _ _ _ _ _ _ _ _)
   | (with_reducible exact LeO.refl _)
   | (with_reducible exact LeO.none _)
   | (with_reducible refine LeO.ite ?_ ?_)
   | (with_reducible refine LeO.bind ?_ (fun _ => ?_))
   | exact ih0 _ _ _ _ _ _ _
   | exact ih1 _ _ _ _ _ _ _ _ _
   | exact ih2 _ _ _ _ _ _ _ _ _ _ _ _
   | exact ih3 _ _ _ _ _ _ _ _ _ _ _ _ _ _ _ _ _
   | exact ih4 _ _ _ _ _ _ _ _ _ _ _ _ _ _ _ _ _ _ _ _ _ _ _
   | exact Pxd.mono _ _ _ _ _ _ _ _
   | exact LeO.none _
   | refine LeO.ite ?_ ?_
   | refine LeO.bind ?_ (fun _ => ?_)
  ·intro y0 y1 y2 y3 y4 y5 y6 y7 y8 y9 y10 y11 y12 y13 y14 y15 y16 y17 y18 y19 y20 y21 y22
   unfold Pxg.l2
   repeat' first
   | (with_reducible exact ih0 _ _ _ _ _ _ _)
   | (with_reducible exact ih1 _ _ _ _ _ _ _ _ _)
   | (with_reducible exact ih2 _ _ _ _ _ _ _ _ _ _ _ _)
   | (with_reducible exact ih3 _ _ _ _ _ _ _ _ _ _ _ _ _ _ _ _ _)
   | (with_reducible exact ih4 _ _ _ _ _ _ _ _ _ _ _ _ _ _ _ _ _ _ _ _ _ _ _)
   | (with_reducible exact Pxd.mono _ _ _ _ _ _ _ _)
   | (with_reducible exact LeO.refl _)
   | (with_reducible exact LeO.none _)
   | (with_reducible refine LeO.ite ?_ ?_)
   | (with_reducible refine LeO.bind ?_ (fun _ => ?_))
   | exact ih0 _ _ _ _ _ _ _
   | exact ih1 _ _ _ _ _ _ _ _ _
   | exact ih2 _ _ _ _ _ _ _ _ _ _ _ _
   | exact ih3 _ _ _ _ _ _ _ _ _ _ _ _ _ _ _ _ _
   | exact ih4 _ _ _ _ _ _ _ _ _ _ _ _ _ _ _ _ _ _ _ _ _ _ _
   | exact Pxd.mono _ _ _ _ _ _ _ _
   | exact LeO.none _
   | refine LeO.ite ?_ ?_
   | refine LeO.bind ?_ (fun _ => ?_)
theorem Pxg.mono : ∀ a0 a1 a2 a3 a4 a5 k, LeO (Pxg.f k a0 a1 a2 a3 a4 a5) (Pxg.f (k + 1) a0 a1 a2 a3 a4 a5) := by
 intro a0 a1 a2 a3 a4 a5 k
 obtain ⟨ih0, ih1, ih2, ih3, ih4⟩ := Pxg.mono_l k
 unfold Pxg.f
 repeat' first
   | (with_reducible exact ih0 _ _ _ _ _ _ _)
   | (with_reducible exact ih1 _ _ _ _ _ _ _ _ _)
   | (with_reducible exact ih2 _ _ _ _ _ _ _ _ _ _ _ _)
   | (with_reducible exact ih3 _ _ _ _ _ _ _ _ _ _ _ _ _ _ _ _ _)
   | (with_reducible exact ih4 _ _ _ _ _ _ _ _ _ _ _ _ _ _ _ _ _ _ _ _ _ _ _)
   | (with_reducible exact Pxd.mono _ _ _ _ _ _ _ _)
   | (with_reducible exact LeO.refl _)
   | (with_reducible exact LeO.none _)
   | (with_reducible refine LeO.ite ?_ ?_)
   | (with_reducible refine LeO.bind ?_ (fun _ => ?_))
   | exact ih0 _ _ _ _ _ _ _
   | exact ih1 _ _ _ _ _ _ _ _ _
   | exact ih2 _ _ _ _ _ _ _ _ _ _ _ _
   | exact ih3 _ _ _ _ _ _ _ _ _ _ _ _ _ _ _ _ _
   | exact ih4 _ _ _ _ _ _ _ _ _ _ _ _ _ _ _ _ _ _ _ _ _ _ _
   | exact Pxd.mono _ _ _ _ _ _ _ _
   | exact LeO.none _
   | refine LeO.ite ?_ ?_
   | refine LeO.bind ?_ (fun _ => ?_)
def Pxg.T3 : Bool × List (List Nat × List Nat) := (true, [([], []), ([0], [0]), ([], []), ([2], [2]), ([1, 3], [1, 3]), ([], []), ([5], [5]), ([], []), ([7], [7]), ([6, 8], [6, 8]), ([4, 9], [4, 9]), ([], []), ([11, 10, 9, 0, 1, 2, 3, 4, 5, 6, 7, 8, 9, 10, 11], [10, 11])])
def Pxg.B3 : List Nat := [0, 1, 0, 4, 15, 0, 32, 0, 128, 480, 1023, 0, 4095]
theorem Pxg.tab3 : rtab .any (opsOf Try.f20 3) = Pxg.T3 := by kernel_rfl
theorem Pxg.bits3 : waitsOk Pxg.T3.2 Pxg.B3 = true := by kernel_rfl
set_option maxHeartbeats 8000000 in
set_option maxRecDepth 100000 in
theorem Pxg.calls (k : Nat) (a0_0 : Int) (A0_1 : Option Addr) (c0_1 : Nat) (l0_1 : List ByteArray) (A0_2 : Option Addr) (c0_2 : Nat) (l0_2 : List (S51)) (a1_0 : Int) (A1_1 : Option Addr) (c1_1 : Nat) (l1_1 : List ByteArray) (A1_2 : Option Addr) (c1_2 : Nat) (l1_2 : List (S51)) (r1 : Int) (r2 : List ByteArray) (r3 : List (S51)) (r4 : Int) (w : World) (hr0_1 : Kd.C Kd.string w A0_1 l0_1.length l0_1) (hc0_1 : l0_1.length ≤ c0_1) (hr0_2 : Kd.C k51 w A0_2 l0_2.length l0_2) (hc0_2 : l0_2.length ≤ c0_2) (hr1_1 : Kd.C Kd.string w A1_1 l1_1.length l1_1) (hc1_1 : l1_1.length ≤ c1_1) (hr1_2 : Kd.C k51 w A1_2 l1_2.length l1_2) (hc1_2 : l1_2.length ≤ c1_2) (h : Pxg.f k a0_0 l0_1 l0_2 a1_0 l1_1 l1_2 = some (r1, r2, r3, r4)) :
  Calls Try.prog 20 #[.agg #[.int .i64 a0_0, .slice A0_1 l0_1.length c0_1, .slice A0_2 l0_2.length c0_2], .agg #[.int .i64 a1_0, .slice A1_1 l1_1.length c1_1, .slice A1_2 l1_2.length c1_2]] w fun e w' => ∃ v1_ v2_ : Value, e = .returned (.tuple #[.agg #[.int .i64 r1, v1_, v2_], .int .i64 r4]) ∧ Kd.R Kd.string 9 w' w.heap.size (fun _ => True) v1_ r2 ∧ Kd.R k51 51 w' w.heap.size (fun _ => True) v2_ r3 ∧ Below w.heap.size w w' := by
 have ca := Try.underlying25
 have bS := Try.underlying51
 have n8 := Aside0.mk hr0_1
 have n6 := Aside0.mk hc0_1
 clear hr0_1 hc0_1
 have u3 := Aside0.mk hr0_2
 have t7 := Aside0.mk hc0_2
 clear hr0_2 hc0_2
 have p9 := Aside0.mk hr1_1
 have q2 := Aside0.mk hc1_1
 clear hr1_1 hc1_1
 have B2 := Aside0.mk hr1_2
 have B0 := Aside0.mk hc1_2
 clear hr1_2 hc1_2
 have HB := Aside0.mk (Below.refl w.heap.size w)
 have H : ((Pxi.f a0_0 l0_1 l0_2).bind fun j3 => (if j3 = 0 then ((Pxi.f a1_0 l1_1 l1_2).bind fun p5 => (Pxg.j0 k (p5 != 0) a0_0 l0_1 l0_2 a1_0 l1_1 l1_2)) else (Pxg.j0 k true a0_0 l0_1 l0_2 a1_0 l1_1 l1_2))) = some (r1, r2, r3, r4) := h
 clear h
 have G4 := Aside0.mk H
 clear H
 go_enter Try.func20, Try.ntmps20
 go_upto_region 1 with (first | ((with_reducible refine gate_dst (N := 2) rfl ?_); (try (refine gate_guard (by rfl) ?_; dsimp only)); refine box_event ?hg (N := 2) ?hd (cs := #[.int .i64 a0_0, .slice A0_1 l0_1.length c0_1, .slice A0_2 l0_2.length c0_2]) (t := 25) ?hr ?_; (case hd => rfl); (case hg => rfl); (case hr => first | (go_simp; done) | (go_simp; rfl)); intro a6 hg w4 hbox hb; have d7 := Aside0.mk (below_step (by repeat (first | (with_reducible first | exact HB.out | apply below_alloc | apply pw_below_drewN | apply below_drew1) | exact HB.out)) hb); have d9 := Aside0.mk (hbox); have d8 := Aside0.mk ((by rw [hg]; exact (below_size (by repeat (first | (with_reducible first | exact HB.out | apply below_alloc | apply pw_below_drewN | apply below_drew1) | exact HB.out))) : w.heap.size ≤ a6)); have e0 := Aside0.mk ((by rw [hg]; exact (below_size (by repeat (first | (with_reducible first | exact HB.out | apply below_alloc | apply pw_below_drewN | apply below_drew1) | exact HB.out))) : w.heap.size ≤ a6)); clear HB; have HB := d7; have a0 := d9; have ae := d8; have b9 := e0; clear d7 d9 d8 e0; clear hb hbox hg) | ((with_reducible refine gate_dst (N := 3) rfl ?_); (try (refine gate_guard (by rfl) ?_; dsimp only)); refine box_event ?hg (N := 3) ?hd (cs := #[.int .i64 a1_0, .slice A1_1 l1_1.length c1_1, .slice A1_2 l1_2.length c1_2]) (t := 25) ?hr ?_; (case hd => rfl); (case hg => rfl); (case hr => first | (go_simp; done) | (go_simp; rfl)); intro b0 hg w5 hbox hb; have d7 := Aside0.mk (blk_below (g := a6) (o := .cells #[.int .i64 a0_0, .slice A0_1 l0_1.length c0_1, .slice A0_2 l0_2.length c0_2] 25 (0, 0)) (by (with_reducible repeat (first | refine blk_drewN ?_ _ | refine blk_drew ?_ | refine blk_alloc ?_ _)); exact a0.out) hb); have d9 := Aside0.mk (below_step (by repeat (first | (with_reducible first | exact HB.out | apply below_alloc | apply pw_below_drewN | apply below_drew1 | refine below_set ?_ b9.out) | exact HB.out)) hb); have d8 := Aside0.mk (hbox); have e0 := Aside0.mk ((by rw [hg]; exact (below_size (by repeat (first | (with_reducible first | exact HB.out | apply below_alloc | apply pw_below_drewN | apply below_drew1 | refine below_set ?_ b9.out) | exact HB.out))) : w.heap.size ≤ b0)); have e8 := Aside0.mk ((by rw [hg]; exact (below_size (by repeat (first | (with_reducible first | exact HB.out | apply below_alloc | apply pw_below_drewN | apply below_drew1 | refine below_set ?_ b9.out) | exact HB.out))) : w.heap.size ≤ b0)); have f3 := Aside0.mk ((by rw [hg]; exact Nat.ne_of_lt (blk_lt (g := a6) (o := .cells #[.int .i64 a0_0, .slice A0_1 l0_1.length c0_1, .slice A0_2 l0_2.length c0_2] 25 (0, 0)) (by (with_reducible repeat (first | refine blk_drewN ?_ _ | refine blk_drew ?_ | refine blk_alloc ?_ _)); exact a0.out)) : a6 ≠ b0)); have f4 := Aside0.mk ((by rw [hg]; exact Nat.ne_of_gt (blk_lt (g := a6) (o := .cells #[.int .i64 a0_0, .slice A0_1 l0_1.length c0_1, .slice A0_2 l0_2.length c0_2] 25 (0, 0)) (by (with_reducible repeat (first | refine blk_drewN ?_ _ | refine blk_drew ?_ | refine blk_alloc ?_ _)); exact a0.out)) : b0 ≠ a6)); clear a0; clear HB; have a0 := d7; have HB := d9; have a1 := d8; have aw := e0; have d1 := e8; have i1 := f3; have h5 := f4; clear d7 d9 d8 e0 e8 f3 f4; clear hb hbox hg) | ((with_reducible refine gate_dst (N := 4) rfl ?_); (try (refine gate_guard (by rfl) ?_; dsimp only)); refine box_event ?hg (N := 4) ?hd (cs := #[.int .i64 0, .slice none 0 0, .slice none 0 0]) (t := 25) ?hr ?_; (case hd => rfl); (case hg => rfl); (case hr => first | (go_simp; done) | (go_simp; rfl)); intro b1 hg w6 hbox hb; have d7 := Aside0.mk (blk_below (g := a6) (o := .cells #[.int .i64 a0_0, .slice A0_1 l0_1.length c0_1, .slice A0_2 l0_2.length c0_2] 25 (0, 0)) (by (with_reducible repeat (first | refine blk_drewN ?_ _ | refine blk_drew ?_ | refine blk_alloc ?_ _)); exact a0.out) hb); have d9 := Aside0.mk (blk_below (g := b0) (o := .cells #[.int .i64 a1_0, .slice A1_1 l1_1.length c1_1, .slice A1_2 l1_2.length c1_2] 25 (0, 0)) (by (with_reducible repeat (first | refine blk_drewN ?_ _ | refine blk_drew ?_ | refine blk_alloc ?_ _)); exact a1.out) hb); have d8 := Aside0.mk (below_step (by repeat (first | (with_reducible first | exact HB.out | apply below_alloc | apply pw_below_drewN | apply below_drew1 | refine below_set ?_ b9.out | refine below_set ?_ d1.out) | exact HB.out)) hb); have e0 := Aside0.mk (hbox); have e8 := Aside0.mk ((by rw [hg]; exact (below_size (by repeat (first | (with_reducible first | exact HB.out | apply below_alloc | apply pw_below_drewN | apply below_drew1 | refine below_set ?_ b9.out | refine below_set ?_ d1.out) | exact HB.out))) : w.heap.size ≤ b1)); have f3 := Aside0.mk ((by rw [hg]; exact (below_size (by repeat (first | (with_reducible first | exact HB.out | apply below_alloc | apply pw_below_drewN | apply below_drew1 | refine below_set ?_ b9.out | refine below_set ?_ d1.out) | exact HB.out))) : w.heap.size ≤ b1)); have f4 := Aside0.mk ((by rw [hg]; exact Nat.ne_of_lt (blk_lt (g := a6) (o := .cells #[.int .i64 a0_0, .slice A0_1 l0_1.length c0_1, .slice A0_2 l0_2.length c0_2] 25 (0, 0)) (by (with_reducible repeat (first | refine blk_drewN ?_ _ | refine blk_drew ?_ | refine blk_alloc ?_ _)); exact a0.out)) : a6 ≠ b1)); have f5 := Aside0.mk ((by rw [hg]; exact Nat.ne_of_gt (blk_lt (g := a6) (o := .cells #[.int .i64 a0_0, .slice A0_1 l0_1.length c0_1, .slice A0_2 l0_2.length c0_2] 25 (0, 0)) (by (with_reducible repeat (first | refine blk_drewN ?_ _ | refine blk_drew ?_ | refine blk_alloc ?_ _)); exact a0.out)) : b1 ≠ a6)); have f6 := Aside0.mk ((by rw [hg]; exact Nat.ne_of_lt (blk_lt (g := b0) (o := .cells #[.int .i64 a1_0, .slice A1_1 l1_1.length c1_1, .slice A1_2 l1_2.length c1_2] 25 (0, 0)) (by (with_reducible repeat (first | refine blk_drewN ?_ _ | refine blk_drew ?_ | refine blk_alloc ?_ _)); exact a1.out)) : b0 ≠ b1)); have f7 := Aside0.mk ((by rw [hg]; exact Nat.ne_of_gt (blk_lt (g := b0) (o := .cells #[.int .i64 a1_0, .slice A1_1 l1_1.length c1_1, .slice A1_2 l1_2.length c1_2] 25 (0, 0)) (by (with_reducible repeat (first | refine blk_drewN ?_ _ | refine blk_drew ?_ | refine blk_alloc ?_ _)); exact a1.out)) : b1 ≠ b0)); clear a0; clear a1; clear HB; have a0 := d7; have a1 := d9; have HB := d8; have a4 := e0; have aj := e8; have d2 := f3; have g1 := f4; have g6 := f5; have g8 := f6; have g2 := f7; clear d7 d9 d8 e0 e8 f3 f4 f5 f6 f7; clear hb hbox hg))
 (try simp only [Act.put, List.setIfInBounds_toArray, List.set_cons_zero, List.set_cons_succ])
 go_cut [22] (fun ab wc => ∃ (kq : Nat) (t8 : Bool), ab = .bool t8 ∧ Aside0 (Pxg.j0 kq t8 a0_0 l0_1 l0_2 a1_0 l1_1 l1_2 = some (r1, r2, r3, r4)) ∧ Aside0 (kq ≤ k) ∧ Aside0 (wc.heap[a6]? = some (.cells #[.int .i64 a0_0, (.slice A0_1 l0_1.length c0_1), (.slice A0_2 l0_2.length c0_2)] 25 (0, 0))) ∧ Aside0 (wc.heap[b0]? = some (.cells #[.int .i64 a1_0, (.slice A1_1 l1_1.length c1_1), (.slice A1_2 l1_2.length c1_2)] 25 (0, 0))) ∧ Aside0 (wc.heap[b1]? = some (.cells #[.int .i64 0, (.slice none 0 0), (.slice none 0 0)] 25 (0, 0))) ∧ Aside0 (Below w.heap.size w wc))
 case first =>
  have H := G4.out
  clear G4
  replace H := Option.bind_eq_some_iff.mp H
  obtain ⟨j3, K6, H⟩ := H
  replace H : (if j3 = 0 then ((Pxi.f a1_0 l1_1 l1_2).bind fun p5 => (Pxg.j0 k (p5 != 0) a0_0 l0_1 l0_2 a1_0 l1_1 l1_2)) else (Pxg.j0 k true a0_0 l0_1 l0_2 a1_0 l1_1 l1_2)) = some (r1, r2, r3, r4) := H
  have A7 := Aside0.mk K6
  clear K6
  by_cases c8 : j3 = 0
  ·rw [if_pos c8] at H
   have c8b0 : (j3 == 0) = true := beq_iff_eq.mpr c8
   have c8b1 : (j3 != 0) = false := bne_eq_false_iff_eq.mpr c8
   clear c8
   (first | rw [c8b0] | (simp only [i64_w, i32_w]; rw [c8b0]) | skip)
   replace H := Option.bind_eq_some_iff.mp H
   obtain ⟨p5, L7, H⟩ := H
   replace H : (Pxg.j0 k (p5 != 0) a0_0 l0_1 l0_2 a1_0 l1_1 l1_2) = some (r1, r2, r3, r4) := H
   have A9 := Aside0.mk L7
   clear L7
   have H' := Aside0.mk H
   clear H
   have aQ := i1.out
   have be := h5.out
   have aJ := g1.out
   have bL := g6.out
   have k6 : w6.cell? ⟨a6, 0, none⟩ = some (.int .i64 a0_0) := (blk_cell a0.out 0).trans rfl
   have k2 : w6.cell? ⟨a6, 1, none⟩ = some (.slice A0_1 l0_1.length c0_1) := (blk_cell a0.out 1).trans rfl
   have l4 : w6.cell? ⟨a6, 2, none⟩ = some (.slice A0_2 l0_2.length c0_2) := (blk_cell a0.out 2).trans rfl
   have j5 := blk_frozen a0.out 0
   have k1 := blk_frozen a0.out 1
   have j7 := blk_frozen a0.out 2
   go_wp2_with (first | ((with_reducible refine gate_callee (f := 27) rfl ?_); refine goesL_ (some 16) rfl rfl Try.func27 (by kernel_rfl) rfl #[.agg #[.int .i64 a0_0, .slice A0_1 l0_1.length c0_1, .slice A0_2 l0_2.length c0_2]] rfl (by (try simp only [List.map_toArray, List.map_cons, List.map_nil]); first | done | rfl | (simp only [List.length_drop, List.length_take]; rfl)) ?_; (with_reducible refine (Pxi.calls a0_0 _ _ l0_1 _ _ l0_2 j3 _ ?m2 ?l9 ?m4 ?m1 A7.out).mono ?_); (case m2 => repeat (first | exact (Kd.C_below n8.out HB.out) | (with_reducible refine Kd.C_alloc ?_ _) | (with_reducible refine Kd.C_drewN ?_ _) | (with_reducible refine Kd.C_drew ?_))); (case l9 => exact n6.out); (case m4 => repeat (first | exact (Kd.C_below u3.out HB.out) | (with_reducible refine Kd.C_alloc ?_ _) | (with_reducible refine Kd.C_drewN ?_ _) | (with_reducible refine Kd.C_drew ?_))); (case m1 => exact t7.out); rintro e H5 ⟨rfl, hb⟩; refine ⟨_, rfl, ?_⟩; have d7 := Aside0.mk (blk_below (g := a6) (o := .cells #[.int .i64 a0_0, .slice A0_1 l0_1.length c0_1, .slice A0_2 l0_2.length c0_2] 25 (0, 0)) (by (with_reducible repeat (first | refine blk_drewN ?_ _ | refine blk_drew ?_ | refine blk_alloc ?_ _)); exact a0.out) hb); have d9 := Aside0.mk (blk_below (g := b0) (o := .cells #[.int .i64 a1_0, .slice A1_1 l1_1.length c1_1, .slice A1_2 l1_2.length c1_2] 25 (0, 0)) (by (with_reducible repeat (first | refine blk_drewN ?_ _ | refine blk_drew ?_ | refine blk_alloc ?_ _)); exact a1.out) hb); have d8 := Aside0.mk (blk_below (g := b1) (o := .cells #[.int .i64 0, .slice none 0 0, .slice none 0 0] 25 (0, 0)) (by (with_reducible repeat (first | refine blk_drewN ?_ _ | refine blk_drew ?_ | refine blk_alloc ?_ _)); exact a4.out) hb); have e0 := Aside0.mk (below_step (by repeat (first | (with_reducible first | exact HB.out | apply below_alloc | apply pw_below_drewN | apply below_drew1 | refine below_set ?_ b9.out | refine below_set ?_ d1.out | refine below_set ?_ d2.out) | exact HB.out)) hb); clear a0; clear a1; clear a4; clear HB; have a0 := d7; have a1 := d9; have a4 := d8; have HB := e0; clear d7 d9 d8 e0; (try clear hb); (try clear u8); (try clear hk); (try clear hi); have bz := g8.out; have bC := g2.out; have k7 : H5.cell? ⟨b0, 0, none⟩ = some (.int .i64 a1_0) := (blk_cell a1.out 0).trans rfl; have j9 : H5.cell? ⟨b0, 1, none⟩ = some (.slice A1_1 l1_1.length c1_1) := (blk_cell a1.out 1).trans rfl; have k0 : H5.cell? ⟨b0, 2, none⟩ = some (.slice A1_2 l1_2.length c1_2) := (blk_cell a1.out 2).trans rfl; have k9 := blk_frozen a1.out 0; have j4 := blk_frozen a1.out 1; have j8 := blk_frozen a1.out 2) | (go_at_call 27; (with_reducible refine (Pxi.calls a1_0 _ _ l1_1 _ _ l1_2 p5 _ ?m2 ?l9 ?m4 ?m1 A9.out).mono ?_); (case m2 => repeat (first | exact (Kd.C_below p9.out HB.out) | (with_reducible refine Kd.C_alloc ?_ _) | (with_reducible refine Kd.C_drewN ?_ _) | (with_reducible refine Kd.C_drew ?_))); (case l9 => exact q2.out); (case m4 => repeat (first | exact (Kd.C_below B2.out HB.out) | (with_reducible refine Kd.C_alloc ?_ _) | (with_reducible refine Kd.C_drewN ?_ _) | (with_reducible refine Kd.C_drew ?_))); (case m1 => exact B0.out); rintro e cb ⟨rfl, hb⟩; have d7 := Aside0.mk (blk_below (g := a6) (o := .cells #[.int .i64 a0_0, .slice A0_1 l0_1.length c0_1, .slice A0_2 l0_2.length c0_2] 25 (0, 0)) (by (with_reducible repeat (first | refine blk_drewN ?_ _ | refine blk_drew ?_ | refine blk_alloc ?_ _)); exact a0.out) hb); have d9 := Aside0.mk (blk_below (g := b0) (o := .cells #[.int .i64 a1_0, .slice A1_1 l1_1.length c1_1, .slice A1_2 l1_2.length c1_2] 25 (0, 0)) (by (with_reducible repeat (first | refine blk_drewN ?_ _ | refine blk_drew ?_ | refine blk_alloc ?_ _)); exact a1.out) hb); have d8 := Aside0.mk (blk_below (g := b1) (o := .cells #[.int .i64 0, .slice none 0 0, .slice none 0 0] 25 (0, 0)) (by (with_reducible repeat (first | refine blk_drewN ?_ _ | refine blk_drew ?_ | refine blk_alloc ?_ _)); exact a4.out) hb); have e0 := Aside0.mk (below_step (by repeat (first | (with_reducible first | exact HB.out | apply below_alloc | apply pw_below_drewN | apply below_drew1 | refine below_set ?_ b9.out | refine below_set ?_ d1.out | refine below_set ?_ d2.out) | exact HB.out)) hb); clear a0; clear a1; clear a4; clear HB; have a0 := d7; have a1 := d9; have a4 := d8; have HB := e0; clear d7 d9 d8 e0; (try clear hb); (try clear u8); (try clear hk); (try clear hi)))
   go_meet
   case rel => exact ⟨_, ((p5 != 0)), (by first | rfl | (simp; done) | (simp [*]; done)), H', ⟨by first | omega | exact Nat.le_refl _⟩, ⟨by (with_reducible repeat (first | refine blk_drewN ?_ _ | refine blk_drew ?_ | refine blk_alloc ?_ _)); exact a0.out⟩, ⟨by (with_reducible repeat (first | refine blk_drewN ?_ _ | refine blk_drew ?_ | refine blk_alloc ?_ _)); exact a1.out⟩, ⟨by (with_reducible repeat (first | refine blk_drewN ?_ _ | refine blk_drew ?_ | refine blk_alloc ?_ _)); exact a4.out⟩, ⟨by repeat (first | (with_reducible first | exact HB.out | apply below_alloc | apply pw_below_drewN | apply below_drew1 | refine below_set ?_ b9.out | refine below_set ?_ d1.out | refine below_set ?_ d2.out) | exact HB.out)⟩⟩
  ·rw [if_neg c8] at H
   have c8b0 : (j3 == 0) = false := beq_eq_false_iff_ne.mpr c8
   have c8b1 : (j3 != 0) = true := bne_iff_ne.mpr c8
   (first | rw [c8b0] | (simp only [i64_w, i32_w]; rw [c8b0]) | skip)
   have H' := Aside0.mk H
   clear H
   have bH := i1.out
   have bp := h5.out
   have bj := g1.out
   have aW := g6.out
   have l7 : w6.cell? ⟨a6, 0, none⟩ = some (.int .i64 a0_0) := (blk_cell a0.out 0).trans rfl
   have l5 : w6.cell? ⟨a6, 1, none⟩ = some (.slice A0_1 l0_1.length c0_1) := (blk_cell a0.out 1).trans rfl
   have l3 : w6.cell? ⟨a6, 2, none⟩ = some (.slice A0_2 l0_2.length c0_2) := (blk_cell a0.out 2).trans rfl
   have j6 := blk_frozen a0.out 0
   have k8 := blk_frozen a0.out 1
   have l6 := blk_frozen a0.out 2
   go_wp2_with (first | ((with_reducible refine gate_callee (f := 27) rfl ?_); refine goesL_ (some 16) rfl rfl Try.func27 (by kernel_rfl) rfl #[.agg #[.int .i64 a0_0, .slice A0_1 l0_1.length c0_1, .slice A0_2 l0_2.length c0_2]] rfl (by (try simp only [List.map_toArray, List.map_cons, List.map_nil]); first | done | rfl | (simp only [List.length_drop, List.length_take]; rfl)) ?_; (with_reducible refine (Pxi.calls a0_0 _ _ l0_1 _ _ l0_2 j3 _ ?m2 ?l9 ?m4 ?m1 A7.out).mono ?_); (case m2 => repeat (first | exact (Kd.C_below n8.out HB.out) | (with_reducible refine Kd.C_alloc ?_ _) | (with_reducible refine Kd.C_drewN ?_ _) | (with_reducible refine Kd.C_drew ?_))); (case l9 => exact n6.out); (case m4 => repeat (first | exact (Kd.C_below u3.out HB.out) | (with_reducible refine Kd.C_alloc ?_ _) | (with_reducible refine Kd.C_drewN ?_ _) | (with_reducible refine Kd.C_drew ?_))); (case m1 => exact t7.out); rintro e cg ⟨rfl, hb⟩; refine ⟨_, rfl, ?_⟩; have d7 := Aside0.mk (blk_below (g := a6) (o := .cells #[.int .i64 a0_0, .slice A0_1 l0_1.length c0_1, .slice A0_2 l0_2.length c0_2] 25 (0, 0)) (by (with_reducible repeat (first | refine blk_drewN ?_ _ | refine blk_drew ?_ | refine blk_alloc ?_ _)); exact a0.out) hb); have d9 := Aside0.mk (blk_below (g := b0) (o := .cells #[.int .i64 a1_0, .slice A1_1 l1_1.length c1_1, .slice A1_2 l1_2.length c1_2] 25 (0, 0)) (by (with_reducible repeat (first | refine blk_drewN ?_ _ | refine blk_drew ?_ | refine blk_alloc ?_ _)); exact a1.out) hb); have d8 := Aside0.mk (blk_below (g := b1) (o := .cells #[.int .i64 0, .slice none 0 0, .slice none 0 0] 25 (0, 0)) (by (with_reducible repeat (first | refine blk_drewN ?_ _ | refine blk_drew ?_ | refine blk_alloc ?_ _)); exact a4.out) hb); have e0 := Aside0.mk (below_step (by repeat (first | (with_reducible first | exact HB.out | apply below_alloc | apply pw_below_drewN | apply below_drew1 | refine below_set ?_ b9.out | refine below_set ?_ d1.out | refine below_set ?_ d2.out) | exact HB.out)) hb); clear a0; clear a1; clear a4; clear HB; have a0 := d7; have a1 := d9; have a4 := d8; have HB := e0; clear d7 d9 d8 e0; (try clear hb); (try clear u8); (try clear hk); (try clear hi)))
   go_meet
   case rel => exact ⟨_, (true), (by first | rfl | (simp; done) | (simp [*]; done)), H', ⟨by first | omega | exact Nat.le_refl _⟩, ⟨by (with_reducible repeat (first | refine blk_drewN ?_ _ | refine blk_drew ?_ | refine blk_alloc ?_ _)); exact a0.out⟩, ⟨by (with_reducible repeat (first | refine blk_drewN ?_ _ | refine blk_drew ?_ | refine blk_alloc ?_ _)); exact a1.out⟩, ⟨by (with_reducible repeat (first | refine blk_drewN ?_ _ | refine blk_drew ?_ | refine blk_alloc ?_ _)); exact a4.out⟩, ⟨by repeat (first | (with_reducible first | exact HB.out | apply below_alloc | apply pw_below_drewN | apply below_drew1 | refine below_set ?_ b9.out | refine below_set ?_ d1.out | refine below_set ?_ d2.out) | exact HB.out)⟩⟩
 case rest =>
  clear G4
  try clear c1
  try clear c2
  try clear p2
  try clear c8
  try clear c8b0
  try clear c8b1
  try clear c10
  try clear E7
  try clear E6
  try clear E4
  try clear E8
  try clear E9
  try clear k6
  try clear k2
  try clear l4
  try clear k7
  try clear j9
  try clear k0
  try clear l7
  try clear l5
  try clear l3
  try clear j5
  try clear k1
  try clear j7
  try clear k9
  try clear j4
  try clear j8
  try clear j6
  try clear k8
  try clear l6
  obtain ⟨kq, t8, rfl, HA, t0, a0, a1, a4, HB⟩ := hcut
  cases kq with
  | zero => exact absurd HA.out (by simp [Pxg.j0])
  | succ kj2 =>
   have H := HA.out
   clear HA
   simp only [Pxg.j0] at H
   by_cases t1 : t8 = true
   ·subst t1
    have H1 : (some (0, ([] : List ByteArray), ([] : List (S51)), 1)) = some (r1, r2, r3, r4) := by rw [if_pos rfl] at H; exact H
    clear H
    have H := H1
    clear H1
    simp only [Option.some.injEq, Prod.mk.injEq] at H
    obtain ⟨rfl, rfl, rfl, rfl⟩ := H
    have al := g6.out
    have bu := g1.out
    have ag := g2.out
    have aI := g8.out
    have n4 : wc.cell? ⟨b1, 0, none⟩ = some (.int .i64 0) := (blk_cell a4.out 0).trans rfl
    have n7 : wc.cell? ⟨b1, 1, none⟩ = some (.slice none 0 0) := (blk_cell a4.out 1).trans rfl
    have p0 : wc.cell? ⟨b1, 2, none⟩ = some (.slice none 0 0) := (blk_cell a4.out 2).trans rfl
    have o1 := blk_frozen a4.out 0
    have o3 := blk_frozen a4.out 1
    have n2 := blk_frozen a4.out 2
    go_wp2
    refine bodyPost_ret (results_ct rfl _ _ b1 25 #[.int .i64 0, .slice none 0 0, .slice none 0 0] (0, 0) _ rfl (by (with_reducible repeat (first | refine blk_drewN ?_ _ | refine blk_drew ?_ | refine blk_alloc ?_ _)); refine blk_put (cs := #[.int .i64 0, .slice none 0 0, .slice none 0 0]) ?_ 2 _ rfl; (with_reducible repeat (first | refine blk_drewN ?_ _ | refine blk_drew ?_ | refine blk_alloc ?_ _)); refine blk_put (cs := #[.int .i64 0, .slice none 0 0, .slice none 0 0]) ?_ 1 _ rfl; (with_reducible repeat (first | refine blk_drewN ?_ _ | refine blk_drew ?_ | refine blk_alloc ?_ _)); refine blk_put (cs := #[.int .i64 0, .slice none 0 0, .slice none 0 0]) ?_ 0 _ rfl; (with_reducible repeat (first | refine blk_drewN ?_ _ | refine blk_drew ?_ | refine blk_alloc ?_ _)); exact a4.out) Try.underlying25 rfl (by kernel_rfl)) rfl ?_
    exact ⟨_, _, by first | rfl | (simp [errW_none, errW_some] <;> rfl) | (simp [*, errW_none, errW_some] <;> rfl), by first | exact Kd.R_nil _ _ _ _ _ | exact Kd.N_nil _ _ _ _ _ | exact Kd.V_nil _ _ _ _ _ | exact Kd.Q_nil _ _ _ _ _ | exact Kd.S_nil _ _ _ _ _, by first | exact Kd.R_nil _ _ _ _ _ | exact Kd.N_nil _ _ _ _ _ | exact Kd.V_nil _ _ _ _ _ | exact Kd.Q_nil _ _ _ _ _ | exact Kd.S_nil _ _ _ _ _, by repeat (first | (with_reducible first | exact HB.out | apply below_alloc | apply pw_below_drewN | apply below_drew1 | refine below_set ?_ b9.out | refine below_set ?_ d1.out | refine below_set ?_ d2.out) | exact HB.out)⟩
   ·replace t1 := Bool.eq_false_iff.mpr t1
    subst t1
    have H1 : ((Pxf.f l0_1 l1_1).bind fun b3 => (if (wrap64 (a0_0 * a1_0)) > 2048 then (Pxg.j1 kj2 true a0_0 l0_1 l0_2 a1_0 l1_1 l1_2 (wrap64 (a0_0 * a1_0)) b3) else (Pxg.j1 kj2 (decide ((b3.length : Int) > 64)) a0_0 l0_1 l0_2 a1_0 l1_1 l1_2 (wrap64 (a0_0 * a1_0)) b3))) = some (r1, r2, r3, r4) := by rw [if_neg (show ¬ (false = true) by decide)] at H; exact H
    clear H
    have H := H1
    clear H1
    replace H := Option.bind_eq_some_iff.mp H
    obtain ⟨b3, I4, H⟩ := H
    replace H : (if (wrap64 (a0_0 * a1_0)) > 2048 then (Pxg.j1 kj2 true a0_0 l0_1 l0_2 a1_0 l1_1 l1_2 (wrap64 (a0_0 * a1_0)) b3) else (Pxg.j1 kj2 (decide ((b3.length : Int) > 64)) a0_0 l0_1 l0_2 a1_0 l1_1 l1_2 (wrap64 (a0_0 * a1_0)) b3)) = some (r1, r2, r3, r4) := H
    have K2 := Aside0.mk I4
    clear I4
    have D2 := Aside0.mk H
    clear H
    try go_wp2
    have d7 := Aside0.mk (blk_drew a0.out)
    have d9 := Aside0.mk (blk_drew a1.out)
    have d8 := Aside0.mk (blk_drew a4.out)
    have e0 := Aside0.mk (below_drew1 HB.out)
    clear a0
    clear a1
    clear a4
    clear HB
    have a0 := d7
    have a1 := d9
    have a4 := d8
    have HB := e0
    clear d7 d9 d8 e0
    refine start_ (n := 13) (S := fun w' => w'.cell? ⟨a6, 0, none⟩ = some (.int .i64 a0_0) ∧ w'.cell? ⟨a6, 1, none⟩ = some (.slice A0_1 l0_1.length c0_1) ∧ w'.cell? ⟨a6, 2, none⟩ = some (.slice A0_2 l0_2.length c0_2) ∧ w'.cell? ⟨b0, 0, none⟩ = some (.int .i64 a1_0) ∧ w'.cell? ⟨b0, 1, none⟩ = some (.slice A1_1 l1_1.length c1_1) ∧ w'.cell? ⟨b0, 2, none⟩ = some (.slice A1_2 l1_2.length c1_2)) (ds := []) #[false, false, false, false, false, false, false, false, false, false, false, false, false] (by kernel_rfl) rfl rfl ⟨(blk_cell a0.out 0).trans rfl, (blk_cell a0.out 1).trans rfl, (blk_cell a0.out 2).trans rfl, (blk_cell a1.out 0).trans rfl, (blk_cell a1.out 1).trans rfl, (blk_cell a1.out 2).trans rfl⟩ (fun hHeld => ?_); refine with_tabW Pxg.tab3 Pxg.bits3 (fun HT_ HW_ => ?_)
    generalize wc.drew = w27 at a0 a1 a4 HB hHeld ⊢
    refine pure_ (i := 0) (N := some 24) (v := ?_) (a' := ?_) #[true, false, false, false, false, false, false, false, false, false, false, false, false] rfl rfl (any_of HT_.out (by kernel_rfl)) (fun _ _ _ h => h) (Or.inl ⟨by rfl, ?_⟩) ?_ ?_
    rotate_left
    ·intro w'
     go_simp
     with_reducible rfl
    rotate_left
    ·simp only [Act.put, List.setIfInBounds_toArray, List.set_cons_zero, List.set_cons_succ, i64_w, i32_w]
     rfl
    refine pure_ (i := 2) (N := some 26) (v := ?_) (a' := ?_) #[true, false, true, false, false, false, false, false, false, false, false, false, false] rfl rfl (any_of HT_.out (by kernel_rfl)) (fun _ _ _ h => h) (Or.inl ⟨by rfl, ?_⟩) ?_ ?_
    rotate_left
    ·intro w'
     go_simp
     with_reducible rfl
    rotate_left
    ·simp only [Act.put, List.setIfInBounds_toArray, List.set_cons_zero, List.set_cons_succ, i64_w, i32_w]
     rfl
    refine pure_ (i := 5) (N := some 29) (v := ?_) (a' := ?_) #[true, false, true, false, false, true, false, false, false, false, false, false, false] rfl rfl (any_of HT_.out (by kernel_rfl)) (fun _ _ _ h => h) (Or.inl ⟨by rfl, ?_⟩) ?_ ?_
    rotate_left
    ·intro w'
     go_simp
     with_reducible rfl
    rotate_left
    ·simp only [Act.put, List.setIfInBounds_toArray, List.set_cons_zero, List.set_cons_succ, i64_w, i32_w]
     rfl
    refine pure_ (i := 7) (N := some 31) (v := ?_) (a' := ?_) #[true, false, true, false, false, true, false, true, false, false, false, false, false] rfl rfl (any_of HT_.out (by kernel_rfl)) (fun _ _ _ h => h) (Or.inl ⟨by rfl, ?_⟩) ?_ ?_
    rotate_left
    ·intro w'
     go_simp
     with_reducible rfl
    rotate_left
    ·simp only [Act.put, List.setIfInBounds_toArray, List.set_cons_zero, List.set_cons_succ, i64_w, i32_w]
     rfl
    refine take_ (i := 1) (N := some 25) (v := ?_) (a' := ?_) #[true, true, true, false, false, true, false, true, false, false, false, false, false] rfl rfl (take_ofW HT_.out HW_.out (by kernel_rfl)) (fun _ _ _ h => h) (Or.inl ⟨by rfl, ?_⟩) hHeld ?_ ?_
    rotate_left
    ·rintro w' ⟨s0, s1, s2, s3, s4, s5⟩
     go_simp
     with_reducible rfl
    rotate_left
    ·simp only [Act.put, List.setIfInBounds_toArray, List.set_cons_zero, List.set_cons_succ, i64_w, i32_w]
     rfl
    refine take_ (i := 3) (N := some 27) (v := ?_) (a' := ?_) #[true, true, true, true, false, true, false, true, false, false, false, false, false] rfl rfl (take_ofW HT_.out HW_.out (by kernel_rfl)) (fun _ _ _ h => h) (Or.inl ⟨by rfl, ?_⟩) hHeld ?_ ?_
    rotate_left
    ·rintro w' ⟨s0, s1, s2, s3, s4, s5⟩
     go_simp
     with_reducible rfl
    rotate_left
    ·simp only [Act.put, List.setIfInBounds_toArray, List.set_cons_zero, List.set_cons_succ, i64_w, i32_w]
     rfl
    refine pure_ (i := 4) (N := some 28) (v := ?_) (a' := ?_) #[true, true, true, true, true, true, false, true, false, false, false, false, false] rfl rfl (any_of HT_.out (by kernel_rfl)) (fun _ _ _ h => h) (Or.inl ⟨by rfl, ?_⟩) ?_ ?_
    rotate_left
    ·intro w'
     go_simp
     with_reducible rfl
    rotate_left
    ·simp only [Act.put, List.setIfInBounds_toArray, List.set_cons_zero, List.set_cons_succ, i64_w, i32_w]
     rfl
    refine take_ (i := 6) (N := some 30) (v := ?_) (a' := ?_) #[true, true, true, true, true, true, true, true, false, false, false, false, false] rfl rfl (take_ofW HT_.out HW_.out (by kernel_rfl)) (fun _ _ _ h => h) (Or.inl ⟨by rfl, ?_⟩) hHeld ?_ ?_
    rotate_left
    ·rintro w' ⟨s0, s1, s2, s3, s4, s5⟩
     go_simp
     with_reducible rfl
    rotate_left
    ·simp only [Act.put, List.setIfInBounds_toArray, List.set_cons_zero, List.set_cons_succ, i64_w, i32_w]
     rfl
    refine take_ (i := 8) (N := some 32) (v := ?_) (a' := ?_) #[true, true, true, true, true, true, true, true, true, false, false, false, false] rfl rfl (take_ofW HT_.out HW_.out (by kernel_rfl)) (fun _ _ _ h => h) (Or.inl ⟨by rfl, ?_⟩) hHeld ?_ ?_
    rotate_left
    ·rintro w' ⟨s0, s1, s2, s3, s4, s5⟩
     go_simp
     with_reducible rfl
    rotate_left
    ·simp only [Act.put, List.setIfInBounds_toArray, List.set_cons_zero, List.set_cons_succ, i64_w, i32_w]
     rfl
    refine join_ (σ := Value × Nat) 1 #[true, true, true, true, true, true, true, true, true, true, true, true, false] (fun s_ => [(33, s_.1), (6, .pointer (some ⟨s_.2, 0, none⟩)), (34, .agg #[.int .i64 (wrap64 (a0_0 * a1_0)), s_.1, .slice none 0 0])]) (fun s_ w' => (w'.cell? ⟨a6, 0, none⟩ = some (.int .i64 a0_0) ∧ w'.cell? ⟨a6, 1, none⟩ = some (.slice A0_1 l0_1.length c0_1) ∧ w'.cell? ⟨a6, 2, none⟩ = some (.slice A0_2 l0_2.length c0_2) ∧ w'.cell? ⟨b0, 0, none⟩ = some (.int .i64 a1_0) ∧ w'.cell? ⟨b0, 1, none⟩ = some (.slice A1_1 l1_1.length c1_1) ∧ w'.cell? ⟨b0, 2, none⟩ = some (.slice A1_2 l1_2.length c1_2)) ∧ (Kd.R Kd.string 9 w' w.heap.size (fun _ => True) s_.1 b3) ∧ (w'.heap[a6]? = some (.cells #[.int .i64 a0_0, .slice A0_1 l0_1.length c0_1, .slice A0_2 l0_2.length c0_2] 25 (0, 0))) ∧ (w'.heap[b0]? = some (.cells #[.int .i64 a1_0, .slice A1_1 l1_1.length c1_1, .slice A1_2 l1_2.length c1_2] 25 (0, 0))) ∧ (w'.heap[b1]? = some (.cells #[.int .i64 0, .slice none 0 0, .slice none 0 0] 25 (0, 0))) ∧ (w'.heap[s_.2]? = some (.cells #[.int .i64 0, .slice none 0 0, .slice none 0 0] 25 (0, 0))) ∧ (w.heap.size ≤ s_.2) ∧ (w.heap.size ≤ s_.2) ∧ (a6 ≠ s_.2) ∧ (s_.2 ≠ a6) ∧ (b0 ≠ s_.2) ∧ (s_.2 ≠ b0) ∧ (b1 ≠ s_.2) ∧ (s_.2 ≠ b1) ∧ (Below w.heap.size w w')) ?_ ?_
    rotate_left
    ·intro hCont
     refine two_ (i := 9) (j := 11) (Ni := some 33) (Nj := some 6) #[true, true, true, true, true, true, true, true, true, true, false, false, false] #[true, true, true, true, true, true, true, true, true, false, false, true, false] rfl rfl rfl rfl (two_of HT_.out (by kernel_rfl)) (by decide) (by decide) (fun K hK => ?_) (fun K hK => ?_)
     ·skip
      refine goes_ Try.func46 (by kernel_rfl) rfl #[.slice A0_1 l0_1.length c0_1, .slice A1_1 l1_1.length c1_1] (by rfl) rfl rfl (by (try simp only [List.map_toArray, List.map_cons, List.map_nil]); first | done | rfl | (simp only [List.length_drop, List.length_take]; rfl)) ?_
      with_reducible refine (Pxf.calls _ _ l0_1 _ _ l1_1 b3 _ ?m2 ?l9 ?m4 ?m1 K2.out).mono ?_
      (case m2 => repeat (first | exact (Kd.C_below n8.out HB.out) | (with_reducible refine Kd.C_alloc ?_ _) | (with_reducible refine Kd.C_drewN ?_ _) | (with_reducible refine Kd.C_drew ?_)))
      (case l9 => exact n6.out)
      (case m4 => repeat (first | exact (Kd.C_below p9.out HB.out) | (with_reducible refine Kd.C_alloc ?_ _) | (with_reducible refine Kd.C_drewN ?_ _) | (with_reducible refine Kd.C_drew ?_)))
      (case m1 => exact q2.out)
      rintro e W3 ⟨C9, rfl, h2, hb⟩
      refine ⟨_, rfl, ?_⟩
      have d7 := Aside0.mk (Kd.R_lower h2 (below_size (by repeat (first | (with_reducible first | exact HB.out | apply below_alloc | apply pw_below_drewN | apply below_drew1 | refine below_set ?_ b9.out | refine below_set ?_ d1.out | refine below_set ?_ d2.out) | exact HB.out))))
      have d9 := Aside0.mk (blk_below (g := a6) (o := .cells #[.int .i64 a0_0, .slice A0_1 l0_1.length c0_1, .slice A0_2 l0_2.length c0_2] 25 (0, 0)) (by (with_reducible repeat (first | refine blk_drewN ?_ _ | refine blk_drew ?_ | refine blk_alloc ?_ _)); exact a0.out) hb)
      have d8 := Aside0.mk (blk_below (g := b0) (o := .cells #[.int .i64 a1_0, .slice A1_1 l1_1.length c1_1, .slice A1_2 l1_2.length c1_2] 25 (0, 0)) (by (with_reducible repeat (first | refine blk_drewN ?_ _ | refine blk_drew ?_ | refine blk_alloc ?_ _)); exact a1.out) hb)
      have e0 := Aside0.mk (blk_below (g := b1) (o := .cells #[.int .i64 0, .slice none 0 0, .slice none 0 0] 25 (0, 0)) (by (with_reducible repeat (first | refine blk_drewN ?_ _ | refine blk_drew ?_ | refine blk_alloc ?_ _)); exact a4.out) hb)
      have e8 := Aside0.mk (below_step (by repeat (first | (with_reducible first | exact HB.out | apply below_alloc | apply pw_below_drewN | apply below_drew1 | refine below_set ?_ b9.out | refine below_set ?_ d1.out | refine below_set ?_ d2.out) | exact HB.out)) hb)
      clear a0
      clear a1
      clear a4
      clear HB
      have h0 := d7
      have a0 := d9
      have a1 := d8
      have a4 := e0
      have HB := e8
      clear d7 d9 d8 e0 e8
      (try clear hb)
      (try clear u8)
      (try clear hk)
      (try clear hi)
      (try clear h2)
      obtain ⟨Q6, M7, F9⟩ := Kd.R_slice h0.out
      (first | subst F9 | (injection F9 with f1_ f2_ f3_; have f4_ := f1_.symm; have f5_ := f3_.symm; clear f1_ f2_ f3_; subst f4_; subst f5_))
      refine hK.out _ _ ⟨(blk_cell a0.out 0).trans rfl, (blk_cell a0.out 1).trans rfl, (blk_cell a0.out 2).trans rfl, (blk_cell a1.out 0).trans rfl, (blk_cell a1.out 1).trans rfl, (blk_cell a1.out 2).trans rfl⟩ (fun hHeld => ?_)
      clear hK K
      refine norm_ (a' := ?_) ?_ ?_
      rotate_left
      ·show Act.put _ (some 33) _ = _
       simp only [Act.put, List.setIfInBounds_toArray, List.set_cons_zero, List.set_cons_succ, i64_w, i32_w]
       rfl
      refine pure_ (i := 10) (N := some 34) (v := ?_) (a' := ?_) #[true, true, true, true, true, true, true, true, true, true, true, false, false] rfl rfl (any_of HT_.out (by kernel_rfl)) (fun _ _ _ h => h) (Or.inl ⟨by rfl, ?_⟩) ?_ ?_
      rotate_left
      ·intro w'
       go_simp
       with_reducible rfl
      rotate_left
      ·simp only [Act.put, List.setIfInBounds_toArray, List.set_cons_zero, List.set_cons_succ, i64_w, i32_w]
       rfl
      refine one_ (i := 11) (N := some 6) #[true, true, true, true, true, true, true, true, true, true, true, true, false] rfl rfl (one_of HT_.out (by kernel_rfl)) (by decide) (fun K hK => ?_)
      refine box_step ?hg (N := 6) ?hd (cs := #[.int .i64 0, .slice none 0 0, .slice none 0 0]) (t := 25) ?hr ?_; (case hd => rfl); (case hg => rfl); (case hr => first | (go_simp; done) | (go_simp; rfl))
      intro a2 hg ck hbox hb
      have d7 := Aside0.mk (Kd.R_below (by (with_reducible repeat (first | apply Kd.R_alloc | apply Kd.R_drewN | apply Kd.R_drew)); exact h0.out) hb)
      have d9 := Aside0.mk (blk_below (g := a6) (o := .cells #[.int .i64 a0_0, .slice A0_1 l0_1.length c0_1, .slice A0_2 l0_2.length c0_2] 25 (0, 0)) (by (with_reducible repeat (first | refine blk_drewN ?_ _ | refine blk_drew ?_ | refine blk_alloc ?_ _)); exact a0.out) hb)
      have d8 := Aside0.mk (blk_below (g := b0) (o := .cells #[.int .i64 a1_0, .slice A1_1 l1_1.length c1_1, .slice A1_2 l1_2.length c1_2] 25 (0, 0)) (by (with_reducible repeat (first | refine blk_drewN ?_ _ | refine blk_drew ?_ | refine blk_alloc ?_ _)); exact a1.out) hb)
      have e0 := Aside0.mk (blk_below (g := b1) (o := .cells #[.int .i64 0, .slice none 0 0, .slice none 0 0] 25 (0, 0)) (by (with_reducible repeat (first | refine blk_drewN ?_ _ | refine blk_drew ?_ | refine blk_alloc ?_ _)); exact a4.out) hb)
      have e8 := Aside0.mk (below_step (by repeat (first | (with_reducible first | exact HB.out | apply below_alloc | apply pw_below_drewN | apply below_drew1 | refine below_set ?_ b9.out | refine below_set ?_ d1.out | refine below_set ?_ d2.out) | exact HB.out)) hb)
      have f3 := Aside0.mk (hbox)
      have f4 := Aside0.mk ((by rw [hg]; exact (below_size (by repeat (first | (with_reducible first | exact HB.out | apply below_alloc | apply pw_below_drewN | apply below_drew1 | refine below_set ?_ b9.out | refine below_set ?_ d1.out | refine below_set ?_ d2.out) | exact HB.out))) : w.heap.size ≤ a2))
      have f5 := Aside0.mk ((by rw [hg]; exact (below_size (by repeat (first | (with_reducible first | exact HB.out | apply below_alloc | apply pw_below_drewN | apply below_drew1 | refine below_set ?_ b9.out | refine below_set ?_ d1.out | refine below_set ?_ d2.out) | exact HB.out))) : w.heap.size ≤ a2))
      have f6 := Aside0.mk ((by rw [hg]; exact Nat.ne_of_lt (blk_lt (g := a6) (o := .cells #[.int .i64 a0_0, .slice A0_1 l0_1.length c0_1, .slice A0_2 l0_2.length c0_2] 25 (0, 0)) (by (with_reducible repeat (first | refine blk_drewN ?_ _ | refine blk_drew ?_ | refine blk_alloc ?_ _)); exact a0.out)) : a6 ≠ a2))
      have f7 := Aside0.mk ((by rw [hg]; exact Nat.ne_of_gt (blk_lt (g := a6) (o := .cells #[.int .i64 a0_0, .slice A0_1 l0_1.length c0_1, .slice A0_2 l0_2.length c0_2] 25 (0, 0)) (by (with_reducible repeat (first | refine blk_drewN ?_ _ | refine blk_drew ?_ | refine blk_alloc ?_ _)); exact a0.out)) : a2 ≠ a6))
      have g5 := Aside0.mk ((by rw [hg]; exact Nat.ne_of_lt (blk_lt (g := b0) (o := .cells #[.int .i64 a1_0, .slice A1_1 l1_1.length c1_1, .slice A1_2 l1_2.length c1_2] 25 (0, 0)) (by (with_reducible repeat (first | refine blk_drewN ?_ _ | refine blk_drew ?_ | refine blk_alloc ?_ _)); exact a1.out)) : b0 ≠ a2))
      have g4 := Aside0.mk ((by rw [hg]; exact Nat.ne_of_gt (blk_lt (g := b0) (o := .cells #[.int .i64 a1_0, .slice A1_1 l1_1.length c1_1, .slice A1_2 l1_2.length c1_2] 25 (0, 0)) (by (with_reducible repeat (first | refine blk_drewN ?_ _ | refine blk_drew ?_ | refine blk_alloc ?_ _)); exact a1.out)) : a2 ≠ b0))
      have g0 := Aside0.mk ((by rw [hg]; exact Nat.ne_of_lt (blk_lt (g := b1) (o := .cells #[.int .i64 0, .slice none 0 0, .slice none 0 0] 25 (0, 0)) (by (with_reducible repeat (first | refine blk_drewN ?_ _ | refine blk_drew ?_ | refine blk_alloc ?_ _)); exact a4.out)) : b1 ≠ a2))
      have i3 := Aside0.mk ((by rw [hg]; exact Nat.ne_of_gt (blk_lt (g := b1) (o := .cells #[.int .i64 0, .slice none 0 0, .slice none 0 0] 25 (0, 0)) (by (with_reducible repeat (first | refine blk_drewN ?_ _ | refine blk_drew ?_ | refine blk_alloc ?_ _)); exact a4.out)) : a2 ≠ b1))
      clear h0
      clear a0
      clear a1
      clear a4
      clear HB
      have h0 := d7
      have a0 := d9
      have a1 := d8
      have a4 := e0
      have HB := e8
      have a3 := f3
      have t5 := f4
      have d4 := f5
      have b7 := f6
      have e5 := f7
      have b8 := g5
      have e4 := g4
      have d3 := g0
      have e2 := i3
      clear d7 d9 d8 e0 e8 f3 f4 f5 f6 f7 g5 g4 g0 i3
      clear hb hbox hg
      refine hK.out _ _ ⟨(blk_cell a0.out 0).trans rfl, (blk_cell a0.out 1).trans rfl, (blk_cell a0.out 2).trans rfl, (blk_cell a1.out 0).trans rfl, (blk_cell a1.out 1).trans rfl, (blk_cell a1.out 2).trans rfl⟩ (fun hHeld => ?_)
      clear hK K
      refine norm_ (a' := ?_) ?_ ?_
      rotate_left
      ·show Act.put _ (some 6) _ = _
       simp only [Act.put, List.setIfInBounds_toArray, List.set_cons_zero, List.set_cons_succ, i64_w, i32_w]
       rfl
      exact norm_ (by simp only [putAll, Act.put, List.setIfInBounds_toArray, List.set_cons_zero, List.set_cons_succ]) (hCont (.slice Q6 b3.length M7, a2) _ ⟨hHeld, (by (with_reducible repeat (first | apply Kd.R_alloc | apply Kd.R_drewN | apply Kd.R_drew)); exact h0.out), (by (with_reducible repeat (first | refine blk_drewN ?_ _ | refine blk_drew ?_ | refine blk_alloc ?_ _)); exact a0.out), (by (with_reducible repeat (first | refine blk_drewN ?_ _ | refine blk_drew ?_ | refine blk_alloc ?_ _)); exact a1.out), (by (with_reducible repeat (first | refine blk_drewN ?_ _ | refine blk_drew ?_ | refine blk_alloc ?_ _)); exact a4.out), (by (with_reducible repeat (first | refine blk_drewN ?_ _ | refine blk_drew ?_ | refine blk_alloc ?_ _)); exact a3.out), t5.out, d4.out, b7.out, e5.out, b8.out, e4.out, d3.out, e2.out, (by repeat (first | (with_reducible first | exact HB.out | apply below_alloc | apply pw_below_drewN | apply below_drew1 | refine below_set ?_ b9.out | refine below_set ?_ d1.out | refine below_set ?_ d2.out | refine below_set ?_ d4.out) | exact HB.out))⟩)
     ·skip
      refine box_step ?hg (N := 6) ?hd (cs := #[.int .i64 0, .slice none 0 0, .slice none 0 0]) (t := 25) ?hr ?_; (case hd => rfl); (case hg => rfl); (case hr => first | (go_simp; done) | (go_simp; rfl))
      intro a2 hg W3 hbox hb
      have d7 := Aside0.mk (blk_below (g := a6) (o := .cells #[.int .i64 a0_0, .slice A0_1 l0_1.length c0_1, .slice A0_2 l0_2.length c0_2] 25 (0, 0)) (by (with_reducible repeat (first | refine blk_drewN ?_ _ | refine blk_drew ?_ | refine blk_alloc ?_ _)); exact a0.out) hb)
      have d9 := Aside0.mk (blk_below (g := b0) (o := .cells #[.int .i64 a1_0, .slice A1_1 l1_1.length c1_1, .slice A1_2 l1_2.length c1_2] 25 (0, 0)) (by (with_reducible repeat (first | refine blk_drewN ?_ _ | refine blk_drew ?_ | refine blk_alloc ?_ _)); exact a1.out) hb)
      have d8 := Aside0.mk (blk_below (g := b1) (o := .cells #[.int .i64 0, .slice none 0 0, .slice none 0 0] 25 (0, 0)) (by (with_reducible repeat (first | refine blk_drewN ?_ _ | refine blk_drew ?_ | refine blk_alloc ?_ _)); exact a4.out) hb)
      have e0 := Aside0.mk (below_step (by repeat (first | (with_reducible first | exact HB.out | apply below_alloc | apply pw_below_drewN | apply below_drew1 | refine below_set ?_ b9.out | refine below_set ?_ d1.out | refine below_set ?_ d2.out) | exact HB.out)) hb)
      have e8 := Aside0.mk (hbox)
      have f3 := Aside0.mk ((by rw [hg]; exact (below_size (by repeat (first | (with_reducible first | exact HB.out | apply below_alloc | apply pw_below_drewN | apply below_drew1 | refine below_set ?_ b9.out | refine below_set ?_ d1.out | refine below_set ?_ d2.out) | exact HB.out))) : w.heap.size ≤ a2))
      have f4 := Aside0.mk ((by rw [hg]; exact (below_size (by repeat (first | (with_reducible first | exact HB.out | apply below_alloc | apply pw_below_drewN | apply below_drew1 | refine below_set ?_ b9.out | refine below_set ?_ d1.out | refine below_set ?_ d2.out) | exact HB.out))) : w.heap.size ≤ a2))
      have f5 := Aside0.mk ((by rw [hg]; exact Nat.ne_of_lt (blk_lt (g := a6) (o := .cells #[.int .i64 a0_0, .slice A0_1 l0_1.length c0_1, .slice A0_2 l0_2.length c0_2] 25 (0, 0)) (by (with_reducible repeat (first | refine blk_drewN ?_ _ | refine blk_drew ?_ | refine blk_alloc ?_ _)); exact a0.out)) : a6 ≠ a2))
      have f6 := Aside0.mk ((by rw [hg]; exact Nat.ne_of_gt (blk_lt (g := a6) (o := .cells #[.int .i64 a0_0, .slice A0_1 l0_1.length c0_1, .slice A0_2 l0_2.length c0_2] 25 (0, 0)) (by (with_reducible repeat (first | refine blk_drewN ?_ _ | refine blk_drew ?_ | refine blk_alloc ?_ _)); exact a0.out)) : a2 ≠ a6))
      have f7 := Aside0.mk ((by rw [hg]; exact Nat.ne_of_lt (blk_lt (g := b0) (o := .cells #[.int .i64 a1_0, .slice A1_1 l1_1.length c1_1, .slice A1_2 l1_2.length c1_2] 25 (0, 0)) (by (with_reducible repeat (first | refine blk_drewN ?_ _ | refine blk_drew ?_ | refine blk_alloc ?_ _)); exact a1.out)) : b0 ≠ a2))
      have g5 := Aside0.mk ((by rw [hg]; exact Nat.ne_of_gt (blk_lt (g := b0) (o := .cells #[.int .i64 a1_0, .slice A1_1 l1_1.length c1_1, .slice A1_2 l1_2.length c1_2] 25 (0, 0)) (by (with_reducible repeat (first | refine blk_drewN ?_ _ | refine blk_drew ?_ | refine blk_alloc ?_ _)); exact a1.out)) : a2 ≠ b0))
      have g4 := Aside0.mk ((by rw [hg]; exact Nat.ne_of_lt (blk_lt (g := b1) (o := .cells #[.int .i64 0, .slice none 0 0, .slice none 0 0] 25 (0, 0)) (by (with_reducible repeat (first | refine blk_drewN ?_ _ | refine blk_drew ?_ | refine blk_alloc ?_ _)); exact a4.out)) : b1 ≠ a2))
      have g0 := Aside0.mk ((by rw [hg]; exact Nat.ne_of_gt (blk_lt (g := b1) (o := .cells #[.int .i64 0, .slice none 0 0, .slice none 0 0] 25 (0, 0)) (by (with_reducible repeat (first | refine blk_drewN ?_ _ | refine blk_drew ?_ | refine blk_alloc ?_ _)); exact a4.out)) : a2 ≠ b1))
      clear a0
      clear a1
      clear a4
      clear HB
      have a0 := d7
      have a1 := d9
      have a4 := d8
      have HB := e0
      have a3 := e8
      have t5 := f3
      have d4 := f4
      have b7 := f5
      have e5 := f6
      have b8 := f7
      have e4 := g5
      have d3 := g4
      have e2 := g0
      clear d7 d9 d8 e0 e8 f3 f4 f5 f6 f7 g5 g4 g0
      clear hb hbox hg
      refine hK.out _ _ ⟨(blk_cell a0.out 0).trans rfl, (blk_cell a0.out 1).trans rfl, (blk_cell a0.out 2).trans rfl, (blk_cell a1.out 0).trans rfl, (blk_cell a1.out 1).trans rfl, (blk_cell a1.out 2).trans rfl⟩ (fun hHeld => ?_)
      clear hK K
      refine norm_ (a' := ?_) ?_ ?_
      rotate_left
      ·show Act.put _ (some 6) _ = _
       simp only [Act.put, List.setIfInBounds_toArray, List.set_cons_zero, List.set_cons_succ, i64_w, i32_w]
       rfl
      refine one_ (i := 9) (N := some 33) #[true, true, true, true, true, true, true, true, true, true, false, true, false] rfl rfl (one_of HT_.out (by kernel_rfl)) (by decide) (fun K hK => ?_)
      refine goes_ Try.func46 (by kernel_rfl) rfl #[.slice A0_1 l0_1.length c0_1, .slice A1_1 l1_1.length c1_1] (by rfl) rfl rfl (by (try simp only [List.map_toArray, List.map_cons, List.map_nil]); first | done | rfl | (simp only [List.length_drop, List.length_take]; rfl)) ?_
      with_reducible refine (Pxf.calls _ _ l0_1 _ _ l1_1 b3 _ ?m2 ?l9 ?m4 ?m1 K2.out).mono ?_
      (case m2 => repeat (first | exact (Kd.C_below n8.out HB.out) | (with_reducible refine Kd.C_alloc ?_ _) | (with_reducible refine Kd.C_drewN ?_ _) | (with_reducible refine Kd.C_drew ?_)))
      (case l9 => exact n6.out)
      (case m4 => repeat (first | exact (Kd.C_below p9.out HB.out) | (with_reducible refine Kd.C_alloc ?_ _) | (with_reducible refine Kd.C_drewN ?_ _) | (with_reducible refine Kd.C_drew ?_)))
      (case m1 => exact q2.out)
      rintro e cd ⟨C9, rfl, h2, hb⟩
      refine ⟨_, rfl, ?_⟩
      have d7 := Aside0.mk (Kd.R_lower h2 (below_size (by repeat (first | (with_reducible first | exact HB.out | apply below_alloc | apply pw_below_drewN | apply below_drew1 | refine below_set ?_ b9.out | refine below_set ?_ d1.out | refine below_set ?_ d2.out | refine below_set ?_ d4.out) | exact HB.out))))
      have d9 := Aside0.mk (blk_below (g := a6) (o := .cells #[.int .i64 a0_0, .slice A0_1 l0_1.length c0_1, .slice A0_2 l0_2.length c0_2] 25 (0, 0)) (by (with_reducible repeat (first | refine blk_drewN ?_ _ | refine blk_drew ?_ | refine blk_alloc ?_ _)); exact a0.out) hb)
      have d8 := Aside0.mk (blk_below (g := b0) (o := .cells #[.int .i64 a1_0, .slice A1_1 l1_1.length c1_1, .slice A1_2 l1_2.length c1_2] 25 (0, 0)) (by (with_reducible repeat (first | refine blk_drewN ?_ _ | refine blk_drew ?_ | refine blk_alloc ?_ _)); exact a1.out) hb)
      have e0 := Aside0.mk (blk_below (g := b1) (o := .cells #[.int .i64 0, .slice none 0 0, .slice none 0 0] 25 (0, 0)) (by (with_reducible repeat (first | refine blk_drewN ?_ _ | refine blk_drew ?_ | refine blk_alloc ?_ _)); exact a4.out) hb)
      have e8 := Aside0.mk (blk_below (g := a2) (o := .cells #[.int .i64 0, .slice none 0 0, .slice none 0 0] 25 (0, 0)) (by (with_reducible repeat (first | refine blk_drewN ?_ _ | refine blk_drew ?_ | refine blk_alloc ?_ _)); exact a3.out) hb)
      have f3 := Aside0.mk (below_step (by repeat (first | (with_reducible first | exact HB.out | apply below_alloc | apply pw_below_drewN | apply below_drew1 | refine below_set ?_ b9.out | refine below_set ?_ d1.out | refine below_set ?_ d2.out | refine below_set ?_ d4.out) | exact HB.out)) hb)
      clear a0
      clear a1
      clear a4
      clear a3
      clear HB
      have h0 := d7
      have a0 := d9
      have a1 := d8
      have a4 := e0
      have a3 := e8
      have HB := f3
      clear d7 d9 d8 e0 e8 f3
      (try clear hb)
      (try clear u8)
      (try clear hk)
      (try clear hi)
      (try clear h2)
      obtain ⟨Q8, P1, I6⟩ := Kd.R_slice h0.out
      (first | subst I6 | (injection I6 with f1_ f2_ f3_; have f4_ := f1_.symm; have f5_ := f3_.symm; clear f1_ f2_ f3_; subst f4_; subst f5_))
      refine hK.out _ _ ⟨(blk_cell a0.out 0).trans rfl, (blk_cell a0.out 1).trans rfl, (blk_cell a0.out 2).trans rfl, (blk_cell a1.out 0).trans rfl, (blk_cell a1.out 1).trans rfl, (blk_cell a1.out 2).trans rfl⟩ (fun hHeld => ?_)
      clear hK K
      refine norm_ (a' := ?_) ?_ ?_
      rotate_left
      ·show Act.put _ (some 33) _ = _
       simp only [Act.put, List.setIfInBounds_toArray, List.set_cons_zero, List.set_cons_succ, i64_w, i32_w]
       rfl
      refine pure_ (i := 10) (N := some 34) (v := ?_) (a' := ?_) #[true, true, true, true, true, true, true, true, true, true, true, true, false] rfl rfl (any_of HT_.out (by kernel_rfl)) (fun _ _ _ h => h) (Or.inl ⟨by rfl, ?_⟩) ?_ ?_
      rotate_left
      ·intro w'
       go_simp
       with_reducible rfl
      rotate_left
      ·simp only [Act.put, List.setIfInBounds_toArray, List.set_cons_zero, List.set_cons_succ, i64_w, i32_w]
       rfl
      exact norm_ (by simp only [putAll, Act.put, List.setIfInBounds_toArray, List.set_cons_zero, List.set_cons_succ]) (hCont (.slice Q8 b3.length P1, a2) _ ⟨hHeld, (by (with_reducible repeat (first | apply Kd.R_alloc | apply Kd.R_drewN | apply Kd.R_drew)); exact h0.out), (by (with_reducible repeat (first | refine blk_drewN ?_ _ | refine blk_drew ?_ | refine blk_alloc ?_ _)); exact a0.out), (by (with_reducible repeat (first | refine blk_drewN ?_ _ | refine blk_drew ?_ | refine blk_alloc ?_ _)); exact a1.out), (by (with_reducible repeat (first | refine blk_drewN ?_ _ | refine blk_drew ?_ | refine blk_alloc ?_ _)); exact a4.out), (by (with_reducible repeat (first | refine blk_drewN ?_ _ | refine blk_drew ?_ | refine blk_alloc ?_ _)); exact a3.out), t5.out, d4.out, b7.out, e5.out, b8.out, e4.out, d3.out, e2.out, (by repeat (first | (with_reducible first | exact HB.out | apply below_alloc | apply pw_below_drewN | apply below_drew1 | refine below_set ?_ b9.out | refine below_set ?_ d1.out | refine below_set ?_ d2.out | refine below_set ?_ d4.out) | exact HB.out))⟩)
    rintro ⟨C9, a2⟩ g9 ⟨hS_, L8, L9, K7, M0, L3, L2, K5, L0, L1, J8, G3, I2, I7, G9⟩
    have d7 : Aside0 (Kd.R Kd.string 9 g9 w.heap.size (fun _ => True) C9 b3) := ⟨L8⟩
    have d9 : Aside0 (g9.heap[a6]? = some (.cells #[.int .i64 a0_0, .slice A0_1 l0_1.length c0_1, .slice A0_2 l0_2.length c0_2] 25 (0, 0))) := ⟨L9⟩
    have d8 : Aside0 (g9.heap[b0]? = some (.cells #[.int .i64 a1_0, .slice A1_1 l1_1.length c1_1, .slice A1_2 l1_2.length c1_2] 25 (0, 0))) := ⟨K7⟩
    have e0 : Aside0 (g9.heap[b1]? = some (.cells #[.int .i64 0, .slice none 0 0, .slice none 0 0] 25 (0, 0))) := ⟨M0⟩
    have e8 : Aside0 (g9.heap[a2]? = some (.cells #[.int .i64 0, .slice none 0 0, .slice none 0 0] 25 (0, 0))) := ⟨L3⟩
    have f3 : Aside0 (w.heap.size ≤ a2) := ⟨L2⟩
    have f4 : Aside0 (w.heap.size ≤ a2) := ⟨K5⟩
    have f5 : Aside0 (a6 ≠ a2) := ⟨L0⟩
    have f6 : Aside0 (a2 ≠ a6) := ⟨L1⟩
    have f7 : Aside0 (b0 ≠ a2) := ⟨J8⟩
    have g5 : Aside0 (a2 ≠ b0) := ⟨G3⟩
    have g4 : Aside0 (b1 ≠ a2) := ⟨I2⟩
    have g0 : Aside0 (a2 ≠ b1) := ⟨I7⟩
    have i3 : Aside0 (Below w.heap.size w g9) := ⟨G9⟩
    clear a0
    clear a1
    clear a4
    clear HB
    clear L8 L9 K7 M0 L3 L2 K5 L0 L1 J8 G3 I2 I7 G9
    have h0 := d7
    have a0 := d9
    have a1 := d8
    have a4 := e0
    have a3 := e8
    have t5 := f3
    have d4 := f4
    have b7 := f5
    have e5 := f6
    have b8 := f7
    have e4 := g5
    have d3 := g4
    have e2 := g0
    have HB := i3
    clear d7 d9 d8 e0 e8 f3 f4 f5 f6 f7 g5 g4 g0 i3
    have hHeld : g9.cell? ⟨a6, 0, none⟩ = some (.int .i64 a0_0) ∧ g9.cell? ⟨a6, 1, none⟩ = some (.slice A0_1 l0_1.length c0_1) ∧ g9.cell? ⟨a6, 2, none⟩ = some (.slice A0_2 l0_2.length c0_2) ∧ g9.cell? ⟨b0, 0, none⟩ = some (.int .i64 a1_0) ∧ g9.cell? ⟨b0, 1, none⟩ = some (.slice A1_1 l1_1.length c1_1) ∧ g9.cell? ⟨b0, 2, none⟩ = some (.slice A1_2 l1_2.length c1_2) := hS_
    obtain ⟨h3, e3, I1⟩ := Kd.R_slice h0.out
    (first | subst I1 | (injection I1 with f1_ f2_ f3_; have f4_ := f1_.symm; have f5_ := f3_.symm; clear f1_ f2_ f3_; subst f4_; subst f5_))
    refine norm_ (a' := ?_) ?_ ?_
    rotate_left
    ·simp only [putAll, Act.put, List.setIfInBounds_toArray, List.set_cons_zero, List.set_cons_succ]
     rfl
    refine one_ (i := 12) (N := none) #[true, true, true, true, true, true, true, true, true, true, true, true, true] rfl rfl (one_of HT_.out (by kernel_rfl)) (by decide) (fun K hK => ?_)
    have bW : g9.cell? ⟨a2, 0, none⟩ = some (.int .i64 0) := (blk_cell a3.out 0).trans rfl
    have aC := blk_frozen a3.out 0
    have S2 := b7.out
    have T5 := b8.out
    have T9 := d3.out
    have T2 := e5.out
    have T6 := e4.out
    have S5 := e2.out
    have bM : g9.cell? ⟨a2, 1, none⟩ = some (.slice none 0 0) := (blk_cell a3.out 1).trans rfl
    have bB := blk_frozen a3.out 1
    have S6 := b7.out
    have U2 := b8.out
    have S9 := d3.out
    have T0 := e5.out
    have S8 := e4.out
    have S4 := e2.out
    have bY : g9.cell? ⟨a2, 2, none⟩ = some (.slice none 0 0) := (blk_cell a3.out 2).trans rfl
    have aT := blk_frozen a3.out 2
    have T8 := b7.out
    have S3 := b8.out
    have U3 := d3.out
    have U4 := e5.out
    have S7 := e4.out
    have U0 := e2.out
    refine skip_ (w1 := ?_) (by rfl) rfl ?_ ?_
    rotate_left
    ·go_simp
     rfl
    refine hK.out _ _ ⟨((cell_far (p := ⟨a2, _, none⟩) b7.out _).trans (((cell_far (p := ⟨a2, _, none⟩) b7.out _).trans (((cell_far (p := ⟨a2, _, none⟩) b7.out _).trans (hHeld.1)))))), ((cell_far (p := ⟨a2, _, none⟩) b7.out _).trans (((cell_far (p := ⟨a2, _, none⟩) b7.out _).trans (((cell_far (p := ⟨a2, _, none⟩) b7.out _).trans (hHeld.2.1)))))), ((cell_far (p := ⟨a2, _, none⟩) b7.out _).trans (((cell_far (p := ⟨a2, _, none⟩) b7.out _).trans (((cell_far (p := ⟨a2, _, none⟩) b7.out _).trans (hHeld.2.2.1)))))), ((cell_far (p := ⟨a2, _, none⟩) b8.out _).trans (((cell_far (p := ⟨a2, _, none⟩) b8.out _).trans (((cell_far (p := ⟨a2, _, none⟩) b8.out _).trans (hHeld.2.2.2.1)))))), ((cell_far (p := ⟨a2, _, none⟩) b8.out _).trans (((cell_far (p := ⟨a2, _, none⟩) b8.out _).trans (((cell_far (p := ⟨a2, _, none⟩) b8.out _).trans (hHeld.2.2.2.2.1)))))), ((cell_far (p := ⟨a2, _, none⟩) b8.out _).trans (((cell_far (p := ⟨a2, _, none⟩) b8.out _).trans (((cell_far (p := ⟨a2, _, none⟩) b8.out _).trans (hHeld.2.2.2.2.2))))))⟩ (fun hHeld => ?_)
    clear hK K
    refine done_ (done_of HT_.out (by kernel_rfl)) ?_
    go_upto_region 4 with (fail)
    go_cut [43] (fun U8 wc => ∃ (kq : Nat) (q0 : Bool), U8 = .bool q0 ∧ Aside0 (Pxg.j1 kq q0 a0_0 l0_1 l0_2 a1_0 l1_1 l1_2 (wrap64 (a0_0 * a1_0)) b3 = some (r1, r2, r3, r4)) ∧ Aside0 (kq ≤ kj2) ∧ Aside0 (Kd.R Kd.string 9 wc w.heap.size (fun _ => True) (.slice h3 b3.length e3) b3) ∧ Aside0 (wc.heap[a6]? = some (.cells #[.int .i64 a0_0, (.slice A0_1 l0_1.length c0_1), (.slice A0_2 l0_2.length c0_2)] 25 (0, 0))) ∧ Aside0 (wc.heap[b0]? = some (.cells #[.int .i64 a1_0, (.slice A1_1 l1_1.length c1_1), (.slice A1_2 l1_2.length c1_2)] 25 (0, 0))) ∧ Aside0 (wc.heap[b1]? = some (.cells #[.int .i64 0, (.slice none 0 0), (.slice none 0 0)] 25 (0, 0))) ∧ Aside0 (wc.heap[a2]? = some (.cells #[.int .i64 (wrap64 (a0_0 * a1_0)), (.slice h3 b3.length e3), (.slice none 0 0)] 25 (0, 0))) ∧ Aside0 (Below w.heap.size w wc))
    case first =>
     have H := D2.out
     clear D2
     by_cases p4 : (wrap64 (a0_0 * a1_0)) > 2048
     ·rw [if_pos p4] at H
      have c36b0 : decide (2048 < (wrap64 (a0_0 * a1_0))) = true := decide_eq_true p4
      clear p4
      (first | rw [c36b0] | (simp only [i64_w, i32_w]; rw [c36b0]) | skip)
      have H' := Aside0.mk H
      clear H
      have ba := e5.out
      have ac := b7.out
      have ad := e4.out
      have ax := b8.out
      have bg := e2.out
      have bo := d3.out
      have n3 : g9.cell? ⟨a2, 0, none⟩ = some (.int .i64 0) := (blk_cell a3.out 0).trans rfl
      have o7 : g9.cell? ⟨a2, 1, none⟩ = some (.slice none 0 0) := (blk_cell a3.out 1).trans rfl
      have o0 : g9.cell? ⟨a2, 2, none⟩ = some (.slice none 0 0) := (blk_cell a3.out 2).trans rfl
      have o6 := blk_frozen a3.out 0
      have o8 := blk_frozen a3.out 1
      have o9 := blk_frozen a3.out 2
      go_wp2
      go_meet
      case rel => exact ⟨_, (true), (by first | rfl | (simp; done) | (simp [*]; done)), H', ⟨by have := t0.out; first | omega | exact Nat.le_refl _⟩, ⟨by (with_reducible repeat (first | apply Kd.R_alloc | apply Kd.R_drewN | apply Kd.R_drew)); exact Kd.R_mono (Kd.R_far (p := ⟨a2, 2, none⟩) (Kd.R_far (p := ⟨a2, 1, none⟩) (Kd.R_far (p := ⟨a2, 0, none⟩) (Kd.R_types h0.out a3.out (by decide)) (fun _ hk => hk.2) (.int .i64 (wrap64 (a0_0 * a1_0)))) (fun _ hk => hk.2) (.slice h3 b3.length e3)) (fun _ hk => hk.2) (.slice none 0 0)) (fun _ hk => trivial)⟩, ⟨by (with_reducible repeat (first | refine blk_drewN ?_ _ | refine blk_drew ?_ | refine blk_alloc ?_ _)); refine blk_far ?_ b7.out _; (with_reducible repeat (first | refine blk_drewN ?_ _ | refine blk_drew ?_ | refine blk_alloc ?_ _)); refine blk_far ?_ b7.out _; (with_reducible repeat (first | refine blk_drewN ?_ _ | refine blk_drew ?_ | refine blk_alloc ?_ _)); refine blk_far ?_ b7.out _; (with_reducible repeat (first | refine blk_drewN ?_ _ | refine blk_drew ?_ | refine blk_alloc ?_ _)); exact a0.out⟩, ⟨by (with_reducible repeat (first | refine blk_drewN ?_ _ | refine blk_drew ?_ | refine blk_alloc ?_ _)); refine blk_far ?_ b8.out _; (with_reducible repeat (first | refine blk_drewN ?_ _ | refine blk_drew ?_ | refine blk_alloc ?_ _)); refine blk_far ?_ b8.out _; (with_reducible repeat (first | refine blk_drewN ?_ _ | refine blk_drew ?_ | refine blk_alloc ?_ _)); refine blk_far ?_ b8.out _; (with_reducible repeat (first | refine blk_drewN ?_ _ | refine blk_drew ?_ | refine blk_alloc ?_ _)); exact a1.out⟩, ⟨by (with_reducible repeat (first | refine blk_drewN ?_ _ | refine blk_drew ?_ | refine blk_alloc ?_ _)); refine blk_far ?_ d3.out _; (with_reducible repeat (first | refine blk_drewN ?_ _ | refine blk_drew ?_ | refine blk_alloc ?_ _)); refine blk_far ?_ d3.out _; (with_reducible repeat (first | refine blk_drewN ?_ _ | refine blk_drew ?_ | refine blk_alloc ?_ _)); refine blk_far ?_ d3.out _; (with_reducible repeat (first | refine blk_drewN ?_ _ | refine blk_drew ?_ | refine blk_alloc ?_ _)); exact a4.out⟩, ⟨by (with_reducible repeat (first | refine blk_drewN ?_ _ | refine blk_drew ?_ | refine blk_alloc ?_ _)); refine blk_put (cs := #[.int .i64 (wrap64 (a0_0 * a1_0)), .slice h3 b3.length e3, .slice none 0 0]) ?_ 2 _ rfl; (with_reducible repeat (first | refine blk_drewN ?_ _ | refine blk_drew ?_ | refine blk_alloc ?_ _)); refine blk_put (cs := #[.int .i64 (wrap64 (a0_0 * a1_0)), .slice none 0 0, .slice none 0 0]) ?_ 1 _ rfl; (with_reducible repeat (first | refine blk_drewN ?_ _ | refine blk_drew ?_ | refine blk_alloc ?_ _)); refine blk_put (cs := #[.int .i64 0, .slice none 0 0, .slice none 0 0]) ?_ 0 _ rfl; (with_reducible repeat (first | refine blk_drewN ?_ _ | refine blk_drew ?_ | refine blk_alloc ?_ _)); exact a3.out⟩, ⟨by repeat (first | (with_reducible first | exact HB.out | apply below_alloc | apply pw_below_drewN | apply below_drew1 | refine below_set ?_ b9.out | refine below_set ?_ d1.out | refine below_set ?_ d2.out | refine below_set ?_ d4.out) | exact HB.out)⟩⟩
     ·rw [if_neg p4] at H
      have c36b0 : decide (2048 < (wrap64 (a0_0 * a1_0))) = false := decide_eq_false p4
      clear p4
      (first | rw [c36b0] | (simp only [i64_w, i32_w]; rw [c36b0]) | skip)
      have H' := Aside0.mk H
      clear H
      have ay := e5.out
      have aG := b7.out
      have af := e4.out
      have aX := b8.out
      have bm := e2.out
      have aV := d3.out
      have o5 : g9.cell? ⟨a2, 0, none⟩ = some (.int .i64 0) := (blk_cell a3.out 0).trans rfl
      have n5 : g9.cell? ⟨a2, 1, none⟩ = some (.slice none 0 0) := (blk_cell a3.out 1).trans rfl
      have n9 : g9.cell? ⟨a2, 2, none⟩ = some (.slice none 0 0) := (blk_cell a3.out 2).trans rfl
      have o2 := blk_frozen a3.out 0
      have o4 := blk_frozen a3.out 1
      have p3 := blk_frozen a3.out 2
      go_wp2
      go_meet
      case rel => exact ⟨_, (decide ((b3.length : Int) > 64)), (by first | rfl | (simp; done) | (simp [*]; done)), H', ⟨by have := t0.out; first | omega | exact Nat.le_refl _⟩, ⟨by (with_reducible repeat (first | apply Kd.R_alloc | apply Kd.R_drewN | apply Kd.R_drew)); exact Kd.R_mono (Kd.R_far (p := ⟨a2, 2, none⟩) (Kd.R_far (p := ⟨a2, 1, none⟩) (Kd.R_far (p := ⟨a2, 0, none⟩) (Kd.R_types h0.out a3.out (by decide)) (fun _ hk => hk.2) (.int .i64 (wrap64 (a0_0 * a1_0)))) (fun _ hk => hk.2) (.slice h3 b3.length e3)) (fun _ hk => hk.2) (.slice none 0 0)) (fun _ hk => trivial)⟩, ⟨by (with_reducible repeat (first | refine blk_drewN ?_ _ | refine blk_drew ?_ | refine blk_alloc ?_ _)); refine blk_far ?_ b7.out _; (with_reducible repeat (first | refine blk_drewN ?_ _ | refine blk_drew ?_ | refine blk_alloc ?_ _)); refine blk_far ?_ b7.out _; (with_reducible repeat (first | refine blk_drewN ?_ _ | refine blk_drew ?_ | refine blk_alloc ?_ _)); refine blk_far ?_ b7.out _; (with_reducible repeat (first | refine blk_drewN ?_ _ | refine blk_drew ?_ | refine blk_alloc ?_ _)); exact a0.out⟩, ⟨by (with_reducible repeat (first | refine blk_drewN ?_ _ | refine blk_drew ?_ | refine blk_alloc ?_ _)); refine blk_far ?_ b8.out _; (with_reducible repeat (first | refine blk_drewN ?_ _ | refine blk_drew ?_ | refine blk_alloc ?_ _)); refine blk_far ?_ b8.out _; (with_reducible repeat (first | refine blk_drewN ?_ _ | refine blk_drew ?_ | refine blk_alloc ?_ _)); refine blk_far ?_ b8.out _; (with_reducible repeat (first | refine blk_drewN ?_ _ | refine blk_drew ?_ | refine blk_alloc ?_ _)); exact a1.out⟩, ⟨by (with_reducible repeat (first | refine blk_drewN ?_ _ | refine blk_drew ?_ | refine blk_alloc ?_ _)); refine blk_far ?_ d3.out _; (with_reducible repeat (first | refine blk_drewN ?_ _ | refine blk_drew ?_ | refine blk_alloc ?_ _)); refine blk_far ?_ d3.out _; (with_reducible repeat (first | refine blk_drewN ?_ _ | refine blk_drew ?_ | refine blk_alloc ?_ _)); refine blk_far ?_ d3.out _; (with_reducible repeat (first | refine blk_drewN ?_ _ | refine blk_drew ?_ | refine blk_alloc ?_ _)); exact a4.out⟩, ⟨by (with_reducible repeat (first | refine blk_drewN ?_ _ | refine blk_drew ?_ | refine blk_alloc ?_ _)); refine blk_put (cs := #[.int .i64 (wrap64 (a0_0 * a1_0)), .slice h3 b3.length e3, .slice none 0 0]) ?_ 2 _ rfl; (with_reducible repeat (first | refine blk_drewN ?_ _ | refine blk_drew ?_ | refine blk_alloc ?_ _)); refine blk_put (cs := #[.int .i64 (wrap64 (a0_0 * a1_0)), .slice none 0 0, .slice none 0 0]) ?_ 1 _ rfl; (with_reducible repeat (first | refine blk_drewN ?_ _ | refine blk_drew ?_ | refine blk_alloc ?_ _)); refine blk_put (cs := #[.int .i64 0, .slice none 0 0, .slice none 0 0]) ?_ 0 _ rfl; (with_reducible repeat (first | refine blk_drewN ?_ _ | refine blk_drew ?_ | refine blk_alloc ?_ _)); exact a3.out⟩, ⟨by repeat (first | (with_reducible first | exact HB.out | apply below_alloc | apply pw_below_drewN | apply below_drew1 | refine below_set ?_ b9.out | refine below_set ?_ d1.out | refine below_set ?_ d2.out | refine below_set ?_ d4.out) | exact HB.out)⟩⟩
    case rest =>
     clear D2
     try clear c1
     try clear c2
     try clear p2
     try clear c3
     try clear c4
     try clear p6
     try clear c8
     try clear c8b0
     try clear c8b1
     try clear c10
     try clear E7
     try clear E6
     try clear E4
     try clear E8
     try clear E9
     try clear t1
     try clear H7
     try clear I0
     try clear H3
     try clear p4
     try clear c36b0
     try clear H4
     try clear I3
     try clear H9
     try clear H0
     try clear G6
     try clear G5
     try clear k6
     try clear k2
     try clear l4
     try clear k7
     try clear j9
     try clear k0
     try clear l7
     try clear l5
     try clear l3
     try clear n4
     try clear n7
     try clear p0
     try clear n3
     try clear o7
     try clear o0
     try clear o5
     try clear n5
     try clear n9
     try clear j5
     try clear k1
     try clear j7
     try clear k9
     try clear j4
     try clear j8
     try clear j6
     try clear k8
     try clear l6
     try clear o1
     try clear o3
     try clear n2
     try clear o6
     try clear o8
     try clear o9
     try clear o2
     try clear o4
     try clear p3
     try clear p2
     obtain ⟨kq, q0, rfl, HA, q8, b6, a0, a1, a4, a3, HB⟩ := hcut
     cases kq with
     | zero => exact absurd HA.out (by simp [Pxg.j1])
     | succ kj25 =>
      have H := HA.out
      clear HA
      simp only [Pxg.j1] at H
      by_cases v0 : q0 = true
      ·subst v0
       have H1 : (some (0, ([] : List ByteArray), ([] : List (S51)), 8)) = some (r1, r2, r3, r4) := by rw [if_pos rfl] at H; exact H
       clear H
       have H := H1
       clear H1
       simp only [Option.some.injEq, Prod.mk.injEq] at H
       obtain ⟨rfl, rfl, rfl, rfl⟩ := H
       have aM := g6.out
       have aZ := g1.out
       have bd := g2.out
       have ak := g8.out
       have av := d3.out
       have bh := e2.out
       have s6 : wc.cell? ⟨b1, 0, none⟩ = some (.int .i64 0) := (blk_cell a4.out 0).trans rfl
       have r7 : wc.cell? ⟨b1, 1, none⟩ = some (.slice none 0 0) := (blk_cell a4.out 1).trans rfl
       have q3 : wc.cell? ⟨b1, 2, none⟩ = some (.slice none 0 0) := (blk_cell a4.out 2).trans rfl
       have r9 := blk_frozen a4.out 0
       have r0 := blk_frozen a4.out 1
       have r6 := blk_frozen a4.out 2
       go_wp2
       refine bodyPost_ret (results_ct rfl _ _ b1 25 #[.int .i64 0, .slice none 0 0, .slice none 0 0] (0, 0) _ rfl (by (with_reducible repeat (first | refine blk_drewN ?_ _ | refine blk_drew ?_ | refine blk_alloc ?_ _)); refine blk_put (cs := #[.int .i64 0, .slice none 0 0, .slice none 0 0]) ?_ 2 _ rfl; (with_reducible repeat (first | refine blk_drewN ?_ _ | refine blk_drew ?_ | refine blk_alloc ?_ _)); refine blk_put (cs := #[.int .i64 0, .slice none 0 0, .slice none 0 0]) ?_ 1 _ rfl; (with_reducible repeat (first | refine blk_drewN ?_ _ | refine blk_drew ?_ | refine blk_alloc ?_ _)); refine blk_put (cs := #[.int .i64 0, .slice none 0 0, .slice none 0 0]) ?_ 0 _ rfl; (with_reducible repeat (first | refine blk_drewN ?_ _ | refine blk_drew ?_ | refine blk_alloc ?_ _)); exact a4.out) Try.underlying25 rfl (by kernel_rfl)) rfl ?_
       exact ⟨_, _, by first | rfl | (simp [errW_none, errW_some] <;> rfl) | (simp [*, errW_none, errW_some] <;> rfl), by first | exact Kd.R_nil _ _ _ _ _ | exact Kd.N_nil _ _ _ _ _ | exact Kd.V_nil _ _ _ _ _ | exact Kd.Q_nil _ _ _ _ _ | exact Kd.S_nil _ _ _ _ _, by first | exact Kd.R_nil _ _ _ _ _ | exact Kd.N_nil _ _ _ _ _ | exact Kd.V_nil _ _ _ _ _ | exact Kd.Q_nil _ _ _ _ _ | exact Kd.S_nil _ _ _ _ _, by repeat (first | (with_reducible first | exact HB.out | apply below_alloc | apply pw_below_drewN | apply below_drew1 | refine below_set ?_ b9.out | refine below_set ?_ d1.out | refine below_set ?_ d2.out | refine below_set ?_ d4.out) | exact HB.out)⟩
      ·replace v0 := Bool.eq_false_iff.mpr v0
       subst v0
       have H1 : (Pxg.l0 kj25 b3 (b3.length : Int) 0 a0_0 l0_1 l0_2 a1_0 l1_1 l1_2 (wrap64 (a0_0 * a1_0)) b3 ([] : List (S51))) = some (r1, r2, r3, r4) := by rw [if_neg (show ¬ (false = true) by decide)] at H; exact H
       clear H
       have H := H1
       clear H1
       have H' := Aside0.mk H
       clear H
       have aY := e5.out
       have bk := b7.out
       have aU := e4.out
       have bI := b8.out
       have bf := e2.out
       have aK := d3.out
       have q9 : wc.cell? ⟨a2, 0, none⟩ = some (.int .i64 (wrap64 (a0_0 * a1_0))) := (blk_cell a3.out 0).trans rfl
       have q4 : wc.cell? ⟨a2, 1, none⟩ = some (.slice h3 b3.length e3) := (blk_cell a3.out 1).trans rfl
       have s7 : wc.cell? ⟨a2, 2, none⟩ = some (.slice none 0 0) := (blk_cell a3.out 2).trans rfl
       have q5 := blk_frozen a3.out 0
       have q7 := blk_frozen a3.out 1
       have q6 := blk_frozen a3.out 2
       go_wp2
       go_loopg [48] kj25 (fun kq Y2 w' => ∃ (d6 : Int) (d5 : Int) (e7 : List (S51)) (d0 : Value), Y2 = .int .i64 d6 ∧ Aside0 (Pxg.l0 kq b3 (b3.length : Int) d6 a0_0 l0_1 l0_2 a1_0 l1_1 l1_2 (wrap64 (a0_0 * a1_0)) b3 e7 = some (r1, r2, r3, r4)) ∧ Aside0 (kq ≤ kj25) ∧ Aside0 (Kd.R Kd.string 9 w' w.heap.size (fun _ => True) (.slice h3 b3.length e3) b3) ∧ Aside0 (Kd.R Kd.string 9 w' w.heap.size (fun _ => True) (.slice h3 b3.length e3) b3) ∧ Aside0 (Kd.R k51 51 w' w.heap.size (fun _ => True) d0 e7) ∧ Aside0 (w'.heap[a6]? = some (.cells #[.int .i64 a0_0, (.slice A0_1 l0_1.length c0_1), (.slice A0_2 l0_2.length c0_2)] 25 (0, 0))) ∧ Aside0 (w'.heap[b0]? = some (.cells #[.int .i64 a1_0, (.slice A1_1 l1_1.length c1_1), (.slice A1_2 l1_2.length c1_2)] 25 (0, 0))) ∧ Aside0 (w'.heap[b1]? = some (.cells #[.int .i64 d5, (.slice none 0 0), (.slice none 0 0)] 25 (0, 0))) ∧ Aside0 (w'.heap[a2]? = some (.cells #[.int .i64 (wrap64 (a0_0 * a1_0)), (.slice h3 b3.length e3), d0] 25 (0, 0))) ∧ Aside0 (Below w.heap.size w w'))
       case atStart => exact ⟨(0), (0), (([] : List (S51))), (.slice none 0 0), (by first | rfl | (simp; done) | (simp [*]; done)), H', ⟨Nat.le_refl _⟩, ⟨by (with_reducible repeat (first | apply Kd.R_alloc | apply Kd.R_drewN | apply Kd.R_drew)); exact b6.out⟩, ⟨by (with_reducible repeat (first | apply Kd.R_alloc | apply Kd.R_drewN | apply Kd.R_drew)); exact b6.out⟩, ⟨by first | exact Kd.R_nil _ _ _ _ _ | exact Kd.N_nil _ _ _ _ _ | exact Kd.V_nil _ _ _ _ _ | exact Kd.Q_nil _ _ _ _ _ | exact Kd.S_nil _ _ _ _ _⟩, ⟨by (with_reducible repeat (first | refine blk_drewN ?_ _ | refine blk_drew ?_ | refine blk_alloc ?_ _)); exact a0.out⟩, ⟨by (with_reducible repeat (first | refine blk_drewN ?_ _ | refine blk_drew ?_ | refine blk_alloc ?_ _)); exact a1.out⟩, ⟨by (with_reducible repeat (first | refine blk_drewN ?_ _ | refine blk_drew ?_ | refine blk_alloc ?_ _)); exact a4.out⟩, ⟨by (with_reducible repeat (first | refine blk_drewN ?_ _ | refine blk_drew ?_ | refine blk_alloc ?_ _)); exact a3.out⟩, ⟨by repeat (first | (with_reducible first | exact HB.out | apply below_alloc | apply pw_below_drewN | apply below_drew1 | refine below_set ?_ b9.out | refine below_set ?_ d1.out | refine below_set ?_ d2.out | refine below_set ?_ d4.out) | exact HB.out)⟩⟩
       case round =>
        clear H'
        try clear c1
        try clear c2
        try clear p2
        try clear c3
        try clear c4
        try clear c5
        try clear p6
        try clear c8
        try clear c8b0
        try clear c8b1
        try clear c10
        try clear E7
        try clear E6
        try clear E4
        try clear E8
        try clear E9
        try clear t1
        try clear H7
        try clear I0
        try clear H3
        try clear p4
        try clear c36b0
        try clear H4
        try clear I3
        try clear H9
        try clear H0
        try clear G6
        try clear G5
        try clear v0
        try clear K0
        try clear L5
        try clear K9
        try clear K8
        try clear K3
        try clear J9
        try clear k6
        try clear k2
        try clear l4
        try clear k7
        try clear j9
        try clear k0
        try clear l7
        try clear l5
        try clear l3
        try clear n4
        try clear n7
        try clear p0
        try clear n3
        try clear o7
        try clear o0
        try clear o5
        try clear n5
        try clear n9
        try clear s6
        try clear r7
        try clear q3
        try clear q9
        try clear q4
        try clear s7
        try clear j5
        try clear k1
        try clear j7
        try clear k9
        try clear j4
        try clear j8
        try clear j6
        try clear k8
        try clear l6
        try clear o1
        try clear o3
        try clear n2
        try clear o6
        try clear o8
        try clear o9
        try clear o2
        try clear o4
        try clear p3
        try clear r9
        try clear r0
        try clear r6
        try clear q5
        try clear q7
        try clear q6
        try clear p2
        try clear p6
        obtain ⟨d6, d5, e7, d0, rfl, HA, v6, e1, b6, a5, a0, a1, a4, a3, HB⟩ := hrel
        cases gk with
        | zero => exact absurd HA.out (by simp [Pxg.l0])
        | succ k3 =>
         have H := HA.out
         clear HA
         simp only [Pxg.l0] at H
         by_cases t2 : d6 < (b3.length : Int)
         ·rw [if_pos t2] at H
          have c54b0 : decide (d6 < (b3.length : Int)) = true := decide_eq_true t2
          clear t2
          by_cases z3 : 0 ≤ d6
          ·rw [if_pos z3] at H
           have c55b0 : decide (0 ≤ d6) = true := decide_eq_true z3
           clear z3
           by_cases w3 : d6 < (b3.length : Int)
           ·rw [if_pos w3] at H
            have c56b0 : decide (d6 < (b3.length : Int)) = true := decide_eq_true w3
            clear w3
            replace H := Option.bind_eq_some_iff.mp H
            obtain ⟨⟨a9, a8⟩, G7, H⟩ := H
            replace H : (if (wrap64 ((e7.length : Int) + (wrap64 ((a9.length : Int) * (a8.length : Int))))) > 1000000 then (some (0, ([] : List ByteArray), ([] : List (S51)), 8)) else (Pxg.l1 k3 d6 a8 b3 (b3.length : Int) d6 a9 (a9.length : Int) 0 a0_0 l0_1 l0_2 a1_0 l1_1 l1_2 (wrap64 (a0_0 * a1_0)) b3 e7)) = some (r1, r2, r3, r4) := H
            have K4 := Aside0.mk G7
            clear G7
            by_cases s9 : (wrap64 ((e7.length : Int) + (wrap64 ((a9.length : Int) * (a8.length : Int))))) > 1000000
            ·rw [if_pos s9] at H
             have c58b0 : decide (1000000 < (wrap64 ((e7.length : Int) + (wrap64 ((a9.length : Int) * (a8.length : Int)))))) = true := decide_eq_true s9
             clear s9
             simp only [Option.some.injEq, Prod.mk.injEq] at H
             obtain ⟨rfl, rfl, rfl, rfl⟩ := H
             have m6 : 0 ≤ (d6 : Int) := of_decide_eq_true (by first | (with_reducible assumption) | assumption)
             have l8 : d6 < (b3.length : Int) := of_decide_eq_true (by first | (with_reducible assumption) | assumption)
             obtain ⟨e9, C8, r5⟩ := Kd.at_string (Kd.R_reads' e1.out).2.2 d6 m6 l8
             cases C8
             replace m6 := eq_true m6
             replace l8 := eq_true l8
             have bn := i1.out
             have ar := h5.out
             have ah := g1.out
             have bl := g6.out
             have aH := b7.out
             have aR := e5.out
             have v9 : wr.cell? ⟨a6, 0, none⟩ = some (.int .i64 a0_0) := (blk_cell a0.out 0).trans rfl
             have y5 : wr.cell? ⟨a6, 1, none⟩ = some (.slice A0_1 l0_1.length c0_1) := (blk_cell a0.out 1).trans rfl
             have v5 : wr.cell? ⟨a6, 2, none⟩ = some (.slice A0_2 l0_2.length c0_2) := (blk_cell a0.out 2).trans rfl
             have x2 := blk_frozen a0.out 0
             have z2 := blk_frozen a0.out 1
             have x8 := blk_frozen a0.out 2
             have aN := g8.out
             have aq := g2.out
             have am := b8.out
             have ao := e4.out
             have w8 : wr.cell? ⟨b0, 0, none⟩ = some (.int .i64 a1_0) := (blk_cell a1.out 0).trans rfl
             have A2 : wr.cell? ⟨b0, 1, none⟩ = some (.slice A1_1 l1_1.length c1_1) := (blk_cell a1.out 1).trans rfl
             have y8 : wr.cell? ⟨b0, 2, none⟩ = some (.slice A1_2 l1_2.length c1_2) := (blk_cell a1.out 2).trans rfl
             have A3 := blk_frozen a1.out 0
             have A5 := blk_frozen a1.out 1
             have z8 := blk_frozen a1.out 2
             go_wp2_with (first | ((with_reducible refine gate_callee (f := 47) rfl ?_); refine goesL_ (some 57) rfl rfl Try.func47 (by kernel_rfl) rfl #[.agg #[.int .i64 a0_0, .slice A0_1 l0_1.length c0_1, .slice A0_2 l0_2.length c0_2], .agg #[.int .i64 a1_0, .slice A1_1 l1_1.length c1_1, .slice A1_2 l1_2.length c1_2], .string (rdOf ByteArray.empty b3 d6)] rfl (by (try simp only [List.map_toArray, List.map_cons, List.map_nil]); first | done | rfl | (simp only [List.length_drop, List.length_take]; rfl)) ?_; (with_reducible refine (Pxd.calls k3 a0_0 _ _ l0_1 _ _ l0_2 a1_0 _ _ l1_1 _ _ l1_2 (rdOf ByteArray.empty b3 d6) a9 a8 _ ?m2 ?l9 ?m4 ?m1 ?J0 ?J6 ?J4 ?J7 K4.out).mono ?_); (case m2 => repeat (first | exact (Kd.C_below n8.out HB.out) | (with_reducible refine Kd.C_alloc ?_ _) | (with_reducible refine Kd.C_drewN ?_ _) | (with_reducible refine Kd.C_drew ?_))); (case l9 => exact n6.out); (case m4 => repeat (first | exact (Kd.C_below u3.out HB.out) | (with_reducible refine Kd.C_alloc ?_ _) | (with_reducible refine Kd.C_drewN ?_ _) | (with_reducible refine Kd.C_drew ?_))); (case m1 => exact t7.out); (case J0 => repeat (first | exact (Kd.C_below p9.out HB.out) | (with_reducible refine Kd.C_alloc ?_ _) | (with_reducible refine Kd.C_drewN ?_ _) | (with_reducible refine Kd.C_drew ?_))); (case J6 => exact q2.out); (case J4 => repeat (first | exact (Kd.C_below B2.out HB.out) | (with_reducible refine Kd.C_alloc ?_ _) | (with_reducible refine Kd.C_drewN ?_ _) | (with_reducible refine Kd.C_drew ?_))); (case J7 => exact B0.out); rintro e w2 ⟨O4, O8, rfl, h2, n0, hb⟩; refine ⟨_, rfl, ?_⟩; have d7 := Aside0.mk (Kd.R_below (by (with_reducible repeat (first | apply Kd.R_alloc | apply Kd.R_drewN | apply Kd.R_drew)); exact e1.out) hb); have d9 := Aside0.mk (Kd.R_below (by (with_reducible repeat (first | apply Kd.R_alloc | apply Kd.R_drewN | apply Kd.R_drew)); exact b6.out) hb); have d8 := Aside0.mk (Kd.R_mono (Kd.R_told (Kd.R_told (Kd.R_old (by (with_reducible repeat (first | apply Kd.R_alloc | apply Kd.R_drewN | apply Kd.R_drew)); exact a5.out) hb) (Kd.R_base h2)) (Kd.R_base n0)) (fun _ h_ => h_.1)); have e0 := Aside0.mk (Kd.R_lower (Kd.R_new' h2 (Kd.R_lt (by (with_reducible repeat (first | apply Kd.R_alloc | apply Kd.R_drewN | apply Kd.R_drew)); exact a5.out))) (below_size (by repeat (first | (with_reducible first | exact HB.out | apply below_alloc | apply pw_below_drewN | apply below_drew1 | refine below_set ?_ b9.out | refine below_set ?_ d1.out | refine below_set ?_ d2.out | refine below_set ?_ d4.out) | exact HB.out)))); have e8 := Aside0.mk (Kd.R_lower (Kd.R_new' n0 (Kd.R_lt (by (with_reducible repeat (first | apply Kd.R_alloc | apply Kd.R_drewN | apply Kd.R_drew)); exact a5.out))) (below_size (by repeat (first | (with_reducible first | exact HB.out | apply below_alloc | apply pw_below_drewN | apply below_drew1 | refine below_set ?_ b9.out | refine below_set ?_ d1.out | refine below_set ?_ d2.out | refine below_set ?_ d4.out) | exact HB.out)))); have f3 := Aside0.mk (blk_below (g := a6) (o := .cells #[.int .i64 a0_0, .slice A0_1 l0_1.length c0_1, .slice A0_2 l0_2.length c0_2] 25 (0, 0)) (by (with_reducible repeat (first | refine blk_drewN ?_ _ | refine blk_drew ?_ | refine blk_alloc ?_ _)); exact a0.out) hb); have f4 := Aside0.mk (blk_below (g := b0) (o := .cells #[.int .i64 a1_0, .slice A1_1 l1_1.length c1_1, .slice A1_2 l1_2.length c1_2] 25 (0, 0)) (by (with_reducible repeat (first | refine blk_drewN ?_ _ | refine blk_drew ?_ | refine blk_alloc ?_ _)); exact a1.out) hb); have f5 := Aside0.mk (blk_below (g := b1) (o := .cells #[.int .i64 d5, .slice none 0 0, .slice none 0 0] 25 (0, 0)) (by (with_reducible repeat (first | refine blk_drewN ?_ _ | refine blk_drew ?_ | refine blk_alloc ?_ _)); exact a4.out) hb); have f6 := Aside0.mk (blk_below (g := a2) (o := .cells #[.int .i64 (wrap64 (a0_0 * a1_0)), .slice (some e9) b3.length e3, d0] 25 (0, 0)) (by (with_reducible repeat (first | refine blk_drewN ?_ _ | refine blk_drew ?_ | refine blk_alloc ?_ _)); exact a3.out) hb); have f7 := Aside0.mk (below_step (by repeat (first | (with_reducible first | exact HB.out | apply below_alloc | apply pw_below_drewN | apply below_drew1 | refine below_set ?_ b9.out | refine below_set ?_ d1.out | refine below_set ?_ d2.out | refine below_set ?_ d4.out) | exact HB.out)) hb); clear e1; clear b6; clear a5; clear a0; clear a1; clear a4; clear a3; clear HB; have e1 := d7; have b6 := d9; have a5 := d8; have t9 := e0; have u0 := e8; have a0 := f3; have a1 := f4; have a4 := f5; have a3 := f6; have HB := f7; clear d7 d9 d8 e0 e8 f3 f4 f5 f6 f7; (try clear hb); (try clear u8); (try clear hk); (try clear hi); (try clear h2); (try clear n0); have bK := e2.out; have aA := d3.out; have w9 : w2.cell? ⟨a2, 0, none⟩ = some (.int .i64 (wrap64 (a0_0 * a1_0))) := (blk_cell a3.out 0).trans rfl; have x6 : w2.cell? ⟨a2, 1, none⟩ = some (.slice (some e9) b3.length e3) := (blk_cell a3.out 1).trans rfl; have y9 : w2.cell? ⟨a2, 2, none⟩ = some (d0) := (blk_cell a3.out 2).trans rfl; have x7 := blk_frozen a3.out 0; have x5 := blk_frozen a3.out 1; have z4 := blk_frozen a3.out 2; obtain ⟨bP, bN, R6⟩ := Kd.R_slice a5.out; subst R6; obtain ⟨bR, bQ, N0⟩ := Kd.R_slice t9.out; subst N0; obtain ⟨bT, bZ, M3⟩ := Kd.R_slice u0.out; subst M3; have y2 : w2.cell? ⟨b1, 0, none⟩ = some (.int .i64 d5) := (blk_cell a4.out 0).trans rfl; have x9 : w2.cell? ⟨b1, 1, none⟩ = some (.slice none 0 0) := (blk_cell a4.out 1).trans rfl; have A6 : w2.cell? ⟨b1, 2, none⟩ = some (.slice none 0 0) := (blk_cell a4.out 2).trans rfl; have y7 := blk_frozen a4.out 0; have A1 := blk_frozen a4.out 1; have v7 := blk_frozen a4.out 2))
             refine bodyPost_ret (results_ct rfl _ _ b1 25 #[.int .i64 0, .slice none 0 0, .slice none 0 0] (0, 0) _ rfl (by (with_reducible repeat (first | refine blk_drewN ?_ _ | refine blk_drew ?_ | refine blk_alloc ?_ _)); refine blk_put (cs := #[.int .i64 0, .slice none 0 0, .slice none 0 0]) ?_ 2 _ rfl; (with_reducible repeat (first | refine blk_drewN ?_ _ | refine blk_drew ?_ | refine blk_alloc ?_ _)); refine blk_put (cs := #[.int .i64 0, .slice none 0 0, .slice none 0 0]) ?_ 1 _ rfl; (with_reducible repeat (first | refine blk_drewN ?_ _ | refine blk_drew ?_ | refine blk_alloc ?_ _)); refine blk_put (cs := #[.int .i64 d5, .slice none 0 0, .slice none 0 0]) ?_ 0 _ rfl; (with_reducible repeat (first | refine blk_drewN ?_ _ | refine blk_drew ?_ | refine blk_alloc ?_ _)); exact a4.out) Try.underlying25 rfl (by kernel_rfl)) rfl ?_
             exact ⟨_, _, by first | rfl | (simp [errW_none, errW_some] <;> rfl) | (simp [*, errW_none, errW_some] <;> rfl), by first | exact Kd.R_nil _ _ _ _ _ | exact Kd.N_nil _ _ _ _ _ | exact Kd.V_nil _ _ _ _ _ | exact Kd.Q_nil _ _ _ _ _ | exact Kd.S_nil _ _ _ _ _, by first | exact Kd.R_nil _ _ _ _ _ | exact Kd.N_nil _ _ _ _ _ | exact Kd.V_nil _ _ _ _ _ | exact Kd.Q_nil _ _ _ _ _ | exact Kd.S_nil _ _ _ _ _, by repeat (first | (with_reducible first | exact HB.out | apply below_alloc | apply pw_below_drewN | apply below_drew1 | refine below_set ?_ b9.out | refine below_set ?_ d1.out | refine below_set ?_ d2.out | refine below_set ?_ d4.out) | exact HB.out)⟩
            ·rw [if_neg s9] at H
             have c58b0 : decide (1000000 < (wrap64 ((e7.length : Int) + (wrap64 ((a9.length : Int) * (a8.length : Int)))))) = false := decide_eq_false s9
             clear s9
             have H' := Aside0.mk H
             clear H
             have m6 : 0 ≤ (d6 : Int) := of_decide_eq_true (by first | (with_reducible assumption) | assumption)
             have l8 : d6 < (b3.length : Int) := of_decide_eq_true (by first | (with_reducible assumption) | assumption)
             obtain ⟨e9, C8, r5⟩ := Kd.at_string (Kd.R_reads' e1.out).2.2 d6 m6 l8
             cases C8
             replace m6 := eq_true m6
             replace l8 := eq_true l8
             have bD := i1.out
             have an := h5.out
             have bG := g1.out
             have bw := g6.out
             have bF := b7.out
             have au := e5.out
             have x0 : wr.cell? ⟨a6, 0, none⟩ = some (.int .i64 a0_0) := (blk_cell a0.out 0).trans rfl
             have y4 : wr.cell? ⟨a6, 1, none⟩ = some (.slice A0_1 l0_1.length c0_1) := (blk_cell a0.out 1).trans rfl
             have x4 : wr.cell? ⟨a6, 2, none⟩ = some (.slice A0_2 l0_2.length c0_2) := (blk_cell a0.out 2).trans rfl
             have y3 := blk_frozen a0.out 0
             have z1 := blk_frozen a0.out 1
             have z9 := blk_frozen a0.out 2
             have az := g8.out
             have bv := g2.out
             have bq := b8.out
             have bA := e4.out
             have z7 : wr.cell? ⟨b0, 0, none⟩ = some (.int .i64 a1_0) := (blk_cell a1.out 0).trans rfl
             have y0 : wr.cell? ⟨b0, 1, none⟩ = some (.slice A1_1 l1_1.length c1_1) := (blk_cell a1.out 1).trans rfl
             have z6 : wr.cell? ⟨b0, 2, none⟩ = some (.slice A1_2 l1_2.length c1_2) := (blk_cell a1.out 2).trans rfl
             have v8 := blk_frozen a1.out 0
             have A4 := blk_frozen a1.out 1
             have w7 := blk_frozen a1.out 2
             go_wp2_with (first | ((with_reducible refine gate_callee (f := 47) rfl ?_); refine goesL_ (some 57) rfl rfl Try.func47 (by kernel_rfl) rfl #[.agg #[.int .i64 a0_0, .slice A0_1 l0_1.length c0_1, .slice A0_2 l0_2.length c0_2], .agg #[.int .i64 a1_0, .slice A1_1 l1_1.length c1_1, .slice A1_2 l1_2.length c1_2], .string (rdOf ByteArray.empty b3 d6)] rfl (by (try simp only [List.map_toArray, List.map_cons, List.map_nil]); first | done | rfl | (simp only [List.length_drop, List.length_take]; rfl)) ?_; (with_reducible refine (Pxd.calls k3 a0_0 _ _ l0_1 _ _ l0_2 a1_0 _ _ l1_1 _ _ l1_2 (rdOf ByteArray.empty b3 d6) a9 a8 _ ?m2 ?l9 ?m4 ?m1 ?J0 ?J6 ?J4 ?J7 K4.out).mono ?_); (case m2 => repeat (first | exact (Kd.C_below n8.out HB.out) | (with_reducible refine Kd.C_alloc ?_ _) | (with_reducible refine Kd.C_drewN ?_ _) | (with_reducible refine Kd.C_drew ?_))); (case l9 => exact n6.out); (case m4 => repeat (first | exact (Kd.C_below u3.out HB.out) | (with_reducible refine Kd.C_alloc ?_ _) | (with_reducible refine Kd.C_drewN ?_ _) | (with_reducible refine Kd.C_drew ?_))); (case m1 => exact t7.out); (case J0 => repeat (first | exact (Kd.C_below p9.out HB.out) | (with_reducible refine Kd.C_alloc ?_ _) | (with_reducible refine Kd.C_drewN ?_ _) | (with_reducible refine Kd.C_drew ?_))); (case J6 => exact q2.out); (case J4 => repeat (first | exact (Kd.C_below B2.out HB.out) | (with_reducible refine Kd.C_alloc ?_ _) | (with_reducible refine Kd.C_drewN ?_ _) | (with_reducible refine Kd.C_drew ?_))); (case J7 => exact B0.out); rintro e G2 ⟨O4, O8, rfl, h2, n0, hb⟩; refine ⟨_, rfl, ?_⟩; have d7 := Aside0.mk (Kd.R_below (by (with_reducible repeat (first | apply Kd.R_alloc | apply Kd.R_drewN | apply Kd.R_drew)); exact e1.out) hb); have d9 := Aside0.mk (Kd.R_below (by (with_reducible repeat (first | apply Kd.R_alloc | apply Kd.R_drewN | apply Kd.R_drew)); exact b6.out) hb); have d8 := Aside0.mk (Kd.R_mono (Kd.R_told (Kd.R_told (Kd.R_old (by (with_reducible repeat (first | apply Kd.R_alloc | apply Kd.R_drewN | apply Kd.R_drew)); exact a5.out) hb) (Kd.R_base h2)) (Kd.R_base n0)) (fun _ h_ => h_.1)); have e0 := Aside0.mk (Kd.R_lower (Kd.R_new' h2 (Kd.R_lt (by (with_reducible repeat (first | apply Kd.R_alloc | apply Kd.R_drewN | apply Kd.R_drew)); exact a5.out))) (below_size (by repeat (first | (with_reducible first | exact HB.out | apply below_alloc | apply pw_below_drewN | apply below_drew1 | refine below_set ?_ b9.out | refine below_set ?_ d1.out | refine below_set ?_ d2.out | refine below_set ?_ d4.out) | exact HB.out)))); have e8 := Aside0.mk (Kd.R_lower (Kd.R_new' n0 (Kd.R_lt (by (with_reducible repeat (first | apply Kd.R_alloc | apply Kd.R_drewN | apply Kd.R_drew)); exact a5.out))) (below_size (by repeat (first | (with_reducible first | exact HB.out | apply below_alloc | apply pw_below_drewN | apply below_drew1 | refine below_set ?_ b9.out | refine below_set ?_ d1.out | refine below_set ?_ d2.out | refine below_set ?_ d4.out) | exact HB.out)))); have f3 := Aside0.mk (blk_below (g := a6) (o := .cells #[.int .i64 a0_0, .slice A0_1 l0_1.length c0_1, .slice A0_2 l0_2.length c0_2] 25 (0, 0)) (by (with_reducible repeat (first | refine blk_drewN ?_ _ | refine blk_drew ?_ | refine blk_alloc ?_ _)); exact a0.out) hb); have f4 := Aside0.mk (blk_below (g := b0) (o := .cells #[.int .i64 a1_0, .slice A1_1 l1_1.length c1_1, .slice A1_2 l1_2.length c1_2] 25 (0, 0)) (by (with_reducible repeat (first | refine blk_drewN ?_ _ | refine blk_drew ?_ | refine blk_alloc ?_ _)); exact a1.out) hb); have f5 := Aside0.mk (blk_below (g := b1) (o := .cells #[.int .i64 d5, .slice none 0 0, .slice none 0 0] 25 (0, 0)) (by (with_reducible repeat (first | refine blk_drewN ?_ _ | refine blk_drew ?_ | refine blk_alloc ?_ _)); exact a4.out) hb); have f6 := Aside0.mk (blk_below (g := a2) (o := .cells #[.int .i64 (wrap64 (a0_0 * a1_0)), .slice (some e9) b3.length e3, d0] 25 (0, 0)) (by (with_reducible repeat (first | refine blk_drewN ?_ _ | refine blk_drew ?_ | refine blk_alloc ?_ _)); exact a3.out) hb); have f7 := Aside0.mk (below_step (by repeat (first | (with_reducible first | exact HB.out | apply below_alloc | apply pw_below_drewN | apply below_drew1 | refine below_set ?_ b9.out | refine below_set ?_ d1.out | refine below_set ?_ d2.out | refine below_set ?_ d4.out) | exact HB.out)) hb); clear e1; clear b6; clear a5; clear a0; clear a1; clear a4; clear a3; clear HB; have e1 := d7; have b6 := d9; have a5 := d8; have t9 := e0; have u0 := e8; have a0 := f3; have a1 := f4; have a4 := f5; have a3 := f6; have HB := f7; clear d7 d9 d8 e0 e8 f3 f4 f5 f6 f7; (try clear hb); (try clear u8); (try clear hk); (try clear hi); (try clear h2); (try clear n0); have ai := e2.out; have bE := d3.out; have y1 : G2.cell? ⟨a2, 0, none⟩ = some (.int .i64 (wrap64 (a0_0 * a1_0))) := (blk_cell a3.out 0).trans rfl; have A0 : G2.cell? ⟨a2, 1, none⟩ = some (.slice (some e9) b3.length e3) := (blk_cell a3.out 1).trans rfl; have z0 : G2.cell? ⟨a2, 2, none⟩ = some (d0) := (blk_cell a3.out 2).trans rfl; have y6 := blk_frozen a3.out 0; have x1 := blk_frozen a3.out 1; have A8 := blk_frozen a3.out 2; obtain ⟨O2, Q9, Q0⟩ := Kd.R_slice a5.out; subst Q0; obtain ⟨C7, i9, Q7⟩ := Kd.R_slice t9.out; subst Q7; obtain ⟨m8, h4, R4⟩ := Kd.R_slice u0.out; subst R4))
             go_loopg [73] k3 (fun kq V1 w' => ∃ (a7 : Int) (i0 : List (S51)) (d0 : Value), V1 = .int .i64 a7 ∧ Aside0 (Pxg.l1 kq d6 a8 b3 (b3.length : Int) d6 a9 (a9.length : Int) a7 a0_0 l0_1 l0_2 a1_0 l1_1 l1_2 (wrap64 (a0_0 * a1_0)) b3 i0 = some (r1, r2, r3, r4)) ∧ Aside0 (kq ≤ k3) ∧ Aside0 (Kd.R k51 51 w' w.heap.size (fun k_ => some k_ ≠ ((.slice C7 a9.length i9) : Value).ownBlock ∧ some k_ ≠ (d0 : Value).ownBlock) (.slice m8 a8.length h4) a8) ∧ Aside0 (Kd.R Kd.string 9 w' w.heap.size (fun _ => True) (.slice (some e9) b3.length e3) b3) ∧ Aside0 (Kd.R k51 51 w' w.heap.size (fun k_ => some k_ ≠ ((.slice m8 a8.length h4) : Value).ownBlock ∧ some k_ ≠ (d0 : Value).ownBlock) (.slice C7 a9.length i9) a9) ∧ Aside0 (Kd.R Kd.string 9 w' w.heap.size (fun _ => True) (.slice (some e9) b3.length e3) b3) ∧ Aside0 (Kd.R k51 51 w' w.heap.size (fun k_ => some k_ ≠ ((.slice m8 a8.length h4) : Value).ownBlock ∧ some k_ ≠ ((.slice C7 a9.length i9) : Value).ownBlock) d0 i0) ∧ Aside0 (w'.heap[a6]? = some (.cells #[.int .i64 a0_0, (.slice A0_1 l0_1.length c0_1), (.slice A0_2 l0_2.length c0_2)] 25 (0, 0))) ∧ Aside0 (w'.heap[b0]? = some (.cells #[.int .i64 a1_0, (.slice A1_1 l1_1.length c1_1), (.slice A1_2 l1_2.length c1_2)] 25 (0, 0))) ∧ Aside0 (w'.heap[b1]? = some (.cells #[.int .i64 d5, (.slice none 0 0), (.slice none 0 0)] 25 (0, 0))) ∧ Aside0 (w'.heap[a2]? = some (.cells #[.int .i64 (wrap64 (a0_0 * a1_0)), (.slice (some e9) b3.length e3), d0] 25 (0, 0))) ∧ Aside0 (Below w.heap.size w w'))
             case atStart => exact ⟨(0), (e7), (.slice O2 e7.length Q9), (by first | rfl | (simp; done) | (simp [*]; done)), H', ⟨Nat.le_refl _⟩, ⟨by (with_reducible repeat (first | apply Kd.R_alloc | apply Kd.R_drewN | apply Kd.R_drew)); exact u0.out⟩, ⟨by (with_reducible repeat (first | apply Kd.R_alloc | apply Kd.R_drewN | apply Kd.R_drew)); exact e1.out⟩, ⟨by (with_reducible repeat (first | apply Kd.R_alloc | apply Kd.R_drewN | apply Kd.R_drew)); exact t9.out⟩, ⟨by (with_reducible repeat (first | apply Kd.R_alloc | apply Kd.R_drewN | apply Kd.R_drew)); exact b6.out⟩, ⟨by (with_reducible repeat (first | apply Kd.R_alloc | apply Kd.R_drewN | apply Kd.R_drew)); exact Kd.R_mono a5.out (fun _ hk => ⟨hk.2, hk.1.2⟩)⟩, ⟨by (with_reducible repeat (first | refine blk_drewN ?_ _ | refine blk_drew ?_ | refine blk_alloc ?_ _)); exact a0.out⟩, ⟨by (with_reducible repeat (first | refine blk_drewN ?_ _ | refine blk_drew ?_ | refine blk_alloc ?_ _)); exact a1.out⟩, ⟨by (with_reducible repeat (first | refine blk_drewN ?_ _ | refine blk_drew ?_ | refine blk_alloc ?_ _)); exact a4.out⟩, ⟨by (with_reducible repeat (first | refine blk_drewN ?_ _ | refine blk_drew ?_ | refine blk_alloc ?_ _)); exact a3.out⟩, ⟨by repeat (first | (with_reducible first | exact HB.out | apply below_alloc | apply pw_below_drewN | apply below_drew1 | refine below_set ?_ b9.out | refine below_set ?_ d1.out | refine below_set ?_ d2.out | refine below_set ?_ d4.out) | exact HB.out)⟩⟩
             case round =>
              clear H'
              try clear c1
              try clear p1
              try clear q1
              try clear X5
              try clear c2
              try clear p2
              try clear c3
              try clear c4
              try clear c5
              try clear c6
              try clear p6
              try clear c7
              try clear c8
              try clear c8b0
              try clear c8b1
              try clear c10
              try clear E7
              try clear E6
              try clear L4
              try clear L6
              try clear P6
              try clear E4
              try clear E8
              try clear E9
              try clear t1
              try clear H7
              try clear I0
              try clear H3
              try clear p4
              try clear c36b0
              try clear H4
              try clear I3
              try clear H9
              try clear H0
              try clear G6
              try clear G5
              try clear v0
              try clear K0
              try clear L5
              try clear K9
              try clear K8
              try clear K3
              try clear J9
              try clear t2
              try clear c54b0
              try clear z3
              try clear c55b0
              try clear w3
              try clear c56b0
              try clear s9
              try clear c58b0
              try clear Z1
              try clear X6
              try clear V6
              try clear Z2
              try clear Y4
              try clear K1
              try clear Y1
              try clear V8
              try clear X8
              try clear Y0
              try clear V2
              try clear W8
              try clear Z0
              try clear k6
              try clear k2
              try clear l4
              try clear k7
              try clear j9
              try clear k0
              try clear l7
              try clear l5
              try clear l3
              try clear n4
              try clear n7
              try clear p0
              try clear n3
              try clear o7
              try clear o0
              try clear o5
              try clear n5
              try clear n9
              try clear s6
              try clear r7
              try clear q3
              try clear q9
              try clear q4
              try clear s7
              try clear v9
              try clear y5
              try clear v5
              try clear w8
              try clear A2
              try clear y8
              try clear w9
              try clear x6
              try clear y9
              try clear y2
              try clear x9
              try clear A6
              try clear x0
              try clear y4
              try clear x4
              try clear z7
              try clear y0
              try clear z6
              try clear y1
              try clear A0
              try clear z0
              try clear j5
              try clear k1
              try clear j7
              try clear k9
              try clear j4
              try clear j8
              try clear j6
              try clear k8
              try clear l6
              try clear o1
              try clear o3
              try clear n2
              try clear o6
              try clear o8
              try clear o9
              try clear o2
              try clear o4
              try clear p3
              try clear r9
              try clear r0
              try clear r6
              try clear q5
              try clear q7
              try clear q6
              try clear x2
              try clear z2
              try clear x8
              try clear A3
              try clear A5
              try clear z8
              try clear x7
              try clear x5
              try clear z4
              try clear y7
              try clear A1
              try clear v7
              try clear y3
              try clear z1
              try clear z9
              try clear v8
              try clear A4
              try clear w7
              try clear y6
              try clear x1
              try clear A8
              try clear r5
              try clear m6
              try clear p2
              try clear p6
              try clear l8
              obtain ⟨a7, i0, d0, rfl, HA, x3, f9, e1, f8, b6, a5, a0, a1, a4, a3, HB⟩ := hrel
              cases gk with
              | zero => exact absurd HA.out (by simp [Pxg.l1])
              | succ k4 =>
               have H := HA.out
               clear HA
               simp only [Pxg.l1] at H
               by_cases u4 : a7 < (a9.length : Int)
               ·rw [if_pos u4] at H
                have c86b0 : decide (a7 < (a9.length : Int)) = true := decide_eq_true u4
                clear u4
                by_cases C4 : 0 ≤ a7
                ·rw [if_pos C4] at H
                 have c87b0 : decide (0 ≤ a7) = true := decide_eq_true C4
                 clear C4
                 by_cases C3 : a7 < (a9.length : Int)
                 ·rw [if_pos C3] at H
                  have c88b0 : decide (a7 < (a9.length : Int)) = true := decide_eq_true C3
                  clear C3
                  have H' := Aside0.mk H
                  clear H
                  have B9 : 0 ≤ (a7 : Int) := of_decide_eq_true (by first | (with_reducible assumption) | assumption)
                  have B6 : a7 < (a9.length : Int) := of_decide_eq_true (by first | (with_reducible assumption) | assumption)
                  obtain ⟨m0, R7, F3, F7, F2⟩ := at_T51 (Kd.R_reads' f8.out).2.2 a7 B9 B6
                  cases R7
                  replace B9 := eq_true B9
                  replace B6 := eq_true B6
                  go_wp2_with (first | ((with_reducible refine gate_dst (N := 12) rfl ?_); (try (refine gate_guard (by rfl) ?_; dsimp only)); refine box_event ?hg (N := 12) ?hd (cs := #[.int .i64 0, .int .i64 0, .int .i64 0]) (t := 51) ?hr ?_; (case hd => rfl); (case hg => rfl); (case hr => first | (go_simp; done) | (go_simp; rfl)); intro b5 hg I5 hbox hb; have d7 := Aside0.mk (Kd.R_below (Kd.R_elderB (by (with_reducible repeat (first | apply Kd.R_alloc | apply Kd.R_drewN | apply Kd.R_drew)); exact f9.out) b5 (Nat.le_of_eq hg.symm)) hb); have d9 := Aside0.mk (Kd.R_below (by (with_reducible repeat (first | apply Kd.R_alloc | apply Kd.R_drewN | apply Kd.R_drew)); exact e1.out) hb); have d8 := Aside0.mk (Kd.R_below (Kd.R_elderB (by (with_reducible repeat (first | apply Kd.R_alloc | apply Kd.R_drewN | apply Kd.R_drew)); exact f8.out) b5 (Nat.le_of_eq hg.symm)) hb); have e0 := Aside0.mk (Kd.R_below (by (with_reducible repeat (first | apply Kd.R_alloc | apply Kd.R_drewN | apply Kd.R_drew)); exact b6.out) hb); have e8 := Aside0.mk (Kd.R_below (Kd.R_elderB (by (with_reducible repeat (first | apply Kd.R_alloc | apply Kd.R_drewN | apply Kd.R_drew)); exact a5.out) b5 (Nat.le_of_eq hg.symm)) hb); have f3 := Aside0.mk (blk_below (g := a6) (o := .cells #[.int .i64 a0_0, .slice A0_1 l0_1.length c0_1, .slice A0_2 l0_2.length c0_2] 25 (0, 0)) (by (with_reducible repeat (first | refine blk_drewN ?_ _ | refine blk_drew ?_ | refine blk_alloc ?_ _)); exact a0.out) hb); have f4 := Aside0.mk (blk_below (g := b0) (o := .cells #[.int .i64 a1_0, .slice A1_1 l1_1.length c1_1, .slice A1_2 l1_2.length c1_2] 25 (0, 0)) (by (with_reducible repeat (first | refine blk_drewN ?_ _ | refine blk_drew ?_ | refine blk_alloc ?_ _)); exact a1.out) hb); have f5 := Aside0.mk (blk_below (g := b1) (o := .cells #[.int .i64 d5, .slice none 0 0, .slice none 0 0] 25 (0, 0)) (by (with_reducible repeat (first | refine blk_drewN ?_ _ | refine blk_drew ?_ | refine blk_alloc ?_ _)); exact a4.out) hb); have f6 := Aside0.mk (blk_below (g := a2) (o := .cells #[.int .i64 (wrap64 (a0_0 * a1_0)), .slice (some e9) b3.length e3, d0] 25 (0, 0)) (by (with_reducible repeat (first | refine blk_drewN ?_ _ | refine blk_drew ?_ | refine blk_alloc ?_ _)); exact a3.out) hb); have f7 := Aside0.mk (below_step (by repeat (first | (with_reducible first | exact HB.out | apply below_alloc | apply pw_below_drewN | apply below_drew1 | refine below_set ?_ b9.out | refine below_set ?_ d1.out | refine below_set ?_ d2.out | refine below_set ?_ d4.out) | exact HB.out)) hb); have g5 := Aside0.mk (hbox); have g4 := Aside0.mk ((by rw [hg]; exact (below_size (by repeat (first | (with_reducible first | exact HB.out | apply below_alloc | apply pw_below_drewN | apply below_drew1 | refine below_set ?_ b9.out | refine below_set ?_ d1.out | refine below_set ?_ d2.out | refine below_set ?_ d4.out) | exact HB.out))) : w.heap.size ≤ b5)); have g0 := Aside0.mk ((by rw [hg]; exact (below_size (by repeat (first | (with_reducible first | exact HB.out | apply below_alloc | apply pw_below_drewN | apply below_drew1 | refine below_set ?_ b9.out | refine below_set ?_ d1.out | refine below_set ?_ d2.out | refine below_set ?_ d4.out) | exact HB.out))) : w.heap.size ≤ b5)); have i3 := Aside0.mk ((by rw [hg]; exact Nat.ne_of_lt (blk_lt (g := a6) (o := .cells #[.int .i64 a0_0, .slice A0_1 l0_1.length c0_1, .slice A0_2 l0_2.length c0_2] 25 (0, 0)) (by (with_reducible repeat (first | refine blk_drewN ?_ _ | refine blk_drew ?_ | refine blk_alloc ?_ _)); exact a0.out)) : a6 ≠ b5)); have v4 := Aside0.mk ((by rw [hg]; exact Nat.ne_of_gt (blk_lt (g := a6) (o := .cells #[.int .i64 a0_0, .slice A0_1 l0_1.length c0_1, .slice A0_2 l0_2.length c0_2] 25 (0, 0)) (by (with_reducible repeat (first | refine blk_drewN ?_ _ | refine blk_drew ?_ | refine blk_alloc ?_ _)); exact a0.out)) : b5 ≠ a6)); have u7 := Aside0.mk ((by rw [hg]; exact Nat.ne_of_lt (blk_lt (g := b0) (o := .cells #[.int .i64 a1_0, .slice A1_1 l1_1.length c1_1, .slice A1_2 l1_2.length c1_2] 25 (0, 0)) (by (with_reducible repeat (first | refine blk_drewN ?_ _ | refine blk_drew ?_ | refine blk_alloc ?_ _)); exact a1.out)) : b0 ≠ b5)); have v3 := Aside0.mk ((by rw [hg]; exact Nat.ne_of_gt (blk_lt (g := b0) (o := .cells #[.int .i64 a1_0, .slice A1_1 l1_1.length c1_1, .slice A1_2 l1_2.length c1_2] 25 (0, 0)) (by (with_reducible repeat (first | refine blk_drewN ?_ _ | refine blk_drew ?_ | refine blk_alloc ?_ _)); exact a1.out)) : b5 ≠ b0)); have v2 := Aside0.mk ((by rw [hg]; exact Nat.ne_of_lt (blk_lt (g := b1) (o := .cells #[.int .i64 d5, .slice none 0 0, .slice none 0 0] 25 (0, 0)) (by (with_reducible repeat (first | refine blk_drewN ?_ _ | refine blk_drew ?_ | refine blk_alloc ?_ _)); exact a4.out)) : b1 ≠ b5)); have u6 := Aside0.mk ((by rw [hg]; exact Nat.ne_of_gt (blk_lt (g := b1) (o := .cells #[.int .i64 d5, .slice none 0 0, .slice none 0 0] 25 (0, 0)) (by (with_reducible repeat (first | refine blk_drewN ?_ _ | refine blk_drew ?_ | refine blk_alloc ?_ _)); exact a4.out)) : b5 ≠ b1)); have u9 := Aside0.mk ((by rw [hg]; exact Nat.ne_of_lt (blk_lt (g := a2) (o := .cells #[.int .i64 (wrap64 (a0_0 * a1_0)), .slice (some e9) b3.length e3, d0] 25 (0, 0)) (by (with_reducible repeat (first | refine blk_drewN ?_ _ | refine blk_drew ?_ | refine blk_alloc ?_ _)); exact a3.out)) : a2 ≠ b5)); have u5 := Aside0.mk ((by rw [hg]; exact Nat.ne_of_gt (blk_lt (g := a2) (o := .cells #[.int .i64 (wrap64 (a0_0 * a1_0)), .slice (some e9) b3.length e3, d0] 25 (0, 0)) (by (with_reducible repeat (first | refine blk_drewN ?_ _ | refine blk_drew ?_ | refine blk_alloc ?_ _)); exact a3.out)) : b5 ≠ a2)); clear f9; clear e1; clear f8; clear b6; clear a5; clear a0; clear a1; clear a4; clear a3; clear HB; have f9 := d7; have e1 := d9; have f8 := d8; have b6 := e0; have a5 := e8; have a0 := f3; have a1 := f4; have a4 := f5; have a3 := f6; have HB := f7; have e6 := g5; have bb := g4; have i4 := g0; have h9 := i3; have t3 := v4; have h6 := u7; have s8 := v3; have h8 := v2; have t4 := u6; have h7 := u9; have n1 := u5; clear d7 d9 d8 e0 e8 f3 f4 f5 f6 f7 g5 g4 g0 i3 v4 u7 v3 v2 u6 u9 u5; clear hb hbox hg; have bx := t3.out; have aD := h9.out; have bc := s8.out; have bJ := h6.out; have ap := t4.out; have br := h8.out; have bi := n1.out; have bs := h7.out; have F0 : I5.cell? ⟨b5, 0, none⟩ = some (.int .i64 0) := (blk_cell e6.out 0).trans rfl; have F6 : I5.cell? ⟨b5, 1, none⟩ = some (.int .i64 0) := (blk_cell e6.out 1).trans rfl; have F4 : I5.cell? ⟨b5, 2, none⟩ = some (.int .i64 0) := (blk_cell e6.out 2).trans rfl; have F5 := blk_frozen e6.out 0; have F8 := blk_frozen e6.out 1; have F1 := blk_frozen e6.out 2))
                  go_loopg [79] k4 (fun kq X4 w' => ∃ (b2 : Int) (g3 : List (S51)) (d0 : Value), X4 = .int .i64 b2 ∧ Aside0 (Pxg.l2 kq d6 a8 b3 (b3.length : Int) d6 a9 (a9.length : Int) a7 a8 (a8.length : Int) b2 a0_0 l0_1 l0_2 a1_0 l1_1 l1_2 (wrap64 (a0_0 * a1_0)) b3 g3 ((rd_T51 a9 a7).f0) ((rd_T51 a9 a7).f1) ((rd_T51 a9 a7).f2) = some (r1, r2, r3, r4)) ∧ Aside0 (kq ≤ k4) ∧ Aside0 (Kd.R k51 51 w' w.heap.size (fun k_ => some k_ ≠ ((.slice (some m0) a9.length i9) : Value).ownBlock ∧ some k_ ≠ (d0 : Value).ownBlock ∧ k_ ≠ b5) (.slice m8 a8.length h4) a8) ∧ Aside0 (Kd.R Kd.string 9 w' w.heap.size (fun _ => True) (.slice (some e9) b3.length e3) b3) ∧ Aside0 (Kd.R k51 51 w' w.heap.size (fun k_ => some k_ ≠ ((.slice m8 a8.length h4) : Value).ownBlock ∧ some k_ ≠ ((.slice m8 a8.length h4) : Value).ownBlock ∧ some k_ ≠ (d0 : Value).ownBlock ∧ k_ ≠ b5) (.slice (some m0) a9.length i9) a9) ∧ Aside0 (Kd.R k51 51 w' w.heap.size (fun k_ => some k_ ≠ ((.slice (some m0) a9.length i9) : Value).ownBlock ∧ some k_ ≠ (d0 : Value).ownBlock ∧ k_ ≠ b5) (.slice m8 a8.length h4) a8) ∧ Aside0 (Kd.R Kd.string 9 w' w.heap.size (fun _ => True) (.slice (some e9) b3.length e3) b3) ∧ Aside0 (Kd.R k51 51 w' w.heap.size (fun k_ => some k_ ≠ ((.slice m8 a8.length h4) : Value).ownBlock ∧ some k_ ≠ ((.slice (some m0) a9.length i9) : Value).ownBlock ∧ some k_ ≠ ((.slice m8 a8.length h4) : Value).ownBlock ∧ k_ ≠ b5) d0 g3) ∧ Aside0 (w'.heap[a6]? = some (.cells #[.int .i64 a0_0, (.slice A0_1 l0_1.length c0_1), (.slice A0_2 l0_2.length c0_2)] 25 (0, 0))) ∧ Aside0 (w'.heap[b0]? = some (.cells #[.int .i64 a1_0, (.slice A1_1 l1_1.length c1_1), (.slice A1_2 l1_2.length c1_2)] 25 (0, 0))) ∧ Aside0 (w'.heap[b1]? = some (.cells #[.int .i64 d5, (.slice none 0 0), (.slice none 0 0)] 25 (0, 0))) ∧ Aside0 (w'.heap[a2]? = some (.cells #[.int .i64 (wrap64 (a0_0 * a1_0)), (.slice (some e9) b3.length e3), d0] 25 (0, 0))) ∧ Aside0 (w'.heap[b5]? = some (.cells #[.int .i64 ((rd_T51 a9 a7).f0), .int .i64 ((rd_T51 a9 a7).f1), .int .i64 ((rd_T51 a9 a7).f2)] 51 (0, 0))) ∧ Aside0 (Below w.heap.size w w'))
                  case atStart => exact ⟨(0), (i0), (d0), (by first | rfl | (simp; done) | (simp [*]; done)), H', ⟨Nat.le_refl _⟩, ⟨by (with_reducible repeat (first | apply Kd.R_alloc | apply Kd.R_drewN | apply Kd.R_drew)); exact Kd.R_mono (Kd.R_far (p := ⟨b5, 2, none⟩) (Kd.R_far (p := ⟨b5, 1, none⟩) (Kd.R_far (p := ⟨b5, 0, none⟩) (Kd.R_mono f9.out (fun k_ hk => (⟨hk, hk.2⟩ : _ ∧ k_ ≠ b5))) (fun _ hk => hk.2) (.int .i64 ((rd_T51 a9 a7).f0))) (fun _ hk => hk.2) (.int .i64 ((rd_T51 a9 a7).f1))) (fun _ hk => hk.2) (.int .i64 ((rd_T51 a9 a7).f2))) (fun _ hk => ⟨hk.1.1.1, ⟨hk.1.1.2, hk.1.2⟩⟩)⟩, ⟨by (with_reducible repeat (first | apply Kd.R_alloc | apply Kd.R_drewN | apply Kd.R_drew)); exact Kd.R_mono (Kd.R_far (p := ⟨b5, 2, none⟩) (Kd.R_far (p := ⟨b5, 1, none⟩) (Kd.R_far (p := ⟨b5, 0, none⟩) (Kd.R_types e1.out e6.out (by decide)) (fun _ hk => hk.2) (.int .i64 ((rd_T51 a9 a7).f0))) (fun _ hk => hk.2) (.int .i64 ((rd_T51 a9 a7).f1))) (fun _ hk => hk.2) (.int .i64 ((rd_T51 a9 a7).f2))) (fun _ hk => trivial)⟩, ⟨by (with_reducible repeat (first | apply Kd.R_alloc | apply Kd.R_drewN | apply Kd.R_drew)); exact Kd.R_mono (Kd.R_far (p := ⟨b5, 2, none⟩) (Kd.R_far (p := ⟨b5, 1, none⟩) (Kd.R_far (p := ⟨b5, 0, none⟩) (Kd.R_mono f8.out (fun k_ hk => (⟨hk, hk.2⟩ : _ ∧ k_ ≠ b5))) (fun _ hk => hk.2) (.int .i64 ((rd_T51 a9 a7).f0))) (fun _ hk => hk.2) (.int .i64 ((rd_T51 a9 a7).f1))) (fun _ hk => hk.2) (.int .i64 ((rd_T51 a9 a7).f2))) (fun _ hk => ⟨hk.1.1.1, ⟨hk.1.1.1, ⟨hk.1.1.2, hk.1.2⟩⟩⟩)⟩, ⟨by (with_reducible repeat (first | apply Kd.R_alloc | apply Kd.R_drewN | apply Kd.R_drew)); exact Kd.R_mono (Kd.R_far (p := ⟨b5, 2, none⟩) (Kd.R_far (p := ⟨b5, 1, none⟩) (Kd.R_far (p := ⟨b5, 0, none⟩) (Kd.R_mono f9.out (fun k_ hk => (⟨hk, hk.2⟩ : _ ∧ k_ ≠ b5))) (fun _ hk => hk.2) (.int .i64 ((rd_T51 a9 a7).f0))) (fun _ hk => hk.2) (.int .i64 ((rd_T51 a9 a7).f1))) (fun _ hk => hk.2) (.int .i64 ((rd_T51 a9 a7).f2))) (fun _ hk => ⟨hk.1.1.1, ⟨hk.1.1.2, hk.1.2⟩⟩)⟩, ⟨by (with_reducible repeat (first | apply Kd.R_alloc | apply Kd.R_drewN | apply Kd.R_drew)); exact Kd.R_mono (Kd.R_far (p := ⟨b5, 2, none⟩) (Kd.R_far (p := ⟨b5, 1, none⟩) (Kd.R_far (p := ⟨b5, 0, none⟩) (Kd.R_types b6.out e6.out (by decide)) (fun _ hk => hk.2) (.int .i64 ((rd_T51 a9 a7).f0))) (fun _ hk => hk.2) (.int .i64 ((rd_T51 a9 a7).f1))) (fun _ hk => hk.2) (.int .i64 ((rd_T51 a9 a7).f2))) (fun _ hk => trivial)⟩, ⟨by (with_reducible repeat (first | apply Kd.R_alloc | apply Kd.R_drewN | apply Kd.R_drew)); exact Kd.R_mono (Kd.R_far (p := ⟨b5, 2, none⟩) (Kd.R_far (p := ⟨b5, 1, none⟩) (Kd.R_far (p := ⟨b5, 0, none⟩) (Kd.R_mono a5.out (fun k_ hk => (⟨hk, hk.2⟩ : _ ∧ k_ ≠ b5))) (fun _ hk => hk.2) (.int .i64 ((rd_T51 a9 a7).f0))) (fun _ hk => hk.2) (.int .i64 ((rd_T51 a9 a7).f1))) (fun _ hk => hk.2) (.int .i64 ((rd_T51 a9 a7).f2))) (fun _ hk => ⟨hk.1.1.1, ⟨hk.1.1.2, ⟨hk.1.1.1, hk.1.2⟩⟩⟩)⟩, ⟨by (with_reducible repeat (first | refine blk_drewN ?_ _ | refine blk_drew ?_ | refine blk_alloc ?_ _)); refine blk_far ?_ h9.out _; (with_reducible repeat (first | refine blk_drewN ?_ _ | refine blk_drew ?_ | refine blk_alloc ?_ _)); refine blk_far ?_ h9.out _; (with_reducible repeat (first | refine blk_drewN ?_ _ | refine blk_drew ?_ | refine blk_alloc ?_ _)); refine blk_far ?_ h9.out _; (with_reducible repeat (first | refine blk_drewN ?_ _ | refine blk_drew ?_ | refine blk_alloc ?_ _)); exact a0.out⟩, ⟨by (with_reducible repeat (first | refine blk_drewN ?_ _ | refine blk_drew ?_ | refine blk_alloc ?_ _)); refine blk_far ?_ h6.out _; (with_reducible repeat (first | refine blk_drewN ?_ _ | refine blk_drew ?_ | refine blk_alloc ?_ _)); refine blk_far ?_ h6.out _; (with_reducible repeat (first | refine blk_drewN ?_ _ | refine blk_drew ?_ | refine blk_alloc ?_ _)); refine blk_far ?_ h6.out _; (with_reducible repeat (first | refine blk_drewN ?_ _ | refine blk_drew ?_ | refine blk_alloc ?_ _)); exact a1.out⟩, ⟨by (with_reducible repeat (first | refine blk_drewN ?_ _ | refine blk_drew ?_ | refine blk_alloc ?_ _)); refine blk_far ?_ h8.out _; (with_reducible repeat (first | refine blk_drewN ?_ _ | refine blk_drew ?_ | refine blk_alloc ?_ _)); refine blk_far ?_ h8.out _; (with_reducible repeat (first | refine blk_drewN ?_ _ | refine blk_drew ?_ | refine blk_alloc ?_ _)); refine blk_far ?_ h8.out _; (with_reducible repeat (first | refine blk_drewN ?_ _ | refine blk_drew ?_ | refine blk_alloc ?_ _)); exact a4.out⟩, ⟨by (with_reducible repeat (first | refine blk_drewN ?_ _ | refine blk_drew ?_ | refine blk_alloc ?_ _)); refine blk_far ?_ h7.out _; (with_reducible repeat (first | refine blk_drewN ?_ _ | refine blk_drew ?_ | refine blk_alloc ?_ _)); refine blk_far ?_ h7.out _; (with_reducible repeat (first | refine blk_drewN ?_ _ | refine blk_drew ?_ | refine blk_alloc ?_ _)); refine blk_far ?_ h7.out _; (with_reducible repeat (first | refine blk_drewN ?_ _ | refine blk_drew ?_ | refine blk_alloc ?_ _)); exact a3.out⟩, ⟨by (with_reducible repeat (first | refine blk_drewN ?_ _ | refine blk_drew ?_ | refine blk_alloc ?_ _)); refine blk_put (cs := #[.int .i64 ((rd_T51 a9 a7).f0), .int .i64 ((rd_T51 a9 a7).f1), .int .i64 0]) ?_ 2 _ rfl; (with_reducible repeat (first | refine blk_drewN ?_ _ | refine blk_drew ?_ | refine blk_alloc ?_ _)); refine blk_put (cs := #[.int .i64 ((rd_T51 a9 a7).f0), .int .i64 0, .int .i64 0]) ?_ 1 _ rfl; (with_reducible repeat (first | refine blk_drewN ?_ _ | refine blk_drew ?_ | refine blk_alloc ?_ _)); refine blk_put (cs := #[.int .i64 0, .int .i64 0, .int .i64 0]) ?_ 0 _ rfl; (with_reducible repeat (first | refine blk_drewN ?_ _ | refine blk_drew ?_ | refine blk_alloc ?_ _)); exact e6.out⟩, ⟨by repeat (first | (with_reducible first | exact HB.out | apply below_alloc | apply pw_below_drewN | apply below_drew1 | refine below_set ?_ b9.out | refine below_set ?_ d1.out | refine below_set ?_ d2.out | refine below_set ?_ d4.out | refine below_set ?_ i4.out) | exact HB.out)⟩⟩
                  case round =>
                   clear H'
                   try clear c1
                   try clear p1
                   try clear q1
                   try clear X5
                   try clear c2
                   try clear p2
                   try clear c3
                   try clear c4
                   try clear c5
                   try clear c6
                   try clear p6
                   try clear c7
                   try clear c8
                   try clear c8b0
                   try clear c8b1
                   try clear c9
                   try clear c10
                   try clear E7
                   try clear E6
                   try clear L4
                   try clear L6
                   try clear P6
                   try clear ce
                   try clear cc
                   try clear bU
                   try clear E4
                   try clear E8
                   try clear E9
                   try clear t1
                   try clear H7
                   try clear I0
                   try clear H3
                   try clear p4
                   try clear c36b0
                   try clear H4
                   try clear I3
                   try clear H9
                   try clear H0
                   try clear G6
                   try clear G5
                   try clear v0
                   try clear K0
                   try clear L5
                   try clear K9
                   try clear K8
                   try clear K3
                   try clear J9
                   try clear t2
                   try clear c54b0
                   try clear z3
                   try clear c55b0
                   try clear w3
                   try clear c56b0
                   try clear s9
                   try clear c58b0
                   try clear Z1
                   try clear X6
                   try clear V6
                   try clear Z2
                   try clear Y4
                   try clear K1
                   try clear Y1
                   try clear V8
                   try clear X8
                   try clear Y0
                   try clear V2
                   try clear W8
                   try clear Z0
                   try clear u4
                   try clear c86b0
                   try clear C4
                   try clear c87b0
                   try clear C3
                   try clear c88b0
                   try clear cj
                   try clear cf
                   try clear ci
                   try clear ch
                   try clear k6
                   try clear k2
                   try clear l4
                   try clear k7
                   try clear j9
                   try clear k0
                   try clear l7
                   try clear l5
                   try clear l3
                   try clear n4
                   try clear n7
                   try clear p0
                   try clear n3
                   try clear o7
                   try clear o0
                   try clear o5
                   try clear n5
                   try clear n9
                   try clear s6
                   try clear r7
                   try clear q3
                   try clear q9
                   try clear q4
                   try clear s7
                   try clear v9
                   try clear y5
                   try clear v5
                   try clear w8
                   try clear A2
                   try clear y8
                   try clear w9
                   try clear x6
                   try clear y9
                   try clear y2
                   try clear x9
                   try clear A6
                   try clear x0
                   try clear y4
                   try clear x4
                   try clear z7
                   try clear y0
                   try clear z6
                   try clear y1
                   try clear A0
                   try clear z0
                   try clear F0
                   try clear F6
                   try clear F4
                   try clear j5
                   try clear k1
                   try clear j7
                   try clear k9
                   try clear j4
                   try clear j8
                   try clear j6
                   try clear k8
                   try clear l6
                   try clear o1
                   try clear o3
                   try clear n2
                   try clear o6
                   try clear o8
                   try clear o9
                   try clear o2
                   try clear o4
                   try clear p3
                   try clear r9
                   try clear r0
                   try clear r6
                   try clear q5
                   try clear q7
                   try clear q6
                   try clear x2
                   try clear z2
                   try clear x8
                   try clear A3
                   try clear A5
                   try clear z8
                   try clear x7
                   try clear x5
                   try clear z4
                   try clear y7
                   try clear A1
                   try clear v7
                   try clear y3
                   try clear z1
                   try clear z9
                   try clear v8
                   try clear A4
                   try clear w7
                   try clear y6
                   try clear x1
                   try clear A8
                   try clear F5
                   try clear F8
                   try clear F1
                   try clear r5
                   try clear F3
                   try clear F7
                   try clear F2
                   try clear p1
                   try clear L4
                   try clear m6
                   try clear B9
                   try clear p2
                   try clear p6
                   try clear K1
                   try clear q1
                   try clear L6
                   try clear l8
                   try clear B6
                   obtain ⟨b2, g3, d0, rfl, HA, D9, f9, e1, f8, i2, b6, a5, a0, a1, a4, a3, e6, HB⟩ := hrel
                   cases gk with
                   | zero => exact absurd HA.out (by simp [Pxg.l2])
                   | succ k5 =>
                    have H := HA.out
                    clear HA
                    simp only [Pxg.l2] at H
                    by_cases z5 : b2 < (a8.length : Int)
                    ·rw [if_pos z5] at H
                     have c95b0 : decide (b2 < (a8.length : Int)) = true := decide_eq_true z5
                     clear z5
                     by_cases D6 : 0 ≤ b2
                     ·rw [if_pos D6] at H
                      have c96b0 : decide (0 ≤ b2) = true := decide_eq_true D6
                      clear D6
                      by_cases D8 : b2 < (a8.length : Int)
                      ·rw [if_pos D8] at H
                       have c97b0 : decide (b2 < (a8.length : Int)) = true := decide_eq_true D8
                       clear D8
                       by_cases E2 : g3.length < 5864062014805
                       ·rw [if_pos E2] at H
                        have I9 := Aside0.mk E2
                        clear E2
                        obtain ⟨m5, p8⟩ : ∃ y_ : List (S51), y_ = (g3 ++ [(⟨wrap64 ((wrap64 (((rd_T51 a9 a7).f0) * a1_0)) + ((rd_T51 a8 b2).f0)), d6, wrap64 ((wrap64 (((rd_T51 a9 a7).f2) * a1_0)) + ((rd_T51 a8 b2).f2))⟩ : S51)]) := ⟨_, rfl⟩
                        replace H : (Pxg.l2 k5 d6 a8 b3 (b3.length : Int) d6 a9 (a9.length : Int) a7 a8 (a8.length : Int) (wrap64 (b2 + 1)) a0_0 l0_1 l0_2 a1_0 l1_1 l1_2 (wrap64 (a0_0 * a1_0)) b3 m5 ((rd_T51 a9 a7).f0) ((rd_T51 a9 a7).f1) ((rd_T51 a9 a7).f2)) = some (r1, r2, r3, r4) := by first | (rw [p8]; with_reducible exact H) | (have G1 := (Option.bind_some _ _).symm.trans H; rw [p8]; with_reducible exact G1) | (have G1 := (Option.bind_some _ _).symm.trans H; with_reducible exact G1) | with_reducible exact H | (rw [p8]; exact H) | exact H
                        have J5 := Aside0.mk p8
                        clear p8
                        have H' := Aside0.mk H
                        clear H
                        have D0 : 0 ≤ (b2 : Int) := of_decide_eq_true (by first | (with_reducible assumption) | assumption)
                        have D3 : b2 < (a8.length : Int) := of_decide_eq_true (by first | (with_reducible assumption) | assumption)
                        obtain ⟨t6, N1, U1, T4, S1⟩ := at_T51 (Kd.R_reads' i2.out).2.2 b2 D0 D3
                        cases N1
                        replace D0 := eq_true D0
                        replace D3 := eq_true D3
                        go_wp2_with (first | ((with_reducible refine gate_dst (N := 14) rfl ?_); (try (refine gate_guard (by rfl) ?_; dsimp only)); refine box_event ?hg (N := 14) ?hd (cs := #[.int .i64 0, .int .i64 0, .int .i64 0]) (t := 51) ?hr ?_; (case hd => rfl); (case hg => rfl); (case hr => first | (go_simp; done) | (go_simp; rfl)); intro b4 hg m9 hbox hb; have d7 := Aside0.mk (Kd.R_below (Kd.R_elderB (by (with_reducible repeat (first | apply Kd.R_alloc | apply Kd.R_drewN | apply Kd.R_drew)); exact f9.out) b4 (Nat.le_of_eq hg.symm)) hb); have d9 := Aside0.mk (Kd.R_below (by (with_reducible repeat (first | apply Kd.R_alloc | apply Kd.R_drewN | apply Kd.R_drew)); exact e1.out) hb); have d8 := Aside0.mk (Kd.R_below (Kd.R_elderB (by (with_reducible repeat (first | apply Kd.R_alloc | apply Kd.R_drewN | apply Kd.R_drew)); exact f8.out) b4 (Nat.le_of_eq hg.symm)) hb); have e0 := Aside0.mk (Kd.R_below (Kd.R_elderB (by (with_reducible repeat (first | apply Kd.R_alloc | apply Kd.R_drewN | apply Kd.R_drew)); exact i2.out) b4 (Nat.le_of_eq hg.symm)) hb); have e8 := Aside0.mk (Kd.R_below (by (with_reducible repeat (first | apply Kd.R_alloc | apply Kd.R_drewN | apply Kd.R_drew)); exact b6.out) hb); have f3 := Aside0.mk (Kd.R_below (Kd.R_elderB (by (with_reducible repeat (first | apply Kd.R_alloc | apply Kd.R_drewN | apply Kd.R_drew)); exact a5.out) b4 (Nat.le_of_eq hg.symm)) hb); have f4 := Aside0.mk (blk_below (g := a6) (o := .cells #[.int .i64 a0_0, .slice A0_1 l0_1.length c0_1, .slice A0_2 l0_2.length c0_2] 25 (0, 0)) (by (with_reducible repeat (first | refine blk_drewN ?_ _ | refine blk_drew ?_ | refine blk_alloc ?_ _)); exact a0.out) hb); have f5 := Aside0.mk (blk_below (g := b0) (o := .cells #[.int .i64 a1_0, .slice A1_1 l1_1.length c1_1, .slice A1_2 l1_2.length c1_2] 25 (0, 0)) (by (with_reducible repeat (first | refine blk_drewN ?_ _ | refine blk_drew ?_ | refine blk_alloc ?_ _)); exact a1.out) hb); have f6 := Aside0.mk (blk_below (g := b1) (o := .cells #[.int .i64 d5, .slice none 0 0, .slice none 0 0] 25 (0, 0)) (by (with_reducible repeat (first | refine blk_drewN ?_ _ | refine blk_drew ?_ | refine blk_alloc ?_ _)); exact a4.out) hb); have f7 := Aside0.mk (blk_below (g := a2) (o := .cells #[.int .i64 (wrap64 (a0_0 * a1_0)), .slice (some e9) b3.length e3, d0] 25 (0, 0)) (by (with_reducible repeat (first | refine blk_drewN ?_ _ | refine blk_drew ?_ | refine blk_alloc ?_ _)); exact a3.out) hb); have g5 := Aside0.mk (blk_below (g := b5) (o := .cells #[.int .i64 ((rd_T51 a9 a7).f0), .int .i64 ((rd_T51 a9 a7).f1), .int .i64 ((rd_T51 a9 a7).f2)] 51 (0, 0)) (by (with_reducible repeat (first | refine blk_drewN ?_ _ | refine blk_drew ?_ | refine blk_alloc ?_ _)); exact e6.out) hb); have g4 := Aside0.mk (below_step (by repeat (first | (with_reducible first | exact HB.out | apply below_alloc | apply pw_below_drewN | apply below_drew1 | refine below_set ?_ b9.out | refine below_set ?_ d1.out | refine below_set ?_ d2.out | refine below_set ?_ d4.out | refine below_set ?_ i4.out) | exact HB.out)) hb); have g0 := Aside0.mk (hbox); have i3 := Aside0.mk ((by rw [hg]; exact (below_size (by repeat (first | (with_reducible first | exact HB.out | apply below_alloc | apply pw_below_drewN | apply below_drew1 | refine below_set ?_ b9.out | refine below_set ?_ d1.out | refine below_set ?_ d2.out | refine below_set ?_ d4.out | refine below_set ?_ i4.out) | exact HB.out))) : w.heap.size ≤ b4)); have v4 := Aside0.mk ((by rw [hg]; exact (below_size (by repeat (first | (with_reducible first | exact HB.out | apply below_alloc | apply pw_below_drewN | apply below_drew1 | refine below_set ?_ b9.out | refine below_set ?_ d1.out | refine below_set ?_ d2.out | refine below_set ?_ d4.out | refine below_set ?_ i4.out) | exact HB.out))) : w.heap.size ≤ b4)); have u7 := Aside0.mk ((by rw [hg]; exact Nat.ne_of_lt (blk_lt (g := a6) (o := .cells #[.int .i64 a0_0, .slice A0_1 l0_1.length c0_1, .slice A0_2 l0_2.length c0_2] 25 (0, 0)) (by (with_reducible repeat (first | refine blk_drewN ?_ _ | refine blk_drew ?_ | refine blk_alloc ?_ _)); exact a0.out)) : a6 ≠ b4)); have v3 := Aside0.mk ((by rw [hg]; exact Nat.ne_of_gt (blk_lt (g := a6) (o := .cells #[.int .i64 a0_0, .slice A0_1 l0_1.length c0_1, .slice A0_2 l0_2.length c0_2] 25 (0, 0)) (by (with_reducible repeat (first | refine blk_drewN ?_ _ | refine blk_drew ?_ | refine blk_alloc ?_ _)); exact a0.out)) : b4 ≠ a6)); have v2 := Aside0.mk ((by rw [hg]; exact Nat.ne_of_lt (blk_lt (g := b0) (o := .cells #[.int .i64 a1_0, .slice A1_1 l1_1.length c1_1, .slice A1_2 l1_2.length c1_2] 25 (0, 0)) (by (with_reducible repeat (first | refine blk_drewN ?_ _ | refine blk_drew ?_ | refine blk_alloc ?_ _)); exact a1.out)) : b0 ≠ b4)); have u6 := Aside0.mk ((by rw [hg]; exact Nat.ne_of_gt (blk_lt (g := b0) (o := .cells #[.int .i64 a1_0, .slice A1_1 l1_1.length c1_1, .slice A1_2 l1_2.length c1_2] 25 (0, 0)) (by (with_reducible repeat (first | refine blk_drewN ?_ _ | refine blk_drew ?_ | refine blk_alloc ?_ _)); exact a1.out)) : b4 ≠ b0)); have u9 := Aside0.mk ((by rw [hg]; exact Nat.ne_of_lt (blk_lt (g := b1) (o := .cells #[.int .i64 d5, .slice none 0 0, .slice none 0 0] 25 (0, 0)) (by (with_reducible repeat (first | refine blk_drewN ?_ _ | refine blk_drew ?_ | refine blk_alloc ?_ _)); exact a4.out)) : b1 ≠ b4)); have u5 := Aside0.mk ((by rw [hg]; exact Nat.ne_of_gt (blk_lt (g := b1) (o := .cells #[.int .i64 d5, .slice none 0 0, .slice none 0 0] 25 (0, 0)) (by (with_reducible repeat (first | refine blk_drewN ?_ _ | refine blk_drew ?_ | refine blk_alloc ?_ _)); exact a4.out)) : b4 ≠ b1)); have H8 := Aside0.mk ((by rw [hg]; exact Nat.ne_of_lt (blk_lt (g := a2) (o := .cells #[.int .i64 (wrap64 (a0_0 * a1_0)), .slice (some e9) b3.length e3, d0] 25 (0, 0)) (by (with_reducible repeat (first | refine blk_drewN ?_ _ | refine blk_drew ?_ | refine blk_alloc ?_ _)); exact a3.out)) : a2 ≠ b4)); have G0 := Aside0.mk ((by rw [hg]; exact Nat.ne_of_gt (blk_lt (g := a2) (o := .cells #[.int .i64 (wrap64 (a0_0 * a1_0)), .slice (some e9) b3.length e3, d0] 25 (0, 0)) (by (with_reducible repeat (first | refine blk_drewN ?_ _ | refine blk_drew ?_ | refine blk_alloc ?_ _)); exact a3.out)) : b4 ≠ a2)); have H2 := Aside0.mk ((by rw [hg]; exact Nat.ne_of_lt (blk_lt (g := b5) (o := .cells #[.int .i64 ((rd_T51 a9 a7).f0), .int .i64 ((rd_T51 a9 a7).f1), .int .i64 ((rd_T51 a9 a7).f2)] 51 (0, 0)) (by (with_reducible repeat (first | refine blk_drewN ?_ _ | refine blk_drew ?_ | refine blk_alloc ?_ _)); exact e6.out)) : b5 ≠ b4)); have G8 := Aside0.mk ((by rw [hg]; exact Nat.ne_of_gt (blk_lt (g := b5) (o := .cells #[.int .i64 ((rd_T51 a9 a7).f0), .int .i64 ((rd_T51 a9 a7).f1), .int .i64 ((rd_T51 a9 a7).f2)] 51 (0, 0)) (by (with_reducible repeat (first | refine blk_drewN ?_ _ | refine blk_drew ?_ | refine blk_alloc ?_ _)); exact e6.out)) : b4 ≠ b5)); clear f9; clear e1; clear f8; clear i2; clear b6; clear a5; clear a0; clear a1; clear a4; clear a3; clear e6; clear HB; have f9 := d7; have e1 := d9; have f8 := d8; have i2 := e0; have b6 := e8; have a5 := f3; have a0 := f4; have a1 := f5; have a4 := f6; have a3 := f7; have e6 := g5; have HB := g4; have h1 := g0; have aE := i3; have B8 := v4; have i6 := u7; have C2 := v3; have i5 := v2; have C0 := u6; have i8 := u9; have C5 := u5; have i7 := H8; have C6 := G0; have g7 := H2; have C1 := G8; clear d7 d9 d8 e0 e8 f3 f4 f5 f6 f7 g5 g4 g0 i3 v4 u7 v3 v2 u6 u9 u5 H8 G0 H2 G8; clear hb hbox hg; have U9 := C2.out; have aa := i6.out; have Z8 := C0.out; have V0 := i5.out; have X3 := C5.out; have W7 := i8.out; have Z9 := C6.out; have W1 := i7.out; have V3 := C1.out; have Z4 := g7.out; have P2 : m9.cell? ⟨b4, 0, none⟩ = some (.int .i64 0) := (blk_cell h1.out 0).trans rfl; have O7 : m9.cell? ⟨b4, 1, none⟩ = some (.int .i64 0) := (blk_cell h1.out 1).trans rfl; have P7 : m9.cell? ⟨b4, 2, none⟩ = some (.int .i64 0) := (blk_cell h1.out 2).trans rfl; have N6 := blk_frozen h1.out 0; have Q1 := blk_frozen h1.out 1; have N2 := blk_frozen h1.out 2; have Y3 := e5.out; have W9 := b7.out; have X2 := e4.out; have Z7 := b8.out; have Z5 := e2.out; have W0 := d3.out; have Y5 := h7.out; have X7 := n1.out; have O6 : m9.cell? ⟨a2, 0, none⟩ = some (.int .i64 (wrap64 (a0_0 * a1_0))) := (blk_cell a3.out 0).trans rfl; have R9 : m9.cell? ⟨a2, 1, none⟩ = some (.slice (some e9) b3.length e3) := (blk_cell a3.out 1).trans rfl; have P8 : m9.cell? ⟨a2, 2, none⟩ = some (d0) := (blk_cell a3.out 2).trans rfl; have O9 := blk_frozen a3.out 0; have M6 := blk_frozen a3.out 1; have O0 := blk_frozen a3.out 2; have W5 := t3.out; have U7 := h9.out; have Y7 := s8.out; have X0 := h6.out; have Y6 := t4.out; have V9 := h8.out; have R1 : m9.cell? ⟨b5, 0, none⟩ = some (.int .i64 ((rd_T51 a9 a7).f0)) := (blk_cell e6.out 0).trans rfl; have N5 : m9.cell? ⟨b5, 1, none⟩ = some (.int .i64 ((rd_T51 a9 a7).f1)) := (blk_cell e6.out 1).trans rfl; have R5 : m9.cell? ⟨b5, 2, none⟩ = some (.int .i64 ((rd_T51 a9 a7).f2)) := (blk_cell e6.out 2).trans rfl; have O3 := blk_frozen e6.out 0; have N9 := blk_frozen e6.out 1; have N3 := blk_frozen e6.out 2; have U6 := h5.out; have U5 := i1.out; have Y9 := g8.out; have V7 := g2.out; have R2 : m9.cell? ⟨b0, 0, none⟩ = some (.int .i64 a1_0) := (blk_cell a1.out 0).trans rfl; have Q4 : m9.cell? ⟨b0, 1, none⟩ = some (.slice A1_1 l1_1.length c1_1) := (blk_cell a1.out 1).trans rfl; have P5 : m9.cell? ⟨b0, 2, none⟩ = some (.slice A1_2 l1_2.length c1_2) := (blk_cell a1.out 2).trans rfl; have Q3 := blk_frozen a1.out 0; have R3 := blk_frozen a1.out 1; have Q5 := blk_frozen a1.out 2) | ((with_reducible refine gate_builtin (b := .append) (xs := #[.tmp 84, .tmp 103]) rfl ?_); (try (refine gate_guard (by rfl) ?_; dsimp only)); at_builtin; refine Kd.R_append k51 (w0 := w) w.heap.size rfl (.tmp 84) (.tmp 103) 23 51 (.agg #[(.int .i64 0), (.int .i64 0), (.int .i64 0)]) 24 rfl Try.underlying23 info51 rfl (by decide) (by omega) d0 g3 (⟨wrap64 ((wrap64 (((rd_T51 a9 a7).f0) * a1_0)) + ((rd_T51 a8 b2).f0)), d6, wrap64 ((wrap64 (((rd_T51 a9 a7).f2) * a1_0)) + ((rd_T51 a8 b2).f2))⟩ : S51) [.int .i64 (wrap64 ((wrap64 (((rd_T51 a9 a7).f0) * a1_0)) + ((rd_T51 a8 b2).f0))), .int .i64 d6, .int .i64 (wrap64 ((wrap64 (((rd_T51 a9 a7).f2) * a1_0)) + ((rd_T51 a8 b2).f2)))] (fun k_ => some k_ ≠ (.slice (some t6) a8.length h4 : Value).ownBlock ∧ some k_ ≠ (.slice (some m0) a9.length i9 : Value).ownBlock ∧ some k_ ≠ (.slice (some t6) a8.length h4 : Value).ownBlock ∧ k_ ≠ b5 ∧ k_ ≠ b4) (fun _ => False) rfl (by first | (go_simp; done) | (go_simp; rfl)) ?aP (fun _ hk => hk.elim) ?aF ?aO ?aB ?aS ?aL ?_; (case aP => exact k51_mkM _ _ _ (⟨wrap64 ((wrap64 (((rd_T51 a9 a7).f0) * a1_0)) + ((rd_T51 a8 b2).f0)), d6, wrap64 ((wrap64 (((rd_T51 a9 a7).f2) * a1_0)) + ((rd_T51 a8 b2).f2))⟩ : S51)); (case aB => exact (by repeat (first | (with_reducible first | exact HB.out | apply below_alloc | apply pw_below_drewN | apply below_drew1 | refine below_set ?_ b9.out | refine below_set ?_ d1.out | refine below_set ?_ d2.out | refine below_set ?_ d4.out | refine below_set ?_ i4.out | refine below_set ?_ B8.out) | exact HB.out))); (case aF => exact (fun k_ hk => ⟨Kd.fresh' (Kd.R_lt (by (with_reducible repeat (first | apply Kd.R_alloc | apply Kd.R_drewN | apply Kd.R_drew)); exact (Kd.R_mono (Kd.R_far (p := ⟨b4, 2, none⟩) (Kd.R_far (p := ⟨b4, 1, none⟩) (Kd.R_far (p := ⟨b4, 0, none⟩) (Kd.R_mono f9.out (fun k_ hk => (⟨hk, hk.2⟩ : _ ∧ k_ ≠ b4))) (fun _ hk => hk.2) (.int .i64 ((rd_T51 a8 b2).f0))) (fun _ hk => hk.2) (.int .i64 ((rd_T51 a8 b2).f1))) (fun _ hk => hk.2) (.int .i64 ((rd_T51 a8 b2).f2))) (fun _ h_ => h_.1)))) k_ hk, Kd.fresh' (Kd.R_lt (by (with_reducible repeat (first | apply Kd.R_alloc | apply Kd.R_drewN | apply Kd.R_drew)); exact (Kd.R_mono (Kd.R_far (p := ⟨b4, 2, none⟩) (Kd.R_far (p := ⟨b4, 1, none⟩) (Kd.R_far (p := ⟨b4, 0, none⟩) (Kd.R_mono f8.out (fun k_ hk => (⟨hk, hk.2⟩ : _ ∧ k_ ≠ b4))) (fun _ hk => hk.2) (.int .i64 ((rd_T51 a8 b2).f0))) (fun _ hk => hk.2) (.int .i64 ((rd_T51 a8 b2).f1))) (fun _ hk => hk.2) (.int .i64 ((rd_T51 a8 b2).f2))) (fun _ h_ => h_.1)))) k_ hk, Kd.fresh' (Kd.R_lt (by (with_reducible repeat (first | apply Kd.R_alloc | apply Kd.R_drewN | apply Kd.R_drew)); exact (Kd.R_mono (Kd.R_far (p := ⟨b4, 2, none⟩) (Kd.R_far (p := ⟨b4, 1, none⟩) (Kd.R_far (p := ⟨b4, 0, none⟩) (Kd.R_mono i2.out (fun k_ hk => (⟨hk, hk.2⟩ : _ ∧ k_ ≠ b4))) (fun _ hk => hk.2) (.int .i64 ((rd_T51 a8 b2).f0))) (fun _ hk => hk.2) (.int .i64 ((rd_T51 a8 b2).f1))) (fun _ hk => hk.2) (.int .i64 ((rd_T51 a8 b2).f2))) (fun _ h_ => h_.1)))) k_ hk, Kd.freshB (g := b5) (o := .cells #[.int .i64 ((rd_T51 a9 a7).f0), .int .i64 ((rd_T51 a9 a7).f1), .int .i64 ((rd_T51 a9 a7).f2)] 51 (0, 0)) (by (with_reducible repeat (first | refine blk_drewN ?_ _ | refine blk_drew ?_ | refine blk_alloc ?_ _)); refine blk_far ?_ g7.out _; (with_reducible repeat (first | refine blk_drewN ?_ _ | refine blk_drew ?_ | refine blk_alloc ?_ _)); refine blk_far ?_ g7.out _; (with_reducible repeat (first | refine blk_drewN ?_ _ | refine blk_drew ?_ | refine blk_alloc ?_ _)); refine blk_far ?_ g7.out _; (with_reducible repeat (first | refine blk_drewN ?_ _ | refine blk_drew ?_ | refine blk_alloc ?_ _)); exact e6.out) k_ hk, Kd.freshB (g := b4) (o := .cells #[.int .i64 ((rd_T51 a8 b2).f0), .int .i64 ((rd_T51 a8 b2).f1), .int .i64 ((rd_T51 a8 b2).f2)] 51 (0, 0)) (by (with_reducible repeat (first | refine blk_drewN ?_ _ | refine blk_drew ?_ | refine blk_alloc ?_ _)); refine blk_put (cs := #[.int .i64 ((rd_T51 a8 b2).f0), .int .i64 ((rd_T51 a8 b2).f1), .int .i64 0]) ?_ 2 _ rfl; (with_reducible repeat (first | refine blk_drewN ?_ _ | refine blk_drew ?_ | refine blk_alloc ?_ _)); refine blk_put (cs := #[.int .i64 ((rd_T51 a8 b2).f0), .int .i64 0, .int .i64 0]) ?_ 1 _ rfl; (with_reducible repeat (first | refine blk_drewN ?_ _ | refine blk_drew ?_ | refine blk_alloc ?_ _)); refine blk_put (cs := #[.int .i64 0, .int .i64 0, .int .i64 0]) ?_ 0 _ rfl; (with_reducible repeat (first | refine blk_drewN ?_ _ | refine blk_drew ?_ | refine blk_alloc ?_ _)); exact h1.out) k_ hk⟩)); (case aO => exact (by (with_reducible repeat (first | apply Kd.R_alloc | apply Kd.R_drewN | apply Kd.R_drew)); exact Kd.R_mono (Kd.R_far (p := ⟨b4, 2, none⟩) (Kd.R_far (p := ⟨b4, 1, none⟩) (Kd.R_far (p := ⟨b4, 0, none⟩) (Kd.R_mono a5.out (fun k_ hk => (⟨hk, hk.2⟩ : _ ∧ k_ ≠ b4))) (fun _ hk => hk.2) (.int .i64 ((rd_T51 a8 b2).f0))) (fun _ hk => hk.2) (.int .i64 ((rd_T51 a8 b2).f1))) (fun _ hk => hk.2) (.int .i64 ((rd_T51 a8 b2).f2))) (fun _ hk => ⟨hk.1.1.1, ⟨hk.1.1.2.1, ⟨hk.1.1.2.2.1, ⟨hk.1.1.2.2.2, hk.1.2⟩⟩⟩⟩))); (case aS => exact (below_size (by repeat (first | (with_reducible first | exact HB.out | apply below_alloc | apply pw_below_drewN | apply below_drew1 | refine below_set ?_ b9.out | refine below_set ?_ d1.out | refine below_set ?_ d2.out | refine below_set ?_ d4.out | refine below_set ?_ i4.out | refine below_set ?_ B8.out) | exact HB.out)))); (case aL => have := I9.out; omega); intro bO D4 ho hb hg hat; rw [← J5.out] at ho; have d7 := Aside0.mk (Kd.R_after (ok := (fun k_ => some k_ ≠ (.slice (some m0) a9.length i9 : Value).ownBlock ∧ k_ ≠ b5 ∧ k_ ≠ b4)) (by (with_reducible repeat (first | apply Kd.R_alloc | apply Kd.R_drewN | apply Kd.R_drew)); exact Kd.R_mono (Kd.R_far (p := ⟨b4, 2, none⟩) (Kd.R_far (p := ⟨b4, 1, none⟩) (Kd.R_far (p := ⟨b4, 0, none⟩) (Kd.R_mono f9.out (fun k_ hk => (⟨hk, hk.2⟩ : _ ∧ k_ ≠ b4))) (fun _ hk => hk.2) (.int .i64 ((rd_T51 a8 b2).f0))) (fun _ hk => hk.2) (.int .i64 ((rd_T51 a8 b2).f1))) (fun _ hk => hk.2) (.int .i64 ((rd_T51 a8 b2).f2))) (fun _ hk => ⟨⟨hk.1.1.1, ⟨hk.1.1.2.2, hk.1.2⟩⟩, hk.1.1.2.1⟩)) hg hat); have d9 := Aside0.mk (Kd.R_over' (by (with_reducible repeat (first | apply Kd.R_alloc | apply Kd.R_drewN | apply Kd.R_drew)); exact (Kd.R_mono (Kd.R_far (p := ⟨b4, 2, none⟩) (Kd.R_far (p := ⟨b4, 1, none⟩) (Kd.R_far (p := ⟨b4, 0, none⟩) (Kd.R_types e1.out h1.out (by decide)) (fun _ hk => hk.2) (.int .i64 ((rd_T51 a8 b2).f0))) (fun _ hk => hk.2) (.int .i64 ((rd_T51 a8 b2).f1))) (fun _ hk => hk.2) (.int .i64 ((rd_T51 a8 b2).f2))) (fun _ h_ => h_.1))) (Kd.R_typed (by (with_reducible repeat (first | apply Kd.R_alloc | apply Kd.R_drewN | apply Kd.R_drew)); exact (Kd.R_mono (Kd.R_far (p := ⟨b4, 2, none⟩) (Kd.R_far (p := ⟨b4, 1, none⟩) (Kd.R_far (p := ⟨b4, 0, none⟩) (Kd.R_mono a5.out (fun k_ hk => (⟨hk, hk.2⟩ : _ ∧ k_ ≠ b4))) (fun _ hk => hk.2) (.int .i64 ((rd_T51 a8 b2).f0))) (fun _ hk => hk.2) (.int .i64 ((rd_T51 a8 b2).f1))) (fun _ hk => hk.2) (.int .i64 ((rd_T51 a8 b2).f2))) (fun _ h_ => h_.1)))) (by decide) hg); have d8 := Aside0.mk (Kd.R_after (ok := (fun k_ => some k_ ≠ (.slice (some t6) a8.length h4 : Value).ownBlock ∧ some k_ ≠ (.slice (some t6) a8.length h4 : Value).ownBlock ∧ k_ ≠ b5 ∧ k_ ≠ b4)) (by (with_reducible repeat (first | apply Kd.R_alloc | apply Kd.R_drewN | apply Kd.R_drew)); exact Kd.R_mono (Kd.R_far (p := ⟨b4, 2, none⟩) (Kd.R_far (p := ⟨b4, 1, none⟩) (Kd.R_far (p := ⟨b4, 0, none⟩) (Kd.R_mono f8.out (fun k_ hk => (⟨hk, hk.2⟩ : _ ∧ k_ ≠ b4))) (fun _ hk => hk.2) (.int .i64 ((rd_T51 a8 b2).f0))) (fun _ hk => hk.2) (.int .i64 ((rd_T51 a8 b2).f1))) (fun _ hk => hk.2) (.int .i64 ((rd_T51 a8 b2).f2))) (fun _ hk => ⟨⟨hk.1.1.1, ⟨hk.1.1.2.1, ⟨hk.1.1.2.2.2, hk.1.2⟩⟩⟩, hk.1.1.2.2.1⟩)) hg hat); have e0 := Aside0.mk (Kd.R_after (ok := (fun k_ => some k_ ≠ (.slice (some m0) a9.length i9 : Value).ownBlock ∧ k_ ≠ b5 ∧ k_ ≠ b4)) (by (with_reducible repeat (first | apply Kd.R_alloc | apply Kd.R_drewN | apply Kd.R_drew)); exact Kd.R_mono (Kd.R_far (p := ⟨b4, 2, none⟩) (Kd.R_far (p := ⟨b4, 1, none⟩) (Kd.R_far (p := ⟨b4, 0, none⟩) (Kd.R_mono i2.out (fun k_ hk => (⟨hk, hk.2⟩ : _ ∧ k_ ≠ b4))) (fun _ hk => hk.2) (.int .i64 ((rd_T51 a8 b2).f0))) (fun _ hk => hk.2) (.int .i64 ((rd_T51 a8 b2).f1))) (fun _ hk => hk.2) (.int .i64 ((rd_T51 a8 b2).f2))) (fun _ hk => ⟨⟨hk.1.1.1, ⟨hk.1.1.2.2, hk.1.2⟩⟩, hk.1.1.2.1⟩)) hg hat); have e8 := Aside0.mk (Kd.R_over' (by (with_reducible repeat (first | apply Kd.R_alloc | apply Kd.R_drewN | apply Kd.R_drew)); exact (Kd.R_mono (Kd.R_far (p := ⟨b4, 2, none⟩) (Kd.R_far (p := ⟨b4, 1, none⟩) (Kd.R_far (p := ⟨b4, 0, none⟩) (Kd.R_types b6.out h1.out (by decide)) (fun _ hk => hk.2) (.int .i64 ((rd_T51 a8 b2).f0))) (fun _ hk => hk.2) (.int .i64 ((rd_T51 a8 b2).f1))) (fun _ hk => hk.2) (.int .i64 ((rd_T51 a8 b2).f2))) (fun _ h_ => h_.1))) (Kd.R_typed (by (with_reducible repeat (first | apply Kd.R_alloc | apply Kd.R_drewN | apply Kd.R_drew)); exact (Kd.R_mono (Kd.R_far (p := ⟨b4, 2, none⟩) (Kd.R_far (p := ⟨b4, 1, none⟩) (Kd.R_far (p := ⟨b4, 0, none⟩) (Kd.R_mono a5.out (fun k_ hk => (⟨hk, hk.2⟩ : _ ∧ k_ ≠ b4))) (fun _ hk => hk.2) (.int .i64 ((rd_T51 a8 b2).f0))) (fun _ hk => hk.2) (.int .i64 ((rd_T51 a8 b2).f1))) (fun _ hk => hk.2) (.int .i64 ((rd_T51 a8 b2).f2))) (fun _ h_ => h_.1)))) (by decide) hg); have f3 := Aside0.mk (blk_grown (g := a6) (o := .cells #[.int .i64 a0_0, .slice A0_1 l0_1.length c0_1, .slice A0_2 l0_2.length c0_2] 25 (0, 0)) (by (with_reducible repeat (first | refine blk_drewN ?_ _ | refine blk_drew ?_ | refine blk_alloc ?_ _)); refine blk_far ?_ i6.out _; (with_reducible repeat (first | refine blk_drewN ?_ _ | refine blk_drew ?_ | refine blk_alloc ?_ _)); refine blk_far ?_ i6.out _; (with_reducible repeat (first | refine blk_drewN ?_ _ | refine blk_drew ?_ | refine blk_alloc ?_ _)); refine blk_far ?_ i6.out _; (with_reducible repeat (first | refine blk_drewN ?_ _ | refine blk_drew ?_ | refine blk_alloc ?_ _)); exact a0.out) hg (Kd.R_ne a5.out a0.out (by decide))); have f4 := Aside0.mk (blk_grown (g := b0) (o := .cells #[.int .i64 a1_0, .slice A1_1 l1_1.length c1_1, .slice A1_2 l1_2.length c1_2] 25 (0, 0)) (by (with_reducible repeat (first | refine blk_drewN ?_ _ | refine blk_drew ?_ | refine blk_alloc ?_ _)); refine blk_far ?_ i5.out _; (with_reducible repeat (first | refine blk_drewN ?_ _ | refine blk_drew ?_ | refine blk_alloc ?_ _)); refine blk_far ?_ i5.out _; (with_reducible repeat (first | refine blk_drewN ?_ _ | refine blk_drew ?_ | refine blk_alloc ?_ _)); refine blk_far ?_ i5.out _; (with_reducible repeat (first | refine blk_drewN ?_ _ | refine blk_drew ?_ | refine blk_alloc ?_ _)); exact a1.out) hg (Kd.R_ne a5.out a1.out (by decide))); have f5 := Aside0.mk (blk_grown (g := b1) (o := .cells #[.int .i64 d5, .slice none 0 0, .slice none 0 0] 25 (0, 0)) (by (with_reducible repeat (first | refine blk_drewN ?_ _ | refine blk_drew ?_ | refine blk_alloc ?_ _)); refine blk_far ?_ i8.out _; (with_reducible repeat (first | refine blk_drewN ?_ _ | refine blk_drew ?_ | refine blk_alloc ?_ _)); refine blk_far ?_ i8.out _; (with_reducible repeat (first | refine blk_drewN ?_ _ | refine blk_drew ?_ | refine blk_alloc ?_ _)); refine blk_far ?_ i8.out _; (with_reducible repeat (first | refine blk_drewN ?_ _ | refine blk_drew ?_ | refine blk_alloc ?_ _)); exact a4.out) hg (Kd.R_ne a5.out a4.out (by decide))); have f6 := Aside0.mk (blk_grown (g := a2) (o := .cells #[.int .i64 (wrap64 (a0_0 * a1_0)), .slice (some e9) b3.length e3, d0] 25 (0, 0)) (by (with_reducible repeat (first | refine blk_drewN ?_ _ | refine blk_drew ?_ | refine blk_alloc ?_ _)); refine blk_far ?_ i7.out _; (with_reducible repeat (first | refine blk_drewN ?_ _ | refine blk_drew ?_ | refine blk_alloc ?_ _)); refine blk_far ?_ i7.out _; (with_reducible repeat (first | refine blk_drewN ?_ _ | refine blk_drew ?_ | refine blk_alloc ?_ _)); refine blk_far ?_ i7.out _; (with_reducible repeat (first | refine blk_drewN ?_ _ | refine blk_drew ?_ | refine blk_alloc ?_ _)); exact a3.out) hg (Kd.R_ne a5.out a3.out (by decide))); have f7 := Aside0.mk (blk_grown (g := b5) (o := .cells #[.int .i64 ((rd_T51 a9 a7).f0), .int .i64 ((rd_T51 a9 a7).f1), .int .i64 ((rd_T51 a9 a7).f2)] 51 (0, 0)) (by (with_reducible repeat (first | refine blk_drewN ?_ _ | refine blk_drew ?_ | refine blk_alloc ?_ _)); refine blk_far ?_ g7.out _; (with_reducible repeat (first | refine blk_drewN ?_ _ | refine blk_drew ?_ | refine blk_alloc ?_ _)); refine blk_far ?_ g7.out _; (with_reducible repeat (first | refine blk_drewN ?_ _ | refine blk_drew ?_ | refine blk_alloc ?_ _)); refine blk_far ?_ g7.out _; (with_reducible repeat (first | refine blk_drewN ?_ _ | refine blk_drew ?_ | refine blk_alloc ?_ _)); exact e6.out) hg (Kd.R_away a5.out (fun _ hk => hk.1.2.2.2))); have g5 := Aside0.mk (blk_grown (g := b4) (o := .cells #[.int .i64 ((rd_T51 a8 b2).f0), .int .i64 ((rd_T51 a8 b2).f1), .int .i64 ((rd_T51 a8 b2).f2)] 51 (0, 0)) (by (with_reducible repeat (first | refine blk_drewN ?_ _ | refine blk_drew ?_ | refine blk_alloc ?_ _)); refine blk_put (cs := #[.int .i64 ((rd_T51 a8 b2).f0), .int .i64 ((rd_T51 a8 b2).f1), .int .i64 0]) ?_ 2 _ rfl; (with_reducible repeat (first | refine blk_drewN ?_ _ | refine blk_drew ?_ | refine blk_alloc ?_ _)); refine blk_put (cs := #[.int .i64 ((rd_T51 a8 b2).f0), .int .i64 0, .int .i64 0]) ?_ 1 _ rfl; (with_reducible repeat (first | refine blk_drewN ?_ _ | refine blk_drew ?_ | refine blk_alloc ?_ _)); refine blk_put (cs := #[.int .i64 0, .int .i64 0, .int .i64 0]) ?_ 0 _ rfl; (with_reducible repeat (first | refine blk_drewN ?_ _ | refine blk_drew ?_ | refine blk_alloc ?_ _)); exact h1.out) hg (Kd.R_away a5.out (fun _ hk => hk.2))); have g4 := Aside0.mk (hb); have g0 := Aside0.mk (ho); clear f9; clear e1; clear f8; clear i2; clear b6; clear a0; clear a1; clear a4; clear a3; clear e6; clear h1; clear HB; clear a5; have f9 := d7; have e1 := d9; have f8 := d8; have i2 := e0; have b6 := e8; have a0 := f3; have a1 := f4; have a4 := f5; have a3 := f6; have e6 := f7; have h1 := g5; have HB := g4; have E3 := g0; clear d7 d9 d8 e0 e8 f3 f4 f5 f6 f7 g5 g4 g0; clear ho hb hg hat; obtain ⟨m7, m3, J1⟩ := Kd.R_slice E3.out; subst J1; have Q2 : D4.cell? ⟨a2, 0, none⟩ = some (.int .i64 (wrap64 (a0_0 * a1_0))) := (blk_cell a3.out 0).trans rfl; have O1 : D4.cell? ⟨a2, 1, none⟩ = some (.slice (some e9) b3.length e3) := (blk_cell a3.out 1).trans rfl; have N8 : D4.cell? ⟨a2, 2, none⟩ = some (d0) := (blk_cell a3.out 2).trans rfl; have P9 := blk_frozen a3.out 0; have M2 := blk_frozen a3.out 1; have M4 := blk_frozen a3.out 2))
                        go_roundg k5
                        case measure => have := t0.out; have := q8.out; have := v6.out; have := x3.out; have := D9.out; omega
                        case rel => exact ⟨(wrap64 (b2 + 1)), (m5), (.slice m7 m5.length m3), (by first | rfl | (simp; done) | (simp [*]; done)), H', ⟨by have := t0.out; have := q8.out; have := v6.out; have := x3.out; have := D9.out; omega⟩, ⟨by (with_reducible repeat (first | apply Kd.R_alloc | apply Kd.R_drewN | apply Kd.R_drew)); exact Kd.R_mono (Kd.R_far (p := ⟨a2, 2, none⟩) (Kd.R_types f9.out a3.out (by decide)) (fun _ hk => hk.2) (.slice m7 m5.length m3)) (fun _ hk => ⟨hk.1.1.1, ⟨hk.1.2, hk.1.1.2.1⟩⟩)⟩, ⟨by (with_reducible repeat (first | apply Kd.R_alloc | apply Kd.R_drewN | apply Kd.R_drew)); exact Kd.R_mono (Kd.R_far (p := ⟨a2, 2, none⟩) (Kd.R_types e1.out a3.out (by decide)) (fun _ hk => hk.2) (.slice m7 m5.length m3)) (fun _ hk => trivial)⟩, ⟨by (with_reducible repeat (first | apply Kd.R_alloc | apply Kd.R_drewN | apply Kd.R_drew)); exact Kd.R_mono (Kd.R_far (p := ⟨a2, 2, none⟩) (Kd.R_types f8.out a3.out (by decide)) (fun _ hk => hk.2) (.slice m7 m5.length m3)) (fun _ hk => ⟨hk.1.1.1, ⟨hk.1.1.2.1, ⟨hk.1.2, hk.1.1.2.2.1⟩⟩⟩)⟩, ⟨by (with_reducible repeat (first | apply Kd.R_alloc | apply Kd.R_drewN | apply Kd.R_drew)); exact Kd.R_mono (Kd.R_far (p := ⟨a2, 2, none⟩) (Kd.R_types i2.out a3.out (by decide)) (fun _ hk => hk.2) (.slice m7 m5.length m3)) (fun _ hk => ⟨hk.1.1.1, ⟨hk.1.2, hk.1.1.2.1⟩⟩)⟩, ⟨by (with_reducible repeat (first | apply Kd.R_alloc | apply Kd.R_drewN | apply Kd.R_drew)); exact Kd.R_mono (Kd.R_far (p := ⟨a2, 2, none⟩) (Kd.R_types b6.out a3.out (by decide)) (fun _ hk => hk.2) (.slice m7 m5.length m3)) (fun _ hk => trivial)⟩, ⟨by (with_reducible repeat (first | apply Kd.R_alloc | apply Kd.R_drewN | apply Kd.R_drew)); exact Kd.R_mono (Kd.R_far (p := ⟨a2, 2, none⟩) (Kd.R_types E3.out a3.out (by decide)) (fun _ hk => hk.2) (.slice m7 m5.length m3)) (fun _ hk => ⟨hk.1.1, ⟨hk.1.2.1, ⟨hk.1.2.2.1, hk.1.2.2.2.1⟩⟩⟩)⟩, ⟨by (with_reducible repeat (first | refine blk_drewN ?_ _ | refine blk_drew ?_ | refine blk_alloc ?_ _)); refine blk_far ?_ b7.out _; (with_reducible repeat (first | refine blk_drewN ?_ _ | refine blk_drew ?_ | refine blk_alloc ?_ _)); exact a0.out⟩, ⟨by (with_reducible repeat (first | refine blk_drewN ?_ _ | refine blk_drew ?_ | refine blk_alloc ?_ _)); refine blk_far ?_ b8.out _; (with_reducible repeat (first | refine blk_drewN ?_ _ | refine blk_drew ?_ | refine blk_alloc ?_ _)); exact a1.out⟩, ⟨by (with_reducible repeat (first | refine blk_drewN ?_ _ | refine blk_drew ?_ | refine blk_alloc ?_ _)); refine blk_far ?_ d3.out _; (with_reducible repeat (first | refine blk_drewN ?_ _ | refine blk_drew ?_ | refine blk_alloc ?_ _)); exact a4.out⟩, ⟨by (with_reducible repeat (first | refine blk_drewN ?_ _ | refine blk_drew ?_ | refine blk_alloc ?_ _)); refine blk_put (cs := #[.int .i64 (wrap64 (a0_0 * a1_0)), .slice (some e9) b3.length e3, d0]) ?_ 2 _ rfl; (with_reducible repeat (first | refine blk_drewN ?_ _ | refine blk_drew ?_ | refine blk_alloc ?_ _)); exact a3.out⟩, ⟨by (with_reducible repeat (first | refine blk_drewN ?_ _ | refine blk_drew ?_ | refine blk_alloc ?_ _)); refine blk_far ?_ n1.out _; (with_reducible repeat (first | refine blk_drewN ?_ _ | refine blk_drew ?_ | refine blk_alloc ?_ _)); exact e6.out⟩, ⟨by repeat (first | (with_reducible first | exact HB.out | apply below_alloc | apply pw_below_drewN | apply below_drew1 | refine below_set ?_ b9.out | refine below_set ?_ d1.out | refine below_set ?_ d2.out | refine below_set ?_ d4.out | refine below_set ?_ i4.out | refine below_set ?_ B8.out) | exact HB.out)⟩⟩
                       ·rw [if_neg E2] at H
                        exact absurd H (by simp)
                      ·rw [if_neg D8] at H
                       exact absurd H (by simp)
                     ·rw [if_neg D6] at H
                      exact absurd H (by simp)
                    ·rw [if_neg z5] at H
                     have c95b0 : decide (b2 < (a8.length : Int)) = false := decide_eq_false z5
                     clear z5
                     have H' := Aside0.mk H
                     clear H
                     go_wp2
                     go_roundg k5
                     case measure => have := t0.out; have := q8.out; have := v6.out; have := x3.out; have := D9.out; omega
                     case rel => exact ⟨(wrap64 (a7 + 1)), (g3), (d0), (by first | rfl | (simp; done) | (simp [*]; done)), H', ⟨by have := t0.out; have := q8.out; have := v6.out; have := x3.out; have := D9.out; omega⟩, ⟨by (with_reducible repeat (first | apply Kd.R_alloc | apply Kd.R_drewN | apply Kd.R_drew)); exact Kd.R_mono f9.out (fun _ hk => ⟨hk.1, hk.2.1⟩)⟩, ⟨by (with_reducible repeat (first | apply Kd.R_alloc | apply Kd.R_drewN | apply Kd.R_drew)); exact e1.out⟩, ⟨by (with_reducible repeat (first | apply Kd.R_alloc | apply Kd.R_drewN | apply Kd.R_drew)); exact Kd.R_mono f8.out (fun _ hk => ⟨hk.1, hk.2.2.1⟩)⟩, ⟨by (with_reducible repeat (first | apply Kd.R_alloc | apply Kd.R_drewN | apply Kd.R_drew)); exact b6.out⟩, ⟨by (with_reducible repeat (first | apply Kd.R_alloc | apply Kd.R_drewN | apply Kd.R_drew)); exact Kd.R_mono a5.out (fun _ hk => ⟨hk.1, hk.2.1⟩)⟩, ⟨by (with_reducible repeat (first | refine blk_drewN ?_ _ | refine blk_drew ?_ | refine blk_alloc ?_ _)); exact a0.out⟩, ⟨by (with_reducible repeat (first | refine blk_drewN ?_ _ | refine blk_drew ?_ | refine blk_alloc ?_ _)); exact a1.out⟩, ⟨by (with_reducible repeat (first | refine blk_drewN ?_ _ | refine blk_drew ?_ | refine blk_alloc ?_ _)); exact a4.out⟩, ⟨by (with_reducible repeat (first | refine blk_drewN ?_ _ | refine blk_drew ?_ | refine blk_alloc ?_ _)); exact a3.out⟩, ⟨by repeat (first | (with_reducible first | exact HB.out | apply below_alloc | apply pw_below_drewN | apply below_drew1 | refine below_set ?_ b9.out | refine below_set ?_ d1.out | refine below_set ?_ d2.out | refine below_set ?_ d4.out | refine below_set ?_ i4.out) | exact HB.out)⟩⟩
                 ·rw [if_neg C3] at H
                  exact absurd H (by simp)
                ·rw [if_neg C4] at H
                 exact absurd H (by simp)
               ·rw [if_neg u4] at H
                have c86b0 : decide (a7 < (a9.length : Int)) = false := decide_eq_false u4
                clear u4
                have H' := Aside0.mk H
                clear H
                go_wp2
                go_roundg k4
                case measure => have := t0.out; have := q8.out; have := v6.out; have := x3.out; omega
                case rel => exact ⟨(wrap64 (d6 + 1)), (d5), (i0), (d0), (by first | rfl | (simp; done) | (simp [*]; done)), H', ⟨by have := t0.out; have := q8.out; have := v6.out; have := x3.out; omega⟩, ⟨by (with_reducible repeat (first | apply Kd.R_alloc | apply Kd.R_drewN | apply Kd.R_drew)); exact e1.out⟩, ⟨by (with_reducible repeat (first | apply Kd.R_alloc | apply Kd.R_drewN | apply Kd.R_drew)); exact b6.out⟩, ⟨by (with_reducible repeat (first | apply Kd.R_alloc | apply Kd.R_drewN | apply Kd.R_drew)); exact Kd.R_mono a5.out (fun _ hk => trivial)⟩, ⟨by (with_reducible repeat (first | refine blk_drewN ?_ _ | refine blk_drew ?_ | refine blk_alloc ?_ _)); exact a0.out⟩, ⟨by (with_reducible repeat (first | refine blk_drewN ?_ _ | refine blk_drew ?_ | refine blk_alloc ?_ _)); exact a1.out⟩, ⟨by (with_reducible repeat (first | refine blk_drewN ?_ _ | refine blk_drew ?_ | refine blk_alloc ?_ _)); exact a4.out⟩, ⟨by (with_reducible repeat (first | refine blk_drewN ?_ _ | refine blk_drew ?_ | refine blk_alloc ?_ _)); exact a3.out⟩, ⟨by repeat (first | (with_reducible first | exact HB.out | apply below_alloc | apply pw_below_drewN | apply below_drew1 | refine below_set ?_ b9.out | refine below_set ?_ d1.out | refine below_set ?_ d2.out | refine below_set ?_ d4.out) | exact HB.out)⟩⟩
           ·rw [if_neg w3] at H
            exact absurd H (by simp)
          ·rw [if_neg z3] at H
           exact absurd H (by simp)
         ·rw [if_neg t2] at H
          have c54b0 : decide (d6 < (b3.length : Int)) = false := decide_eq_false t2
          clear t2
          replace H := Option.bind_eq_some_iff.mp H
          obtain ⟨⟨p7, r8, v1, H6⟩, E0, H⟩ := H
          replace H : (some (p7, r8, v1, H6)) = some (r1, r2, r3, r4) := H
          have M9 := Aside0.mk E0
          clear E0
          simp only [Option.some.injEq, Prod.mk.injEq] at H
          obtain ⟨rfl, rfl, rfl, rfl⟩ := H
          have Y8 := e5.out
          have X9 := b7.out
          have V4 := e4.out
          have Z3 := b8.out
          have V5 := e2.out
          have Z6 := d3.out
          have P3 : wr.cell? ⟨a2, 0, none⟩ = some (.int .i64 (wrap64 (a0_0 * a1_0))) := (blk_cell a3.out 0).trans rfl
          have S0 : wr.cell? ⟨a2, 1, none⟩ = some (.slice h3 b3.length e3) := (blk_cell a3.out 1).trans rfl
          have O5 : wr.cell? ⟨a2, 2, none⟩ = some (d0) := (blk_cell a3.out 2).trans rfl
          have P4 := blk_frozen a3.out 0
          have R0 := blk_frozen a3.out 1
          have N4 := blk_frozen a3.out 2
          obtain ⟨D7, E1, J2⟩ := Kd.R_slice a5.out
          subst J2
          go_wp2_with (first | ((with_reducible refine gate_callee (f := 25) rfl ?_); refine goesL_ (some 110) rfl rfl Try.func25 (by kernel_rfl) rfl #[.agg #[.int .i64 (wrap64 (a0_0 * a1_0)), .slice h3 b3.length e3, .slice D7 e7.length E1]] rfl (by (try simp only [List.map_toArray, List.map_cons, List.map_nil]); first | done | rfl | (simp only [List.length_drop, List.length_take]; rfl)) ?_; (with_reducible refine (Pxj.calls (wrap64 (a0_0 * a1_0)) _ _ b3 _ _ e7 p7 r8 v1 H6 _ ?m2 ?l9 ?m4 ?m1 M9.out).mono ?_); (case m2 => repeat (first | exact (Kd.R_reads' b6.out).2.2 | (with_reducible refine Kd.C_alloc ?_ _) | (with_reducible refine Kd.C_drewN ?_ _) | (with_reducible refine Kd.C_drew ?_))); (case l9 => exact (Kd.R_reads' b6.out).2.1); (case m4 => repeat (first | exact (Kd.R_reads' a5.out).2.2 | (with_reducible refine Kd.C_alloc ?_ _) | (with_reducible refine Kd.C_drewN ?_ _) | (with_reducible refine Kd.C_drew ?_))); (case m1 => exact (Kd.R_reads' a5.out).2.1); rintro e D1 ⟨bV, bX, rfl, h2, n0, hb⟩; refine ⟨_, rfl, ?_⟩; have d7 := Aside0.mk (Kd.R_elder' (by (with_reducible repeat (first | apply Kd.R_alloc | apply Kd.R_drewN | apply Kd.R_drew)); exact e1.out) (Kd.R_base h2) hb); have d9 := Aside0.mk (Kd.R_elder' (by (with_reducible repeat (first | apply Kd.R_alloc | apply Kd.R_drewN | apply Kd.R_drew)); exact b6.out) (Kd.R_base h2) hb); have d8 := Aside0.mk (Kd.R_elder' (by (with_reducible repeat (first | apply Kd.R_alloc | apply Kd.R_drewN | apply Kd.R_drew)); exact a5.out) (Kd.R_base n0) hb); have e0 := Aside0.mk (Kd.R_lower (Kd.R_new' (Kd.R_new' h2 (Kd.R_lt (by (with_reducible repeat (first | apply Kd.R_alloc | apply Kd.R_drewN | apply Kd.R_drew)); exact e1.out))) (Kd.R_lt (by (with_reducible repeat (first | apply Kd.R_alloc | apply Kd.R_drewN | apply Kd.R_drew)); exact b6.out))) (below_size (by repeat (first | (with_reducible first | exact HB.out | apply below_alloc | apply pw_below_drewN | apply below_drew1 | refine below_set ?_ b9.out | refine below_set ?_ d1.out | refine below_set ?_ d2.out | refine below_set ?_ d4.out) | exact HB.out)))); have e8 := Aside0.mk (Kd.R_lower (Kd.R_new' n0 (Kd.R_lt (by (with_reducible repeat (first | apply Kd.R_alloc | apply Kd.R_drewN | apply Kd.R_drew)); exact a5.out))) (below_size (by repeat (first | (with_reducible first | exact HB.out | apply below_alloc | apply pw_below_drewN | apply below_drew1 | refine below_set ?_ b9.out | refine below_set ?_ d1.out | refine below_set ?_ d2.out | refine below_set ?_ d4.out) | exact HB.out)))); have f3 := Aside0.mk (blk_below (g := a6) (o := .cells #[.int .i64 a0_0, .slice A0_1 l0_1.length c0_1, .slice A0_2 l0_2.length c0_2] 25 (0, 0)) (by (with_reducible repeat (first | refine blk_drewN ?_ _ | refine blk_drew ?_ | refine blk_alloc ?_ _)); exact a0.out) hb); have f4 := Aside0.mk (blk_below (g := b0) (o := .cells #[.int .i64 a1_0, .slice A1_1 l1_1.length c1_1, .slice A1_2 l1_2.length c1_2] 25 (0, 0)) (by (with_reducible repeat (first | refine blk_drewN ?_ _ | refine blk_drew ?_ | refine blk_alloc ?_ _)); exact a1.out) hb); have f5 := Aside0.mk (blk_below (g := b1) (o := .cells #[.int .i64 d5, .slice none 0 0, .slice none 0 0] 25 (0, 0)) (by (with_reducible repeat (first | refine blk_drewN ?_ _ | refine blk_drew ?_ | refine blk_alloc ?_ _)); exact a4.out) hb); have f6 := Aside0.mk (blk_below (g := a2) (o := .cells #[.int .i64 (wrap64 (a0_0 * a1_0)), .slice h3 b3.length e3, .slice D7 e7.length E1] 25 (0, 0)) (by (with_reducible repeat (first | refine blk_drewN ?_ _ | refine blk_drew ?_ | refine blk_alloc ?_ _)); exact a3.out) hb); have f7 := Aside0.mk (below_step (by repeat (first | (with_reducible first | exact HB.out | apply below_alloc | apply pw_below_drewN | apply below_drew1 | refine below_set ?_ b9.out | refine below_set ?_ d1.out | refine below_set ?_ d2.out | refine below_set ?_ d4.out) | exact HB.out)) hb); clear e1; clear b6; clear a5; clear a0; clear a1; clear a4; clear a3; clear HB; have e1 := d7; have b6 := d9; have a5 := d8; have E5 := e0; have D5 := e8; have a0 := f3; have a1 := f4; have a4 := f5; have a3 := f6; have HB := f7; clear d7 d9 d8 e0 e8 f3 f4 f5 f6 f7; (try clear hb); (try clear u8); (try clear hk); (try clear hi); (try clear h2); (try clear n0); have X1 := g6.out; have W2 := g1.out; have W4 := g2.out; have W6 := g8.out; have M5 : D1.cell? ⟨b1, 0, none⟩ = some (.int .i64 d5) := (blk_cell a4.out 0).trans rfl; have M1 : D1.cell? ⟨b1, 1, none⟩ = some (.slice none 0 0) := (blk_cell a4.out 1).trans rfl; have R8 : D1.cell? ⟨b1, 2, none⟩ = some (.slice none 0 0) := (blk_cell a4.out 2).trans rfl; have M8 := blk_frozen a4.out 0; have P0 := blk_frozen a4.out 1; have N7 := blk_frozen a4.out 2; obtain ⟨u1, u2, I8⟩ := Kd.R_slice E5.out; subst I8; obtain ⟨B4, B5, J3⟩ := Kd.R_slice D5.out; subst J3))
          refine bodyPost_ret (results_ct rfl _ _ b1 25 #[.int .i64 p7, .slice u1 r8.length u2, .slice B4 v1.length B5] (0, 0) _ rfl (by (with_reducible repeat (first | refine blk_drewN ?_ _ | refine blk_drew ?_ | refine blk_alloc ?_ _)); refine blk_put (cs := #[.int .i64 p7, .slice u1 r8.length u2, .slice none 0 0]) ?_ 2 _ rfl; (with_reducible repeat (first | refine blk_drewN ?_ _ | refine blk_drew ?_ | refine blk_alloc ?_ _)); refine blk_put (cs := #[.int .i64 p7, .slice none 0 0, .slice none 0 0]) ?_ 1 _ rfl; (with_reducible repeat (first | refine blk_drewN ?_ _ | refine blk_drew ?_ | refine blk_alloc ?_ _)); refine blk_put (cs := #[.int .i64 d5, .slice none 0 0, .slice none 0 0]) ?_ 0 _ rfl; (with_reducible repeat (first | refine blk_drewN ?_ _ | refine blk_drew ?_ | refine blk_alloc ?_ _)); exact a4.out) Try.underlying25 rfl (by kernel_rfl)) rfl ?_
          exact ⟨_, _, by first | rfl | (simp [errW_none, errW_some] <;> rfl) | (simp [*, errW_none, errW_some] <;> rfl), by (with_reducible repeat (first | apply Kd.R_alloc | apply Kd.R_drewN | apply Kd.R_drew)); exact Kd.R_mono (Kd.R_far (p := ⟨b1, 2, none⟩) (Kd.R_far (p := ⟨b1, 1, none⟩) (Kd.R_far (p := ⟨b1, 0, none⟩) (Kd.R_types E5.out a4.out (by decide)) (fun _ hk => hk.2) (.int .i64 p7)) (fun _ hk => hk.2) (.slice u1 r8.length u2)) (fun _ hk => hk.2) (.slice B4 v1.length B5)) (fun _ hk => trivial), by (with_reducible repeat (first | apply Kd.R_alloc | apply Kd.R_drewN | apply Kd.R_drew)); exact Kd.R_mono (Kd.R_far (p := ⟨b1, 2, none⟩) (Kd.R_far (p := ⟨b1, 1, none⟩) (Kd.R_far (p := ⟨b1, 0, none⟩) (Kd.R_types D5.out a4.out (by decide)) (fun _ hk => hk.2) (.int .i64 p7)) (fun _ hk => hk.2) (.slice u1 r8.length u2)) (fun _ hk => hk.2) (.slice B4 v1.length B5)) (fun _ hk => trivial), by repeat (first | (with_reducible first | exact HB.out | apply below_alloc | apply pw_below_drewN | apply below_drew1 | refine below_set ?_ b9.out | refine below_set ?_ d1.out | refine below_set ?_ d2.out | refine below_set ?_ d4.out) | exact HB.out)⟩
end Go.Proofs.Ythaaockbapbooaa.Pr
namespace Go.Proofs.Ythaaockbapbooaa.Pr
open Go.RowKit Go.Proofs.YthaaockbapbooaaW.PrintWords Go.Proofs.YthaaockbapbooaaW.PrintLast Go.Proofs.YthaaockbapbooaaW.PrintMore
attribute [local go_sem] max2_int min2_int max_two min_two max_three min_three max_four min_four
set_option linter.unusedVariables false
set_option linter.unusedSimpArgs false
def Pl50b.f (k : Nat)  : Option (Bool) := (some (([(⟨#[97]⟩ : ByteArray)] : List ByteArray) : List ByteArray)).bind fun y163 => ((some (([(⟨0, 0, 0⟩ : S51)] : List (S51)) : List (S51))).bind fun y166 => ((some (([(⟨#[97]⟩ : ByteArray), (⟨#[98]⟩ : ByteArray)] : List ByteArray) : List ByteArray)).bind fun y170 => ((some (([(⟨0, 1, 1⟩ : S51), (⟨1, 0, 0⟩ : S51)] : List (S51)) : List (S51))).bind fun y173 => ((Pxg.f k 1 y163 y166 2 y170 y173).bind fun bt177 => ((Pxc.f 1 y163 y166 2 y170 y173 1).bind fun bt186 => (if bt177.2.2.2 = 0 then (if bt177.1 = 2 then ((Pr26a.f k bt177.1 bt177.2.1 bt177.2.2.1 2 y170 y173).bind fun t188 => (if t188 = true then (if bt186.1 = 0 then (some (bt186.2 == 1)) else (some false)) else (some false))) else (some false)) else (some false)))))))
theorem Pl50b.mono : ∀ k, LeO (Pl50b.f k ) (Pl50b.f (k + 1) ) := by
 intro  k
 unfold Pl50b.f
 repeat' first
   | (with_reducible exact Pxg.mono _ _ _ _ _ _ _)
   | (with_reducible exact Pr26a.mono _ _ _ _ _ _ _)
   | (with_reducible exact LeO.refl _)
   | (with_reducible exact LeO.none _)
   | (with_reducible refine LeO.ite ?_ ?_)
   | (with_reducible refine LeO.bind ?_ (fun _ => ?_))
   | exact Pxg.mono _ _ _ _ _ _ _
   | exact Pr26a.mono _ _ _ _ _ _ _
   | exact LeO.none _
   | refine LeO.ite ?_ ?_
   | refine LeO.bind ?_ (fun _ => ?_)
set_option maxHeartbeats 8000000 in
set_option maxRecDepth 100000 in
theorem Pl50b.calls (k : Nat)  (r : Bool) (w : World) (h : Pl50b.f k  = some r) (hr_ : Aside0 (r = true)) :
  Calls Try.prog 19 #[] w fun e w' => e = .returned (.bool r) ∧ Below w.heap.size w w' := by
 have r2 := Try.underlying51
 have r9 := Try.underlying25
 have HB := Aside0.mk (Below.refl w.heap.size w)
 have H : ((some (([(⟨#[97]⟩ : ByteArray)] : List ByteArray) : List ByteArray)).bind fun a9 => ((some (([(⟨0, 0, 0⟩ : S51)] : List (S51)) : List (S51))).bind fun b0 => ((some (([(⟨#[97]⟩ : ByteArray), (⟨#[98]⟩ : ByteArray)] : List ByteArray) : List ByteArray)).bind fun a5 => ((some (([(⟨0, 1, 1⟩ : S51), (⟨1, 0, 0⟩ : S51)] : List (S51)) : List (S51))).bind fun a4 => ((Pxg.f k 1 a9 b0 2 a5 a4).bind fun b1 => ((Pxc.f 1 a9 b0 2 a5 a4 1).bind fun d3 => (if b1.2.2.2 = 0 then (if b1.1 = 2 then ((Pr26a.f k b1.1 b1.2.1 b1.2.2.1 2 a5 a4).bind fun e5 => (if e5 = true then (if d3.1 = 0 then (some (d3.2 == 1)) else (some false)) else (some false))) else (some false)) else (some false)))))))) = some r := h
 clear h
 obtain ⟨a9, g3⟩ : ∃ y_ : List ByteArray, y_ = (([(⟨#[97]⟩ : ByteArray)] : List ByteArray)) := ⟨_, rfl⟩
 replace H : ((some (([(⟨0, 0, 0⟩ : S51)] : List (S51)) : List (S51))).bind fun b0 => ((some (([(⟨#[97]⟩ : ByteArray), (⟨#[98]⟩ : ByteArray)] : List ByteArray) : List ByteArray)).bind fun a5 => ((some (([(⟨0, 1, 1⟩ : S51), (⟨1, 0, 0⟩ : S51)] : List (S51)) : List (S51))).bind fun a4 => ((Pxg.f k 1 a9 b0 2 a5 a4).bind fun b1 => ((Pxc.f 1 a9 b0 2 a5 a4 1).bind fun d3 => (if b1.2.2.2 = 0 then (if b1.1 = 2 then ((Pr26a.f k b1.1 b1.2.1 b1.2.2.1 2 a5 a4).bind fun e5 => (if e5 = true then (if d3.1 = 0 then (some (d3.2 == 1)) else (some false)) else (some false))) else (some false)) else (some false))))))) = some r := by first | (rw [g3]; with_reducible exact H) | (have f2 := (Option.bind_some _ _).symm.trans H; rw [g3]; with_reducible exact f2) | (have f2 := (Option.bind_some _ _).symm.trans H; with_reducible exact f2) | with_reducible exact H | (rw [g3]; exact H) | exact H
 have i9 := Aside0.mk g3
 clear g3
 obtain ⟨b0, g5⟩ : ∃ y_ : List (S51), y_ = (([(⟨0, 0, 0⟩ : S51)] : List (S51))) := ⟨_, rfl⟩
 replace H : ((some (([(⟨#[97]⟩ : ByteArray), (⟨#[98]⟩ : ByteArray)] : List ByteArray) : List ByteArray)).bind fun a5 => ((some (([(⟨0, 1, 1⟩ : S51), (⟨1, 0, 0⟩ : S51)] : List (S51)) : List (S51))).bind fun a4 => ((Pxg.f k 1 a9 b0 2 a5 a4).bind fun b1 => ((Pxc.f 1 a9 b0 2 a5 a4 1).bind fun d3 => (if b1.2.2.2 = 0 then (if b1.1 = 2 then ((Pr26a.f k b1.1 b1.2.1 b1.2.2.1 2 a5 a4).bind fun e5 => (if e5 = true then (if d3.1 = 0 then (some (d3.2 == 1)) else (some false)) else (some false))) else (some false)) else (some false)))))) = some r := by first | (rw [g5]; with_reducible exact H) | (have f2 := (Option.bind_some _ _).symm.trans H; rw [g5]; with_reducible exact f2) | (have f2 := (Option.bind_some _ _).symm.trans H; with_reducible exact f2) | with_reducible exact H | (rw [g5]; exact H) | exact H
 have i6 := Aside0.mk g5
 clear g5
 obtain ⟨a5, g4⟩ : ∃ y_ : List ByteArray, y_ = (([(⟨#[97]⟩ : ByteArray), (⟨#[98]⟩ : ByteArray)] : List ByteArray)) := ⟨_, rfl⟩
 replace H : ((some (([(⟨0, 1, 1⟩ : S51), (⟨1, 0, 0⟩ : S51)] : List (S51)) : List (S51))).bind fun a4 => ((Pxg.f k 1 a9 b0 2 a5 a4).bind fun b1 => ((Pxc.f 1 a9 b0 2 a5 a4 1).bind fun d3 => (if b1.2.2.2 = 0 then (if b1.1 = 2 then ((Pr26a.f k b1.1 b1.2.1 b1.2.2.1 2 a5 a4).bind fun e5 => (if e5 = true then (if d3.1 = 0 then (some (d3.2 == 1)) else (some false)) else (some false))) else (some false)) else (some false))))) = some r := by first | (rw [g4]; with_reducible exact H) | (have f2 := (Option.bind_some _ _).symm.trans H; rw [g4]; with_reducible exact f2) | (have f2 := (Option.bind_some _ _).symm.trans H; with_reducible exact f2) | with_reducible exact H | (rw [g4]; exact H) | exact H
 have i3 := Aside0.mk g4
 clear g4
 obtain ⟨a4, g6⟩ : ∃ y_ : List (S51), y_ = (([(⟨0, 1, 1⟩ : S51), (⟨1, 0, 0⟩ : S51)] : List (S51))) := ⟨_, rfl⟩
 replace H : ((Pxg.f k 1 a9 b0 2 a5 a4).bind fun b1 => ((Pxc.f 1 a9 b0 2 a5 a4 1).bind fun d3 => (if b1.2.2.2 = 0 then (if b1.1 = 2 then ((Pr26a.f k b1.1 b1.2.1 b1.2.2.1 2 a5 a4).bind fun e5 => (if e5 = true then (if d3.1 = 0 then (some (d3.2 == 1)) else (some false)) else (some false))) else (some false)) else (some false)))) = some r := by first | (rw [g6]; with_reducible exact H) | (have f2 := (Option.bind_some _ _).symm.trans H; rw [g6]; with_reducible exact f2) | (have f2 := (Option.bind_some _ _).symm.trans H; with_reducible exact f2) | with_reducible exact H | (rw [g6]; exact H) | exact H
 have i1 := Aside0.mk g6
 clear g6
 replace H := Option.bind_eq_some_iff.mp H
 obtain ⟨⟨b7, d8, e0, g1⟩, k2, H⟩ := H
 replace H : ((Pxc.f 1 a9 b0 2 a5 a4 1).bind fun d3 => (if g1 = 0 then (if b7 = 2 then ((Pr26a.f k b7 d8 e0 2 a5 a4).bind fun e5 => (if e5 = true then (if d3.1 = 0 then (some (d3.2 == 1)) else (some false)) else (some false))) else (some false)) else (some false))) = some r := H
 have A1 := Aside0.mk k2
 clear k2
 replace H := Option.bind_eq_some_iff.mp H
 obtain ⟨⟨f9, h3⟩, k3, H⟩ := H
 replace H : (if g1 = 0 then (if b7 = 2 then ((Pr26a.f k b7 d8 e0 2 a5 a4).bind fun e5 => (if e5 = true then (if f9 = 0 then (some (h3 == 1)) else (some false)) else (some false))) else (some false)) else (some false)) = some r := H
 have A2 := Aside0.mk k3
 clear k3
 by_cases c3 : g1 = 0
 ·rw [if_pos c3] at H
  have c3b0 : (g1 == 0) = true := beq_iff_eq.mpr c3
  have c3b1 : (g1 != 0) = false := bne_eq_false_iff_eq.mpr c3
  clear c3
  by_cases c4 : b7 = 2
  ·rw [if_pos c4] at H
   have c4b0 : (b7 == 2) = true := beq_iff_eq.mpr c4
   have c4b1 : (b7 != 2) = false := bne_eq_false_iff_eq.mpr c4
   clear c4
   replace H := Option.bind_eq_some_iff.mp H
   obtain ⟨e5, k5, H⟩ := H
   replace H : (if e5 = true then (if f9 = 0 then (some (h3 == 1)) else (some false)) else (some false)) = some r := H
   have A5 := Aside0.mk k5
   clear k5
   by_cases c6 : e5 = true
   ·subst c6
    have H1 : (if f9 = 0 then (some (h3 == 1)) else (some false)) = some r := by rw [if_pos rfl] at H; exact H
    clear H
    have H := H1
    clear H1
    by_cases c7 : f9 = 0
    ·rw [if_pos c7] at H
     have c7b0 : (f9 == 0) = true := beq_iff_eq.mpr c7
     have c7b1 : (f9 != 0) = false := bne_eq_false_iff_eq.mpr c7
     clear c7
     obtain rfl := Option.some.inj H
     go_enter Try.func19, Try.ntmps19
     go_wp2_with (first | ((with_reducible refine gate_dst (N := 7) rfl ?_); refine Kd.R_lit Kd.string _ 9 ?hg (N := 7) ?hd (xs := ([(⟨#[97]⟩ : ByteArray)] : List ByteArray)) (inner := [.string (⟨#[97]⟩ : ByteArray)]) (ok := fun _ => True) (okp := fun _ => True) ?hr ?hp (fun _ hk => hk) trivial (Below.refl _ _) (Nat.le_refl _) (by simp) ?_; (case hd => rfl); (case hg => rfl); (case hr => first | (go_simp; done) | (go_simp; rfl)); (case hp => exact (Reps.one (show Kd.M Kd.string _ _ _ (⟨#[97]⟩ : ByteArray) [.string (⟨#[97]⟩ : ByteArray)] from rfl) (Reps.none _ _))); intro r7 w8 h8 hb hg_ hnew_; clear hg_ hnew_; (first | rw [← i9.out] at h8 | (simp only [Int.reduceToNat] at h8; rw [← i9.out] at h8)); have d2 := Aside0.mk (Kd.R_lower h8 (below_size (by repeat (first | (with_reducible first | exact HB.out | apply below_alloc | apply pw_below_drewN | apply below_drew1) | exact HB.out)))); have d4 := Aside0.mk (below_step (by repeat (first | (with_reducible first | exact HB.out | apply below_alloc | apply pw_below_drewN | apply below_drew1) | exact HB.out)) hb); clear HB; have a7 := d2; have HB := d4; clear d2 d4; clear hb h8) | ((with_reducible refine gate_dst (N := 9) rfl ?_); refine Kd.R_lit k51 _ 51 ?hg (N := 9) ?hd (xs := ([(⟨0, 0, 0⟩ : S51)] : List (S51))) (inner := [.int .i64 0, .int .i64 0, .int .i64 0]) (ok := fun _ => True) (okp := fun _ => True) ?hr ?hp (fun _ hk => hk) trivial (Below.refl _ _) (Nat.le_refl _) (by simp) ?_; (case hd => rfl); (case hg => rfl); (case hr => first | (go_simp; done) | (go_simp; rfl)); (case hp => exact (Reps.c3 (show Kd.M k51 _ _ _ (⟨0, 0, 0⟩ : S51) [.int .i64 0, .int .i64 0, .int .i64 0] from (k51_mkM _ _ _ (⟨0, 0, 0⟩ : S51) )) (Reps.none _ _))); intro r4 s3 h0 hb hg_ hnew_; clear hg_ hnew_; (first | rw [← i6.out] at h0 | (simp only [Int.reduceToNat] at h0; rw [← i6.out] at h0)); have d2 := Aside0.mk (Kd.R_below (by (with_reducible repeat (first | apply Kd.R_alloc | apply Kd.R_drewN | apply Kd.R_drew)); exact a7.out) hb); have d4 := Aside0.mk (Kd.R_lower h0 (below_size (by repeat (first | (with_reducible first | exact HB.out | apply below_alloc | apply pw_below_drewN | apply below_drew1) | exact HB.out)))); have d9 := Aside0.mk (below_step (by repeat (first | (with_reducible first | exact HB.out | apply below_alloc | apply pw_below_drewN | apply below_drew1) | exact HB.out)) hb); clear a7; clear HB; have a7 := d2; have a8 := d4; have HB := d9; clear d2 d4 d9; clear hb h0; obtain ⟨d7, d1, k9⟩ := Kd.R_slice a8.out; subst k9; obtain ⟨d5, d0, k6⟩ := Kd.R_slice a7.out; subst k6) | ((with_reducible refine gate_dst (N := 1) rfl ?_); refine box_event ?hg (N := 1) ?hd (cs := #[.int .i64 0, .slice none 0 0, .slice none 0 0]) (t := 25) ?hr ?_; (case hd => rfl); (case hg => rfl); (case hr => first | (go_simp; done) | (go_simp; rfl)); intro a6 hg j6 hbox hb; have d2 := Aside0.mk (Kd.R_below (by (with_reducible repeat (first | apply Kd.R_alloc | apply Kd.R_drewN | apply Kd.R_drew)); exact a7.out) hb); have d4 := Aside0.mk (Kd.R_below (by (with_reducible repeat (first | apply Kd.R_alloc | apply Kd.R_drewN | apply Kd.R_drew)); exact a8.out) hb); have d9 := Aside0.mk (below_step (by repeat (first | (with_reducible first | exact HB.out | apply below_alloc | apply pw_below_drewN | apply below_drew1) | exact HB.out)) hb); have e1 := Aside0.mk (hbox); have e2 := Aside0.mk ((by rw [hg]; exact (below_size (by repeat (first | (with_reducible first | exact HB.out | apply below_alloc | apply pw_below_drewN | apply below_drew1) | exact HB.out))) : w.heap.size ≤ a6)); have f0 := Aside0.mk ((by rw [hg]; exact (below_size (by repeat (first | (with_reducible first | exact HB.out | apply below_alloc | apply pw_below_drewN | apply below_drew1) | exact HB.out))) : w.heap.size ≤ a6)); clear a7; clear a8; clear HB; have a7 := d2; have a8 := d4; have HB := d9; have a1 := e1; have q9 := e2; have d6 := f0; clear d2 d4 d9 e1 e2 f0; clear hb hbox hg; have o5 : j6.cell? ⟨a6, 0, none⟩ = some (.int .i64 0) := (blk_cell a1.out 0).trans rfl; have p7 : j6.cell? ⟨a6, 1, none⟩ = some (.slice none 0 0) := (blk_cell a1.out 1).trans rfl; have l6 : j6.cell? ⟨a6, 2, none⟩ = some (.slice none 0 0) := (blk_cell a1.out 2).trans rfl; have n0 := blk_frozen a1.out 0; have o1 := blk_frozen a1.out 1; have o0 := blk_frozen a1.out 2) | ((with_reducible refine gate_dst (N := 11) rfl ?_); refine Kd.R_lit Kd.string _ 9 ?hg (N := 11) ?hd (xs := ([(⟨#[97]⟩ : ByteArray), (⟨#[98]⟩ : ByteArray)] : List ByteArray)) (inner := [.string (⟨#[97]⟩ : ByteArray), .string (⟨#[98]⟩ : ByteArray)]) (ok := fun _ => True) (okp := fun _ => True) ?hr ?hp (fun _ hk => hk) trivial (Below.refl _ _) (Nat.le_refl _) (by simp) ?_; (case hd => rfl); (case hg => rfl); (case hr => first | (go_simp; done) | (go_simp; rfl)); (case hp => exact (Reps.one (show Kd.M Kd.string _ _ _ (⟨#[97]⟩ : ByteArray) [.string (⟨#[97]⟩ : ByteArray)] from rfl) (Reps.one (show Kd.M Kd.string _ _ _ (⟨#[98]⟩ : ByteArray) [.string (⟨#[98]⟩ : ByteArray)] from rfl) (Reps.none _ _)))); intro r3 s2 g7 hb hg_ hnew_; clear hg_ hnew_; (first | rw [← i3.out] at g7 | (simp only [Int.reduceToNat] at g7; rw [← i3.out] at g7)); have d2 := Aside0.mk (Kd.R_elder' (by (with_reducible repeat (first | apply Kd.R_alloc | apply Kd.R_drewN | apply Kd.R_drew)); exact (Kd.R_mono (Kd.R_far (p := ⟨a6, 2, none⟩) (Kd.R_far (p := ⟨a6, 1, none⟩) (Kd.R_far (p := ⟨a6, 0, none⟩) (Kd.R_types a7.out a1.out (by decide)) (fun _ hk => hk.2) (.int .i64 1)) (fun _ hk => hk.2) (.slice d5 a9.length d0)) (fun _ hk => hk.2) (.slice d7 b0.length d1)) (fun _ h_ => h_.1))) (Kd.R_base g7) hb); have d4 := Aside0.mk (Kd.R_below (by (with_reducible repeat (first | apply Kd.R_alloc | apply Kd.R_drewN | apply Kd.R_drew)); exact (Kd.R_mono (Kd.R_far (p := ⟨a6, 2, none⟩) (Kd.R_far (p := ⟨a6, 1, none⟩) (Kd.R_far (p := ⟨a6, 0, none⟩) (Kd.R_types a8.out a1.out (by decide)) (fun _ hk => hk.2) (.int .i64 1)) (fun _ hk => hk.2) (.slice d5 a9.length d0)) (fun _ hk => hk.2) (.slice d7 b0.length d1)) (fun _ h_ => h_.1))) hb); have d9 := Aside0.mk (Kd.R_lower (Kd.R_new' g7 (Kd.R_lt (by (with_reducible repeat (first | apply Kd.R_alloc | apply Kd.R_drewN | apply Kd.R_drew)); exact (Kd.R_mono (Kd.R_far (p := ⟨a6, 2, none⟩) (Kd.R_far (p := ⟨a6, 1, none⟩) (Kd.R_far (p := ⟨a6, 0, none⟩) (Kd.R_types a7.out a1.out (by decide)) (fun _ hk => hk.2) (.int .i64 1)) (fun _ hk => hk.2) (.slice d5 a9.length d0)) (fun _ hk => hk.2) (.slice d7 b0.length d1)) (fun _ h_ => h_.1))))) (below_size (by repeat (first | (with_reducible first | exact HB.out | apply below_alloc | apply pw_below_drewN | apply below_drew1 | refine below_set ?_ d6.out) | exact HB.out)))); have e1 := Aside0.mk (blk_below (g := a6) (o := .cells #[.int .i64 1, .slice d5 a9.length d0, .slice d7 b0.length d1] 25 (0, 0)) (by (with_reducible repeat (first | refine blk_drewN ?_ _ | refine blk_drew ?_ | refine blk_alloc ?_ _)); refine blk_put (cs := #[.int .i64 1, .slice d5 a9.length d0, .slice none 0 0]) ?_ 2 _ rfl; (with_reducible repeat (first | refine blk_drewN ?_ _ | refine blk_drew ?_ | refine blk_alloc ?_ _)); refine blk_put (cs := #[.int .i64 1, .slice none 0 0, .slice none 0 0]) ?_ 1 _ rfl; (with_reducible repeat (first | refine blk_drewN ?_ _ | refine blk_drew ?_ | refine blk_alloc ?_ _)); refine blk_put (cs := #[.int .i64 0, .slice none 0 0, .slice none 0 0]) ?_ 0 _ rfl; (with_reducible repeat (first | refine blk_drewN ?_ _ | refine blk_drew ?_ | refine blk_alloc ?_ _)); exact a1.out) hb); have e2 := Aside0.mk (below_step (by repeat (first | (with_reducible first | exact HB.out | apply below_alloc | apply pw_below_drewN | apply below_drew1 | refine below_set ?_ d6.out) | exact HB.out)) hb); clear a7; clear a8; clear a1; clear HB; have a7 := d2; have a8 := d4; have b3 := d9; have a1 := e1; have HB := e2; clear d2 d4 d9 e1 e2; clear hb g7) | ((with_reducible refine gate_dst (N := 14) rfl ?_); refine Kd.R_lit k51 _ 51 ?hg (N := 14) ?hd (xs := ([(⟨0, 1, 1⟩ : S51), (⟨1, 0, 0⟩ : S51)] : List (S51))) (inner := [.int .i64 0, .int .i64 1, .int .i64 1, .int .i64 1, .int .i64 0, .int .i64 0]) (ok := fun _ => True) (okp := fun _ => True) ?hr ?hp (fun _ hk => hk) trivial (Below.refl _ _) (Nat.le_refl _) (by simp) ?_; (case hd => rfl); (case hg => rfl); (case hr => first | (go_simp; done) | (go_simp; rfl)); (case hp => exact (Reps.c3 (show Kd.M k51 _ _ _ (⟨0, 1, 1⟩ : S51) [.int .i64 0, .int .i64 1, .int .i64 1] from (k51_mkM _ _ _ (⟨0, 1, 1⟩ : S51) )) (Reps.c3 (show Kd.M k51 _ _ _ (⟨1, 0, 0⟩ : S51) [.int .i64 1, .int .i64 0, .int .i64 0] from (k51_mkM _ _ _ (⟨1, 0, 0⟩ : S51) )) (Reps.none _ _)))); intro r5 s4 g8 hb hg_ hnew_; clear hg_ hnew_; (first | rw [← i1.out] at g8 | (simp only [Int.reduceToNat] at g8; rw [← i1.out] at g8)); have d2 := Aside0.mk (Kd.R_below (by (with_reducible repeat (first | apply Kd.R_alloc | apply Kd.R_drewN | apply Kd.R_drew)); exact a7.out) hb); have d4 := Aside0.mk (Kd.R_elder' (by (with_reducible repeat (first | apply Kd.R_alloc | apply Kd.R_drewN | apply Kd.R_drew)); exact a8.out) (Kd.R_base g8) hb); have d9 := Aside0.mk (Kd.R_below (by (with_reducible repeat (first | apply Kd.R_alloc | apply Kd.R_drewN | apply Kd.R_drew)); exact b3.out) hb); have e1 := Aside0.mk (Kd.R_lower (Kd.R_new' g8 (Kd.R_lt (by (with_reducible repeat (first | apply Kd.R_alloc | apply Kd.R_drewN | apply Kd.R_drew)); exact a8.out))) (below_size (by repeat (first | (with_reducible first | exact HB.out | apply below_alloc | apply pw_below_drewN | apply below_drew1 | refine below_set ?_ d6.out) | exact HB.out)))); have e2 := Aside0.mk (blk_below (g := a6) (o := .cells #[.int .i64 1, .slice d5 a9.length d0, .slice d7 b0.length d1] 25 (0, 0)) (by (with_reducible repeat (first | refine blk_drewN ?_ _ | refine blk_drew ?_ | refine blk_alloc ?_ _)); exact a1.out) hb); have f0 := Aside0.mk (below_step (by repeat (first | (with_reducible first | exact HB.out | apply below_alloc | apply pw_below_drewN | apply below_drew1 | refine below_set ?_ d6.out) | exact HB.out)) hb); clear a7; clear a8; clear b3; clear a1; clear HB; have a7 := d2; have a8 := d4; have b3 := d9; have b4 := e1; have a1 := e2; have HB := f0; clear d2 d4 d9 e1 e2 f0; clear hb g8; obtain ⟨b9, b6, k7⟩ := Kd.R_slice b4.out; subst k7; obtain ⟨b8, b5, k8⟩ := Kd.R_slice b3.out; subst k8) | ((with_reducible refine gate_dst (N := 2) rfl ?_); refine box_event ?hg (N := 2) ?hd (cs := #[.int .i64 0, .slice none 0 0, .slice none 0 0]) (t := 25) ?hr ?_; (case hd => rfl); (case hg => rfl); (case hr => first | (go_simp; done) | (go_simp; rfl)); intro a0 hg h1 hbox hb; have d2 := Aside0.mk (Kd.R_below (by (with_reducible repeat (first | apply Kd.R_alloc | apply Kd.R_drewN | apply Kd.R_drew)); exact a7.out) hb); have d4 := Aside0.mk (Kd.R_below (by (with_reducible repeat (first | apply Kd.R_alloc | apply Kd.R_drewN | apply Kd.R_drew)); exact a8.out) hb); have d9 := Aside0.mk (Kd.R_below (by (with_reducible repeat (first | apply Kd.R_alloc | apply Kd.R_drewN | apply Kd.R_drew)); exact b3.out) hb); have e1 := Aside0.mk (Kd.R_below (by (with_reducible repeat (first | apply Kd.R_alloc | apply Kd.R_drewN | apply Kd.R_drew)); exact b4.out) hb); have e2 := Aside0.mk (blk_below (g := a6) (o := .cells #[.int .i64 1, .slice d5 a9.length d0, .slice d7 b0.length d1] 25 (0, 0)) (by (with_reducible repeat (first | refine blk_drewN ?_ _ | refine blk_drew ?_ | refine blk_alloc ?_ _)); exact a1.out) hb); have f0 := Aside0.mk (below_step (by repeat (first | (with_reducible first | exact HB.out | apply below_alloc | apply pw_below_drewN | apply below_drew1 | refine below_set ?_ d6.out) | exact HB.out)) hb); have f8 := Aside0.mk (hbox); have f3 := Aside0.mk ((by rw [hg]; exact (below_size (by repeat (first | (with_reducible first | exact HB.out | apply below_alloc | apply pw_below_drewN | apply below_drew1 | refine below_set ?_ d6.out) | exact HB.out))) : w.heap.size ≤ a0)); have f7 := Aside0.mk ((by rw [hg]; exact (below_size (by repeat (first | (with_reducible first | exact HB.out | apply below_alloc | apply pw_below_drewN | apply below_drew1 | refine below_set ?_ d6.out) | exact HB.out))) : w.heap.size ≤ a0)); have g0 := Aside0.mk ((by rw [hg]; exact Nat.ne_of_lt (blk_lt (g := a6) (o := .cells #[.int .i64 1, .slice d5 a9.length d0, .slice d7 b0.length d1] 25 (0, 0)) (by (with_reducible repeat (first | refine blk_drewN ?_ _ | refine blk_drew ?_ | refine blk_alloc ?_ _)); exact a1.out)) : a6 ≠ a0)); have g9 := Aside0.mk ((by rw [hg]; exact Nat.ne_of_gt (blk_lt (g := a6) (o := .cells #[.int .i64 1, .slice d5 a9.length d0, .slice d7 b0.length d1] 25 (0, 0)) (by (with_reducible repeat (first | refine blk_drewN ?_ _ | refine blk_drew ?_ | refine blk_alloc ?_ _)); exact a1.out)) : a0 ≠ a6)); clear a7; clear a8; clear b3; clear b4; clear a1; clear HB; have a7 := d2; have a8 := d4; have b3 := d9; have b4 := e1; have a1 := e2; have HB := f0; have a3 := f8; have q4 := f3; have f1 := f7; have f4 := g0; have h5 := g9; clear d2 d4 d9 e1 e2 f0 f8 f3 f7 g0 g9; clear hb hbox hg; have q3 := h5.out; have q8 := f4.out; have m7 : h1.cell? ⟨a0, 0, none⟩ = some (.int .i64 0) := (blk_cell a3.out 0).trans rfl; have o4 : h1.cell? ⟨a0, 1, none⟩ = some (.slice none 0 0) := (blk_cell a3.out 1).trans rfl; have o7 : h1.cell? ⟨a0, 2, none⟩ = some (.slice none 0 0) := (blk_cell a3.out 2).trans rfl; have m8 := blk_frozen a3.out 0; have n8 := blk_frozen a3.out 1; have n6 := blk_frozen a3.out 2; have o3 : h1.cell? ⟨a6, 0, none⟩ = some (.int .i64 1) := (blk_cell a1.out 0).trans rfl; have o2 : h1.cell? ⟨a6, 1, none⟩ = some (.slice d5 a9.length d0) := (blk_cell a1.out 1).trans rfl; have n9 : h1.cell? ⟨a6, 2, none⟩ = some (.slice d7 b0.length d1) := (blk_cell a1.out 2).trans rfl; have p1 := blk_frozen a1.out 0; have l9 := blk_frozen a1.out 1; have m9 := blk_frozen a1.out 2) | ((with_reducible refine gate_callee (f := 20) rfl ?_); refine goesL_ (some 19) rfl rfl Try.func20 (by kernel_rfl) rfl #[.agg #[.int .i64 1, .slice d5 a9.length d0, .slice d7 b0.length d1], .agg #[.int .i64 2, .slice b8 a5.length b5, .slice b9 a4.length b6]] rfl (by (try simp only [List.map_toArray, List.map_cons, List.map_nil]); first | done | rfl | (simp only [List.length_drop, List.length_take]; rfl)) ?_; (with_reducible refine (Pxg.calls k 1 _ _ a9 _ _ b0 2 _ _ a5 _ _ a4 b7 d8 e0 g1 _ ?j3 ?j4 ?i7 ?i8 ?i4 ?i0 ?i5 ?i2 A1.out).mono ?_); (case j3 => refine (Kd.R_reads' (e := 9) (base := w.heap.size) (ok := fun k_ => (True ∧ some k_ ≠ (.slice b8 a5.length b5 : Value).ownBlock)) (n := a9.length) (c := d0) ?_).2.2; exact (by (with_reducible repeat (first | apply Kd.R_alloc | apply Kd.R_drewN | apply Kd.R_drew)); exact (Kd.R_mono (Kd.R_far (p := ⟨a0, 2, none⟩) (Kd.R_far (p := ⟨a0, 1, none⟩) (Kd.R_far (p := ⟨a0, 0, none⟩) (Kd.R_types a7.out a3.out (by decide)) (fun _ hk => hk.2) (.int .i64 2)) (fun _ hk => hk.2) (.slice b8 a5.length b5)) (fun _ hk => hk.2) (.slice b9 a4.length b6)) (fun _ h_ => h_.1)))); (case j4 => exact (Kd.R_reads' a7.out).2.1); (case i7 => refine (Kd.R_reads' (e := 51) (base := w.heap.size) (ok := fun k_ => (True ∧ some k_ ≠ (.slice b9 a4.length b6 : Value).ownBlock)) (n := b0.length) (c := d1) ?_).2.2; exact (by (with_reducible repeat (first | apply Kd.R_alloc | apply Kd.R_drewN | apply Kd.R_drew)); exact (Kd.R_mono (Kd.R_far (p := ⟨a0, 2, none⟩) (Kd.R_far (p := ⟨a0, 1, none⟩) (Kd.R_far (p := ⟨a0, 0, none⟩) (Kd.R_types a8.out a3.out (by decide)) (fun _ hk => hk.2) (.int .i64 2)) (fun _ hk => hk.2) (.slice b8 a5.length b5)) (fun _ hk => hk.2) (.slice b9 a4.length b6)) (fun _ h_ => h_.1)))); (case i8 => exact (Kd.R_reads' a8.out).2.1); (case i4 => refine (Kd.R_reads' (e := 9) (base := w.heap.size) (ok := fun k_ => (True ∧ some k_ ≠ (.slice d5 a9.length d0 : Value).ownBlock)) (n := a5.length) (c := b5) ?_).2.2; exact (by (with_reducible repeat (first | apply Kd.R_alloc | apply Kd.R_drewN | apply Kd.R_drew)); exact (Kd.R_mono (Kd.R_far (p := ⟨a0, 2, none⟩) (Kd.R_far (p := ⟨a0, 1, none⟩) (Kd.R_far (p := ⟨a0, 0, none⟩) (Kd.R_types b3.out a3.out (by decide)) (fun _ hk => hk.2) (.int .i64 2)) (fun _ hk => hk.2) (.slice b8 a5.length b5)) (fun _ hk => hk.2) (.slice b9 a4.length b6)) (fun _ h_ => h_.1)))); (case i0 => exact (Kd.R_reads' b3.out).2.1); (case i5 => refine (Kd.R_reads' (e := 51) (base := w.heap.size) (ok := fun k_ => (True ∧ some k_ ≠ (.slice d7 b0.length d1 : Value).ownBlock)) (n := a4.length) (c := b6) ?_).2.2; exact (by (with_reducible repeat (first | apply Kd.R_alloc | apply Kd.R_drewN | apply Kd.R_drew)); exact (Kd.R_mono (Kd.R_far (p := ⟨a0, 2, none⟩) (Kd.R_far (p := ⟨a0, 1, none⟩) (Kd.R_far (p := ⟨a0, 0, none⟩) (Kd.R_types b4.out a3.out (by decide)) (fun _ hk => hk.2) (.int .i64 2)) (fun _ hk => hk.2) (.slice b8 a5.length b5)) (fun _ hk => hk.2) (.slice b9 a4.length b6)) (fun _ h_ => h_.1)))); (case i2 => exact (Kd.R_reads' b4.out).2.1); rintro e s0 ⟨r6, r8, rfl, j5, h9, hb⟩; refine ⟨_, rfl, ?_⟩; have d2 := Aside0.mk (Kd.R_elder' (by (with_reducible repeat (first | apply Kd.R_alloc | apply Kd.R_drewN | apply Kd.R_drew)); exact (Kd.R_mono (Kd.R_far (p := ⟨a0, 2, none⟩) (Kd.R_far (p := ⟨a0, 1, none⟩) (Kd.R_far (p := ⟨a0, 0, none⟩) (Kd.R_types a7.out a3.out (by decide)) (fun _ hk => hk.2) (.int .i64 2)) (fun _ hk => hk.2) (.slice b8 a5.length b5)) (fun _ hk => hk.2) (.slice b9 a4.length b6)) (fun _ h_ => h_.1))) (Kd.R_base j5) hb); have d4 := Aside0.mk (Kd.R_elder' (by (with_reducible repeat (first | apply Kd.R_alloc | apply Kd.R_drewN | apply Kd.R_drew)); exact (Kd.R_mono (Kd.R_far (p := ⟨a0, 2, none⟩) (Kd.R_far (p := ⟨a0, 1, none⟩) (Kd.R_far (p := ⟨a0, 0, none⟩) (Kd.R_types a8.out a3.out (by decide)) (fun _ hk => hk.2) (.int .i64 2)) (fun _ hk => hk.2) (.slice b8 a5.length b5)) (fun _ hk => hk.2) (.slice b9 a4.length b6)) (fun _ h_ => h_.1))) (Kd.R_base h9) hb); have d9 := Aside0.mk (Kd.R_elder' (by (with_reducible repeat (first | apply Kd.R_alloc | apply Kd.R_drewN | apply Kd.R_drew)); exact (Kd.R_mono (Kd.R_far (p := ⟨a0, 2, none⟩) (Kd.R_far (p := ⟨a0, 1, none⟩) (Kd.R_far (p := ⟨a0, 0, none⟩) (Kd.R_types b3.out a3.out (by decide)) (fun _ hk => hk.2) (.int .i64 2)) (fun _ hk => hk.2) (.slice b8 a5.length b5)) (fun _ hk => hk.2) (.slice b9 a4.length b6)) (fun _ h_ => h_.1))) (Kd.R_base j5) hb); have e1 := Aside0.mk (Kd.R_elder' (by (with_reducible repeat (first | apply Kd.R_alloc | apply Kd.R_drewN | apply Kd.R_drew)); exact (Kd.R_mono (Kd.R_far (p := ⟨a0, 2, none⟩) (Kd.R_far (p := ⟨a0, 1, none⟩) (Kd.R_far (p := ⟨a0, 0, none⟩) (Kd.R_types b4.out a3.out (by decide)) (fun _ hk => hk.2) (.int .i64 2)) (fun _ hk => hk.2) (.slice b8 a5.length b5)) (fun _ hk => hk.2) (.slice b9 a4.length b6)) (fun _ h_ => h_.1))) (Kd.R_base h9) hb); have e2 := Aside0.mk (Kd.R_lower (Kd.R_new' (Kd.R_new' j5 (Kd.R_lt (by (with_reducible repeat (first | apply Kd.R_alloc | apply Kd.R_drewN | apply Kd.R_drew)); exact (Kd.R_mono (Kd.R_far (p := ⟨a0, 2, none⟩) (Kd.R_far (p := ⟨a0, 1, none⟩) (Kd.R_far (p := ⟨a0, 0, none⟩) (Kd.R_types a7.out a3.out (by decide)) (fun _ hk => hk.2) (.int .i64 2)) (fun _ hk => hk.2) (.slice b8 a5.length b5)) (fun _ hk => hk.2) (.slice b9 a4.length b6)) (fun _ h_ => h_.1))))) (Kd.R_lt (by (with_reducible repeat (first | apply Kd.R_alloc | apply Kd.R_drewN | apply Kd.R_drew)); exact (Kd.R_mono (Kd.R_far (p := ⟨a0, 2, none⟩) (Kd.R_far (p := ⟨a0, 1, none⟩) (Kd.R_far (p := ⟨a0, 0, none⟩) (Kd.R_types b3.out a3.out (by decide)) (fun _ hk => hk.2) (.int .i64 2)) (fun _ hk => hk.2) (.slice b8 a5.length b5)) (fun _ hk => hk.2) (.slice b9 a4.length b6)) (fun _ h_ => h_.1))))) (below_size (by repeat (first | (with_reducible first | exact HB.out | apply below_alloc | apply pw_below_drewN | apply below_drew1 | refine below_set ?_ d6.out | refine below_set ?_ f1.out) | exact HB.out)))); have f0 := Aside0.mk (Kd.R_lower (Kd.R_new' (Kd.R_new' h9 (Kd.R_lt (by (with_reducible repeat (first | apply Kd.R_alloc | apply Kd.R_drewN | apply Kd.R_drew)); exact (Kd.R_mono (Kd.R_far (p := ⟨a0, 2, none⟩) (Kd.R_far (p := ⟨a0, 1, none⟩) (Kd.R_far (p := ⟨a0, 0, none⟩) (Kd.R_types a8.out a3.out (by decide)) (fun _ hk => hk.2) (.int .i64 2)) (fun _ hk => hk.2) (.slice b8 a5.length b5)) (fun _ hk => hk.2) (.slice b9 a4.length b6)) (fun _ h_ => h_.1))))) (Kd.R_lt (by (with_reducible repeat (first | apply Kd.R_alloc | apply Kd.R_drewN | apply Kd.R_drew)); exact (Kd.R_mono (Kd.R_far (p := ⟨a0, 2, none⟩) (Kd.R_far (p := ⟨a0, 1, none⟩) (Kd.R_far (p := ⟨a0, 0, none⟩) (Kd.R_types b4.out a3.out (by decide)) (fun _ hk => hk.2) (.int .i64 2)) (fun _ hk => hk.2) (.slice b8 a5.length b5)) (fun _ hk => hk.2) (.slice b9 a4.length b6)) (fun _ h_ => h_.1))))) (below_size (by repeat (first | (with_reducible first | exact HB.out | apply below_alloc | apply pw_below_drewN | apply below_drew1 | refine below_set ?_ d6.out | refine below_set ?_ f1.out) | exact HB.out)))); have f8 := Aside0.mk (blk_below (g := a6) (o := .cells #[.int .i64 1, .slice d5 a9.length d0, .slice d7 b0.length d1] 25 (0, 0)) (by (with_reducible repeat (first | refine blk_drewN ?_ _ | refine blk_drew ?_ | refine blk_alloc ?_ _)); refine blk_far ?_ f4.out _; (with_reducible repeat (first | refine blk_drewN ?_ _ | refine blk_drew ?_ | refine blk_alloc ?_ _)); refine blk_far ?_ f4.out _; (with_reducible repeat (first | refine blk_drewN ?_ _ | refine blk_drew ?_ | refine blk_alloc ?_ _)); refine blk_far ?_ f4.out _; (with_reducible repeat (first | refine blk_drewN ?_ _ | refine blk_drew ?_ | refine blk_alloc ?_ _)); exact a1.out) hb); have f3 := Aside0.mk (blk_below (g := a0) (o := .cells #[.int .i64 2, .slice b8 a5.length b5, .slice b9 a4.length b6] 25 (0, 0)) (by (with_reducible repeat (first | refine blk_drewN ?_ _ | refine blk_drew ?_ | refine blk_alloc ?_ _)); refine blk_put (cs := #[.int .i64 2, .slice b8 a5.length b5, .slice none 0 0]) ?_ 2 _ rfl; (with_reducible repeat (first | refine blk_drewN ?_ _ | refine blk_drew ?_ | refine blk_alloc ?_ _)); refine blk_put (cs := #[.int .i64 2, .slice none 0 0, .slice none 0 0]) ?_ 1 _ rfl; (with_reducible repeat (first | refine blk_drewN ?_ _ | refine blk_drew ?_ | refine blk_alloc ?_ _)); refine blk_put (cs := #[.int .i64 0, .slice none 0 0, .slice none 0 0]) ?_ 0 _ rfl; (with_reducible repeat (first | refine blk_drewN ?_ _ | refine blk_drew ?_ | refine blk_alloc ?_ _)); exact a3.out) hb); have f7 := Aside0.mk (below_step (by repeat (first | (with_reducible first | exact HB.out | apply below_alloc | apply pw_below_drewN | apply below_drew1 | refine below_set ?_ d6.out | refine below_set ?_ f1.out) | exact HB.out)) hb); clear a7; clear a8; clear b3; clear b4; clear a1; clear a3; clear HB; have a7 := d2; have a8 := d4; have b3 := d9; have b4 := e1; have e6 := e2; have e7 := f0; have a1 := f8; have a3 := f3; have HB := f7; clear d2 d4 d9 e1 e2 f0 f8 f3 f7; (try clear hb); (try clear k4); (try clear hk); (try clear hi); (try clear j5); (try clear h9)) | ((with_reducible refine gate_dst (N := 3) rfl ?_); refine box_event ?hg (N := 3) ?hd (cs := #[.int .i64 0, .slice none 0 0, .slice none 0 0]) (t := 25) ?hr ?_; (case hd => rfl); (case hg => rfl); (case hr => first | (go_simp; done) | (go_simp; rfl)); intro a2 hg g2 hbox hb; have d2 := Aside0.mk (Kd.R_below (by (with_reducible repeat (first | apply Kd.R_alloc | apply Kd.R_drewN | apply Kd.R_drew)); exact a7.out) hb); have d4 := Aside0.mk (Kd.R_below (by (with_reducible repeat (first | apply Kd.R_alloc | apply Kd.R_drewN | apply Kd.R_drew)); exact a8.out) hb); have d9 := Aside0.mk (Kd.R_below (by (with_reducible repeat (first | apply Kd.R_alloc | apply Kd.R_drewN | apply Kd.R_drew)); exact b3.out) hb); have e1 := Aside0.mk (Kd.R_below (by (with_reducible repeat (first | apply Kd.R_alloc | apply Kd.R_drewN | apply Kd.R_drew)); exact b4.out) hb); have e2 := Aside0.mk (Kd.R_below (by (with_reducible repeat (first | apply Kd.R_alloc | apply Kd.R_drewN | apply Kd.R_drew)); exact e6.out) hb); have f0 := Aside0.mk (Kd.R_below (by (with_reducible repeat (first | apply Kd.R_alloc | apply Kd.R_drewN | apply Kd.R_drew)); exact e7.out) hb); have f8 := Aside0.mk (blk_below (g := a6) (o := .cells #[.int .i64 1, .slice d5 a9.length d0, .slice d7 b0.length d1] 25 (0, 0)) (by (with_reducible repeat (first | refine blk_drewN ?_ _ | refine blk_drew ?_ | refine blk_alloc ?_ _)); exact a1.out) hb); have f3 := Aside0.mk (blk_below (g := a0) (o := .cells #[.int .i64 2, .slice b8 a5.length b5, .slice b9 a4.length b6] 25 (0, 0)) (by (with_reducible repeat (first | refine blk_drewN ?_ _ | refine blk_drew ?_ | refine blk_alloc ?_ _)); exact a3.out) hb); have f7 := Aside0.mk (below_step (by repeat (first | (with_reducible first | exact HB.out | apply below_alloc | apply pw_below_drewN | apply below_drew1 | refine below_set ?_ d6.out | refine below_set ?_ f1.out) | exact HB.out)) hb); have g0 := Aside0.mk (hbox); have g9 := Aside0.mk ((by rw [hg]; exact (below_size (by repeat (first | (with_reducible first | exact HB.out | apply below_alloc | apply pw_below_drewN | apply below_drew1 | refine below_set ?_ d6.out | refine below_set ?_ f1.out) | exact HB.out))) : w.heap.size ≤ a2)); have k0 := Aside0.mk ((by rw [hg]; exact (below_size (by repeat (first | (with_reducible first | exact HB.out | apply below_alloc | apply pw_below_drewN | apply below_drew1 | refine below_set ?_ d6.out | refine below_set ?_ f1.out) | exact HB.out))) : w.heap.size ≤ a2)); have j7 := Aside0.mk ((by rw [hg]; exact Nat.ne_of_lt (blk_lt (g := a6) (o := .cells #[.int .i64 1, .slice d5 a9.length d0, .slice d7 b0.length d1] 25 (0, 0)) (by (with_reducible repeat (first | refine blk_drewN ?_ _ | refine blk_drew ?_ | refine blk_alloc ?_ _)); exact a1.out)) : a6 ≠ a2)); have k1 := Aside0.mk ((by rw [hg]; exact Nat.ne_of_gt (blk_lt (g := a6) (o := .cells #[.int .i64 1, .slice d5 a9.length d0, .slice d7 b0.length d1] 25 (0, 0)) (by (with_reducible repeat (first | refine blk_drewN ?_ _ | refine blk_drew ?_ | refine blk_alloc ?_ _)); exact a1.out)) : a2 ≠ a6)); have j9 := Aside0.mk ((by rw [hg]; exact Nat.ne_of_lt (blk_lt (g := a0) (o := .cells #[.int .i64 2, .slice b8 a5.length b5, .slice b9 a4.length b6] 25 (0, 0)) (by (with_reducible repeat (first | refine blk_drewN ?_ _ | refine blk_drew ?_ | refine blk_alloc ?_ _)); exact a3.out)) : a0 ≠ a2)); have j8 := Aside0.mk ((by rw [hg]; exact Nat.ne_of_gt (blk_lt (g := a0) (o := .cells #[.int .i64 2, .slice b8 a5.length b5, .slice b9 a4.length b6] 25 (0, 0)) (by (with_reducible repeat (first | refine blk_drewN ?_ _ | refine blk_drew ?_ | refine blk_alloc ?_ _)); exact a3.out)) : a2 ≠ a0)); clear a7; clear a8; clear b3; clear b4; clear e6; clear e7; clear a1; clear a3; clear HB; have a7 := d2; have a8 := d4; have b3 := d9; have b4 := e1; have e6 := e2; have e7 := f0; have a1 := f8; have a3 := f3; have HB := f7; have b2 := g0; have r1 := g9; have h4 := k0; have f5 := j7; have h6 := k1; have f6 := j9; have h7 := j8; clear d2 d4 d9 e1 e2 f0 f8 f3 f7 g0 g9 k0 j7 k1 j9 j8; clear hb hbox hg; have q7 := h6.out; have r0 := f5.out; have q5 := h7.out; have q6 := f6.out; have m5 : g2.cell? ⟨a2, 0, none⟩ = some (.int .i64 0) := (blk_cell b2.out 0).trans rfl; have p0 : g2.cell? ⟨a2, 1, none⟩ = some (.slice none 0 0) := (blk_cell b2.out 1).trans rfl; have l5 : g2.cell? ⟨a2, 2, none⟩ = some (.slice none 0 0) := (blk_cell b2.out 2).trans rfl; have p2 := blk_frozen b2.out 0; have p4 := blk_frozen b2.out 1; have q1 := blk_frozen b2.out 2; obtain ⟨e4, e3, l3⟩ := Kd.R_slice e6.out; subst l3; obtain ⟨e8, e9, l4⟩ := Kd.R_slice e7.out; subst l4; have m4 : g2.cell? ⟨a6, 0, none⟩ = some (.int .i64 1) := (blk_cell a1.out 0).trans rfl; have m1 : g2.cell? ⟨a6, 1, none⟩ = some (.slice d5 a9.length d0) := (blk_cell a1.out 1).trans rfl; have n7 : g2.cell? ⟨a6, 2, none⟩ = some (.slice d7 b0.length d1) := (blk_cell a1.out 2).trans rfl; have o8 := blk_frozen a1.out 0; have p8 := blk_frozen a1.out 1; have n5 := blk_frozen a1.out 2; have n1 : g2.cell? ⟨a0, 0, none⟩ = some (.int .i64 2) := (blk_cell a3.out 0).trans rfl; have q2 : g2.cell? ⟨a0, 1, none⟩ = some (.slice b8 a5.length b5) := (blk_cell a3.out 1).trans rfl; have l7 : g2.cell? ⟨a0, 2, none⟩ = some (.slice b9 a4.length b6) := (blk_cell a3.out 2).trans rfl; have o9 := blk_frozen a3.out 0; have m0 := blk_frozen a3.out 1; have o6 := blk_frozen a3.out 2) | ((with_reducible refine gate_callee (f := 21) rfl ?_); refine goesL_ (some 25) rfl rfl Try.func21 (by kernel_rfl) rfl #[.agg #[.int .i64 1, .slice d5 a9.length d0, .slice d7 b0.length d1], .agg #[.int .i64 2, .slice b8 a5.length b5, .slice b9 a4.length b6], .int .i64 1] rfl (by (try simp only [List.map_toArray, List.map_cons, List.map_nil]); first | done | rfl | (simp only [List.length_drop, List.length_take]; rfl)) ?_; (with_reducible refine (Pxc.calls 1 _ _ a9 _ _ b0 2 _ _ a5 _ _ a4 1 f9 h3 _ ?j3 ?j4 ?i7 ?i8 ?i4 ?i0 ?i5 ?i2 A2.out).mono ?_); (case j3 => refine (Kd.R_reads' (e := 9) (base := w.heap.size) (ok := fun k_ => ((True ∧ some k_ ≠ (.slice b8 a5.length b5 : Value).ownBlock) ∧ some k_ ≠ (.slice e4 d8.length e3 : Value).ownBlock)) (n := a9.length) (c := d0) ?_).2.2; exact (by (with_reducible repeat (first | apply Kd.R_alloc | apply Kd.R_drewN | apply Kd.R_drew)); exact (Kd.R_mono (Kd.R_far (p := ⟨a2, 2, none⟩) (Kd.R_far (p := ⟨a2, 1, none⟩) (Kd.R_far (p := ⟨a2, 0, none⟩) (Kd.R_types a7.out b2.out (by decide)) (fun _ hk => hk.2) (.int .i64 b7)) (fun _ hk => hk.2) (.slice e4 d8.length e3)) (fun _ hk => hk.2) (.slice e8 e0.length e9)) (fun _ h_ => h_.1)))); (case j4 => exact (Kd.R_reads' a7.out).2.1); (case i7 => refine (Kd.R_reads' (e := 51) (base := w.heap.size) (ok := fun k_ => ((True ∧ some k_ ≠ (.slice b9 a4.length b6 : Value).ownBlock) ∧ some k_ ≠ (.slice e8 e0.length e9 : Value).ownBlock)) (n := b0.length) (c := d1) ?_).2.2; exact (by (with_reducible repeat (first | apply Kd.R_alloc | apply Kd.R_drewN | apply Kd.R_drew)); exact (Kd.R_mono (Kd.R_far (p := ⟨a2, 2, none⟩) (Kd.R_far (p := ⟨a2, 1, none⟩) (Kd.R_far (p := ⟨a2, 0, none⟩) (Kd.R_types a8.out b2.out (by decide)) (fun _ hk => hk.2) (.int .i64 b7)) (fun _ hk => hk.2) (.slice e4 d8.length e3)) (fun _ hk => hk.2) (.slice e8 e0.length e9)) (fun _ h_ => h_.1)))); (case i8 => exact (Kd.R_reads' a8.out).2.1); (case i4 => refine (Kd.R_reads' (e := 9) (base := w.heap.size) (ok := fun k_ => ((True ∧ some k_ ≠ (.slice d5 a9.length d0 : Value).ownBlock) ∧ some k_ ≠ (.slice e4 d8.length e3 : Value).ownBlock)) (n := a5.length) (c := b5) ?_).2.2; exact (by (with_reducible repeat (first | apply Kd.R_alloc | apply Kd.R_drewN | apply Kd.R_drew)); exact (Kd.R_mono (Kd.R_far (p := ⟨a2, 2, none⟩) (Kd.R_far (p := ⟨a2, 1, none⟩) (Kd.R_far (p := ⟨a2, 0, none⟩) (Kd.R_types b3.out b2.out (by decide)) (fun _ hk => hk.2) (.int .i64 b7)) (fun _ hk => hk.2) (.slice e4 d8.length e3)) (fun _ hk => hk.2) (.slice e8 e0.length e9)) (fun _ h_ => h_.1)))); (case i0 => exact (Kd.R_reads' b3.out).2.1); (case i5 => refine (Kd.R_reads' (e := 51) (base := w.heap.size) (ok := fun k_ => ((True ∧ some k_ ≠ (.slice d7 b0.length d1 : Value).ownBlock) ∧ some k_ ≠ (.slice e8 e0.length e9 : Value).ownBlock)) (n := a4.length) (c := b6) ?_).2.2; exact (by (with_reducible repeat (first | apply Kd.R_alloc | apply Kd.R_drewN | apply Kd.R_drew)); exact (Kd.R_mono (Kd.R_far (p := ⟨a2, 2, none⟩) (Kd.R_far (p := ⟨a2, 1, none⟩) (Kd.R_far (p := ⟨a2, 0, none⟩) (Kd.R_types b4.out b2.out (by decide)) (fun _ hk => hk.2) (.int .i64 b7)) (fun _ hk => hk.2) (.slice e4 d8.length e3)) (fun _ hk => hk.2) (.slice e8 e0.length e9)) (fun _ h_ => h_.1)))); (case i2 => exact (Kd.R_reads' b4.out).2.1); rintro e h2 ⟨rfl, hb⟩; refine ⟨_, rfl, ?_⟩; have d2 := Aside0.mk (Kd.R_below (by (with_reducible repeat (first | apply Kd.R_alloc | apply Kd.R_drewN | apply Kd.R_drew)); exact (Kd.R_mono (Kd.R_far (p := ⟨a2, 2, none⟩) (Kd.R_far (p := ⟨a2, 1, none⟩) (Kd.R_far (p := ⟨a2, 0, none⟩) (Kd.R_types a7.out b2.out (by decide)) (fun _ hk => hk.2) (.int .i64 b7)) (fun _ hk => hk.2) (.slice e4 d8.length e3)) (fun _ hk => hk.2) (.slice e8 e0.length e9)) (fun _ h_ => h_.1))) hb); have d4 := Aside0.mk (Kd.R_below (by (with_reducible repeat (first | apply Kd.R_alloc | apply Kd.R_drewN | apply Kd.R_drew)); exact (Kd.R_mono (Kd.R_far (p := ⟨a2, 2, none⟩) (Kd.R_far (p := ⟨a2, 1, none⟩) (Kd.R_far (p := ⟨a2, 0, none⟩) (Kd.R_types a8.out b2.out (by decide)) (fun _ hk => hk.2) (.int .i64 b7)) (fun _ hk => hk.2) (.slice e4 d8.length e3)) (fun _ hk => hk.2) (.slice e8 e0.length e9)) (fun _ h_ => h_.1))) hb); have d9 := Aside0.mk (Kd.R_below (by (with_reducible repeat (first | apply Kd.R_alloc | apply Kd.R_drewN | apply Kd.R_drew)); exact (Kd.R_mono (Kd.R_far (p := ⟨a2, 2, none⟩) (Kd.R_far (p := ⟨a2, 1, none⟩) (Kd.R_far (p := ⟨a2, 0, none⟩) (Kd.R_types b3.out b2.out (by decide)) (fun _ hk => hk.2) (.int .i64 b7)) (fun _ hk => hk.2) (.slice e4 d8.length e3)) (fun _ hk => hk.2) (.slice e8 e0.length e9)) (fun _ h_ => h_.1))) hb); have e1 := Aside0.mk (Kd.R_below (by (with_reducible repeat (first | apply Kd.R_alloc | apply Kd.R_drewN | apply Kd.R_drew)); exact (Kd.R_mono (Kd.R_far (p := ⟨a2, 2, none⟩) (Kd.R_far (p := ⟨a2, 1, none⟩) (Kd.R_far (p := ⟨a2, 0, none⟩) (Kd.R_types b4.out b2.out (by decide)) (fun _ hk => hk.2) (.int .i64 b7)) (fun _ hk => hk.2) (.slice e4 d8.length e3)) (fun _ hk => hk.2) (.slice e8 e0.length e9)) (fun _ h_ => h_.1))) hb); have e2 := Aside0.mk (Kd.R_below (by (with_reducible repeat (first | apply Kd.R_alloc | apply Kd.R_drewN | apply Kd.R_drew)); exact (Kd.R_mono (Kd.R_far (p := ⟨a2, 2, none⟩) (Kd.R_far (p := ⟨a2, 1, none⟩) (Kd.R_far (p := ⟨a2, 0, none⟩) (Kd.R_types e6.out b2.out (by decide)) (fun _ hk => hk.2) (.int .i64 b7)) (fun _ hk => hk.2) (.slice e4 d8.length e3)) (fun _ hk => hk.2) (.slice e8 e0.length e9)) (fun _ h_ => h_.1))) hb); have f0 := Aside0.mk (Kd.R_below (by (with_reducible repeat (first | apply Kd.R_alloc | apply Kd.R_drewN | apply Kd.R_drew)); exact (Kd.R_mono (Kd.R_far (p := ⟨a2, 2, none⟩) (Kd.R_far (p := ⟨a2, 1, none⟩) (Kd.R_far (p := ⟨a2, 0, none⟩) (Kd.R_types e7.out b2.out (by decide)) (fun _ hk => hk.2) (.int .i64 b7)) (fun _ hk => hk.2) (.slice e4 d8.length e3)) (fun _ hk => hk.2) (.slice e8 e0.length e9)) (fun _ h_ => h_.1))) hb); have f8 := Aside0.mk (blk_below (g := a6) (o := .cells #[.int .i64 1, .slice d5 a9.length d0, .slice d7 b0.length d1] 25 (0, 0)) (by (with_reducible repeat (first | refine blk_drewN ?_ _ | refine blk_drew ?_ | refine blk_alloc ?_ _)); refine blk_far ?_ f5.out _; (with_reducible repeat (first | refine blk_drewN ?_ _ | refine blk_drew ?_ | refine blk_alloc ?_ _)); refine blk_far ?_ f5.out _; (with_reducible repeat (first | refine blk_drewN ?_ _ | refine blk_drew ?_ | refine blk_alloc ?_ _)); refine blk_far ?_ f5.out _; (with_reducible repeat (first | refine blk_drewN ?_ _ | refine blk_drew ?_ | refine blk_alloc ?_ _)); exact a1.out) hb); have f3 := Aside0.mk (blk_below (g := a0) (o := .cells #[.int .i64 2, .slice b8 a5.length b5, .slice b9 a4.length b6] 25 (0, 0)) (by (with_reducible repeat (first | refine blk_drewN ?_ _ | refine blk_drew ?_ | refine blk_alloc ?_ _)); refine blk_far ?_ f6.out _; (with_reducible repeat (first | refine blk_drewN ?_ _ | refine blk_drew ?_ | refine blk_alloc ?_ _)); refine blk_far ?_ f6.out _; (with_reducible repeat (first | refine blk_drewN ?_ _ | refine blk_drew ?_ | refine blk_alloc ?_ _)); refine blk_far ?_ f6.out _; (with_reducible repeat (first | refine blk_drewN ?_ _ | refine blk_drew ?_ | refine blk_alloc ?_ _)); exact a3.out) hb); have f7 := Aside0.mk (blk_below (g := a2) (o := .cells #[.int .i64 b7, .slice e4 d8.length e3, .slice e8 e0.length e9] 25 (0, 0)) (by (with_reducible repeat (first | refine blk_drewN ?_ _ | refine blk_drew ?_ | refine blk_alloc ?_ _)); refine blk_put (cs := #[.int .i64 b7, .slice e4 d8.length e3, .slice none 0 0]) ?_ 2 _ rfl; (with_reducible repeat (first | refine blk_drewN ?_ _ | refine blk_drew ?_ | refine blk_alloc ?_ _)); refine blk_put (cs := #[.int .i64 b7, .slice none 0 0, .slice none 0 0]) ?_ 1 _ rfl; (with_reducible repeat (first | refine blk_drewN ?_ _ | refine blk_drew ?_ | refine blk_alloc ?_ _)); refine blk_put (cs := #[.int .i64 0, .slice none 0 0, .slice none 0 0]) ?_ 0 _ rfl; (with_reducible repeat (first | refine blk_drewN ?_ _ | refine blk_drew ?_ | refine blk_alloc ?_ _)); exact b2.out) hb); have g0 := Aside0.mk (below_step (by repeat (first | (with_reducible first | exact HB.out | apply below_alloc | apply pw_below_drewN | apply below_drew1 | refine below_set ?_ d6.out | refine below_set ?_ f1.out | refine below_set ?_ h4.out) | exact HB.out)) hb); clear a7; clear a8; clear b3; clear b4; clear e6; clear e7; clear a1; clear a3; clear b2; clear HB; have a7 := d2; have a8 := d4; have b3 := d9; have b4 := e1; have e6 := e2; have e7 := f0; have a1 := f8; have a3 := f3; have b2 := f7; have HB := g0; clear d2 d4 d9 e1 e2 f0 f8 f3 f7 g0; (try clear hb); (try clear k4); (try clear hk); (try clear hi); have m6 : h2.cell? ⟨a2, 0, none⟩ = some (.int .i64 b7) := (blk_cell b2.out 0).trans rfl; have n2 : h2.cell? ⟨a2, 1, none⟩ = some (.slice e4 d8.length e3) := (blk_cell b2.out 1).trans rfl; have m2 : h2.cell? ⟨a2, 2, none⟩ = some (.slice e8 e0.length e9) := (blk_cell b2.out 2).trans rfl; have q0 := blk_frozen b2.out 0; have p3 := blk_frozen b2.out 1; have p9 := blk_frozen b2.out 2; have p6 : h2.cell? ⟨a0, 0, none⟩ = some (.int .i64 2) := (blk_cell a3.out 0).trans rfl; have p5 : h2.cell? ⟨a0, 1, none⟩ = some (.slice b8 a5.length b5) := (blk_cell a3.out 1).trans rfl; have l8 : h2.cell? ⟨a0, 2, none⟩ = some (.slice b9 a4.length b6) := (blk_cell a3.out 2).trans rfl; have n4 := blk_frozen a3.out 0; have m3 := blk_frozen a3.out 1; have n3 := blk_frozen a3.out 2) | (go_at_call 16; (with_reducible refine (Pr26a.calls k b7 _ _ d8 _ _ e0 2 _ _ a5 _ _ a4 true _ ?j3 ?j4 ?i7 ?i8 ?i4 ?i0 ?i5 ?i2 A5.out).mono ?_); (case j3 => repeat (first | exact (Kd.R_reads' e6.out).2.2 | (with_reducible refine Kd.C_alloc ?_ _) | (with_reducible refine Kd.C_drewN ?_ _) | (with_reducible refine Kd.C_drew ?_))); (case j4 => exact (Kd.R_reads' e6.out).2.1); (case i7 => repeat (first | exact (Kd.R_reads' e7.out).2.2 | (with_reducible refine Kd.C_alloc ?_ _) | (with_reducible refine Kd.C_drewN ?_ _) | (with_reducible refine Kd.C_drew ?_))); (case i8 => exact (Kd.R_reads' e7.out).2.1); (case i4 => repeat (first | exact (Kd.R_reads' b3.out).2.2 | (with_reducible refine Kd.C_alloc ?_ _) | (with_reducible refine Kd.C_drewN ?_ _) | (with_reducible refine Kd.C_drew ?_))); (case i0 => exact (Kd.R_reads' b3.out).2.1); (case i5 => repeat (first | exact (Kd.R_reads' b4.out).2.2 | (with_reducible refine Kd.C_alloc ?_ _) | (with_reducible refine Kd.C_drewN ?_ _) | (with_reducible refine Kd.C_drew ?_))); (case i2 => exact (Kd.R_reads' b4.out).2.1); rintro e s1 ⟨rfl, hb⟩; have d2 := Aside0.mk (Kd.R_below (by (with_reducible repeat (first | apply Kd.R_alloc | apply Kd.R_drewN | apply Kd.R_drew)); exact a7.out) hb); have d4 := Aside0.mk (Kd.R_below (by (with_reducible repeat (first | apply Kd.R_alloc | apply Kd.R_drewN | apply Kd.R_drew)); exact a8.out) hb); have d9 := Aside0.mk (Kd.R_below (by (with_reducible repeat (first | apply Kd.R_alloc | apply Kd.R_drewN | apply Kd.R_drew)); exact b3.out) hb); have e1 := Aside0.mk (Kd.R_below (by (with_reducible repeat (first | apply Kd.R_alloc | apply Kd.R_drewN | apply Kd.R_drew)); exact b4.out) hb); have e2 := Aside0.mk (Kd.R_below (by (with_reducible repeat (first | apply Kd.R_alloc | apply Kd.R_drewN | apply Kd.R_drew)); exact e6.out) hb); have f0 := Aside0.mk (Kd.R_below (by (with_reducible repeat (first | apply Kd.R_alloc | apply Kd.R_drewN | apply Kd.R_drew)); exact e7.out) hb); have f8 := Aside0.mk (blk_below (g := a6) (o := .cells #[.int .i64 1, .slice d5 a9.length d0, .slice d7 b0.length d1] 25 (0, 0)) (by (with_reducible repeat (first | refine blk_drewN ?_ _ | refine blk_drew ?_ | refine blk_alloc ?_ _)); exact a1.out) hb); have f3 := Aside0.mk (blk_below (g := a0) (o := .cells #[.int .i64 2, .slice b8 a5.length b5, .slice b9 a4.length b6] 25 (0, 0)) (by (with_reducible repeat (first | refine blk_drewN ?_ _ | refine blk_drew ?_ | refine blk_alloc ?_ _)); exact a3.out) hb); have f7 := Aside0.mk (blk_below (g := a2) (o := .cells #[.int .i64 b7, .slice e4 d8.length e3, .slice e8 e0.length e9] 25 (0, 0)) (by (with_reducible repeat (first | refine blk_drewN ?_ _ | refine blk_drew ?_ | refine blk_alloc ?_ _)); exact b2.out) hb); have g0 := Aside0.mk (below_step (by repeat (first | (with_reducible first | exact HB.out | apply below_alloc | apply pw_below_drewN | apply below_drew1 | refine below_set ?_ d6.out | refine below_set ?_ f1.out | refine below_set ?_ h4.out) | exact HB.out)) hb); clear a7; clear a8; clear b3; clear b4; clear e6; clear e7; clear a1; clear a3; clear b2; clear HB; have a7 := d2; have a8 := d4; have b3 := d9; have b4 := e1; have e6 := e2; have e7 := f0; have a1 := f8; have a3 := f3; have b2 := f7; have HB := g0; clear d2 d4 d9 e1 e2 f0 f8 f3 f7 g0; (try clear hb); (try clear k4); (try clear hk); (try clear hi)))
     go_ret
     exact ⟨by first | rfl | (simp [errW_none, errW_some] <;> rfl) | (simp [*, errW_none, errW_some] <;> rfl), by repeat (first | (with_reducible first | exact HB.out | apply below_alloc | apply pw_below_drewN | apply below_drew1 | refine below_set ?_ d6.out | refine below_set ?_ f1.out | refine below_set ?_ h4.out) | exact HB.out)⟩
    ·rw [if_neg c7] at H
     have c7b0 : (f9 == 0) = false := beq_eq_false_iff_ne.mpr c7
     have c7b1 : (f9 != 0) = true := bne_iff_ne.mpr c7
     obtain rfl := Option.some.inj H
     exact absurd hr_.out (by decide)
   ·replace c6 := Bool.eq_false_iff.mpr c6
    subst c6
    have H1 : (some false) = some r := by rw [if_neg (show ¬ (false = true) by decide)] at H; exact H
    clear H
    have H := H1
    clear H1
    obtain rfl := Option.some.inj H
    exact absurd hr_.out (by decide)
  ·rw [if_neg c4] at H
   have c4b0 : (b7 == 2) = false := beq_eq_false_iff_ne.mpr c4
   have c4b1 : (b7 != 2) = true := bne_iff_ne.mpr c4
   obtain rfl := Option.some.inj H
   exact absurd hr_.out (by decide)
 ·rw [if_neg c3] at H
  have c3b0 : (g1 == 0) = false := beq_eq_false_iff_ne.mpr c3
  have c3b1 : (g1 != 0) = true := bne_iff_ne.mpr c3
  obtain rfl := Option.some.inj H
  exact absurd hr_.out (by decide)
end Go.Proofs.Ythaaockbapbooaa.Pr
namespace Go.Proofs.Ythaaockbapbooaa.Pr
open Go.RowKit Go.Proofs.YthaaockbapbooaaW.PrintWords Go.Proofs.YthaaockbapbooaaW.PrintLast Go.Proofs.YthaaockbapbooaaW.PrintMore
attribute [local go_sem] max2_int min2_int max_two min_two max_three min_three max_four min_four
set_option linter.unusedVariables false
set_option linter.unusedSimpArgs false
def Pl50a.j0 : Nat → Int → Int → Int → Bool → Int → List ByteArray → List (S51) → Option (Bool)
 | 0, _, _, _, _, _, _, _ => none
 | k + 1, x0, x1, x8, x26, x307000, x307001, x307002 => if x26 = true then (if x8 = 1 then ((Pl50b.f k).bind fun t307 => (some t307)) else (some false)) else (if (wrap64 ((wrap64 (x0)) * (wrap64 (x1)))) > 2048 then ((Pr26a.f k x307000 x307001 x307002 0 ([] : List ByteArray) ([] : List (S51))).bind fun t308 => (if t308 = true then (if x8 = 8 then ((Pl50b.f k).bind fun t309 => (some t309)) else (some false)) else (some false))) else (if x307000 = (wrap64 ((wrap64 (x0)) * (wrap64 (x1)))) then (if (x307002.length : Int) = 0 then (if x8 = 0 then ((Pl50b.f k).bind fun t310 => (some t310)) else (some false)) else (some false)) else (some false)))
def Pl50a.f (k : Nat) (a0 : Int) (a1 : Int) : Option (Bool) := (Pxg.f k (wrap64 (a0)) ([] : List ByteArray) ([] : List (S51)) (wrap64 (a1)) ([] : List ByteArray) ([] : List (S51))).bind fun bt298 => (if a0 < 1 then (Pl50a.j0 k a0 a1 bt298.2.2.2 true bt298.1 bt298.2.1 bt298.2.2.1) else (Pl50a.j0 k a0 a1 bt298.2.2.2 (decide (a1 < 1)) bt298.1 bt298.2.1 bt298.2.2.1))
theorem Pl50a.mono_l : ∀ k, (∀ y0 y1 y2 y3 y4 y5 y6, LeO (Pl50a.j0 k y0 y1 y2 y3 y4 y5 y6) (Pl50a.j0 (k + 1) y0 y1 y2 y3 y4 y5 y6))
 | 0 => fun _ _ _ _ _ _ _ r h => by simp [Pl50a.j0] at h
 | k + 1 => by
  have ih0 := Pl50a.mono_l k
  ·intro y0 y1 y2 y3 y4 y5 y6
   unfold Pl50a.j0
   repeat' first
   | (with_reducible exact ih0 _ _ _ _ _ _ _)
   | (with_reducible exact Pxg.mono _ _ _ _ _ _ _)
   | (with_reducible exact Pl50b.mono _)
   | (with_reducible exact Pr26a.mono _ _ _ _ _ _ _)
   | (with_reducible exact LeO.refl _)
   | (with_reducible exact LeO.none _)
   | (with_reducible refine LeO.ite ?_ ?_)
   | (with_reducible refine LeO.bind ?_ (fun _ => ?_))
   | exact ih0 _ _ _ _ _ _ _
   | exact Pxg.mono _ _ _ _ _ _ _
   | exact Pl50b.mono _
   | exact Pr26a.mono _ _ _ _ _ _ _
   | exact LeO.none _
   | refine LeO.ite ?_ ?_
   | refine LeO.bind ?_ (fun _ => ?_)
theorem Pl50a.mono : ∀ a0 a1 k, LeO (Pl50a.f k a0 a1) (Pl50a.f (k + 1) a0 a1) := by
 intro a0 a1 k
 have ih0 := Pl50a.mono_l k
 unfold Pl50a.f
 repeat' first
   | (with_reducible exact ih0 _ _ _ _ _ _ _)
   | (with_reducible exact Pxg.mono _ _ _ _ _ _ _)
   | (with_reducible exact Pl50b.mono _)
   | (with_reducible exact Pr26a.mono _ _ _ _ _ _ _)
   | (with_reducible exact LeO.refl _)
   | (with_reducible exact LeO.none _)
   | (with_reducible refine LeO.ite ?_ ?_)
   | (with_reducible refine LeO.bind ?_ (fun _ => ?_))
   | exact ih0 _ _ _ _ _ _ _
   | exact Pxg.mono _ _ _ _ _ _ _
   | exact Pl50b.mono _
   | exact Pr26a.mono _ _ _ _ _ _ _
   | exact LeO.none _
   | refine LeO.ite ?_ ?_
   | refine LeO.bind ?_ (fun _ => ?_)
set_option maxHeartbeats 8000000 in
set_option maxRecDepth 100000 in
theorem Pl50a.calls (k : Nat) (a0 : Int) (a1 : Int) (r : Bool) (w : World) (h : Pl50a.f k a0 a1 = some r) (hr_ : Aside0 (r = true)) :
  Calls Try.prog 5 #[.int .u8 a0, .int .u8 a1] w fun e w' => e = .returned (.bool r) ∧ Below w.heap.size w w' := by
 have o6 := Try.underlying25
 have HB := Aside0.mk (Below.refl w.heap.size w)
 have H : ((Pxg.f k (wrap64 (a0)) ([] : List ByteArray) ([] : List (S51)) (wrap64 (a1)) ([] : List ByteArray) ([] : List (S51))).bind fun e1 => (if a0 < 1 then (Pl50a.j0 k a0 a1 e1.2.2.2 true e1.1 e1.2.1 e1.2.2.1) else (Pl50a.j0 k a0 a1 e1.2.2.2 (decide (a1 < 1)) e1.1 e1.2.1 e1.2.2.1))) = some r := h
 clear h
 replace H := Option.bind_eq_some_iff.mp H
 obtain ⟨⟨a8, b4, a9, b1⟩, k0, H⟩ := H
 replace H : (if a0 < 1 then (Pl50a.j0 k a0 a1 b1 true a8 b4 a9) else (Pl50a.j0 k a0 a1 b1 (decide (a1 < 1)) a8 b4 a9)) = some r := H
 have A3 := Aside0.mk k0
 clear k0
 have h7 := Aside0.mk H
 clear H
 go_enter Try.func5, Try.ntmps5
 go_upto_region 3 with (first | ((with_reducible refine gate_dst (N := 5) rfl ?_); (try (refine gate_guard (by rfl) ?_; dsimp only)); refine box_event ?hg (N := 5) ?hd (cs := #[.int .i64 0, .slice none 0 0, .slice none 0 0]) (t := 25) ?hr ?_; (case hd => rfl); (case hg => rfl); (case hr => first | (go_simp; done) | (go_simp; rfl)); intro b0 hg w5 hbox hb; have b8 := Aside0.mk (below_step (by repeat (first | (with_reducible first | exact HB.out | apply below_alloc | apply pw_below_drewN | apply below_drew1) | exact HB.out)) hb); have d0 := Aside0.mk (hbox); have b9 := Aside0.mk ((by rw [hg]; exact (below_size (by repeat (first | (with_reducible first | exact HB.out | apply below_alloc | apply pw_below_drewN | apply below_drew1) | exact HB.out))) : w.heap.size ≤ b0)); have d1 := Aside0.mk ((by rw [hg]; exact (below_size (by repeat (first | (with_reducible first | exact HB.out | apply below_alloc | apply pw_below_drewN | apply below_drew1) | exact HB.out))) : w.heap.size ≤ b0)); clear HB; have HB := b8; have a3 := d0; have n4 := b9; have b3 := d1; clear b8 d0 b9 d1; clear hb hbox hg) | ((with_reducible refine gate_dst (N := 6) rfl ?_); (try (refine gate_guard (by rfl) ?_; dsimp only)); refine box_event ?hg (N := 6) ?hd (cs := #[.int .i64 0, .slice none 0 0, .slice none 0 0]) (t := 25) ?hr ?_; (case hd => rfl); (case hg => rfl); (case hr => first | (go_simp; done) | (go_simp; rfl)); intro b2 hg w6 hbox hb; have b8 := Aside0.mk (blk_below (g := b0) (o := .cells #[.int .i64 0, .slice none 0 0, .slice none 0 0] 25 (0, 0)) (by (with_reducible repeat (first | refine blk_drewN ?_ _ | refine blk_drew ?_ | refine blk_alloc ?_ _)); exact a3.out) hb); have d0 := Aside0.mk (below_step (by repeat (first | (with_reducible first | exact HB.out | apply below_alloc | apply pw_below_drewN | apply below_drew1 | refine below_set ?_ b3.out) | exact HB.out)) hb); have b9 := Aside0.mk (hbox); have d1 := Aside0.mk ((by rw [hg]; exact (below_size (by repeat (first | (with_reducible first | exact HB.out | apply below_alloc | apply pw_below_drewN | apply below_drew1 | refine below_set ?_ b3.out) | exact HB.out))) : w.heap.size ≤ b2)); have d4 := Aside0.mk ((by rw [hg]; exact (below_size (by repeat (first | (with_reducible first | exact HB.out | apply below_alloc | apply pw_below_drewN | apply below_drew1 | refine below_set ?_ b3.out) | exact HB.out))) : w.heap.size ≤ b2)); have d7 := Aside0.mk ((by rw [hg]; exact Nat.ne_of_lt (blk_lt (g := b0) (o := .cells #[.int .i64 0, .slice none 0 0, .slice none 0 0] 25 (0, 0)) (by (with_reducible repeat (first | refine blk_drewN ?_ _ | refine blk_drew ?_ | refine blk_alloc ?_ _)); exact a3.out)) : b0 ≠ b2)); have f8 := Aside0.mk ((by rw [hg]; exact Nat.ne_of_gt (blk_lt (g := b0) (o := .cells #[.int .i64 0, .slice none 0 0, .slice none 0 0] 25 (0, 0)) (by (with_reducible repeat (first | refine blk_drewN ?_ _ | refine blk_drew ?_ | refine blk_alloc ?_ _)); exact a3.out)) : b2 ≠ b0)); clear a3; clear HB; have a3 := b8; have HB := d0; have a5 := b9; have m7 := d1; have b7 := d4; have d9 := d7; have e0 := f8; clear b8 d0 b9 d1 d4 d7 f8; clear hb hbox hg; have o2 := d9.out; have o3 := e0.out; have i6 : w6.cell? ⟨b0, 0, none⟩ = some (.int .i64 0) := (blk_cell a3.out 0).trans rfl; have h5 : w6.cell? ⟨b0, 1, none⟩ = some (.slice none 0 0) := (blk_cell a3.out 1).trans rfl; have i4 : w6.cell? ⟨b0, 2, none⟩ = some (.slice none 0 0) := (blk_cell a3.out 2).trans rfl; have i3 := blk_frozen a3.out 0; have h9 := blk_frozen a3.out 1; have h1 := blk_frozen a3.out 2; have h8 : w6.cell? ⟨b2, 0, none⟩ = some (.int .i64 0) := (blk_cell a5.out 0).trans rfl; have i1 : w6.cell? ⟨b2, 1, none⟩ = some (.slice none 0 0) := (blk_cell a5.out 1).trans rfl; have g9 : w6.cell? ⟨b2, 2, none⟩ = some (.slice none 0 0) := (blk_cell a5.out 2).trans rfl; have h3 := blk_frozen a5.out 0; have h4 := blk_frozen a5.out 1; have h2 := blk_frozen a5.out 2) | ((with_reducible refine gate_callee (f := 20) rfl ?_); refine goesL_ (some 18) rfl rfl Try.func20 (by kernel_rfl) rfl #[.agg #[.int .i64 (wrap64 (a0)), .slice none 0 0, .slice none 0 0], .agg #[.int .i64 (wrap64 (a1)), .slice none 0 0, .slice none 0 0]] rfl (by (try simp only [List.map_toArray, List.map_cons, List.map_nil]); first | done | rfl | (simp only [List.length_drop, List.length_take]; rfl)) ?_; (refine (Pxg.calls k (wrap64 (a0)) _ _ ([] : List ByteArray) _ _ ([] : List (S51)) (wrap64 (a1)) _ _ ([] : List ByteArray) _ _ ([] : List (S51)) a8 b4 a9 b1 _ ?j7 ?j8 ?j5 ?j6 ?j3 ?i8 ?j4 ?i9 A3.out).mono ?_); (case j7 => exact Kd.C_nil _ _); (case j8 => exact Nat.le_refl _); (case j5 => exact Kd.C_nil _ _); (case j6 => exact Nat.le_refl _); (case j3 => exact Kd.C_nil _ _); (case i8 => exact Nat.le_refl _); (case j4 => exact Kd.C_nil _ _); (case i9 => exact Nat.le_refl _); rintro e p0 ⟨o5, o4, rfl, k4, k1, hb⟩; refine ⟨_, rfl, ?_⟩; have b8 := Aside0.mk (Kd.R_lower k4 (below_size (by repeat (first | (with_reducible first | exact HB.out | apply below_alloc | apply pw_below_drewN | apply below_drew1 | refine below_set ?_ b3.out | refine below_set ?_ b7.out) | exact HB.out)))); have d0 := Aside0.mk (Kd.R_lower k1 (below_size (by repeat (first | (with_reducible first | exact HB.out | apply below_alloc | apply pw_below_drewN | apply below_drew1 | refine below_set ?_ b3.out | refine below_set ?_ b7.out) | exact HB.out)))); have b9 := Aside0.mk (blk_below (g := b0) (o := .cells #[.int .i64 (wrap64 (a0)), .slice none 0 0, .slice none 0 0] 25 (0, 0)) (by (with_reducible repeat (first | refine blk_drewN ?_ _ | refine blk_drew ?_ | refine blk_alloc ?_ _)); refine blk_far ?_ d9.out _; (with_reducible repeat (first | refine blk_drewN ?_ _ | refine blk_drew ?_ | refine blk_alloc ?_ _)); refine blk_far ?_ d9.out _; (with_reducible repeat (first | refine blk_drewN ?_ _ | refine blk_drew ?_ | refine blk_alloc ?_ _)); refine blk_far ?_ d9.out _; (with_reducible repeat (first | refine blk_drewN ?_ _ | refine blk_drew ?_ | refine blk_alloc ?_ _)); refine blk_put (cs := #[.int .i64 (wrap64 (a0)), .slice none 0 0, .slice none 0 0]) ?_ 2 _ rfl; (with_reducible repeat (first | refine blk_drewN ?_ _ | refine blk_drew ?_ | refine blk_alloc ?_ _)); refine blk_put (cs := #[.int .i64 (wrap64 (a0)), .slice none 0 0, .slice none 0 0]) ?_ 1 _ rfl; (with_reducible repeat (first | refine blk_drewN ?_ _ | refine blk_drew ?_ | refine blk_alloc ?_ _)); refine blk_put (cs := #[.int .i64 0, .slice none 0 0, .slice none 0 0]) ?_ 0 _ rfl; (with_reducible repeat (first | refine blk_drewN ?_ _ | refine blk_drew ?_ | refine blk_alloc ?_ _)); exact a3.out) hb); have d1 := Aside0.mk (blk_below (g := b2) (o := .cells #[.int .i64 (wrap64 (a1)), .slice none 0 0, .slice none 0 0] 25 (0, 0)) (by (with_reducible repeat (first | refine blk_drewN ?_ _ | refine blk_drew ?_ | refine blk_alloc ?_ _)); refine blk_put (cs := #[.int .i64 (wrap64 (a1)), .slice none 0 0, .slice none 0 0]) ?_ 2 _ rfl; (with_reducible repeat (first | refine blk_drewN ?_ _ | refine blk_drew ?_ | refine blk_alloc ?_ _)); refine blk_put (cs := #[.int .i64 (wrap64 (a1)), .slice none 0 0, .slice none 0 0]) ?_ 1 _ rfl; (with_reducible repeat (first | refine blk_drewN ?_ _ | refine blk_drew ?_ | refine blk_alloc ?_ _)); refine blk_put (cs := #[.int .i64 0, .slice none 0 0, .slice none 0 0]) ?_ 0 _ rfl; (with_reducible repeat (first | refine blk_drewN ?_ _ | refine blk_drew ?_ | refine blk_alloc ?_ _)); refine blk_far ?_ e0.out _; (with_reducible repeat (first | refine blk_drewN ?_ _ | refine blk_drew ?_ | refine blk_alloc ?_ _)); refine blk_far ?_ e0.out _; (with_reducible repeat (first | refine blk_drewN ?_ _ | refine blk_drew ?_ | refine blk_alloc ?_ _)); refine blk_far ?_ e0.out _; (with_reducible repeat (first | refine blk_drewN ?_ _ | refine blk_drew ?_ | refine blk_alloc ?_ _)); exact a5.out) hb); have d4 := Aside0.mk (below_step (by repeat (first | (with_reducible first | exact HB.out | apply below_alloc | apply pw_below_drewN | apply below_drew1 | refine below_set ?_ b3.out | refine below_set ?_ b7.out) | exact HB.out)) hb); clear a3; clear a5; clear HB; have e6 := b8; have e5 := d0; have a3 := b9; have a5 := d1; have HB := d4; clear b8 d0 b9 d1 d4; (try clear hb); (try clear g0); (try clear hk); (try clear hi); (try clear k4); (try clear k1)) | ((with_reducible refine gate_dst (N := 7) rfl ?_); (try (refine gate_guard (by rfl) ?_; dsimp only)); refine box_event ?hg (N := 7) ?hd (cs := #[.int .i64 0, .slice none 0 0, .slice none 0 0]) (t := 25) ?hr ?_; (case hd => rfl); (case hg => rfl); (case hr => first | (go_simp; done) | (go_simp; rfl)); intro a4 hg h6 hbox hb; have b8 := Aside0.mk (Kd.R_below (by (with_reducible repeat (first | apply Kd.R_alloc | apply Kd.R_drewN | apply Kd.R_drew)); exact e6.out) hb); have d0 := Aside0.mk (Kd.R_below (by (with_reducible repeat (first | apply Kd.R_alloc | apply Kd.R_drewN | apply Kd.R_drew)); exact e5.out) hb); have b9 := Aside0.mk (blk_below (g := b0) (o := .cells #[.int .i64 (wrap64 (a0)), .slice none 0 0, .slice none 0 0] 25 (0, 0)) (by (with_reducible repeat (first | refine blk_drewN ?_ _ | refine blk_drew ?_ | refine blk_alloc ?_ _)); exact a3.out) hb); have d1 := Aside0.mk (blk_below (g := b2) (o := .cells #[.int .i64 (wrap64 (a1)), .slice none 0 0, .slice none 0 0] 25 (0, 0)) (by (with_reducible repeat (first | refine blk_drewN ?_ _ | refine blk_drew ?_ | refine blk_alloc ?_ _)); exact a5.out) hb); have d4 := Aside0.mk (below_step (by repeat (first | (with_reducible first | exact HB.out | apply below_alloc | apply pw_below_drewN | apply below_drew1 | refine below_set ?_ b3.out | refine below_set ?_ b7.out) | exact HB.out)) hb); have d7 := Aside0.mk (hbox); have f8 := Aside0.mk ((by rw [hg]; exact (below_size (by repeat (first | (with_reducible first | exact HB.out | apply below_alloc | apply pw_below_drewN | apply below_drew1 | refine below_set ?_ b3.out | refine below_set ?_ b7.out) | exact HB.out))) : w.heap.size ≤ a4)); have j9 := Aside0.mk ((by rw [hg]; exact (below_size (by repeat (first | (with_reducible first | exact HB.out | apply below_alloc | apply pw_below_drewN | apply below_drew1 | refine below_set ?_ b3.out | refine below_set ?_ b7.out) | exact HB.out))) : w.heap.size ≤ a4)); have k2 := Aside0.mk ((by rw [hg]; exact Nat.ne_of_lt (blk_lt (g := b0) (o := .cells #[.int .i64 (wrap64 (a0)), .slice none 0 0, .slice none 0 0] 25 (0, 0)) (by (with_reducible repeat (first | refine blk_drewN ?_ _ | refine blk_drew ?_ | refine blk_alloc ?_ _)); exact a3.out)) : b0 ≠ a4)); have k3 := Aside0.mk ((by rw [hg]; exact Nat.ne_of_gt (blk_lt (g := b0) (o := .cells #[.int .i64 (wrap64 (a0)), .slice none 0 0, .slice none 0 0] 25 (0, 0)) (by (with_reducible repeat (first | refine blk_drewN ?_ _ | refine blk_drew ?_ | refine blk_alloc ?_ _)); exact a3.out)) : a4 ≠ b0)); have g8 := Aside0.mk ((by rw [hg]; exact Nat.ne_of_lt (blk_lt (g := b2) (o := .cells #[.int .i64 (wrap64 (a1)), .slice none 0 0, .slice none 0 0] 25 (0, 0)) (by (with_reducible repeat (first | refine blk_drewN ?_ _ | refine blk_drew ?_ | refine blk_alloc ?_ _)); exact a5.out)) : b2 ≠ a4)); have i5 := Aside0.mk ((by rw [hg]; exact Nat.ne_of_gt (blk_lt (g := b2) (o := .cells #[.int .i64 (wrap64 (a1)), .slice none 0 0, .slice none 0 0] 25 (0, 0)) (by (with_reducible repeat (first | refine blk_drewN ?_ _ | refine blk_drew ?_ | refine blk_alloc ?_ _)); exact a5.out)) : a4 ≠ b2)); clear e6; clear e5; clear a3; clear a5; clear HB; have e6 := b8; have e5 := d0; have a3 := b9; have a5 := d1; have HB := d4; have a2 := d7; have n7 := f8; have d8 := j9; have b5 := k2; have e4 := k3; have b6 := g8; have e2 := i5; clear b8 d0 b9 d1 d4 d7 f8 j9 k2 k3 g8 i5; clear hb hbox hg; have n8 := e4.out; have m9 := b5.out; have n6 := e2.out; have n0 := b6.out; have g6 : h6.cell? ⟨a4, 0, none⟩ = some (.int .i64 0) := (blk_cell a2.out 0).trans rfl; have g3 : h6.cell? ⟨a4, 1, none⟩ = some (.slice none 0 0) := (blk_cell a2.out 1).trans rfl; have g4 : h6.cell? ⟨a4, 2, none⟩ = some (.slice none 0 0) := (blk_cell a2.out 2).trans rfl; have g7 := blk_frozen a2.out 0; have g5 := blk_frozen a2.out 1; have g2 := blk_frozen a2.out 2; obtain ⟨d3, d2, k6⟩ := Kd.R_slice e6.out; subst k6; obtain ⟨d5, d6, k5⟩ := Kd.R_slice e5.out; subst k5))
 (try simp only [Act.put, List.setIfInBounds_toArray, List.set_cons_zero, List.set_cons_succ])
 go_cut [26] (fun m2 wc => ∃ (kq : Nat) (e8 : Bool), m2 = .bool e8 ∧ Aside0 (Pl50a.j0 kq a0 a1 b1 e8 a8 b4 a9 = some r) ∧ Aside0 (kq ≤ k) ∧ Aside0 (Kd.R Kd.string 9 wc w.heap.size (fun _ => True) (.slice d3 b4.length d2) b4) ∧ Aside0 (Kd.R k51 51 wc w.heap.size (fun _ => True) (.slice d5 a9.length d6) a9) ∧ Aside0 (wc.heap[b0]? = some (.cells #[.int .i64 (wrap64 (a0)), (.slice none 0 0), (.slice none 0 0)] 25 (0, 0))) ∧ Aside0 (wc.heap[b2]? = some (.cells #[.int .i64 (wrap64 (a1)), (.slice none 0 0), (.slice none 0 0)] 25 (0, 0))) ∧ Aside0 (wc.heap[a4]? = some (.cells #[.int .i64 a8, (.slice d3 b4.length d2), (.slice d5 a9.length d6)] 25 (0, 0))) ∧ Aside0 (Below w.heap.size w wc))
 case first =>
  have H := h7.out
  clear h7
  by_cases f2 : a0 < 1
  ·rw [if_pos f2] at H
   have c17b0 : decide (a0 < 1) = true := decide_eq_true f2
   clear f2
   (first | rw [c17b0] | (simp only [i64_w, i32_w]; rw [c17b0]) | skip)
   have H' := Aside0.mk H
   clear H
   go_wp2
   go_meet
   case rel => exact ⟨_, (true), (by first | rfl | (simp; done) | (simp [*]; done)), H', ⟨by first | omega | exact Nat.le_refl _⟩, ⟨by (with_reducible repeat (first | apply Kd.R_alloc | apply Kd.R_drewN | apply Kd.R_drew)); exact Kd.R_mono (Kd.R_far (p := ⟨a4, 2, none⟩) (Kd.R_far (p := ⟨a4, 1, none⟩) (Kd.R_far (p := ⟨a4, 0, none⟩) (Kd.R_types e6.out a2.out (by decide)) (fun _ hk => hk.2) (.int .i64 a8)) (fun _ hk => hk.2) (.slice d3 b4.length d2)) (fun _ hk => hk.2) (.slice d5 a9.length d6)) (fun _ hk => trivial)⟩, ⟨by (with_reducible repeat (first | apply Kd.R_alloc | apply Kd.R_drewN | apply Kd.R_drew)); exact Kd.R_mono (Kd.R_far (p := ⟨a4, 2, none⟩) (Kd.R_far (p := ⟨a4, 1, none⟩) (Kd.R_far (p := ⟨a4, 0, none⟩) (Kd.R_types e5.out a2.out (by decide)) (fun _ hk => hk.2) (.int .i64 a8)) (fun _ hk => hk.2) (.slice d3 b4.length d2)) (fun _ hk => hk.2) (.slice d5 a9.length d6)) (fun _ hk => trivial)⟩, ⟨by (with_reducible repeat (first | refine blk_drewN ?_ _ | refine blk_drew ?_ | refine blk_alloc ?_ _)); refine blk_far ?_ b5.out _; (with_reducible repeat (first | refine blk_drewN ?_ _ | refine blk_drew ?_ | refine blk_alloc ?_ _)); refine blk_far ?_ b5.out _; (with_reducible repeat (first | refine blk_drewN ?_ _ | refine blk_drew ?_ | refine blk_alloc ?_ _)); refine blk_far ?_ b5.out _; (with_reducible repeat (first | refine blk_drewN ?_ _ | refine blk_drew ?_ | refine blk_alloc ?_ _)); exact a3.out⟩, ⟨by (with_reducible repeat (first | refine blk_drewN ?_ _ | refine blk_drew ?_ | refine blk_alloc ?_ _)); refine blk_far ?_ b6.out _; (with_reducible repeat (first | refine blk_drewN ?_ _ | refine blk_drew ?_ | refine blk_alloc ?_ _)); refine blk_far ?_ b6.out _; (with_reducible repeat (first | refine blk_drewN ?_ _ | refine blk_drew ?_ | refine blk_alloc ?_ _)); refine blk_far ?_ b6.out _; (with_reducible repeat (first | refine blk_drewN ?_ _ | refine blk_drew ?_ | refine blk_alloc ?_ _)); exact a5.out⟩, ⟨by (with_reducible repeat (first | refine blk_drewN ?_ _ | refine blk_drew ?_ | refine blk_alloc ?_ _)); refine blk_put (cs := #[.int .i64 a8, .slice d3 b4.length d2, .slice none 0 0]) ?_ 2 _ rfl; (with_reducible repeat (first | refine blk_drewN ?_ _ | refine blk_drew ?_ | refine blk_alloc ?_ _)); refine blk_put (cs := #[.int .i64 a8, .slice none 0 0, .slice none 0 0]) ?_ 1 _ rfl; (with_reducible repeat (first | refine blk_drewN ?_ _ | refine blk_drew ?_ | refine blk_alloc ?_ _)); refine blk_put (cs := #[.int .i64 0, .slice none 0 0, .slice none 0 0]) ?_ 0 _ rfl; (with_reducible repeat (first | refine blk_drewN ?_ _ | refine blk_drew ?_ | refine blk_alloc ?_ _)); exact a2.out⟩, ⟨by repeat (first | (with_reducible first | exact HB.out | apply below_alloc | apply pw_below_drewN | apply below_drew1 | refine below_set ?_ b3.out | refine below_set ?_ b7.out | refine below_set ?_ d8.out) | exact HB.out)⟩⟩
  ·rw [if_neg f2] at H
   have c17b0 : decide (a0 < 1) = false := decide_eq_false f2
   clear f2
   (first | rw [c17b0] | (simp only [i64_w, i32_w]; rw [c17b0]) | skip)
   have H' := Aside0.mk H
   clear H
   go_wp2
   go_meet
   case rel => exact ⟨_, (decide (a1 < 1)), (by first | rfl | (simp; done) | (simp [*]; done)), H', ⟨by first | omega | exact Nat.le_refl _⟩, ⟨by (with_reducible repeat (first | apply Kd.R_alloc | apply Kd.R_drewN | apply Kd.R_drew)); exact Kd.R_mono (Kd.R_far (p := ⟨a4, 2, none⟩) (Kd.R_far (p := ⟨a4, 1, none⟩) (Kd.R_far (p := ⟨a4, 0, none⟩) (Kd.R_types e6.out a2.out (by decide)) (fun _ hk => hk.2) (.int .i64 a8)) (fun _ hk => hk.2) (.slice d3 b4.length d2)) (fun _ hk => hk.2) (.slice d5 a9.length d6)) (fun _ hk => trivial)⟩, ⟨by (with_reducible repeat (first | apply Kd.R_alloc | apply Kd.R_drewN | apply Kd.R_drew)); exact Kd.R_mono (Kd.R_far (p := ⟨a4, 2, none⟩) (Kd.R_far (p := ⟨a4, 1, none⟩) (Kd.R_far (p := ⟨a4, 0, none⟩) (Kd.R_types e5.out a2.out (by decide)) (fun _ hk => hk.2) (.int .i64 a8)) (fun _ hk => hk.2) (.slice d3 b4.length d2)) (fun _ hk => hk.2) (.slice d5 a9.length d6)) (fun _ hk => trivial)⟩, ⟨by (with_reducible repeat (first | refine blk_drewN ?_ _ | refine blk_drew ?_ | refine blk_alloc ?_ _)); refine blk_far ?_ b5.out _; (with_reducible repeat (first | refine blk_drewN ?_ _ | refine blk_drew ?_ | refine blk_alloc ?_ _)); refine blk_far ?_ b5.out _; (with_reducible repeat (first | refine blk_drewN ?_ _ | refine blk_drew ?_ | refine blk_alloc ?_ _)); refine blk_far ?_ b5.out _; (with_reducible repeat (first | refine blk_drewN ?_ _ | refine blk_drew ?_ | refine blk_alloc ?_ _)); exact a3.out⟩, ⟨by (with_reducible repeat (first | refine blk_drewN ?_ _ | refine blk_drew ?_ | refine blk_alloc ?_ _)); refine blk_far ?_ b6.out _; (with_reducible repeat (first | refine blk_drewN ?_ _ | refine blk_drew ?_ | refine blk_alloc ?_ _)); refine blk_far ?_ b6.out _; (with_reducible repeat (first | refine blk_drewN ?_ _ | refine blk_drew ?_ | refine blk_alloc ?_ _)); refine blk_far ?_ b6.out _; (with_reducible repeat (first | refine blk_drewN ?_ _ | refine blk_drew ?_ | refine blk_alloc ?_ _)); exact a5.out⟩, ⟨by (with_reducible repeat (first | refine blk_drewN ?_ _ | refine blk_drew ?_ | refine blk_alloc ?_ _)); refine blk_put (cs := #[.int .i64 a8, .slice d3 b4.length d2, .slice none 0 0]) ?_ 2 _ rfl; (with_reducible repeat (first | refine blk_drewN ?_ _ | refine blk_drew ?_ | refine blk_alloc ?_ _)); refine blk_put (cs := #[.int .i64 a8, .slice none 0 0, .slice none 0 0]) ?_ 1 _ rfl; (with_reducible repeat (first | refine blk_drewN ?_ _ | refine blk_drew ?_ | refine blk_alloc ?_ _)); refine blk_put (cs := #[.int .i64 0, .slice none 0 0, .slice none 0 0]) ?_ 0 _ rfl; (with_reducible repeat (first | refine blk_drewN ?_ _ | refine blk_drew ?_ | refine blk_alloc ?_ _)); exact a2.out⟩, ⟨by repeat (first | (with_reducible first | exact HB.out | apply below_alloc | apply pw_below_drewN | apply below_drew1 | refine below_set ?_ b3.out | refine below_set ?_ b7.out | refine below_set ?_ d8.out) | exact HB.out)⟩⟩
 case rest =>
  clear h7
  try clear c1
  try clear c2
  try clear p2
  try clear c5
  try clear p6
  try clear c7
  try clear o9
  try clear o8
  try clear f2
  try clear c17b0
  try clear g6
  try clear g3
  try clear g4
  try clear i6
  try clear h5
  try clear i4
  try clear h8
  try clear i1
  try clear g9
  try clear g7
  try clear g5
  try clear g2
  try clear i3
  try clear h9
  try clear h1
  try clear h3
  try clear h4
  try clear h2
  obtain ⟨kq, e8, rfl, HA, p3, a7, a6, a3, a5, a2, HB⟩ := hcut
  cases kq with
  | zero => exact absurd HA.out (by simp [Pl50a.j0])
  | succ kj3 =>
   have H := HA.out
   clear HA
   simp only [Pl50a.j0] at H
   by_cases g1 : e8 = true
   ·subst g1
    have H1 : (if b1 = 1 then ((Pl50b.f kj3).bind fun f6 => (some f6)) else (some false)) = some r := by rw [if_pos rfl] at H; exact H
    clear H
    have H := H1
    clear H1
    by_cases e9 : b1 = 1
    ·rw [if_pos e9] at H
     have c19b0 : (b1 == 1) = true := beq_iff_eq.mpr e9
     have c19b1 : (b1 != 1) = false := bne_eq_false_iff_eq.mpr e9
     clear e9
     replace H := Option.bind_eq_some_iff.mp H
     obtain ⟨f6, i7, H⟩ := H
     replace H : (some f6) = some r := H
     have m4 := Aside0.mk i7
     clear i7
     obtain rfl := Option.some.inj H
     go_wp2_with (first | (go_at_call 19; (with_reducible refine (Pl50b.calls kj3  f6 _ m4.out hr_).mono ?_); rintro e o7 ⟨rfl, hb⟩; have b8 := Aside0.mk (Kd.R_below (by (with_reducible repeat (first | apply Kd.R_alloc | apply Kd.R_drewN | apply Kd.R_drew)); exact a7.out) hb); have d0 := Aside0.mk (Kd.R_below (by (with_reducible repeat (first | apply Kd.R_alloc | apply Kd.R_drewN | apply Kd.R_drew)); exact a6.out) hb); have b9 := Aside0.mk (blk_below (g := b0) (o := .cells #[.int .i64 (wrap64 (a0)), .slice none 0 0, .slice none 0 0] 25 (0, 0)) (by (with_reducible repeat (first | refine blk_drewN ?_ _ | refine blk_drew ?_ | refine blk_alloc ?_ _)); exact a3.out) hb); have d1 := Aside0.mk (blk_below (g := b2) (o := .cells #[.int .i64 (wrap64 (a1)), .slice none 0 0, .slice none 0 0] 25 (0, 0)) (by (with_reducible repeat (first | refine blk_drewN ?_ _ | refine blk_drew ?_ | refine blk_alloc ?_ _)); exact a5.out) hb); have d4 := Aside0.mk (blk_below (g := a4) (o := .cells #[.int .i64 a8, .slice d3 b4.length d2, .slice d5 a9.length d6] 25 (0, 0)) (by (with_reducible repeat (first | refine blk_drewN ?_ _ | refine blk_drew ?_ | refine blk_alloc ?_ _)); exact a2.out) hb); have d7 := Aside0.mk (below_step (by repeat (first | (with_reducible first | exact HB.out | apply below_alloc | apply pw_below_drewN | apply below_drew1 | refine below_set ?_ b3.out | refine below_set ?_ b7.out | refine below_set ?_ d8.out) | exact HB.out)) hb); clear a7; clear a6; clear a3; clear a5; clear a2; clear HB; have a7 := b8; have a6 := d0; have a3 := b9; have a5 := d1; have a2 := d4; have HB := d7; clear b8 d0 b9 d1 d4 d7; (try clear hb); (try clear g0); (try clear hk); (try clear hi)))
     go_ret
     exact ⟨by first | rfl | (simp [errW_none, errW_some] <;> rfl) | (simp [*, errW_none, errW_some] <;> rfl), by repeat (first | (with_reducible first | exact HB.out | apply below_alloc | apply pw_below_drewN | apply below_drew1 | refine below_set ?_ b3.out | refine below_set ?_ b7.out | refine below_set ?_ d8.out) | exact HB.out)⟩
    ·rw [if_neg e9] at H
     have c19b0 : (b1 == 1) = false := beq_eq_false_iff_ne.mpr e9
     have c19b1 : (b1 != 1) = true := bne_iff_ne.mpr e9
     obtain rfl := Option.some.inj H
     exact absurd hr_.out (by decide)
   ·replace g1 := Bool.eq_false_iff.mpr g1
    subst g1
    have H1 : (if (wrap64 ((wrap64 (a0)) * (wrap64 (a1)))) > 2048 then ((Pr26a.f kj3 a8 b4 a9 0 ([] : List ByteArray) ([] : List (S51))).bind fun f7 => (if f7 = true then (if b1 = 8 then ((Pl50b.f kj3).bind fun e3 => (some e3)) else (some false)) else (some false))) else (if a8 = (wrap64 ((wrap64 (a0)) * (wrap64 (a1)))) then (if (a9.length : Int) = 0 then (if b1 = 0 then ((Pl50b.f kj3).bind fun f5 => (some f5)) else (some false)) else (some false)) else (some false))) = some r := by rw [if_neg (show ¬ (false = true) by decide)] at H; exact H
    clear H
    have H := H1
    clear H1
    by_cases f4 : (wrap64 ((wrap64 (a0)) * (wrap64 (a1)))) > 2048
    ·rw [if_pos f4] at H
     have c22b0 : decide (2048 < (wrap64 ((wrap64 (a0)) * (wrap64 (a1))))) = true := decide_eq_true f4
     clear f4
     replace H := Option.bind_eq_some_iff.mp H
     obtain ⟨f7, i0, H⟩ := H
     replace H : (if f7 = true then (if b1 = 8 then ((Pl50b.f kj3).bind fun e3 => (some e3)) else (some false)) else (some false)) = some r := H
     have m6 := Aside0.mk i0
     clear i0
     by_cases f9 : f7 = true
     ·subst f9
      have H1 : (if b1 = 8 then ((Pl50b.f kj3).bind fun e3 => (some e3)) else (some false)) = some r := by rw [if_pos rfl] at H; exact H
      clear H
      have H := H1
      clear H1
      by_cases f0 : b1 = 8
      ·rw [if_pos f0] at H
       have c25b0 : (b1 == 8) = true := beq_iff_eq.mpr f0
       have c25b1 : (b1 != 8) = false := bne_eq_false_iff_eq.mpr f0
       clear f0
       replace H := Option.bind_eq_some_iff.mp H
       obtain ⟨e3, h0, H⟩ := H
       replace H : (some e3) = some r := H
       have m5 := Aside0.mk h0
       clear h0
       obtain rfl := Option.some.inj H
       have o0 := e4.out
       have o1 := b5.out
       have n1 := e2.out
       have n3 := b6.out
       have k8 : wc.cell? ⟨a4, 0, none⟩ = some (.int .i64 a8) := (blk_cell a2.out 0).trans rfl
       have l3 : wc.cell? ⟨a4, 1, none⟩ = some (.slice d3 b4.length d2) := (blk_cell a2.out 1).trans rfl
       have k9 : wc.cell? ⟨a4, 2, none⟩ = some (.slice d5 a9.length d6) := (blk_cell a2.out 2).trans rfl
       have l5 := blk_frozen a2.out 0
       have k7 := blk_frozen a2.out 1
       have l8 := blk_frozen a2.out 2
       go_wp2_with (first | ((with_reducible refine gate_callee (f := 16) rfl ?_); refine goesL_ (some 40) rfl rfl Try.func16 (by kernel_rfl) rfl #[.agg #[.int .i64 a8, .slice d3 b4.length d2, .slice d5 a9.length d6], .agg #[.int .i64 0, .slice none 0 0, .slice none 0 0]] rfl (by (try simp only [List.map_toArray, List.map_cons, List.map_nil]); first | done | rfl | (simp only [List.length_drop, List.length_take]; rfl)) ?_; (refine (Pr26a.calls kj3 a8 _ _ b4 _ _ a9 0 _ _ ([] : List ByteArray) _ _ ([] : List (S51)) true _ ?j7 ?j8 ?j5 ?j6 ?j3 ?i8 ?j4 ?i9 m6.out).mono ?_); (case j7 => repeat (first | exact (Kd.R_reads' a7.out).2.2 | (with_reducible refine Kd.C_alloc ?_ _) | (with_reducible refine Kd.C_drewN ?_ _) | (with_reducible refine Kd.C_drew ?_))); (case j8 => exact (Kd.R_reads' a7.out).2.1); (case j5 => repeat (first | exact (Kd.R_reads' a6.out).2.2 | (with_reducible refine Kd.C_alloc ?_ _) | (with_reducible refine Kd.C_drewN ?_ _) | (with_reducible refine Kd.C_drew ?_))); (case j6 => exact (Kd.R_reads' a6.out).2.1); (case j3 => exact Kd.C_nil _ _); (case i8 => exact Nat.le_refl _); (case j4 => exact Kd.C_nil _ _); (case i9 => exact Nat.le_refl _); rintro e p5 ⟨rfl, hb⟩; refine ⟨_, rfl, ?_⟩; have b8 := Aside0.mk (Kd.R_below (by (with_reducible repeat (first | apply Kd.R_alloc | apply Kd.R_drewN | apply Kd.R_drew)); exact a7.out) hb); have d0 := Aside0.mk (Kd.R_below (by (with_reducible repeat (first | apply Kd.R_alloc | apply Kd.R_drewN | apply Kd.R_drew)); exact a6.out) hb); have b9 := Aside0.mk (blk_below (g := b0) (o := .cells #[.int .i64 (wrap64 (a0)), .slice none 0 0, .slice none 0 0] 25 (0, 0)) (by (with_reducible repeat (first | refine blk_drewN ?_ _ | refine blk_drew ?_ | refine blk_alloc ?_ _)); exact a3.out) hb); have d1 := Aside0.mk (blk_below (g := b2) (o := .cells #[.int .i64 (wrap64 (a1)), .slice none 0 0, .slice none 0 0] 25 (0, 0)) (by (with_reducible repeat (first | refine blk_drewN ?_ _ | refine blk_drew ?_ | refine blk_alloc ?_ _)); exact a5.out) hb); have d4 := Aside0.mk (blk_below (g := a4) (o := .cells #[.int .i64 a8, .slice d3 b4.length d2, .slice d5 a9.length d6] 25 (0, 0)) (by (with_reducible repeat (first | refine blk_drewN ?_ _ | refine blk_drew ?_ | refine blk_alloc ?_ _)); exact a2.out) hb); have d7 := Aside0.mk (below_step (by repeat (first | (with_reducible first | exact HB.out | apply below_alloc | apply pw_below_drewN | apply below_drew1 | refine below_set ?_ b3.out | refine below_set ?_ b7.out | refine below_set ?_ d8.out) | exact HB.out)) hb); clear a7; clear a6; clear a3; clear a5; clear a2; clear HB; have a7 := b8; have a6 := d0; have a3 := b9; have a5 := d1; have a2 := d4; have HB := d7; clear b8 d0 b9 d1 d4 d7; (try clear hb); (try clear g0); (try clear hk); (try clear hi)) | (go_at_call 19; (with_reducible refine (Pl50b.calls kj3  e3 _ m5.out hr_).mono ?_); rintro e p4 ⟨rfl, hb⟩; have b8 := Aside0.mk (Kd.R_below (by (with_reducible repeat (first | apply Kd.R_alloc | apply Kd.R_drewN | apply Kd.R_drew)); exact a7.out) hb); have d0 := Aside0.mk (Kd.R_below (by (with_reducible repeat (first | apply Kd.R_alloc | apply Kd.R_drewN | apply Kd.R_drew)); exact a6.out) hb); have b9 := Aside0.mk (blk_below (g := b0) (o := .cells #[.int .i64 (wrap64 (a0)), .slice none 0 0, .slice none 0 0] 25 (0, 0)) (by (with_reducible repeat (first | refine blk_drewN ?_ _ | refine blk_drew ?_ | refine blk_alloc ?_ _)); exact a3.out) hb); have d1 := Aside0.mk (blk_below (g := b2) (o := .cells #[.int .i64 (wrap64 (a1)), .slice none 0 0, .slice none 0 0] 25 (0, 0)) (by (with_reducible repeat (first | refine blk_drewN ?_ _ | refine blk_drew ?_ | refine blk_alloc ?_ _)); exact a5.out) hb); have d4 := Aside0.mk (blk_below (g := a4) (o := .cells #[.int .i64 a8, .slice d3 b4.length d2, .slice d5 a9.length d6] 25 (0, 0)) (by (with_reducible repeat (first | refine blk_drewN ?_ _ | refine blk_drew ?_ | refine blk_alloc ?_ _)); exact a2.out) hb); have d7 := Aside0.mk (below_step (by repeat (first | (with_reducible first | exact HB.out | apply below_alloc | apply pw_below_drewN | apply below_drew1 | refine below_set ?_ b3.out | refine below_set ?_ b7.out | refine below_set ?_ d8.out) | exact HB.out)) hb); clear a7; clear a6; clear a3; clear a5; clear a2; clear HB; have a7 := b8; have a6 := d0; have a3 := b9; have a5 := d1; have a2 := d4; have HB := d7; clear b8 d0 b9 d1 d4 d7; (try clear hb); (try clear g0); (try clear hk); (try clear hi)))
       go_ret
       exact ⟨by first | rfl | (simp [errW_none, errW_some] <;> rfl) | (simp [*, errW_none, errW_some] <;> rfl), by repeat (first | (with_reducible first | exact HB.out | apply below_alloc | apply pw_below_drewN | apply below_drew1 | refine below_set ?_ b3.out | refine below_set ?_ b7.out | refine below_set ?_ d8.out) | exact HB.out)⟩
      ·rw [if_neg f0] at H
       have c25b0 : (b1 == 8) = false := beq_eq_false_iff_ne.mpr f0
       have c25b1 : (b1 != 8) = true := bne_iff_ne.mpr f0
       obtain rfl := Option.some.inj H
       exact absurd hr_.out (by decide)
     ·replace f9 := Bool.eq_false_iff.mpr f9
      subst f9
      have H1 : (some false) = some r := by rw [if_neg (show ¬ (false = true) by decide)] at H; exact H
      clear H
      have H := H1
      clear H1
      obtain rfl := Option.some.inj H
      exact absurd hr_.out (by decide)
    ·rw [if_neg f4] at H
     have c22b0 : decide (2048 < (wrap64 ((wrap64 (a0)) * (wrap64 (a1))))) = false := decide_eq_false f4
     clear f4
     by_cases f1 : a8 = (wrap64 ((wrap64 (a0)) * (wrap64 (a1))))
     ·rw [if_pos f1] at H
      have c40b0 : (a8 == (wrap64 ((wrap64 (a0)) * (wrap64 (a1))))) = true := beq_iff_eq.mpr f1
      have c40b1 : (a8 != (wrap64 ((wrap64 (a0)) * (wrap64 (a1))))) = false := bne_eq_false_iff_eq.mpr f1
      clear f1
      by_cases e7 : (a9.length : Int) = 0
      ·rw [if_pos e7] at H
       have c41b0 : ((a9.length : Int) == 0) = true := beq_iff_eq.mpr e7
       have c41b1 : ((a9.length : Int) != 0) = false := bne_eq_false_iff_eq.mpr e7
       clear e7
       by_cases f3 : b1 = 0
       ·rw [if_pos f3] at H
        have c42b0 : (b1 == 0) = true := beq_iff_eq.mpr f3
        have c42b1 : (b1 != 0) = false := bne_eq_false_iff_eq.mpr f3
        clear f3
        replace H := Option.bind_eq_some_iff.mp H
        obtain ⟨f5, i2, H⟩ := H
        replace H : (some f5) = some r := H
        have m3 := Aside0.mk i2
        clear i2
        obtain rfl := Option.some.inj H
        have n5 := e4.out
        have n9 := b5.out
        have n2 := e2.out
        have m8 := b6.out
        have m0 : wc.cell? ⟨a4, 0, none⟩ = some (.int .i64 a8) := (blk_cell a2.out 0).trans rfl
        have l4 : wc.cell? ⟨a4, 1, none⟩ = some (.slice d3 b4.length d2) := (blk_cell a2.out 1).trans rfl
        have l7 : wc.cell? ⟨a4, 2, none⟩ = some (.slice d5 a9.length d6) := (blk_cell a2.out 2).trans rfl
        have l9 := blk_frozen a2.out 0
        have m1 := blk_frozen a2.out 1
        have l6 := blk_frozen a2.out 2
        go_wp2_with (first | (go_at_call 19; (with_reducible refine (Pl50b.calls kj3  f5 _ m3.out hr_).mono ?_); rintro e p1 ⟨rfl, hb⟩; have b8 := Aside0.mk (Kd.R_below (by (with_reducible repeat (first | apply Kd.R_alloc | apply Kd.R_drewN | apply Kd.R_drew)); exact a7.out) hb); have d0 := Aside0.mk (Kd.R_below (by (with_reducible repeat (first | apply Kd.R_alloc | apply Kd.R_drewN | apply Kd.R_drew)); exact a6.out) hb); have b9 := Aside0.mk (blk_below (g := b0) (o := .cells #[.int .i64 (wrap64 (a0)), .slice none 0 0, .slice none 0 0] 25 (0, 0)) (by (with_reducible repeat (first | refine blk_drewN ?_ _ | refine blk_drew ?_ | refine blk_alloc ?_ _)); exact a3.out) hb); have d1 := Aside0.mk (blk_below (g := b2) (o := .cells #[.int .i64 (wrap64 (a1)), .slice none 0 0, .slice none 0 0] 25 (0, 0)) (by (with_reducible repeat (first | refine blk_drewN ?_ _ | refine blk_drew ?_ | refine blk_alloc ?_ _)); exact a5.out) hb); have d4 := Aside0.mk (blk_below (g := a4) (o := .cells #[.int .i64 a8, .slice d3 b4.length d2, .slice d5 a9.length d6] 25 (0, 0)) (by (with_reducible repeat (first | refine blk_drewN ?_ _ | refine blk_drew ?_ | refine blk_alloc ?_ _)); exact a2.out) hb); have d7 := Aside0.mk (below_step (by repeat (first | (with_reducible first | exact HB.out | apply below_alloc | apply pw_below_drewN | apply below_drew1 | refine below_set ?_ b3.out | refine below_set ?_ b7.out | refine below_set ?_ d8.out) | exact HB.out)) hb); clear a7; clear a6; clear a3; clear a5; clear a2; clear HB; have a7 := b8; have a6 := d0; have a3 := b9; have a5 := d1; have a2 := d4; have HB := d7; clear b8 d0 b9 d1 d4 d7; (try clear hb); (try clear g0); (try clear hk); (try clear hi)))
        go_ret
        exact ⟨by first | rfl | (simp [errW_none, errW_some] <;> rfl) | (simp [*, errW_none, errW_some] <;> rfl), by repeat (first | (with_reducible first | exact HB.out | apply below_alloc | apply pw_below_drewN | apply below_drew1 | refine below_set ?_ b3.out | refine below_set ?_ b7.out | refine below_set ?_ d8.out) | exact HB.out)⟩
       ·rw [if_neg f3] at H
        have c42b0 : (b1 == 0) = false := beq_eq_false_iff_ne.mpr f3
        have c42b1 : (b1 != 0) = true := bne_iff_ne.mpr f3
        obtain rfl := Option.some.inj H
        exact absurd hr_.out (by decide)
      ·rw [if_neg e7] at H
       have c41b0 : ((a9.length : Int) == 0) = false := beq_eq_false_iff_ne.mpr e7
       have c41b1 : ((a9.length : Int) != 0) = true := bne_iff_ne.mpr e7
       have c41b2 : ¬ (a9 = []) := fun h_ => e7 (by rw [h_]; rfl)
       obtain rfl := Option.some.inj H
       exact absurd hr_.out (by decide)
     ·rw [if_neg f1] at H
      have c40b0 : (a8 == (wrap64 ((wrap64 (a0)) * (wrap64 (a1))))) = false := beq_eq_false_iff_ne.mpr f1
      have c40b1 : (a8 != (wrap64 ((wrap64 (a0)) * (wrap64 (a1))))) = true := bne_iff_ne.mpr f1
      obtain rfl := Option.some.inj H
      exact absurd hr_.out (by decide)
end Go.Proofs.Ythaaockbapbooaa.Pr
set_option linter.unusedVariables false
set_option linter.unusedSimpArgs false
namespace Go.Proofs.Ythaaockbapbooaa.H
open Go.RowKit Go.Proofs.Ythaaockbapbooaa.Pr Go.Proofs.YthaaockbapbooaaW.PrintWords Go.Proofs.Ythaaockbapbooaa.Sem
theorem texts_ev (ls : List ByteArray) (hl : ls.length ≤ 1000000) : Ev (fun k => Pr01a.f k ls ls) true := by
 have key : ∀ d i : Nat, i + d = ls.length → Ev (fun k => Pr01a.l0 k ls ls (i : Int)) true := by
  intro d
  induction d with
  | zero => intro i h; exact Ev.step (fun k => Pr01a.l0.eq_2 ..) (Ev.neg (by omega) (Ev.now _))
  | succ d ih =>
   intro i h
   refine Ev.step (fun k => Pr01a.l0.eq_2 ..) (Ev.pos (by omega) (Ev.pos (by omega) (Ev.pos (by omega) (Ev.pos rfl ?_))))
   rw [w1n (by omega)]
   exact ih (i + 1) (by omega)
 exact Ev.pos rfl (key ls.length 0 (by omega))
theorem same26_refl (n : Int) (ls : List ByteArray) (xs : List Ed) (h1 : ls.length ≤ 1000000) (hl : xs.length ≤ 1000000) : Ev (fun k => Pr26a.f k n ls xs n ls xs) true := by
 have key : ∀ d i : Nat, i + d = xs.length → Ev (fun k => Pr26a.l0 k (i : Int) n ls xs n ls xs) true := by
  intro d
  induction d with
  | zero => intro i h; exact Ev.step (fun k => Pr26a.l0.eq_2 ..) (Ev.neg (by omega) (Ev.now _))
  | succ d ih =>
   intro i h
   refine Ev.step (fun k => Pr26a.l0.eq_2 ..) (Ev.pos (by omega) (Ev.pos (by omega) (Ev.pos (by omega) (Ev.neg (by simp) ?_))))
   rw [w1n (by omega)]
   exact ih (i + 1) (by omega)
 exact Ev.pos rfl (Ev.bind (texts_ev ls h1) (Ev.pos rfl (Ev.step (fun k => Pr26a.j0.eq_2 ..) (Ev.neg (by simp) (key xs.length 0 (by omega))))))
end Go.Proofs.Ythaaockbapbooaa.H
set_option linter.unusedVariables false
set_option linter.unusedSimpArgs false
namespace Go.Proofs.Ythaaockbapbooaa.H
open Go.RowKit Go.Proofs.Ythaaockbapbooaa.Pr Go.Proofs.YthaaockbapbooaaW.PrintWords Go.Proofs.Ythaaockbapbooaa.Sem
theorem awake50 : Ev (fun k => Pl50b.f k) true := Ev.of Pl50b.mono (k := 20) (by kernel_rfl)
theorem mayE (n : Int) : mayR n [] [] = decide (1 ≤ n ∧ n ≤ 2048) := by
 unfold mayR
 by_cases h1 : 1 ≤ n
 ·by_cases h2 : n ≤ 2048
  ·simp [h1, h2]
  ·simp [h1, h2]
 ·simp [h1]
theorem u8_wf {x : Int} (h : (Lit.int .u8 x).wf = true) : 0 ≤ x ∧ x ≤ 255 := by
 have h1 : IntKind.u8.min ≤ x ∧ x ≤ IntKind.u8.max := by simpa [Lit.wf] using h
 have h2 : IntKind.u8.min = 0 := by decide
 have h3 : IntKind.u8.max = 255 := by decide
 omega
theorem same0 : Ev (fun k => Pr26a.f k 0 [] [] 0 [] []) true := same26_refl 0 [] [] (by simp) (by simp)
theorem chk_no {n : Int} (h : n < 1) : Pxi.f n [] [] = some 1 := by unfold Pxi.f; rw [mayE, decide_eq_false (by omega)]; rfl
theorem chk_ok {n : Int} (h : 1 ≤ n ∧ n ≤ 2048) : Pxi.f n [] [] = some 0 := by unfold Pxi.f; rw [mayE, decide_eq_true h]; rfl
theorem uni0 : Pxf.f [] [] = some [] := rfl
theorem product_no (n m : Int) (hn : n ≤ 255) (hm : m ≤ 255) (h : n < 1 ∨ m < 1) : Ev (fun k => Pxg.f k n [] [] m [] []) (0, [], [], 1) := by
 by_cases h1 : n < 1
 ·exact Ev.bindS (chk_no h1) (Ev.neg (by decide) (Ev.step (fun k => Pxg.j0.eq_2 ..) (Ev.pos rfl (Ev.now _))))
 ·exact Ev.bindS (chk_ok (by omega)) (Ev.pos rfl (Ev.bindS (chk_no (by omega)) (Ev.step (fun k => Pxg.j0.eq_2 ..) (Ev.pos rfl (Ev.now _)))))
theorem mul_le {n m : Int} (h1 : 1 ≤ n ∧ n ≤ 255) (h2 : 1 ≤ m ∧ m ≤ 255) : 1 ≤ n * m ∧ n * m ≤ 65025 := by
 constructor
 ·have := Int.mul_le_mul h1.1 h2.1 (by omega) (by omega); omega
 ·have := Int.mul_le_mul h1.2 h2.2 (by omega) (by omega); omega
theorem product_wide (n m : Int) (h1 : 1 ≤ n ∧ n ≤ 255) (h2 : 1 ≤ m ∧ m ≤ 255) (h : 2048 < n * m) : Ev (fun k => Pxg.f k n [] [] m [] []) (0, [], [], 8) := by
 have hm := mul_le h1 h2
 exact Ev.bindS (chk_ok (by omega)) (Ev.pos rfl (Ev.bindS (chk_ok (by omega)) (Ev.step (fun k => Pxg.j0.eq_2 ..) (Ev.neg (by decide) (Ev.bindS uni0 (Ev.pos (by rw [wid (by omega) (by omega)]; exact h) (Ev.step (fun k => Pxg.j1.eq_2 ..) (Ev.pos rfl (Ev.now _)))))))))
theorem product_small (n m : Int) (h1 : 1 ≤ n ∧ n ≤ 255) (h2 : 1 ≤ m ∧ m ≤ 255) (h : n * m ≤ 2048) : Ev (fun k => Pxg.f k n [] [] m [] []) (n * m, [], [], 0) := by
 have hm := mul_le h1 h2
 have hw : wrap64 (n * m) = n * m := wid (by omega) (by omega)
 have hs : Pxj.f (wrap64 (n * m)) [] [] = some (n * m, [], [], 0) := by
  unfold Pxj.f
  rw [if_pos (by simp), hw]
  have : sortE [] = [] := rfl
  rw [this, mayE, decide_eq_true (by omega)]
  rfl
 refine Ev.bindS (chk_ok (by omega)) (Ev.pos rfl (Ev.bindS (chk_ok (by omega)) (Ev.step (fun k => Pxg.j0.eq_2 ..) (Ev.neg (by decide) (Ev.bindS uni0 (Ev.neg (by rw [hw]; omega) (Ev.step (fun k => Pxg.j1.eq_2 ..) (Ev.neg (by decide) (Ev.step (fun k => Pxg.l0.eq_2 ..) (Ev.neg (by decide) (Ev.bindS hs (Ev.now _))))))))))))
theorem productFull_true (n : Int) (h1 : 0 ≤ n ∧ n ≤ 255) (m : Int) (h2 : 0 ≤ m ∧ m ≤ 255) : Ev (fun k => Pl50a.f k n m) true := by
 have hn : wrap64 n = n := wid (by omega) (by omega)
 have hm : wrap64 m = m := wid (by omega) (by omega)
 by_cases h : n < 1 ∨ m < 1
 ·refine Ev.bind (by rw [hn, hm]; exact product_no n m (by omega) (by omega) h) ?_
  have hend : ∀ x1 x2 x3, Ev (fun k => Pl50a.j0 k n m 1 true x1 x2 x3) true := fun x1 x2 x3 => Ev.step (fun k => Pl50a.j0.eq_2 ..) (Ev.pos rfl (Ev.pos rfl (Ev.last awake50)))
  by_cases h3 : n < 1
  ·exact Ev.pos h3 (hend _ _ _)
  ·refine Ev.neg h3 ?_
   rw [decide_eq_true (show m < 1 by omega)]
   exact hend _ _ _
 ·have a1 : 1 ≤ n ∧ n ≤ 255 := by omega
  have a2 : 1 ≤ m ∧ m ≤ 255 := by omega
  have hmul := mul_le a1 a2
  have hw : wrap64 (wrap64 n * wrap64 m) = n * m := by rw [hn, hm]; exact wid (by omega) (by omega)
  by_cases hq : 2048 < n * m
  ·refine Ev.bind (by rw [hn, hm]; exact product_wide n m a1 a2 hq) (Ev.neg (by omega) ?_)
   rw [decide_eq_false (show ¬ m < 1 by omega)]
   exact Ev.step (fun k => Pl50a.j0.eq_2 ..) (Ev.neg (by decide) (Ev.pos (by rw [hw]; exact hq) (Ev.bind same0 (Ev.pos rfl (Ev.pos rfl (Ev.last awake50))))))
  ·refine Ev.bind (by rw [hn, hm]; exact product_small n m a1 a2 (by omega)) (Ev.neg (by omega) ?_)
   rw [decide_eq_false (show ¬ m < 1 by omega)]
   exact Ev.step (fun k => Pl50a.j0.eq_2 ..) (Ev.neg (by decide) (Ev.neg (by rw [hw]; omega) (Ev.pos (by rw [hw]) (Ev.pos rfl (Ev.pos rfl (Ev.last awake50))))))
end Go.Proofs.Ythaaockbapbooaa.H
set_option linter.unusedVariables false
set_option linter.unusedSimpArgs false
namespace Go.Proofs.Ythaaockbapbooaa.productFull
open Go.ChangeShapes Go.WideShapes Go.ChangeAt Go.RowKit Go.Proofs.Ythaaockbapbooaa.Pr Go.Proofs.YthaaockbapbooaaW.PrintWords Go.Proofs.Ythaaockbapbooaa.H
theorem own : ownKnob Try.prog.godebug = none := by kernel_rfl
set_option maxRecDepth 100000 in
theorem lifted (os : Os) (started : os.Started) (H : Type) (enc : TypeId × Value → H) :
  ReturnsInHanded {} Try.checked os 5 .any (Rows.productFullSpec.pre6 enc Try.prog Try.f5 Rows.productFullRow.domain false) (Rows.productFullSpec.post enc Try.prog Try.f5 false true false false) := by
 refine returnsInHanded_of_change_sized (C := Try.checked) own started (by kernel_rfl) Try.func5
  (ChangeSpec.witness6 (enc := enc) (C := Try.checked) false ⟨#[], #[.int .u8 0, .int .u8 0], []⟩ 8 (by kernel_rfl) (by kernel_rfl) (by kernel_rfl) (by kernel_rfl)) ?_
 intro W base args ds gs before hval0 hW hcnd hsz0 _
 have hval : ∀ (j : Nat) t v, Try.f5.params[j]? = some t → args[j]? = some v → Value.okWide Try.prog W .any base t v := hval0
 have hW' := hW
 obtain ⟨p, q, hA0, hV, rfl, hfz, hnd⟩ := hW
 have hA : DataW.TrodAll enc Try.prog W 0 (fun _ => true) true Try.f5.params.toList args.toList ds p := hA0
 rw [Try.params5] at hA hval
 obtain ⟨v0, vs0, d0, ds0, p0, q0, hargs, rfl, rfl, h0, r0⟩ := trodAll_cons hA
 obtain ⟨v1, vs1, d1, ds1, p1, q1, rfl, rfl, rfl, h1, r1⟩ := trodAll_cons r0
 obtain ⟨rfl, rfl, rfl⟩ := trodAll_nil r1
 obtain rfl : args = #[v0, v1] := by cases args; simp_all
 obtain ⟨rfl, rfl⟩ := trodVars_none hV
 have k0 := h0
 have lt0 : ∀ x ∈ p0, x.block < W.heap.size := by obtain ⟨m, hm⟩ := k0; exact DataW.trod_lt m _ _ _ hm
 obtain ⟨x0, rfl, rfl, rfl, wf0⟩ := open_int Try.underlying5 (hval 0 5 v0 rfl rfl) h0
 have k1 := h1
 have lt1 : ∀ x ∈ p1, x.block < W.heap.size := by obtain ⟨m, hm⟩ := k1; exact DataW.trod_lt m _ _ _ hm
 obtain ⟨x1, rfl, rfl, rfl, wf1⟩ := open_int Try.underlying5 (hval 1 5 v1 rfl rfl) h1
 clear hA0 hval0 hsz0
 obtain ⟨k, hk⟩ := (productFull_true x0 (u8_wf wf0) x1 (u8_wf wf1)).rounds
 refine (Pr.Pl50a.calls (k := k) (r := true) (w := W)  (h := hk) (hr_ := ⟨rfl⟩)).mono fun e W' ⟨he, bel⟩ => ?_
 subst he
 exact ⟨_, rfl, _, _, _, [], _, [], hW', trodAll_mk1 (shut_bool Try.underlying4 _), (trodAll_cons_mk (Below.trod laid_out (by kernel_rfl) (of_decide_eq_true (by kernel_rfl)) k0 bel lt0) (trodAll_cons_mk (Below.trod laid_out (by kernel_rfl) (of_decide_eq_true (by kernel_rfl)) k1 bel lt1) trodAll_mk0)), rfl, bel.frame _, fun h => by cases h⟩
theorem over : Rows.productFullRow.holds Try.pinned (OpenSpec.ofChange Rows.productFullSpec) :=
 OpenClaim.holds_of_wide 5 Try.f5 rfl rfl rfl rfl rfl rfl rfl ⟨rfl, rfl, rfl, rfl, rfl⟩ rfl rfl rfl rfl rfl (by kernel_rfl) Try.func5 (by kernel_rfl)
  (of_decide_eq_true (by kernel_rfl)) (by unfold Func.isWrapper; first | (rw [if_pos (by decide +kernel)]; kernel_rfl) | (rw [if_neg (by decide +kernel)]; exact ⟨rfl, rfl⟩))
  (fun os started H enc _ => lifted os started H enc)
theorem proved : Rows.ProductFullSaid := over
#print axioms proved
end Go.Proofs.Ythaaockbapbooaa.productFull
namespace Go.Proofs.Ythaaockbapbooaa
theorem productFull_holds : Rows.ProductFullSaid := productFull.proved
end Go.Proofs.Ythaaockbapbooaa
