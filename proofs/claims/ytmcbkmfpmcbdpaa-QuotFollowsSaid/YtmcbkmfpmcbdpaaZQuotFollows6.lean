/-
  The law QuotFollows: for every input the call returns true, and what came in reads as it read before.
  Condition: none.
-/
import Derived.Test.YtmcbkmfpmcbdpaaZQuotFollows5
namespace Go.Proofs.Ytmcbkmfpmcbdpaa.Pr
open Go.RowKit Go.Proofs.YtmcbkmfpmcbdpaaW.PrintWords Go.Proofs.YtmcbkmfpmcbdpaaW.PrintLast Go.Proofs.YtmcbkmfpmcbdpaaW.PrintMore
attribute [local go_sem] max2_int min2_int max_two min_two max_three min_three max_four min_four
set_option linter.unusedVariables false
set_option linter.unusedSimpArgs false
mutual
def Pxi.j0 : Nat → Bool → Int → List ByteArray → List (S80) → Int → List ByteArray → List (S80) → Option (Int × List ByteArray × (List (S80)) × Int)
 | 0, _, _, _, _, _, _, _ => none
 | k + 1, x19, x382000, x382001, x382002, x383000, x383001, x383002 => if x19 = true then (some (0, ([] : List ByteArray), ([] : List (S80)), 1)) else ((Pxc.f x382001 x383001).bind fun t386 => (if (wrap64 (x382000 + x383000)) > 2048 then (Pxi.j1 k t386 true x382000 x382001 x382002 x383000 x383001 x383002) else (if (wrap64 ((x382002.length : Int) + (x383002.length : Int))) > 1000000 then (Pxi.j1 k t386 true x382000 x382001 x382002 x383000 x383001 x383002) else (Pxi.j1 k t386 (decide ((t386.length : Int) > 64)) x382000 x382001 x382002 x383000 x383001 x383002))))
def Pxi.j1 : Nat → List ByteArray → Bool → Int → List ByteArray → List (S80) → Int → List ByteArray → List (S80) → Option (Int × List ByteArray × (List (S80)) × Int)
 | 0, _, _, _, _, _, _, _, _ => none
 | k + 1, x6, x46, x382000, x382001, x382002, x383000, x383001, x383002 => if x46 = true then (some (0, ([] : List ByteArray), ([] : List (S80)), 8)) else (Pxi.l0 k x6 x382002 (x382002.length : Int) 0 x382000 x382001 x382002 x383000 x383001 x383002 (wrap64 (x382000 + x383000)) x6 ([] : List (S80)))
def Pxi.l0 : Nat → List ByteArray → List (S80) → Int → Int → Int → List ByteArray → List (S80) → Int → List ByteArray → List (S80) → Int → List ByteArray → List (S80) → Option (Int × List ByteArray × (List (S80)) × Int)
 | 0, _, _, _, _, _, _, _, _, _, _, _, _, _ => none
 | k + 1, x6, x56, x57, x58, x382000, x382001, x382002, x383000, x383001, x383002, x390000, x390001, x390002 => if x58 < x57 then (if 0 ≤ x58 then (if x58 < (x56.length : Int) then (if 0 ≤ ((rd_T80 x56 x58).f1) then (if ((rd_T80 x56 x58).f1) < (x382001.length : Int) then ((Pxb.f k x6 (rdOf ByteArray.empty x382001 ((rd_T80 x56 x58).f1))).bind fun t393 => (if x390002.length < 5864062014805 then (Pxi.l0 k x6 x56 x57 (wrap64 (x58 + 1)) x382000 x382001 x382002 x383000 x383001 x383002 x390000 x390001 (x390002 ++ [(⟨(rd_T80 x56 x58).f0, t393, (rd_T80 x56 x58).f2⟩ : S80)])) else (none))) else (none)) else (none)) else (none)) else (none)) else (Pxi.l1 k x6 x383002 (x383002.length : Int) 0 x382000 x382001 x382002 x383000 x383001 x383002 x390000 x390001 x390002)
def Pxi.l1 : Nat → List ByteArray → List (S80) → Int → Int → Int → List ByteArray → List (S80) → Int → List ByteArray → List (S80) → Int → List ByteArray → List (S80) → Option (Int × List ByteArray × (List (S80)) × Int)
 | 0, _, _, _, _, _, _, _, _, _, _, _, _, _ => none
 | k + 1, x6, x82, x83, x84, x382000, x382001, x382002, x383000, x383001, x383002, x390000, x390001, x390002 => if x84 < x83 then (if 0 ≤ x84 then (if x84 < (x82.length : Int) then (if 0 ≤ ((rd_T80 x82 x84).f1) then (if ((rd_T80 x82 x84).f1) < (x383001.length : Int) then ((Pxb.f k x6 (rdOf ByteArray.empty x383001 ((rd_T80 x82 x84).f1))).bind fun t400 => (if x390002.length < 5864062014805 then (Pxi.l1 k x6 x82 x83 (wrap64 (x84 + 1)) x382000 x382001 x382002 x383000 x383001 x383002 x390000 x390001 (x390002 ++ [(⟨wrap64 (((rd_T80 x82 x84).f0) + x382000), t400, wrap64 (((rd_T80 x82 x84).f2) + x382000)⟩ : S80)])) else (none))) else (none)) else (none)) else (none)) else (none)) else (some (x390000, x390001, x390002, 0))
end
def Pxi.f (k : Nat) (a0_0 : Int) (l0_1 : List ByteArray) (l0_2 : List (S80)) (a1_0 : Int) (l1_1 : List ByteArray) (l1_2 : List (S80)) : Option (Int × List ByteArray × (List (S80)) × Int) := (Pxh.f a0_0 l0_1 l0_2).bind fun t384 => (if t384 = 0 then ((Pxh.f a1_0 l1_1 l1_2).bind fun t385 => (Pxi.j0 k (t385 != 0) a0_0 l0_1 l0_2 a1_0 l1_1 l1_2)) else (Pxi.j0 k true a0_0 l0_1 l0_2 a1_0 l1_1 l1_2))
theorem Pxi.mono_l : ∀ k, (∀ y0 y1 y2 y3 y4 y5 y6, LeO (Pxi.j0 k y0 y1 y2 y3 y4 y5 y6) (Pxi.j0 (k + 1) y0 y1 y2 y3 y4 y5 y6)) ∧ (∀ y0 y1 y2 y3 y4 y5 y6 y7, LeO (Pxi.j1 k y0 y1 y2 y3 y4 y5 y6 y7) (Pxi.j1 (k + 1) y0 y1 y2 y3 y4 y5 y6 y7)) ∧ (∀ y0 y1 y2 y3 y4 y5 y6 y7 y8 y9 y10 y11 y12, LeO (Pxi.l0 k y0 y1 y2 y3 y4 y5 y6 y7 y8 y9 y10 y11 y12) (Pxi.l0 (k + 1) y0 y1 y2 y3 y4 y5 y6 y7 y8 y9 y10 y11 y12)) ∧ (∀ y0 y1 y2 y3 y4 y5 y6 y7 y8 y9 y10 y11 y12, LeO (Pxi.l1 k y0 y1 y2 y3 y4 y5 y6 y7 y8 y9 y10 y11 y12) (Pxi.l1 (k + 1) y0 y1 y2 y3 y4 y5 y6 y7 y8 y9 y10 y11 y12))
 | 0 => ⟨fun _ _ _ _ _ _ _ r h => by simp [Pxi.j0] at h, fun _ _ _ _ _ _ _ _ r h => by simp [Pxi.j1] at h, fun _ _ _ _ _ _ _ _ _ _ _ _ _ r h => by simp [Pxi.l0] at h, fun _ _ _ _ _ _ _ _ _ _ _ _ _ r h => by simp [Pxi.l1] at h⟩
 | k + 1 => by
  obtain ⟨ih0, ih1, ih2, ih3⟩ := Pxi.mono_l k
  refine ⟨?_, ?_, ?_, ?_⟩
  ·intro y0 y1 y2 y3 y4 y5 y6
   unfold Pxi.j0
   repeat' first
   | (with_reducible exact ih0 _ _ _ _ _ _ _)
   | (with_reducible exact ih1 _ _ _ _ _ _ _ _)
   | (with_reducible exact ih2 _ _ _ _ _ _ _ _ _ _ _ _ _)
   | (with_reducible exact ih3 _ _ _ _ _ _ _ _ _ _ _ _ _)
   | (with_reducible exact Pxb.mono _ _ _)
   | (with_reducible exact LeO.refl _)
   | (with_reducible exact LeO.none _)
   | (with_reducible refine LeO.ite ?_ ?_)
   | (with_reducible refine LeO.bind ?_ (fun _ => ?_))
   | exact ih0 _ _ _ _ _ _ _
   | exact ih1 _ _ _ _ _ _ _ _
   | exact ih2 _ _ _ _ _ _ _ _ _ _ _ _ _
   | exact ih3 _ _ _ _ _ _ _ _ _ _ _ _ _
   | exact Pxb.mono _ _ _
   | exact LeO.none _
   | refine LeO.ite ?_ ?_
   | refine LeO.bind ?_ (fun _ => ?_)
  ·intro y0 y1 y2 y3 y4 y5 y6 y7
   unfold Pxi.j1
   repeat' first
   | (with_reducible exact ih0 _ _ _ _ _ _ _)
   | (with_reducible exact ih1 _ _ _ _ _ _ _ _)
   | (with_reducible exact ih2 _ _ _ _ _ _ _ _ _ _ _ _ _)
   | (with_reducible exact ih3 _ _ _ _ _ _ _ _ _ _ _ _ _)
   | (with_reducible exact Pxb.mono _ _ _)
   | (with_reducible exact LeO.refl _)
   | (with_reducible exact LeO.none _)
   | (with_reducible refine LeO.ite ?_ ?_)
   | (with_reducible refine LeO.bind ?_ (fun _ => ?_))
   | exact ih0 _ _ _ _ _ _ _
   | exact ih1 _ _ _ _ _ _ _ _
   | exact ih2 _ _ _ _ _ _ _ _ _ _ _ _ _
   | exact ih3 _ _ _ _ _ _ _ _ _ _ _ _ _
   | exact Pxb.mono _ _ _
   | exact LeO.none _
   | refine LeO.ite ?_ ?_
   | refine LeO.bind ?_ (fun _ => ?_)
  ·intro y0 y1 y2 y3 y4 y5 y6 y7 y8 y9 y10 y11 y12
   unfold Pxi.l0
   repeat' first
   | (with_reducible exact ih0 _ _ _ _ _ _ _)
   | (with_reducible exact ih1 _ _ _ _ _ _ _ _)
   | (with_reducible exact ih2 _ _ _ _ _ _ _ _ _ _ _ _ _)
   | (with_reducible exact ih3 _ _ _ _ _ _ _ _ _ _ _ _ _)
   | (with_reducible exact Pxb.mono _ _ _)
   | (with_reducible exact LeO.refl _)
   | (with_reducible exact LeO.none _)
   | (with_reducible refine LeO.ite ?_ ?_)
   | (with_reducible refine LeO.bind ?_ (fun _ => ?_))
   | exact ih0 _ _ _ _ _ _ _
   | exact ih1 _ _ _ _ _ _ _ _
   | exact ih2 _ _ _ _ _ _ _ _ _ _ _ _ _
   | exact ih3 _ _ _ _ _ _ _ _ _ _ _ _ _
   | exact Pxb.mono _ _ _
   | exact LeO.none _
   | refine LeO.ite ?_ ?_
   | refine LeO.bind ?_ (fun _ => ?_)
  ·intro y0 y1 y2 y3 y4 y5 y6 y7 y8 y9 y10 y11 y12
   unfold Pxi.l1
   repeat' first
   | (with_reducible exact ih0 _ _ _ _ _ _ _)
   | (with_reducible exact ih1 _ _ _ _ _ _ _ _)
   | (with_reducible exact ih2 _ _ _ _ _ _ _ _ _ _ _ _ _)
   | (with_reducible exact ih3 _ _ _ _ _ _ _ _ _ _ _ _ _)
   | (with_reducible exact Pxb.mono _ _ _)
   | (with_reducible exact LeO.refl _)
   | (with_reducible exact LeO.none _)
   | (with_reducible refine LeO.ite ?_ ?_)
   | (with_reducible refine LeO.bind ?_ (fun _ => ?_))
   | exact ih0 _ _ _ _ _ _ _
   | exact ih1 _ _ _ _ _ _ _ _
   | exact ih2 _ _ _ _ _ _ _ _ _ _ _ _ _
   | exact ih3 _ _ _ _ _ _ _ _ _ _ _ _ _
   | exact Pxb.mono _ _ _
   | exact LeO.none _
   | refine LeO.ite ?_ ?_
   | refine LeO.bind ?_ (fun _ => ?_)
theorem Pxi.mono : ∀ a0 a1 a2 a3 a4 a5 k, LeO (Pxi.f k a0 a1 a2 a3 a4 a5) (Pxi.f (k + 1) a0 a1 a2 a3 a4 a5) := by
 intro a0 a1 a2 a3 a4 a5 k
 obtain ⟨ih0, ih1, ih2, ih3⟩ := Pxi.mono_l k
 unfold Pxi.f
 repeat' first
   | (with_reducible exact ih0 _ _ _ _ _ _ _)
   | (with_reducible exact ih1 _ _ _ _ _ _ _ _)
   | (with_reducible exact ih2 _ _ _ _ _ _ _ _ _ _ _ _ _)
   | (with_reducible exact ih3 _ _ _ _ _ _ _ _ _ _ _ _ _)
   | (with_reducible exact Pxb.mono _ _ _)
   | (with_reducible exact LeO.refl _)
   | (with_reducible exact LeO.none _)
   | (with_reducible refine LeO.ite ?_ ?_)
   | (with_reducible refine LeO.bind ?_ (fun _ => ?_))
   | exact ih0 _ _ _ _ _ _ _
   | exact ih1 _ _ _ _ _ _ _ _
   | exact ih2 _ _ _ _ _ _ _ _ _ _ _ _ _
   | exact ih3 _ _ _ _ _ _ _ _ _ _ _ _ _
   | exact Pxb.mono _ _ _
   | exact LeO.none _
   | refine LeO.ite ?_ ?_
   | refine LeO.bind ?_ (fun _ => ?_)
def Pxi.T10 : Bool × List (List Nat × List Nat) := (true, [([], []), ([0], [0]), ([], []), ([2], [2]), ([], []), ([], []), ([5], [5]), ([], []), ([7], [7]), ([6, 8], [6, 8]), ([9], [9]), ([4, 10], [4, 10]), ([], []), ([12], [12]), ([3, 11, 13], [3, 11, 13]), ([14], [14]), ([1, 15, 11], [1, 15]), ([0, 1, 2, 3, 4, 5, 6, 7, 8, 9, 10, 11, 12, 13, 14, 15, 16], []), ([17, 16, 16, 0, 1, 2, 3, 4, 5, 6, 7, 8, 9, 10, 11, 12, 13, 14, 15, 16], [16, 17])])
def Pxi.B10 : List Nat := [0, 1, 0, 4, 0, 0, 32, 0, 128, 480, 992, 2032, 0, 4096, 16380, 32764, 65535, 131071, 262143]
theorem Pxi.tab10 : rtab .any (opsOf Try.f63 10) = Pxi.T10 := by kernel_rfl
theorem Pxi.bits10 : waitsOk Pxi.T10.2 Pxi.B10 = true := by kernel_rfl
def Pxi.T15 : Bool × List (List Nat × List Nat) := (true, [([], []), ([0], [0]), ([], []), ([2], [2]), ([], []), ([4], [4]), ([3, 5], [3, 5]), ([], []), ([], []), ([8], [8]), ([], []), ([10], [10]), ([9, 11], [9, 11]), ([12], [12]), ([7, 13], [7, 13]), ([], []), ([15], [15]), ([], []), ([17], [17]), ([16, 18], [16, 18]), ([6, 14, 19], [6, 14, 19]), ([20], [20]), ([1, 21, 14], [1, 21]), ([0, 1, 2, 3, 4, 5, 6, 7, 8, 9, 10, 11, 12, 13, 14, 15, 16, 17, 18, 19, 20, 21, 22], []), ([23, 22, 22, 0, 1, 2, 3, 4, 5, 6, 7, 8, 9, 10, 11, 12, 13, 14, 15, 16, 17, 18, 19, 20, 21, 22], [22, 23])])
def Pxi.B15 : List Nat := [0, 1, 0, 4, 0, 16, 60, 0, 0, 256, 0, 1024, 3840, 7936, 16256, 0, 32768, 0, 131072, 491520, 1048572, 2097148, 4194303, 8388607, 16777215]
theorem Pxi.tab15 : rtab .any (opsOf Try.f63 15) = Pxi.T15 := by kernel_rfl
theorem Pxi.bits15 : waitsOk Pxi.T15.2 Pxi.B15 = true := by kernel_rfl
set_option maxHeartbeats 8000000 in
set_option maxRecDepth 100000 in
theorem Pxi.calls (k : Nat) (a0_0 : Int) (A0_1 : Option Addr) (c0_1 : Nat) (l0_1 : List ByteArray) (A0_2 : Option Addr) (c0_2 : Nat) (l0_2 : List (S80)) (a1_0 : Int) (A1_1 : Option Addr) (c1_1 : Nat) (l1_1 : List ByteArray) (A1_2 : Option Addr) (c1_2 : Nat) (l1_2 : List (S80)) (r1 : Int) (r2 : List ByteArray) (r3 : List (S80)) (r4 : Int) (w : World) (hr0_1 : Kd.C Kd.string w A0_1 l0_1.length l0_1) (hc0_1 : l0_1.length ≤ c0_1) (hr0_2 : Kd.C k80 w A0_2 l0_2.length l0_2) (hc0_2 : l0_2.length ≤ c0_2) (hr1_1 : Kd.C Kd.string w A1_1 l1_1.length l1_1) (hc1_1 : l1_1.length ≤ c1_1) (hr1_2 : Kd.C k80 w A1_2 l1_2.length l1_2) (hc1_2 : l1_2.length ≤ c1_2) (h : Pxi.f k a0_0 l0_1 l0_2 a1_0 l1_1 l1_2 = some (r1, r2, r3, r4)) :
  Calls Try.prog 63 #[.agg #[.int .i64 a0_0, .slice A0_1 l0_1.length c0_1, .slice A0_2 l0_2.length c0_2], .agg #[.int .i64 a1_0, .slice A1_1 l1_1.length c1_1, .slice A1_2 l1_2.length c1_2]] w fun e w' => ∃ v1_ v2_ : Value, e = .returned (.tuple #[.agg #[.int .i64 r1, v1_, v2_], .int .i64 r4]) ∧ Kd.R Kd.string 9 w' w.heap.size (fun _ => True) v1_ r2 ∧ Kd.R k80 80 w' w.heap.size (fun _ => True) v2_ r3 ∧ Below w.heap.size w w' := by
 have X3 := Try.underlying25;have X2 := Try.underlying80;have t6 := Aside0.mk hr0_1;have z5 := Aside0.mk hc0_1;clear hr0_1 hc0_1;have A2 := Aside0.mk hr0_2;have D9 := Aside0.mk hc0_2;clear hr0_2 hc0_2;have A1 := Aside0.mk hr1_1;have C6 := Aside0.mk hc1_1;clear hr1_1 hc1_1;have D5 := Aside0.mk hr1_2;have G4 := Aside0.mk hc1_2;clear hr1_2 hc1_2;have HB := Aside0.mk (Below.refl w.heap.size w);have H : ((Pxh.f a0_0 l0_1 l0_2).bind fun g1 => (if g1 = 0 then ((Pxh.f a1_0 l1_1 l1_2).bind fun j6 => (Pxi.j0 k (j6 != 0) a0_0 l0_1 l0_2 a1_0 l1_1 l1_2)) else (Pxi.j0 k true a0_0 l0_1 l0_2 a1_0 l1_1 l1_2))) = some (r1, r2, r3, r4) := h;clear h;have F5 := Aside0.mk H;clear H;go_enter Try.func63, Try.ntmps63
 go_upto_region 1 with (first | ((with_reducible refine gate_dst (N := 2) rfl ?_); (try (refine gate_guard (by rfl) ?_; dsimp only)); refine box_event ?hg (N := 2) ?hd (cs := #[.int .i64 a0_0, .slice A0_1 l0_1.length c0_1, .slice A0_2 l0_2.length c0_2]) (t := 25) ?hr ?_; (case hd => rfl); (case hg => rfl); (case hr => first | (go_simp; done) | (go_simp; rfl)); intro a9 hg w4 hbox hb; have d0 := Aside0.mk (below_step (wz HB.out) hb); have b9 := Aside0.mk (hbox); have d2 := Aside0.mk ((by rw [hg]; exact (below_size (wz HB.out)) : w.heap.size ≤ a9)); have d1 := Aside0.mk ((by rw [hg]; exact (below_size (wz HB.out)) : w.heap.size ≤ a9)); clear HB; have HB := d0; have a0 := b9; have W3 := d2; have Q8 := d1; clear d0 b9 d2 d1 hb hbox hg) | ((with_reducible refine gate_dst (N := 3) rfl ?_); (try (refine gate_guard (by rfl) ?_; dsimp only)); refine box_event ?hg (N := 3) ?hd (cs := #[.int .i64 a1_0, .slice A1_1 l1_1.length c1_1, .slice A1_2 l1_2.length c1_2]) (t := 25) ?hr ?_; (case hd => rfl); (case hg => rfl); (case hr => first | (go_simp; done) | (go_simp; rfl)); intro b2 hg w5 hbox hb; have d0 := Aside0.mk (blk_below (bz a0.out) hb); have b9 := Aside0.mk (below_step (wz HB.out) hb); have d2 := Aside0.mk (hbox); have d1 := Aside0.mk ((by rw [hg]; exact (below_size (wz HB.out)) : w.heap.size ≤ b2)); have d6 := Aside0.mk ((by rw [hg]; exact (below_size (wz HB.out)) : w.heap.size ≤ b2)); have d7 := Aside0.mk ((by rw [hg]; exact Nat.ne_of_lt (blk_lt (g := a9) (o := .cells #[.int .i64 a0_0, .slice A0_1 l0_1.length c0_1, .slice A0_2 l0_2.length c0_2] 25 (0, 0)) (bz a0.out)) : a9 ≠ b2)); have d8 := Aside0.mk ((by rw [hg]; exact Nat.ne_of_gt (blk_lt (g := a9) (o := .cells #[.int .i64 a0_0, .slice A0_1 l0_1.length c0_1, .slice A0_2 l0_2.length c0_2] 25 (0, 0)) (bz a0.out)) : b2 ≠ a9)); clear a0 HB; have a0 := d0; have HB := b9; have a1 := d2; have O4 := d1; have R2 := d6; have e6 := d7; have e7 := d8; clear d0 b9 d2 d1 d6 d7 d8 hb hbox hg) | ((with_reducible refine gate_dst (N := 4) rfl ?_); (try (refine gate_guard (by rfl) ?_; dsimp only)); refine box_event ?hg (N := 4) ?hd (cs := #[.int .i64 0, .slice none 0 0, .slice none 0 0]) (t := 25) ?hr ?_; (case hd => rfl); (case hg => rfl); (case hr => first | (go_simp; done) | (go_simp; rfl)); intro b4 hg w6 hbox hb; have d0 := Aside0.mk (blk_below (bz a0.out) hb); have b9 := Aside0.mk (blk_below (bz a1.out) hb); have d2 := Aside0.mk (below_step (wz HB.out) hb); have d1 := Aside0.mk (hbox); have d6 := Aside0.mk ((by rw [hg]; exact (below_size (wz HB.out)) : w.heap.size ≤ b4)); have d7 := Aside0.mk ((by rw [hg]; exact (below_size (wz HB.out)) : w.heap.size ≤ b4)); have d8 := Aside0.mk ((by rw [hg]; exact Nat.ne_of_lt (blk_lt (g := a9) (o := .cells #[.int .i64 a0_0, .slice A0_1 l0_1.length c0_1, .slice A0_2 l0_2.length c0_2] 25 (0, 0)) (bz a0.out)) : a9 ≠ b4)); have e5 := Aside0.mk ((by rw [hg]; exact Nat.ne_of_gt (blk_lt (g := a9) (o := .cells #[.int .i64 a0_0, .slice A0_1 l0_1.length c0_1, .slice A0_2 l0_2.length c0_2] 25 (0, 0)) (bz a0.out)) : b4 ≠ a9)); have e4 := Aside0.mk ((by rw [hg]; exact Nat.ne_of_lt (blk_lt (g := b2) (o := .cells #[.int .i64 a1_0, .slice A1_1 l1_1.length c1_1, .slice A1_2 l1_2.length c1_2] 25 (0, 0)) (bz a1.out)) : b2 ≠ b4)); have h1 := Aside0.mk ((by rw [hg]; exact Nat.ne_of_gt (blk_lt (g := b2) (o := .cells #[.int .i64 a1_0, .slice A1_1 l1_1.length c1_1, .slice A1_2 l1_2.length c1_2] 25 (0, 0)) (bz a1.out)) : b4 ≠ b2)); clear a0 a1 HB; have a0 := d0; have a1 := b9; have HB := d2; have a5 := d1; have V0 := d6; have S0 := d7; have e0 := d8; have d9 := e5; have e3 := e4; have e1 := h1; clear d0 b9 d2 d1 d6 d7 d8 e5 e4 h1 hb hbox hg))
 (try simp only [Act.put, qz1, qz2, qz3])
 go_cut [19] (fun N2 wc => ∃ (kq : Nat) (t8 : Bool), N2 = .bool t8 ∧ Aside0 (Pxi.j0 kq t8 a0_0 l0_1 l0_2 a1_0 l1_1 l1_2 = some (r1, r2, r3, r4)) ∧ Aside0 (kq ≤ k) ∧ Aside0 (wc.heap[a9]? = some (.cells #[.int .i64 a0_0, (.slice A0_1 l0_1.length c0_1), (.slice A0_2 l0_2.length c0_2)] 25 (0, 0))) ∧ Aside0 (wc.heap[b2]? = some (.cells #[.int .i64 a1_0, (.slice A1_1 l1_1.length c1_1), (.slice A1_2 l1_2.length c1_2)] 25 (0, 0))) ∧ Aside0 (wc.heap[b4]? = some (.cells #[.int .i64 0, (.slice none 0 0), (.slice none 0 0)] 25 (0, 0))) ∧ Aside0 (Below w.heap.size w wc))
 case first =>
  have H := F5.out;clear F5;replace H := Option.bind_eq_some_iff.mp H;obtain ⟨g1, H0, H⟩ := H;replace H : (if g1 = 0 then ((Pxh.f a1_0 l1_1 l1_2).bind fun j6 => (Pxi.j0 k (j6 != 0) a0_0 l0_1 l0_2 a1_0 l1_1 l1_2)) else (Pxi.j0 k true a0_0 l0_1 l0_2 a1_0 l1_1 l1_2)) = some (r1, r2, r3, r4) := H;have A7 := Aside0.mk H0;clear H0;by_cases c8 : g1 = 0
  ·rw [if_pos c8] at H;have c8b0 : (g1 == 0) = true := beq_iff_eq.mpr c8;have c8b1 : (g1 != 0) = false := bne_eq_false_iff_eq.mpr c8;clear c8
   (first | rw [c8b0] | (simp only [i64_w, i32_w]; rw [c8b0]) | skip)
   replace H := Option.bind_eq_some_iff.mp H;obtain ⟨j6, G7, H⟩ := H;replace H : (Pxi.j0 k (j6 != 0) a0_0 l0_1 l0_2 a1_0 l1_1 l1_2) = some (r1, r2, r3, r4) := H;have A9 := Aside0.mk G7;clear G7;have H' := Aside0.mk H;clear H;have V3 := e6.out;have W5 := e7.out;have O2 := e0.out;have T4 := d9.out;have i0 : w6.cell? ⟨a9, 0, none⟩ = some (.int .i64 a0_0) := bcz a0 0 rfl;have i7 : w6.cell? ⟨a9, 1, none⟩ = some (.slice A0_1 l0_1.length c0_1) := bcz a0 1 rfl;have i3 : w6.cell? ⟨a9, 2, none⟩ = some (.slice A0_2 l0_2.length c0_2) := bcz a0 2 rfl;have h2 := blk_frozen a0.out 0;have j2 := blk_frozen a0.out 1;have h4 := blk_frozen a0.out 2;go_wp2_with (first | ((with_reducible refine gate_callee (f := 72) rfl ?_); refine goesL_ (some 13) rfl rfl Try.func72 (by kernel_rfl) rfl #[.agg #[.int .i64 a0_0, .slice A0_1 l0_1.length c0_1, .slice A0_2 l0_2.length c0_2]] rfl (by (try simp only [List.map_toArray, List.map_cons, List.map_nil]); first | done | rfl | (simp only [List.length_drop, List.length_take]; rfl)) ?_; (with_reducible refine (Pxh.calls a0_0 _ _ l0_1 _ _ l0_2 g1 _ ?j9 ?k2 ?A0 ?z9 A7.out).mono ?_); (case j9 => exact cz t6.out HB.out); (case k2 => exact z5.out); (case A0 => exact cz A2.out HB.out); (case z9 => exact D9.out); rintro e F7 ⟨rfl, hb⟩; refine ⟨_, rfl, ?_⟩; have d0 := Aside0.mk (blk_below (bz a0.out) hb); have b9 := Aside0.mk (blk_below (bz a1.out) hb); have d2 := Aside0.mk (blk_below (bz a5.out) hb); have d1 := Aside0.mk (below_step (wz HB.out) hb); clear a0; clear a1; clear a5; clear HB; have a0 := d0; have a1 := b9; have a5 := d2; have HB := d1; clear d0 b9 d2 d1; (try clear hb); (try clear F4); (try clear hk); (try clear hi); have Q6 := e3.out; have V4 := e1.out; have h3 : F7.cell? ⟨b2, 0, none⟩ = some (.int .i64 a1_0) := bcz a1 0 rfl; have j3 : F7.cell? ⟨b2, 1, none⟩ = some (.slice A1_1 l1_1.length c1_1) := bcz a1 1 rfl; have h7 : F7.cell? ⟨b2, 2, none⟩ = some (.slice A1_2 l1_2.length c1_2) := bcz a1 2 rfl; have h9 := blk_frozen a1.out 0; have h8 := blk_frozen a1.out 1; have i5 := blk_frozen a1.out 2) | (go_at_call 72; (with_reducible refine (Pxh.calls a1_0 _ _ l1_1 _ _ l1_2 j6 _ ?j9 ?k2 ?A0 ?z9 A9.out).mono ?_); (case j9 => exact cz A1.out HB.out); (case k2 => exact C6.out); (case A0 => exact cz D5.out HB.out); (case z9 => exact G4.out); rintro e X5 ⟨rfl, hb⟩; have d0 := Aside0.mk (blk_below (bz a0.out) hb); have b9 := Aside0.mk (blk_below (bz a1.out) hb); have d2 := Aside0.mk (blk_below (bz a5.out) hb); have d1 := Aside0.mk (below_step (wz HB.out) hb); clear a0; clear a1; clear a5; clear HB; have a0 := d0; have a1 := b9; have a5 := d2; have HB := d1; clear d0 b9 d2 d1; (try clear hb); (try clear F4); (try clear hk); (try clear hi)))
   go_meet
   case rel => exact ⟨_, ((j6 != 0)), (by first | rfl | (simp; done) | (simp [*]; done)), H', ⟨by first | omega | exact Nat.le_refl _⟩, ⟨bz a0.out⟩, ⟨bz a1.out⟩, ⟨bz a5.out⟩, ⟨wz HB.out⟩⟩
  ·rw [if_neg c8] at H;have c8b0 : (g1 == 0) = false := beq_eq_false_iff_ne.mpr c8;have c8b1 : (g1 != 0) = true := bne_iff_ne.mpr c8
   (first | rw [c8b0] | (simp only [i64_w, i32_w]; rw [c8b0]) | skip)
   have H' := Aside0.mk H;clear H;have O5 := e6.out;have P2 := e7.out;have Q0 := e0.out;have O0 := d9.out;have i4 : w6.cell? ⟨a9, 0, none⟩ = some (.int .i64 a0_0) := bcz a0 0 rfl;have h5 : w6.cell? ⟨a9, 1, none⟩ = some (.slice A0_1 l0_1.length c0_1) := bcz a0 1 rfl;have i2 : w6.cell? ⟨a9, 2, none⟩ = some (.slice A0_2 l0_2.length c0_2) := bcz a0 2 rfl;have i8 := blk_frozen a0.out 0;have i9 := blk_frozen a0.out 1;have i1 := blk_frozen a0.out 2;go_wp2_with (first | ((with_reducible refine gate_callee (f := 72) rfl ?_); refine goesL_ (some 13) rfl rfl Try.func72 (by kernel_rfl) rfl #[.agg #[.int .i64 a0_0, .slice A0_1 l0_1.length c0_1, .slice A0_2 l0_2.length c0_2]] rfl (by (try simp only [List.map_toArray, List.map_cons, List.map_nil]); first | done | rfl | (simp only [List.length_drop, List.length_take]; rfl)) ?_; (with_reducible refine (Pxh.calls a0_0 _ _ l0_1 _ _ l0_2 g1 _ ?j9 ?k2 ?A0 ?z9 A7.out).mono ?_); (case j9 => exact cz t6.out HB.out); (case k2 => exact z5.out); (case A0 => exact cz A2.out HB.out); (case z9 => exact D9.out); rintro e X4 ⟨rfl, hb⟩; refine ⟨_, rfl, ?_⟩; have d0 := Aside0.mk (blk_below (bz a0.out) hb); have b9 := Aside0.mk (blk_below (bz a1.out) hb); have d2 := Aside0.mk (blk_below (bz a5.out) hb); have d1 := Aside0.mk (below_step (wz HB.out) hb); clear a0; clear a1; clear a5; clear HB; have a0 := d0; have a1 := b9; have a5 := d2; have HB := d1; clear d0 b9 d2 d1; (try clear hb); (try clear F4); (try clear hk); (try clear hi)))
   go_meet
   case rel => exact ⟨_, (true), (by first | rfl | (simp; done) | (simp [*]; done)), H', ⟨by first | omega | exact Nat.le_refl _⟩, ⟨bz a0.out⟩, ⟨bz a1.out⟩, ⟨bz a5.out⟩, ⟨wz HB.out⟩⟩
 case rest =>
  clear F5;(try clear c8);(try clear c8b0);(try clear c8b1);(try clear i0);(try clear i7);(try clear i3);(try clear h3);(try clear j3);(try clear h7);(try clear i4);(try clear h5);(try clear i2);(try clear h2);(try clear j2);(try clear h4);(try clear h9);(try clear h8);(try clear i5);(try clear i8);(try clear i9);(try clear i1);obtain ⟨kq, t8, rfl, HA, u3, a0, a1, a5, HB⟩ := hcut
  cases kq with
  | zero => exact absurd HA.out (by simp [Pxi.j0])
  | succ kj2 =>
   have H := HA.out;clear HA;simp only [Pxi.j0] at H;by_cases u2 : t8 = true
   ·subst u2;have H1 : (some (0, ([] : List ByteArray), ([] : List (S80)), 1)) = some (r1, r2, r3, r4) := by rw [if_pos rfl] at H; exact H
    clear H;have H := H1;clear H1;simp only [Option.some.injEq, Prod.mk.injEq] at H;obtain ⟨rfl, rfl, rfl, rfl⟩ := H;have U0 := d9.out;have Q5 := e0.out;have U9 := e1.out;have U4 := e3.out;have n6 : wc.cell? ⟨b4, 0, none⟩ = some (.int .i64 0) := bcz a5 0 rfl;have o2 : wc.cell? ⟨b4, 1, none⟩ = some (.slice none 0 0) := bcz a5 1 rfl;have o3 : wc.cell? ⟨b4, 2, none⟩ = some (.slice none 0 0) := bcz a5 2 rfl;have o0 := blk_frozen a5.out 0;have l5 := blk_frozen a5.out 1;have p1 := blk_frozen a5.out 2;go_wp2
    refine bodyPost_ret (results_ct rfl _ _ b4 25 #[.int .i64 0, .slice none 0 0, .slice none 0 0] (0, 0) _ rfl (by (with_reducible repeat (first | refine blk_drewN ?_ _ | refine blk_drew ?_ | refine blk_alloc ?_ _)); refine blk_put (cs := #[.int .i64 0, .slice none 0 0, .slice none 0 0]) ?_ 2 _ rfl; (with_reducible repeat (first | refine blk_drewN ?_ _ | refine blk_drew ?_ | refine blk_alloc ?_ _)); refine blk_put (cs := #[.int .i64 0, .slice none 0 0, .slice none 0 0]) ?_ 1 _ rfl; (with_reducible repeat (first | refine blk_drewN ?_ _ | refine blk_drew ?_ | refine blk_alloc ?_ _)); refine blk_put (cs := #[.int .i64 0, .slice none 0 0, .slice none 0 0]) ?_ 0 _ rfl; (with_reducible repeat (first | refine blk_drewN ?_ _ | refine blk_drew ?_ | refine blk_alloc ?_ _)); exact a5.out) Try.underlying25 rfl (by kernel_rfl)) rfl ?_;exact ⟨_, _, by first | rfl | (simp [errW_none, errW_some] <;> rfl) | (simp [*, errW_none, errW_some] <;> rfl), by first | exact Kd.R_nil _ _ _ _ _ | exact Kd.N_nil _ _ _ _ _ | exact Kd.V_nil _ _ _ _ _ | exact Kd.Q_nil _ _ _ _ _ | exact Kd.S_nil _ _ _ _ _, by first | exact Kd.R_nil _ _ _ _ _ | exact Kd.N_nil _ _ _ _ _ | exact Kd.V_nil _ _ _ _ _ | exact Kd.Q_nil _ _ _ _ _ | exact Kd.S_nil _ _ _ _ _, wz HB.out⟩
   ·replace u2 := Bool.eq_false_iff.mpr u2;subst u2;have H1 : ((Pxc.f l0_1 l1_1).bind fun b1 => (if (wrap64 (a0_0 + a1_0)) > 2048 then (Pxi.j1 kj2 b1 true a0_0 l0_1 l0_2 a1_0 l1_1 l1_2) else (if (wrap64 ((l0_2.length : Int) + (l1_2.length : Int))) > 1000000 then (Pxi.j1 kj2 b1 true a0_0 l0_1 l0_2 a1_0 l1_1 l1_2) else (Pxi.j1 kj2 b1 (decide ((b1.length : Int) > 64)) a0_0 l0_1 l0_2 a1_0 l1_1 l1_2)))) = some (r1, r2, r3, r4) := by rw [if_neg (show ¬ (false = true) by decide)] at H; exact H
    clear H;have H := H1;clear H1;replace H := Option.bind_eq_some_iff.mp H;obtain ⟨b1, F8, H⟩ := H;replace H : (if (wrap64 (a0_0 + a1_0)) > 2048 then (Pxi.j1 kj2 b1 true a0_0 l0_1 l0_2 a1_0 l1_1 l1_2) else (if (wrap64 ((l0_2.length : Int) + (l1_2.length : Int))) > 1000000 then (Pxi.j1 kj2 b1 true a0_0 l0_1 l0_2 a1_0 l1_1 l1_2) else (Pxi.j1 kj2 b1 (decide ((b1.length : Int) > 64)) a0_0 l0_1 l0_2 a1_0 l1_1 l1_2))) = some (r1, r2, r3, r4) := H;have M4 := Aside0.mk F8;clear F8;have C2 := Aside0.mk H;clear H;have N7 := e6.out;have S4 := e7.out;have W4 := e0.out;have S2 := d9.out;have l6 : wc.cell? ⟨a9, 0, none⟩ = some (.int .i64 a0_0) := bcz a0 0 rfl;have m0 : wc.cell? ⟨a9, 1, none⟩ = some (.slice A0_1 l0_1.length c0_1) := bcz a0 1 rfl;have o8 : wc.cell? ⟨a9, 2, none⟩ = some (.slice A0_2 l0_2.length c0_2) := bcz a0 2 rfl;have q6 := blk_frozen a0.out 0;have q8 := blk_frozen a0.out 1;have k9 := blk_frozen a0.out 2;have V1 := e3.out;have O7 := e1.out;have n7 : wc.cell? ⟨b2, 0, none⟩ = some (.int .i64 a1_0) := bcz a1 0 rfl;have n2 : wc.cell? ⟨b2, 1, none⟩ = some (.slice A1_1 l1_1.length c1_1) := bcz a1 1 rfl;have p6 : wc.cell? ⟨b2, 2, none⟩ = some (.slice A1_2 l1_2.length c1_2) := bcz a1 2 rfl;have p5 := blk_frozen a1.out 0;have q1 := blk_frozen a1.out 1;have o1 := blk_frozen a1.out 2;go_upto_region 4 with (first | ((with_reducible refine gate_callee (f := 108) rfl ?_); refine goesL_ (some 25) rfl rfl Try.func108 (by kernel_rfl) rfl #[.slice A0_1 l0_1.length c0_1, .slice A1_1 l1_1.length c1_1] rfl (by (try simp only [List.map_toArray, List.map_cons, List.map_nil]); first | done | rfl | (simp only [List.length_drop, List.length_take]; rfl)) ?_; (with_reducible refine (Pxc.calls _ _ l0_1 _ _ l1_1 b1 _ ?j9 ?k2 ?A0 ?z9 M4.out).mono ?_); (case j9 => exact cz t6.out HB.out); (case k2 => exact z5.out); (case A0 => exact cz A1.out HB.out); (case z9 => exact C6.out); rintro e f6 ⟨I5, rfl, G9, hb⟩; refine ⟨_, rfl, ?_⟩; have d0 := Aside0.mk (Kd.R_lower G9 (below_size (wz HB.out))); have b9 := Aside0.mk (blk_below (bz a0.out) hb); have d2 := Aside0.mk (blk_below (bz a1.out) hb); have d1 := Aside0.mk (blk_below (bz a5.out) hb); have d6 := Aside0.mk (below_step (wz HB.out) hb); clear a0; clear a1; clear a5; clear HB; have u0 := d0; have a0 := b9; have a1 := d2; have a5 := d1; have HB := d6; clear d0 b9 d2 d1 d6; (try clear hb); (try clear F4); (try clear hk); (try clear hi); (try clear G9)))
    (try simp only [Act.put, qz1, qz2, qz3])
    go_cut [46] (fun M1 wc => ∃ (kq : Nat) (k0 : Bool), M1 = .bool k0 ∧ Aside0 (Pxi.j1 kq b1 k0 a0_0 l0_1 l0_2 a1_0 l1_1 l1_2 = some (r1, r2, r3, r4)) ∧ Aside0 (kq ≤ kj2) ∧ Aside0 (Kd.R Kd.string 9 wc w.heap.size (fun _ => True) I5 b1) ∧ Aside0 (wc.heap[a9]? = some (.cells #[.int .i64 a0_0, (.slice A0_1 l0_1.length c0_1), (.slice A0_2 l0_2.length c0_2)] 25 (0, 0))) ∧ Aside0 (wc.heap[b2]? = some (.cells #[.int .i64 a1_0, (.slice A1_1 l1_1.length c1_1), (.slice A1_2 l1_2.length c1_2)] 25 (0, 0))) ∧ Aside0 (wc.heap[b4]? = some (.cells #[.int .i64 0, (.slice none 0 0), (.slice none 0 0)] 25 (0, 0))) ∧ Aside0 (Below w.heap.size w wc))
    case first =>
     have H := C2.out;clear C2;by_cases j7 : (wrap64 (a0_0 + a1_0)) > 2048
     ·rw [if_pos j7] at H;have c33b0 : decide (2048 < (wrap64 (a0_0 + a1_0))) = true := decide_eq_true j7;clear j7
      (first | rw [c33b0] | (simp only [i64_w, i32_w]; rw [c33b0]) | skip)
      have H' := Aside0.mk H;clear H;have S3 := e6.out;have S7 := e7.out;have S9 := e0.out;have O9 := d9.out;have o4 : f6.cell? ⟨a9, 0, none⟩ = some (.int .i64 a0_0) := bcz a0 0 rfl;have q9 : f6.cell? ⟨a9, 1, none⟩ = some (.slice A0_1 l0_1.length c0_1) := bcz a0 1 rfl;have n9 : f6.cell? ⟨a9, 2, none⟩ = some (.slice A0_2 l0_2.length c0_2) := bcz a0 2 rfl;have p0 := blk_frozen a0.out 0;have m4 := blk_frozen a0.out 1;have q0 := blk_frozen a0.out 2;have R1 := e3.out;have P9 := e1.out;have p2 : f6.cell? ⟨b2, 0, none⟩ = some (.int .i64 a1_0) := bcz a1 0 rfl;have n4 : f6.cell? ⟨b2, 1, none⟩ = some (.slice A1_1 l1_1.length c1_1) := bcz a1 1 rfl;have l4 : f6.cell? ⟨b2, 2, none⟩ = some (.slice A1_2 l1_2.length c1_2) := bcz a1 2 rfl;have n5 := blk_frozen a1.out 0;have l8 := blk_frozen a1.out 1;have k7 := blk_frozen a1.out 2;go_wp2
      go_meet
      case rel => exact ⟨_, (true), (by first | rfl | (simp; done) | (simp [*]; done)), H', ⟨by have := u3.out; first | omega | exact Nat.le_refl _⟩, ⟨rz u0.out⟩, ⟨bz a0.out⟩, ⟨bz a1.out⟩, ⟨bz a5.out⟩, ⟨wz HB.out⟩⟩
     ·rw [if_neg j7] at H;have c33b0 : decide (2048 < (wrap64 (a0_0 + a1_0))) = false := decide_eq_false j7;clear j7
      (first | rw [c33b0] | (simp only [i64_w, i32_w]; rw [c33b0]) | skip)
      by_cases k1 : (wrap64 ((l0_2.length : Int) + (l1_2.length : Int))) > 1000000
      ·rw [if_pos k1] at H;have c39b0 : decide (1000000 < (wrap64 ((l0_2.length : Int) + (l1_2.length : Int)))) = true := decide_eq_true k1;clear k1;have H' := Aside0.mk H;clear H;have N8 := e6.out;have U1 := e7.out;have T0 := e0.out;have T7 := d9.out;have q3 : f6.cell? ⟨a9, 0, none⟩ = some (.int .i64 a0_0) := bcz a0 0 rfl;have o9 : f6.cell? ⟨a9, 1, none⟩ = some (.slice A0_1 l0_1.length c0_1) := bcz a0 1 rfl;have m5 : f6.cell? ⟨a9, 2, none⟩ = some (.slice A0_2 l0_2.length c0_2) := bcz a0 2 rfl;have q4 := blk_frozen a0.out 0;have m7 := blk_frozen a0.out 1;have q5 := blk_frozen a0.out 2;have U3 := e3.out;have R6 := e1.out;have m8 : f6.cell? ⟨b2, 0, none⟩ = some (.int .i64 a1_0) := bcz a1 0 rfl;have p4 : f6.cell? ⟨b2, 1, none⟩ = some (.slice A1_1 l1_1.length c1_1) := bcz a1 1 rfl;have n8 : f6.cell? ⟨b2, 2, none⟩ = some (.slice A1_2 l1_2.length c1_2) := bcz a1 2 rfl;have m1 := blk_frozen a1.out 0;have p7 := blk_frozen a1.out 1;have p8 := blk_frozen a1.out 2;go_wp2
       go_meet
       case rel => exact ⟨_, (true), (by first | rfl | (simp; done) | (simp [*]; done)), H', ⟨by have := u3.out; first | omega | exact Nat.le_refl _⟩, ⟨rz u0.out⟩, ⟨bz a0.out⟩, ⟨bz a1.out⟩, ⟨bz a5.out⟩, ⟨wz HB.out⟩⟩
      ·rw [if_neg k1] at H;have c39b0 : decide (1000000 < (wrap64 ((l0_2.length : Int) + (l1_2.length : Int)))) = false := decide_eq_false k1;clear k1;have H' := Aside0.mk H;clear H;have P3 := e6.out;have U7 := e7.out;have V2 := e0.out;have V9 := d9.out;have l3 : f6.cell? ⟨a9, 0, none⟩ = some (.int .i64 a0_0) := bcz a0 0 rfl;have l9 : f6.cell? ⟨a9, 1, none⟩ = some (.slice A0_1 l0_1.length c0_1) := bcz a0 1 rfl;have k6 : f6.cell? ⟨a9, 2, none⟩ = some (.slice A0_2 l0_2.length c0_2) := bcz a0 2 rfl;have n0 := blk_frozen a0.out 0;have p3 := blk_frozen a0.out 1;have q2 := blk_frozen a0.out 2;have N9 := e3.out;have O8 := e1.out;have m3 : f6.cell? ⟨b2, 0, none⟩ = some (.int .i64 a1_0) := bcz a1 0 rfl;have n3 : f6.cell? ⟨b2, 1, none⟩ = some (.slice A1_1 l1_1.length c1_1) := bcz a1 1 rfl;have m9 : f6.cell? ⟨b2, 2, none⟩ = some (.slice A1_2 l1_2.length c1_2) := bcz a1 2 rfl;have m6 := blk_frozen a1.out 0;have n1 := blk_frozen a1.out 1;have l7 := blk_frozen a1.out 2;obtain ⟨W9, W8, I6⟩ := Kd.R_slice u0.out;subst I6;go_wp2
       go_meet
       case rel => exact ⟨_, (decide ((b1.length : Int) > 64)), (by first | rfl | (simp; done) | (simp [*]; done)), H', ⟨by have := u3.out; first | omega | exact Nat.le_refl _⟩, ⟨rz u0.out⟩, ⟨bz a0.out⟩, ⟨bz a1.out⟩, ⟨bz a5.out⟩, ⟨wz HB.out⟩⟩
    case rest =>
     clear C2;(try clear c8);(try clear c8b0);(try clear c8b1);(try clear u2);(try clear j7);(try clear c33b0);(try clear k1);(try clear c39b0);(try clear i0);(try clear i7);(try clear i3);(try clear h3);(try clear j3);(try clear h7);(try clear i4);(try clear h5);(try clear i2);(try clear n6);(try clear o2);(try clear o3);(try clear l6);(try clear m0);(try clear o8);(try clear n7);(try clear n2);(try clear p6);(try clear o4);(try clear q9);(try clear n9);(try clear p2);(try clear n4);(try clear l4);(try clear q3);(try clear o9);(try clear m5);(try clear m8);(try clear p4);(try clear n8);(try clear l3);(try clear l9);(try clear k6);(try clear m3);(try clear n3);(try clear m9);(try clear h2);(try clear j2);(try clear h4);(try clear h9);(try clear h8);(try clear i5);(try clear i8);(try clear i9);(try clear i1);(try clear o0);(try clear l5);(try clear p1);(try clear q6);(try clear q8);(try clear k9);(try clear p5);(try clear q1);(try clear o1);(try clear p0);(try clear m4);(try clear q0);(try clear n5);(try clear l8);(try clear k7);(try clear q4);(try clear m7);(try clear q5);(try clear m1);(try clear p7);(try clear p8);(try clear n0);(try clear p3);(try clear q2);(try clear m6);(try clear n1);(try clear l7);obtain ⟨kq, k0, rfl, HA, A3, b6, a0, a1, a5, HB⟩ := hcut
     cases kq with
     | zero => exact absurd HA.out (by simp [Pxi.j1])
     | succ kj25 =>
      have H := HA.out;clear HA;simp only [Pxi.j1] at H;by_cases w9 : k0 = true
      ·subst w9;have H1 : (some (0, ([] : List ByteArray), ([] : List (S80)), 8)) = some (r1, r2, r3, r4) := by rw [if_pos rfl] at H; exact H
       clear H;have H := H1;clear H1;simp only [Option.some.injEq, Prod.mk.injEq] at H;obtain ⟨rfl, rfl, rfl, rfl⟩ := H;have S1 := d9.out;have R9 := e0.out;have Q2 := e1.out;have W1 := e3.out;have z0 : wc.cell? ⟨b4, 0, none⟩ = some (.int .i64 0) := bcz a5 0 rfl;have x0 : wc.cell? ⟨b4, 1, none⟩ = some (.slice none 0 0) := bcz a5 1 rfl;have y7 : wc.cell? ⟨b4, 2, none⟩ = some (.slice none 0 0) := bcz a5 2 rfl;have w8 := blk_frozen a5.out 0;have y3 := blk_frozen a5.out 1;have w2 := blk_frozen a5.out 2;go_wp2
       refine bodyPost_ret (results_ct rfl _ _ b4 25 #[.int .i64 0, .slice none 0 0, .slice none 0 0] (0, 0) _ rfl (by (with_reducible repeat (first | refine blk_drewN ?_ _ | refine blk_drew ?_ | refine blk_alloc ?_ _)); refine blk_put (cs := #[.int .i64 0, .slice none 0 0, .slice none 0 0]) ?_ 2 _ rfl; (with_reducible repeat (first | refine blk_drewN ?_ _ | refine blk_drew ?_ | refine blk_alloc ?_ _)); refine blk_put (cs := #[.int .i64 0, .slice none 0 0, .slice none 0 0]) ?_ 1 _ rfl; (with_reducible repeat (first | refine blk_drewN ?_ _ | refine blk_drew ?_ | refine blk_alloc ?_ _)); refine blk_put (cs := #[.int .i64 0, .slice none 0 0, .slice none 0 0]) ?_ 0 _ rfl; (with_reducible repeat (first | refine blk_drewN ?_ _ | refine blk_drew ?_ | refine blk_alloc ?_ _)); exact a5.out) Try.underlying25 rfl (by kernel_rfl)) rfl ?_;exact ⟨_, _, by first | rfl | (simp [errW_none, errW_some] <;> rfl) | (simp [*, errW_none, errW_some] <;> rfl), by first | exact Kd.R_nil _ _ _ _ _ | exact Kd.N_nil _ _ _ _ _ | exact Kd.V_nil _ _ _ _ _ | exact Kd.Q_nil _ _ _ _ _ | exact Kd.S_nil _ _ _ _ _, by first | exact Kd.R_nil _ _ _ _ _ | exact Kd.N_nil _ _ _ _ _ | exact Kd.V_nil _ _ _ _ _ | exact Kd.Q_nil _ _ _ _ _ | exact Kd.S_nil _ _ _ _ _, wz HB.out⟩
      ·replace w9 := Bool.eq_false_iff.mpr w9;subst w9;have H1 : (Pxi.l0 kj25 b1 l0_2 (l0_2.length : Int) 0 a0_0 l0_1 l0_2 a1_0 l1_1 l1_2 (wrap64 (a0_0 + a1_0)) b1 ([] : List (S80))) = some (r1, r2, r3, r4) := by rw [if_neg (show ¬ (false = true) by decide)] at H; exact H
       clear H;have H := H1;clear H1;have H' := Aside0.mk H;clear H;have T2 := e6.out;have V8 := e7.out;have P4 := e0.out;have U2 := d9.out;have x7 : wc.cell? ⟨a9, 0, none⟩ = some (.int .i64 a0_0) := bcz a0 0 rfl;have y8 : wc.cell? ⟨a9, 1, none⟩ = some (.slice A0_1 l0_1.length c0_1) := bcz a0 1 rfl;have y2 : wc.cell? ⟨a9, 2, none⟩ = some (.slice A0_2 l0_2.length c0_2) := bcz a0 2 rfl;have x3 := blk_frozen a0.out 0;have y0 := blk_frozen a0.out 1;have v8 := blk_frozen a0.out 2;have R7 := e3.out;have U8 := e1.out;have v9 : wc.cell? ⟨b2, 0, none⟩ = some (.int .i64 a1_0) := bcz a1 0 rfl;have y6 : wc.cell? ⟨b2, 1, none⟩ = some (.slice A1_1 l1_1.length c1_1) := bcz a1 1 rfl;have x9 : wc.cell? ⟨b2, 2, none⟩ = some (.slice A1_2 l1_2.length c1_2) := bcz a1 2 rfl;have z1 := blk_frozen a1.out 0;have x4 := blk_frozen a1.out 1;have v7 := blk_frozen a1.out 2;obtain ⟨d4, d3, K3⟩ := Kd.R_slice b6.out;subst K3;go_wp2_with (first | ((with_reducible refine gate_dst (N := 7) rfl ?_); (try (refine gate_guard (by rfl) ?_; dsimp only)); refine box_event ?hg (N := 7) ?hd (cs := #[.int .i64 0, .slice none 0 0, .slice none 0 0]) (t := 25) ?hr ?_; (case hd => rfl); (case hg => rfl); (case hr => first | (go_simp; done) | (go_simp; rfl)); intro b3 hg x6 hbox hb; have d0 := Aside0.mk (Kd.R_below (rz b6.out) hb); have b9 := Aside0.mk (blk_below (bz a0.out) hb); have d2 := Aside0.mk (blk_below (bz a1.out) hb); have d1 := Aside0.mk (blk_below (bz a5.out) hb); have d6 := Aside0.mk (below_step (wz HB.out) hb); have d7 := Aside0.mk (hbox); have d8 := Aside0.mk ((by rw [hg]; exact (below_size (wz HB.out)) : w.heap.size ≤ b3)); have e5 := Aside0.mk ((by rw [hg]; exact (below_size (wz HB.out)) : w.heap.size ≤ b3)); have e4 := Aside0.mk ((by rw [hg]; exact Nat.ne_of_lt (blk_lt (g := a9) (o := .cells #[.int .i64 a0_0, .slice A0_1 l0_1.length c0_1, .slice A0_2 l0_2.length c0_2] 25 (0, 0)) (bz a0.out)) : a9 ≠ b3)); have h1 := Aside0.mk ((by rw [hg]; exact Nat.ne_of_gt (blk_lt (g := a9) (o := .cells #[.int .i64 a0_0, .slice A0_1 l0_1.length c0_1, .slice A0_2 l0_2.length c0_2] 25 (0, 0)) (bz a0.out)) : b3 ≠ a9)); have h0 := Aside0.mk ((by rw [hg]; exact Nat.ne_of_lt (blk_lt (g := b2) (o := .cells #[.int .i64 a1_0, .slice A1_1 l1_1.length c1_1, .slice A1_2 l1_2.length c1_2] 25 (0, 0)) (bz a1.out)) : b2 ≠ b3)); have g9 := Aside0.mk ((by rw [hg]; exact Nat.ne_of_gt (blk_lt (g := b2) (o := .cells #[.int .i64 a1_0, .slice A1_1 l1_1.length c1_1, .slice A1_2 l1_2.length c1_2] 25 (0, 0)) (bz a1.out)) : b3 ≠ b2)); have g7 := Aside0.mk ((by rw [hg]; exact Nat.ne_of_lt (blk_lt (g := b4) (o := .cells #[.int .i64 0, .slice none 0 0, .slice none 0 0] 25 (0, 0)) (bz a5.out)) : b4 ≠ b3)); have g6 := Aside0.mk ((by rw [hg]; exact Nat.ne_of_gt (blk_lt (g := b4) (o := .cells #[.int .i64 0, .slice none 0 0, .slice none 0 0] 25 (0, 0)) (bz a5.out)) : b3 ≠ b4)); clear b6 a0 a1 a5 HB; have b6 := d0; have a0 := b9; have a1 := d2; have a5 := d1; have HB := d6; have a4 := d7; have T3 := d8; have P0 := e5; have f5 := e4; have g0 := h1; have e8 := h0; have f7 := g9; have f4 := g7; have f9 := g6; clear d0 b9 d2 d1 d6 d7 d8 e5 e4 h1 h0 g9 g7 g6 hb hbox hg; have T9 := g0.out; have U6 := f5.out; have P5 := f7.out; have P7 := e8.out; have T5 := f9.out; have W6 := f4.out; have x8 : x6.cell? ⟨b3, 0, none⟩ = some (.int .i64 0) := bcz a4 0 rfl; have v6 : x6.cell? ⟨b3, 1, none⟩ = some (.slice none 0 0) := bcz a4 1 rfl; have y1 : x6.cell? ⟨b3, 2, none⟩ = some (.slice none 0 0) := bcz a4 2 rfl; have x2 := blk_frozen a4.out 0; have y9 := blk_frozen a4.out 1; have x1 := blk_frozen a4.out 2; have w7 : x6.cell? ⟨a9, 0, none⟩ = some (.int .i64 a0_0) := bcz a0 0 rfl; have w3 : x6.cell? ⟨a9, 1, none⟩ = some (.slice A0_1 l0_1.length c0_1) := bcz a0 1 rfl; have y5 : x6.cell? ⟨a9, 2, none⟩ = some (.slice A0_2 l0_2.length c0_2) := bcz a0 2 rfl; have v5 := blk_frozen a0.out 0; have y4 := blk_frozen a0.out 1; have v4 := blk_frozen a0.out 2))
       go_loopg [58] kj25 (fun kq N0 w' => ∃ (a2 : Int) (e2 : List (S80)) (b5 : Value), N0 = .int .i64 a2 ∧ Aside0 (Pxi.l0 kq b1 l0_2 (l0_2.length : Int) a2 a0_0 l0_1 l0_2 a1_0 l1_1 l1_2 (wrap64 (a0_0 + a1_0)) b1 e2 = some (r1, r2, r3, r4)) ∧ Aside0 (kq ≤ kj25) ∧ Aside0 (Kd.R Kd.string 9 w' w.heap.size (fun _ => True) (.slice d4 b1.length d3) b1) ∧ Aside0 (Kd.R Kd.string 9 w' w.heap.size (fun _ => True) (.slice d4 b1.length d3) b1) ∧ Aside0 (Kd.R k80 80 w' w.heap.size (fun _ => True) b5 e2) ∧ Aside0 (w'.heap[a9]? = some (.cells #[.int .i64 a0_0, (.slice A0_1 l0_1.length c0_1), (.slice A0_2 l0_2.length c0_2)] 25 (0, 0))) ∧ Aside0 (w'.heap[b2]? = some (.cells #[.int .i64 a1_0, (.slice A1_1 l1_1.length c1_1), (.slice A1_2 l1_2.length c1_2)] 25 (0, 0))) ∧ Aside0 (w'.heap[b4]? = some (.cells #[.int .i64 0, (.slice none 0 0), (.slice none 0 0)] 25 (0, 0))) ∧ Aside0 (w'.heap[b3]? = some (.cells #[.int .i64 (wrap64 (a0_0 + a1_0)), (.slice d4 b1.length d3), b5] 25 (0, 0))) ∧ Aside0 (Below w.heap.size w w'))
       case atStart => exact ⟨(0), (([] : List (S80))), (.slice none 0 0), (by first | rfl | (simp; done) | (simp [*]; done)), H', ⟨Nat.le_refl _⟩, ⟨rz (Kd.R_mono (Kd.R_far (p := ⟨b3, 2, none⟩) (Kd.R_far (p := ⟨b3, 1, none⟩) (Kd.R_far (p := ⟨b3, 0, none⟩) (Kd.R_types b6.out a4.out (by decide)) (fun _ hk => hk.2) (.int .i64 (wrap64 (a0_0 + a1_0)))) (fun _ hk => hk.2) (.slice d4 b1.length d3)) (fun _ hk => hk.2) (.slice none 0 0)) (fun _ hk => trivial))⟩, ⟨rz (Kd.R_mono (Kd.R_far (p := ⟨b3, 2, none⟩) (Kd.R_far (p := ⟨b3, 1, none⟩) (Kd.R_far (p := ⟨b3, 0, none⟩) (Kd.R_types b6.out a4.out (by decide)) (fun _ hk => hk.2) (.int .i64 (wrap64 (a0_0 + a1_0)))) (fun _ hk => hk.2) (.slice d4 b1.length d3)) (fun _ hk => hk.2) (.slice none 0 0)) (fun _ hk => trivial))⟩, ⟨by first | exact Kd.R_nil _ _ _ _ _ | exact Kd.N_nil _ _ _ _ _ | exact Kd.V_nil _ _ _ _ _ | exact Kd.Q_nil _ _ _ _ _ | exact Kd.S_nil _ _ _ _ _⟩, ⟨fz a0.out f5.out⟩, ⟨fz a1.out e8.out⟩, ⟨fz a5.out f4.out⟩, ⟨by (with_reducible repeat (first | refine blk_drewN ?_ _ | refine blk_drew ?_ | refine blk_alloc ?_ _)); refine blk_put (cs := #[.int .i64 (wrap64 (a0_0 + a1_0)), .slice d4 b1.length d3, .slice none 0 0]) ?_ 2 _ rfl; (with_reducible repeat (first | refine blk_drewN ?_ _ | refine blk_drew ?_ | refine blk_alloc ?_ _)); refine blk_put (cs := #[.int .i64 (wrap64 (a0_0 + a1_0)), .slice none 0 0, .slice none 0 0]) ?_ 1 _ rfl; (with_reducible repeat (first | refine blk_drewN ?_ _ | refine blk_drew ?_ | refine blk_alloc ?_ _)); refine blk_put (cs := #[.int .i64 0, .slice none 0 0, .slice none 0 0]) ?_ 0 _ rfl; (with_reducible repeat (first | refine blk_drewN ?_ _ | refine blk_drew ?_ | refine blk_alloc ?_ _)); exact a4.out⟩, ⟨wz HB.out⟩⟩
       case round =>
        clear H';(try clear c8);(try clear c8b0);(try clear c8b1);(try clear u2);(try clear j7);(try clear c33b0);(try clear k1);(try clear c39b0);(try clear w9);(try clear i0);(try clear i7);(try clear i3);(try clear h3);(try clear j3);(try clear h7);(try clear i4);(try clear h5);(try clear i2);(try clear n6);(try clear o2);(try clear o3);(try clear l6);(try clear m0);(try clear o8);(try clear n7);(try clear n2);(try clear p6);(try clear o4);(try clear q9);(try clear n9);(try clear p2);(try clear n4);(try clear l4);(try clear q3);(try clear o9);(try clear m5);(try clear m8);(try clear p4);(try clear n8);(try clear l3);(try clear l9);(try clear k6);(try clear m3);(try clear n3);(try clear m9);(try clear z0);(try clear x0);(try clear y7);(try clear x7);(try clear y8);(try clear y2);(try clear v9);(try clear y6);(try clear x9);(try clear x8);(try clear v6);(try clear y1);(try clear w7);(try clear w3);(try clear y5);(try clear h2);(try clear j2);(try clear h4);(try clear h9);(try clear h8);(try clear i5);(try clear i8);(try clear i9);(try clear i1);(try clear o0);(try clear l5);(try clear p1);(try clear q6);(try clear q8);(try clear k9);(try clear p5);(try clear q1);(try clear o1);(try clear p0);(try clear m4);(try clear q0);(try clear n5);(try clear l8);(try clear k7);(try clear q4);(try clear m7);(try clear q5);(try clear m1);(try clear p7);(try clear p8);(try clear n0);(try clear p3);(try clear q2);(try clear m6);(try clear n1);(try clear l7);(try clear w8);(try clear y3);(try clear w2);(try clear x3);(try clear y0);(try clear v8);(try clear z1);(try clear x4);(try clear v7);(try clear x2);(try clear y9);(try clear x1);(try clear v5);(try clear y4);(try clear v4);obtain ⟨a2, e2, b5, rfl, HA, D2, b6, b0, a6, a0, a1, a5, a4, HB⟩ := hrel
        cases gk with
        | zero => exact absurd HA.out (by simp [Pxi.l0])
        | succ k3 =>
         have H := HA.out;clear HA;simp only [Pxi.l0] at H;by_cases u4 : a2 < (l0_2.length : Int)
         ·rw [if_pos u4] at H;have c67b0 : decide (a2 < (l0_2.length : Int)) = true := decide_eq_true u4;clear u4;by_cases B7 : 0 ≤ a2
          ·rw [if_pos B7] at H;have c68b0 : decide (0 ≤ a2) = true := decide_eq_true B7;clear B7;by_cases B3 : a2 < (l0_2.length : Int)
           ·rw [if_pos B3] at H;have c69b0 : decide (a2 < (l0_2.length : Int)) = true := decide_eq_true B3;clear B3;by_cases B9 : 0 ≤ ((rd_T80 l0_2 a2).f1)
            ·rw [if_pos B9] at H;have c70b0 : decide (0 ≤ ((rd_T80 l0_2 a2).f1)) = true := decide_eq_true B9;clear B9;by_cases B6 : ((rd_T80 l0_2 a2).f1) < (l0_1.length : Int)
             ·rw [if_pos B6] at H;have c71b0 : decide (((rd_T80 l0_2 a2).f1) < (l0_1.length : Int)) = true := decide_eq_true B6;clear B6;replace H := Option.bind_eq_some_iff.mp H;obtain ⟨k8, F2, H⟩ := H;replace H : (if e2.length < 5864062014805 then (Pxi.l0 k3 b1 l0_2 (l0_2.length : Int) (wrap64 (a2 + 1)) a0_0 l0_1 l0_2 a1_0 l1_1 l1_2 (wrap64 (a0_0 + a1_0)) b1 (e2 ++ [(⟨(rd_T80 l0_2 a2).f0, k8, (rd_T80 l0_2 a2).f2⟩ : S80)])) else (none)) = some (r1, r2, r3, r4) := H;have M7 := Aside0.mk F2;clear F2;by_cases B4 : e2.length < 5864062014805
              ·rw [if_pos B4] at H;have G0 := Aside0.mk B4;clear B4;obtain ⟨m2, j8⟩ : ∃ y_ : List (S80), y_ = (e2 ++ [(⟨(rd_T80 l0_2 a2).f0, k8, (rd_T80 l0_2 a2).f2⟩ : S80)]) := ⟨_, rfl⟩
               replace H : (Pxi.l0 k3 b1 l0_2 (l0_2.length : Int) (wrap64 (a2 + 1)) a0_0 l0_1 l0_2 a1_0 l1_1 l1_2 (wrap64 (a0_0 + a1_0)) b1 m2) = some (r1, r2, r3, r4) := by first | (rw [j8]; with_reducible exact H) | (have u8 := (Option.bind_some _ _).symm.trans H; rw [j8]; with_reducible exact u8) | (have u8 := (Option.bind_some _ _).symm.trans H; with_reducible exact u8) | with_reducible exact H | (rw [j8]; exact H) | exact H
               have G6 := Aside0.mk j8;clear j8;have H' := Aside0.mk H;clear H;have A4 : 0 ≤ (a2 : Int) := of_decide_eq_true (by first | (with_reducible assumption) | assumption);have z2 : a2 < (l0_2.length : Int) := of_decide_eq_true (by first | (with_reducible assumption) | assumption);obtain ⟨t7, H7, j4, h6, j5⟩ := at_T80 A2.out a2 A4 z2
               cases H7;replace j4 := (HB.out.cell (World.block_lt_of_cell? w _ j4)).trans j4;replace h6 := (HB.out.cell (World.block_lt_of_cell? w _ h6)).trans h6;replace j5 := (HB.out.cell (World.block_lt_of_cell? w _ j5)).trans j5;replace A4 := eq_true A4;replace z2 := eq_true z2;try go_wp2_with (first | ((with_reducible refine gate_dst (N := 9) rfl ?_); (try (refine gate_guard (by rfl) ?_; dsimp only)); refine box_event ?hg (N := 9) ?hd (cs := #[.int .i64 0, .int .i64 0, .int .i64 0]) (t := 80) ?hr ?_; (case hd => rfl); (case hg => rfl); (case hr => first | (go_simp; done) | (go_simp; rfl)); intro a7 hg g3 hbox hb; have d0 := Aside0.mk (Kd.R_below (rz b6.out) hb); have b9 := Aside0.mk (Kd.R_below (rz b0.out) hb); have d2 := Aside0.mk (Kd.R_below (Kd.R_elderB (rz a6.out) a7 (Nat.le_of_eq hg.symm)) hb); have d1 := Aside0.mk (blk_below (bz a0.out) hb); have d6 := Aside0.mk (blk_below (bz a1.out) hb); have d7 := Aside0.mk (blk_below (bz a5.out) hb); have d8 := Aside0.mk (blk_below (bz a4.out) hb); have e5 := Aside0.mk (below_step (wz HB.out) hb); have e4 := Aside0.mk (hbox); have h1 := Aside0.mk ((by rw [hg]; exact (below_size (wz HB.out)) : w.heap.size ≤ a7)); have h0 := Aside0.mk ((by rw [hg]; exact (below_size (wz HB.out)) : w.heap.size ≤ a7)); have g9 := Aside0.mk ((by rw [hg]; exact Nat.ne_of_lt (blk_lt (g := a9) (o := .cells #[.int .i64 a0_0, .slice A0_1 l0_1.length c0_1, .slice (some t7) l0_2.length c0_2] 25 (0, 0)) (bz a0.out)) : a9 ≠ a7)); have g7 := Aside0.mk ((by rw [hg]; exact Nat.ne_of_gt (blk_lt (g := a9) (o := .cells #[.int .i64 a0_0, .slice A0_1 l0_1.length c0_1, .slice (some t7) l0_2.length c0_2] 25 (0, 0)) (bz a0.out)) : a7 ≠ a9)); have g6 := Aside0.mk ((by rw [hg]; exact Nat.ne_of_lt (blk_lt (g := b2) (o := .cells #[.int .i64 a1_0, .slice A1_1 l1_1.length c1_1, .slice A1_2 l1_2.length c1_2] 25 (0, 0)) (bz a1.out)) : b2 ≠ a7)); have v2 := Aside0.mk ((by rw [hg]; exact Nat.ne_of_gt (blk_lt (g := b2) (o := .cells #[.int .i64 a1_0, .slice A1_1 l1_1.length c1_1, .slice A1_2 l1_2.length c1_2] 25 (0, 0)) (bz a1.out)) : a7 ≠ b2)); have u5 := Aside0.mk ((by rw [hg]; exact Nat.ne_of_lt (blk_lt (g := b4) (o := .cells #[.int .i64 0, .slice none 0 0, .slice none 0 0] 25 (0, 0)) (bz a5.out)) : b4 ≠ a7)); have v3 := Aside0.mk ((by rw [hg]; exact Nat.ne_of_gt (blk_lt (g := b4) (o := .cells #[.int .i64 0, .slice none 0 0, .slice none 0 0] 25 (0, 0)) (bz a5.out)) : a7 ≠ b4)); have u6 := Aside0.mk ((by rw [hg]; exact Nat.ne_of_lt (blk_lt (g := b3) (o := .cells #[.int .i64 (wrap64 (a0_0 + a1_0)), .slice d4 b1.length d3, b5] 25 (0, 0)) (bz a4.out)) : b3 ≠ a7)); have v0 := Aside0.mk ((by rw [hg]; exact Nat.ne_of_gt (blk_lt (g := b3) (o := .cells #[.int .i64 (wrap64 (a0_0 + a1_0)), .slice d4 b1.length d3, b5] 25 (0, 0)) (bz a4.out)) : a7 ≠ b3)); clear b6 b0 a6 a0 a1 a5 a4 HB; have b6 := d0; have b0 := b9; have a6 := d2; have a0 := d1; have a1 := d6; have a5 := d7; have a4 := d8; have HB := e5; have b7 := e4; have Q1 := h1; have R5 := h0; have t4 := g9; have B0 := g7; have r5 := g6; have A8 := v2; have r7 := u5; have A6 := v3; have g5 := u6; have r0 := v0; clear d0 b9 d2 d1 d6 d7 d8 e5 e4 h1 h0 g9 g7 g6 v2 u5 v3 u6 v0 hb hbox hg; have Q4 := B0.out; have W2 := t4.out; have W0 := A8.out; have R3 := r5.out; have V5 := A6.out; have Q3 := r7.out; have P1 := r0.out; have Q7 := g5.out; have F0 : g3.cell? ⟨a7, 0, none⟩ = some (.int .i64 0) := bcz b7 0 rfl; have F1 : g3.cell? ⟨a7, 1, none⟩ = some (.int .i64 0) := bcz b7 1 rfl; have E1 : g3.cell? ⟨a7, 2, none⟩ = some (.int .i64 0) := bcz b7 2 rfl; have E2 := blk_frozen b7.out 0; have E5 := blk_frozen b7.out 1; have E9 := blk_frozen b7.out 2))
               have d0 : Aside0 (Kd.R Kd.string 9 (((g3.setCell ⟨a7, 0, none⟩ (.int .i64 ((rd_T80 l0_2 a2).f0))).setCell ⟨a7, 1, none⟩ (.int .i64 ((rd_T80 l0_2 a2).f1))).setCell ⟨a7, 2, none⟩ (.int .i64 ((rd_T80 l0_2 a2).f2))) w.heap.size (fun _ => True) (.slice d4 b1.length d3) b1) := ⟨rz (Kd.R_mono (Kd.R_far (p := ⟨a7, 2, none⟩) (Kd.R_far (p := ⟨a7, 1, none⟩) (Kd.R_far (p := ⟨a7, 0, none⟩) (Kd.R_types b6.out b7.out (by decide)) (fun _ hk => hk.2) (.int .i64 ((rd_T80 l0_2 a2).f0))) (fun _ hk => hk.2) (.int .i64 ((rd_T80 l0_2 a2).f1))) (fun _ hk => hk.2) (.int .i64 ((rd_T80 l0_2 a2).f2))) (fun _ hk => trivial))⟩
               have b9 : Aside0 (Kd.R Kd.string 9 (((g3.setCell ⟨a7, 0, none⟩ (.int .i64 ((rd_T80 l0_2 a2).f0))).setCell ⟨a7, 1, none⟩ (.int .i64 ((rd_T80 l0_2 a2).f1))).setCell ⟨a7, 2, none⟩ (.int .i64 ((rd_T80 l0_2 a2).f2))) w.heap.size (fun _ => True) (.slice d4 b1.length d3) b1) := ⟨rz (Kd.R_mono (Kd.R_far (p := ⟨a7, 2, none⟩) (Kd.R_far (p := ⟨a7, 1, none⟩) (Kd.R_far (p := ⟨a7, 0, none⟩) (Kd.R_types b0.out b7.out (by decide)) (fun _ hk => hk.2) (.int .i64 ((rd_T80 l0_2 a2).f0))) (fun _ hk => hk.2) (.int .i64 ((rd_T80 l0_2 a2).f1))) (fun _ hk => hk.2) (.int .i64 ((rd_T80 l0_2 a2).f2))) (fun _ hk => trivial))⟩
               have d2 : Aside0 (Kd.R k80 80 (((g3.setCell ⟨a7, 0, none⟩ (.int .i64 ((rd_T80 l0_2 a2).f0))).setCell ⟨a7, 1, none⟩ (.int .i64 ((rd_T80 l0_2 a2).f1))).setCell ⟨a7, 2, none⟩ (.int .i64 ((rd_T80 l0_2 a2).f2))) w.heap.size (fun k_ => k_ ≠ a7) b5 e2) := ⟨rz (Kd.R_mono (Kd.R_far (p := ⟨a7, 2, none⟩) (Kd.R_far (p := ⟨a7, 1, none⟩) (Kd.R_far (p := ⟨a7, 0, none⟩) (Kd.R_mono a6.out (fun k_ hk => (⟨hk, hk.2⟩ : _ ∧ k_ ≠ a7))) (fun _ hk => hk.2) (.int .i64 ((rd_T80 l0_2 a2).f0))) (fun _ hk => hk.2) (.int .i64 ((rd_T80 l0_2 a2).f1))) (fun _ hk => hk.2) (.int .i64 ((rd_T80 l0_2 a2).f2))) (fun _ hk => hk.1.2))⟩
               have d1 : Aside0 ((((g3.setCell ⟨a7, 0, none⟩ (.int .i64 ((rd_T80 l0_2 a2).f0))).setCell ⟨a7, 1, none⟩ (.int .i64 ((rd_T80 l0_2 a2).f1))).setCell ⟨a7, 2, none⟩ (.int .i64 ((rd_T80 l0_2 a2).f2))).heap[a9]? = some (.cells #[.int .i64 a0_0, .slice A0_1 l0_1.length c0_1, .slice (some t7) l0_2.length c0_2] 25 (0, 0))) := ⟨fz a0.out t4.out⟩
               have d6 : Aside0 ((((g3.setCell ⟨a7, 0, none⟩ (.int .i64 ((rd_T80 l0_2 a2).f0))).setCell ⟨a7, 1, none⟩ (.int .i64 ((rd_T80 l0_2 a2).f1))).setCell ⟨a7, 2, none⟩ (.int .i64 ((rd_T80 l0_2 a2).f2))).heap[b2]? = some (.cells #[.int .i64 a1_0, .slice A1_1 l1_1.length c1_1, .slice A1_2 l1_2.length c1_2] 25 (0, 0))) := ⟨fz a1.out r5.out⟩
               have d7 : Aside0 ((((g3.setCell ⟨a7, 0, none⟩ (.int .i64 ((rd_T80 l0_2 a2).f0))).setCell ⟨a7, 1, none⟩ (.int .i64 ((rd_T80 l0_2 a2).f1))).setCell ⟨a7, 2, none⟩ (.int .i64 ((rd_T80 l0_2 a2).f2))).heap[b4]? = some (.cells #[.int .i64 0, .slice none 0 0, .slice none 0 0] 25 (0, 0))) := ⟨fz a5.out r7.out⟩
               have d8 : Aside0 ((((g3.setCell ⟨a7, 0, none⟩ (.int .i64 ((rd_T80 l0_2 a2).f0))).setCell ⟨a7, 1, none⟩ (.int .i64 ((rd_T80 l0_2 a2).f1))).setCell ⟨a7, 2, none⟩ (.int .i64 ((rd_T80 l0_2 a2).f2))).heap[b3]? = some (.cells #[.int .i64 (wrap64 (a0_0 + a1_0)), .slice d4 b1.length d3, b5] 25 (0, 0))) := ⟨fz a4.out g5.out⟩
               have e5 : Aside0 ((((g3.setCell ⟨a7, 0, none⟩ (.int .i64 ((rd_T80 l0_2 a2).f0))).setCell ⟨a7, 1, none⟩ (.int .i64 ((rd_T80 l0_2 a2).f1))).setCell ⟨a7, 2, none⟩ (.int .i64 ((rd_T80 l0_2 a2).f2))).heap[a7]? = some (.cells #[.int .i64 ((rd_T80 l0_2 a2).f0), .int .i64 ((rd_T80 l0_2 a2).f1), .int .i64 ((rd_T80 l0_2 a2).f2)] 80 (0, 0))) := ⟨by (with_reducible repeat (first | refine blk_drewN ?_ _ | refine blk_drew ?_ | refine blk_alloc ?_ _)); refine blk_put (cs := #[.int .i64 ((rd_T80 l0_2 a2).f0), .int .i64 ((rd_T80 l0_2 a2).f1), .int .i64 0]) ?_ 2 _ rfl; (with_reducible repeat (first | refine blk_drewN ?_ _ | refine blk_drew ?_ | refine blk_alloc ?_ _)); refine blk_put (cs := #[.int .i64 ((rd_T80 l0_2 a2).f0), .int .i64 0, .int .i64 0]) ?_ 1 _ rfl; (with_reducible repeat (first | refine blk_drewN ?_ _ | refine blk_drew ?_ | refine blk_alloc ?_ _)); refine blk_put (cs := #[.int .i64 0, .int .i64 0, .int .i64 0]) ?_ 0 _ rfl; (with_reducible repeat (first | refine blk_drewN ?_ _ | refine blk_drew ?_ | refine blk_alloc ?_ _)); exact b7.out⟩
               have e4 : Aside0 (Below w.heap.size w (((g3.setCell ⟨a7, 0, none⟩ (.int .i64 ((rd_T80 l0_2 a2).f0))).setCell ⟨a7, 1, none⟩ (.int .i64 ((rd_T80 l0_2 a2).f1))).setCell ⟨a7, 2, none⟩ (.int .i64 ((rd_T80 l0_2 a2).f2)))) := ⟨wz HB.out⟩
               (try clear b6)
               (try clear b0)
               (try clear a6)
               (try clear a0)
               (try clear a1)
               (try clear a5)
               (try clear a4)
               (try clear b7)
               (try clear HB)
               generalize (((g3.setCell ⟨a7, 0, none⟩ (.int .i64 ((rd_T80 l0_2 a2).f0))).setCell ⟨a7, 1, none⟩ (.int .i64 ((rd_T80 l0_2 a2).f1))).setCell ⟨a7, 2, none⟩ (.int .i64 ((rd_T80 l0_2 a2).f2))) = M9 at d0 b9 d2 d1 d6 d7 d8 e5 e4 ⊢;have b6 := d0;have b0 := b9;have a6 := d2;have a0 := d1;have a1 := d6;have a5 := d7;have a4 := d8;have b7 := e5;have HB := e4;clear d0 b9 d2 d1 d6 d7 d8 e5 e4;have d0 := Aside0.mk (Kd.R_drew b6.out);have b9 := Aside0.mk (Kd.R_drew b0.out);have d2 := Aside0.mk (Kd.R_drew a6.out);have d1 := Aside0.mk (blk_drew a0.out);have d6 := Aside0.mk (blk_drew a1.out);have d7 := Aside0.mk (blk_drew a5.out);have d8 := Aside0.mk (blk_drew a4.out);have e5 := Aside0.mk (blk_drew b7.out);have e4 := Aside0.mk (below_drew1 HB.out);clear b6 b0 a6 a0 a1 a5 a4 b7 HB;have b6 := d0;have b0 := b9;have a6 := d2;have a0 := d1;have a1 := d6;have a5 := d7;have a4 := d8;have b7 := e5;have HB := e4;clear d0 b9 d2 d1 d6 d7 d8 e5 e4;have z7 : 0 ≤ (((rd_T80 l0_2 a2).f1) : Int) := of_decide_eq_true (by first | (with_reducible assumption) | assumption);have z3 : ((rd_T80 l0_2 a2).f1) < (l0_1.length : Int) := of_decide_eq_true (by first | (with_reducible assumption) | assumption);obtain ⟨D3, J4, f8⟩ := Kd.at_string t6.out ((rd_T80 l0_2 a2).f1) z7 z3;have f3 := f8
               cases J4;replace f8 := (HB.out.cell (World.block_lt_of_cell? w _ f8)).trans f8;replace z7 := eq_true z7;replace z3 := eq_true z3;refine start_ (n := 19) (S := fun w' => w'.cell? ⟨b3, 0, none⟩ = some (.int .i64 (wrap64 (a0_0 + a1_0))) ∧ w'.cell? ⟨b3, 1, none⟩ = some (.slice d4 b1.length d3) ∧ w'.cell? ⟨b3, 2, none⟩ = some (b5) ∧ w'.cell? ⟨a7, 0, none⟩ = some (.int .i64 ((rd_T80 l0_2 a2).f0)) ∧ w'.cell? ⟨a7, 1, none⟩ = some (.int .i64 ((rd_T80 l0_2 a2).f1)) ∧ w'.cell? ⟨a7, 2, none⟩ = some (.int .i64 ((rd_T80 l0_2 a2).f2)) ∧ w'.cell? ⟨a9, 0, none⟩ = some (.int .i64 a0_0) ∧ w'.cell? ⟨a9, 1, none⟩ = some (.slice (some D3) l0_1.length c0_1) ∧ w'.cell? ⟨a9, 2, none⟩ = some (.slice (some t7) l0_2.length c0_2) ∧ w'.cell? (D3.add (((rd_T80 l0_2 a2).f1)).toNat) = some (.string (rdOf ByteArray.empty l0_1 ((rd_T80 l0_2 a2).f1)))) (ds := [18]) (bqz 19 0) (by kernel_rfl) rfl rfl ⟨bcz a4 0 rfl, bcz a4 1 rfl, bcz a4 2 rfl, bcz b7 0 rfl, bcz b7 1 rfl, bcz b7 2 rfl, bcz a0 0 rfl, bcz a0 1 rfl, bcz a0 2 rfl, ((HB.out.cell (World.block_lt_of_cell? w _ f3)).trans f3)⟩ (fun hHeld => ?_); refine with_tabW Pxi.tab10 Pxi.bits10 (fun HT_ HW_ => ?_)
               generalize M9.drew = w81 at b6 b0 a6 a0 a1 a5 a4 b7 HB f8 hHeld ⊢;refine pqz 0 (some 62) (bqz 19 1) rfl rfl (any_of HT_.out (by kernel_rfl)) ?_ ?_ (fun _ _ _ h => h) (by rfl) ?_ ?_ ?_;rotate_left 2;intro w';go_simp;(with_reducible rfl);simp only [Act.put, qz1, qz2, qz3, i64_w, i32_w];rfl
               refine pqz 2 (some 64) (bqz 19 5) rfl rfl (any_of HT_.out (by kernel_rfl)) ?_ ?_ (fun _ _ _ h => h) (by rfl) ?_ ?_ ?_;rotate_left 2;intro w';go_simp;(with_reducible rfl);simp only [Act.put, qz1, qz2, qz3, i64_w, i32_w];rfl
               refine pqz 4 (some 66) (bqz 19 21) rfl rfl (any_of HT_.out (by kernel_rfl)) ?_ ?_ (fun _ _ _ h => h) (by rfl) ?_ ?_ ?_;rotate_left 2;intro w';go_simp;(with_reducible rfl);simp only [Act.put, qz1, qz2, qz3, i64_w, i32_w];rfl
               refine pqz 5 (some 67) (bqz 19 53) rfl rfl (any_of HT_.out (by kernel_rfl)) ?_ ?_ (fun _ _ _ h => h) (by rfl) ?_ ?_ ?_;rotate_left 2;intro w';go_simp;(with_reducible rfl);simp only [Act.put, qz1, qz2, qz3, i64_w, i32_w];rfl
               refine pqz 7 (some 69) (bqz 19 181) rfl rfl (any_of HT_.out (by kernel_rfl)) ?_ ?_ (fun _ _ _ h => h) (by rfl) ?_ ?_ ?_;rotate_left 2;intro w';go_simp;(with_reducible rfl);simp only [Act.put, qz1, qz2, qz3, i64_w, i32_w];rfl
               refine pqz 12 (some 74) (bqz 19 4277) rfl rfl (any_of HT_.out (by kernel_rfl)) ?_ ?_ (fun _ _ _ h => h) (by rfl) ?_ ?_ ?_;rotate_left 2;intro w';go_simp;(with_reducible rfl);simp only [Act.put, qz1, qz2, qz3, i64_w, i32_w];rfl
               refine tqz 1 (some 63) (bqz 19 4279) rfl rfl (take_ofW HT_.out HW_.out (by kernel_rfl)) ?_ ?_ (fun _ _ _ h => h) (by rfl) ?_ hHeld ?_ ?_;rotate_left 2;rintro w' ⟨s0, s1, s2, s3, s4, s5, s6, s7, s8, s9⟩;go_simp;(with_reducible rfl);simp only [Act.put, qz1, qz2, qz3, i64_w, i32_w];rfl
               refine tqz 3 (some 65) (bqz 19 4287) rfl rfl (take_ofW HT_.out HW_.out (by kernel_rfl)) ?_ ?_ (fun _ _ _ h => h) (by rfl) ?_ hHeld ?_ ?_;rotate_left 2;rintro w' ⟨s0, s1, s2, s3, s4, s5, s6, s7, s8, s9⟩;go_simp;(with_reducible rfl);simp only [Act.put, qz1, qz2, qz3, i64_w, i32_w];rfl
               refine tqz 6 (some 68) (bqz 19 4351) rfl rfl (take_ofW HT_.out HW_.out (by kernel_rfl)) ?_ ?_ (fun _ _ _ h => h) (by rfl) ?_ hHeld ?_ ?_;rotate_left 2;rintro w' ⟨s0, s1, s2, s3, s4, s5, s6, s7, s8, s9⟩;go_simp;(with_reducible rfl);simp only [Act.put, qz1, qz2, qz3, i64_w, i32_w];rfl
               refine tqz 8 (some 70) (bqz 19 4607) rfl rfl (take_ofW HT_.out HW_.out (by kernel_rfl)) ?_ ?_ (fun _ _ _ h => h) (by rfl) ?_ hHeld ?_ ?_;rotate_left 2;rintro w' ⟨s0, s1, s2, s3, s4, s5, s6, s7, s8, s9⟩;go_simp;(with_reducible rfl);simp only [Act.put, qz1, qz2, qz3, i64_w, i32_w];rfl
               refine pqz 9 (some 71) (bqz 19 5119) rfl rfl (any_of HT_.out (by kernel_rfl)) ?_ ?_ (fun _ _ _ h => h) (by rfl) ?_ ?_ ?_;rotate_left 2;intro w';go_simp;(with_reducible rfl);simp only [Act.put, qz1, qz2, qz3, i64_w, i32_w];rfl
               refine tqz 10 (some 72) (bqz 19 6143) rfl rfl (take_ofW HT_.out HW_.out (by kernel_rfl)) ?_ ?_ (fun _ _ _ h => h) (by rfl) ?_ hHeld ?_ ?_;rotate_left 2;rintro w' ⟨s0, s1, s2, s3, s4, s5, s6, s7, s8, s9⟩;go_simp;(with_reducible rfl);simp only [Act.put, qz1, qz2, qz3, i64_w, i32_w];rfl
               refine tqz 13 (some 75) (bqz 19 14335) rfl rfl (take_ofW HT_.out HW_.out (by kernel_rfl)) ?_ ?_ (fun _ _ _ h => h) (by rfl) ?_ hHeld ?_ ?_;rotate_left 2;rintro w' ⟨s0, s1, s2, s3, s4, s5, s6, s7, s8, s9⟩;go_simp;(with_reducible rfl);simp only [Act.put, qz1, qz2, qz3, i64_w, i32_w];rfl
               refine one_ (i := 11) (N := some 73) (bqz 19 16383) rfl rfl (one_of HT_.out (by kernel_rfl)) (by decide) (fun K hK => ?_);refine goes_ Try.func97 (by kernel_rfl) rfl #[.slice d4 b1.length d3, .string (rdOf ByteArray.empty l0_1 ((rd_T80 l0_2 a2).f1))] (by rfl) rfl rfl (by (try simp only [List.map_toArray, List.map_cons, List.map_nil]); first | done | rfl | (simp only [List.length_drop, List.length_take]; rfl)) ?_;with_reducible refine (Pxb.calls k3 _ _ b1 (rdOf ByteArray.empty l0_1 ((rd_T80 l0_2 a2).f1)) k8 _ ?j9 ?k2 M7.out).mono ?_
               (case j9 => repeat (first | exact (Kd.R_reads' b6.out).2.2 | (with_reducible refine Kd.C_alloc ?_ _) | (with_reducible refine Kd.C_drewN ?_ _) | (with_reducible refine Kd.C_drew ?_)))
               (case k2 => exact (Kd.R_reads' b6.out).2.1)
               rintro e w' ⟨rfl, ⟨nd, rfl⟩⟩;refine ⟨_, rfl, ?_⟩;refine hK.out _ _ ⟨bcz a4 0 rfl, bcz a4 1 rfl, bcz a4 2 rfl, bcz b7 0 rfl, bcz b7 1 rfl, bcz b7 2 rfl, bcz a0 0 rfl, bcz a0 1 rfl, bcz a0 2 rfl, ((HB.out.cell (World.block_lt_of_cell? w _ f3)).trans f3)⟩ (fun hHeld => ?_);clear hK K;refine norm_ (a' := ?_) ?_ ?_;rotate_left
               ·show Act.put _ (some 73) _ = _;simp only [Act.put, qz1, qz2, qz3, i64_w, i32_w];rfl
               refine pqz 14 (some 76) (bqz 19 32767) rfl rfl (any_of HT_.out (by kernel_rfl)) ?_ ?_ (fun _ _ _ h => h) (by rfl) ?_ ?_ ?_;rotate_left 2;intro w';go_simp;(with_reducible rfl);simp only [Act.put, qz1, qz2, qz3, i64_w, i32_w];rfl
               refine one_ (i := 15) (N := some 77) (bqz 19 65535) rfl rfl (one_of HT_.out (by kernel_rfl)) (by decide) (fun K hK => ?_);refine value_ (w1 := ?_) (v := ?_) (by rfl) rfl ?_ ?_;rotate_left 2
               ·go_simp;constructor
                ·rfl
                ·rfl
               refine hK.out _ _ ⟨(blk_cell (blk_alloc a4.out _) 0).trans rfl, (blk_cell (blk_alloc a4.out _) 1).trans rfl, (blk_cell (blk_alloc a4.out _) 2).trans rfl, (blk_cell (blk_alloc b7.out _) 0).trans rfl, (blk_cell (blk_alloc b7.out _) 1).trans rfl, (blk_cell (blk_alloc b7.out _) 2).trans rfl, (blk_cell (blk_alloc a0.out _) 0).trans rfl, (blk_cell (blk_alloc a0.out _) 1).trans rfl, (blk_cell (blk_alloc a0.out _) 2).trans rfl, (World.cell?_alloc_lt _ _ _ (World.block_lt_of_cell? _ _ (((HB.out.cell (World.block_lt_of_cell? w _ f3)).trans f3)))).trans (((HB.out.cell (World.block_lt_of_cell? w _ f3)).trans f3))⟩ (fun hHeld => ?_);clear hK K;refine norm_ (a' := ?_) ?_ ?_;rotate_left
               ·show Act.put _ (some 77) _ = _;simp only [Act.put, qz1, qz2, qz3, i64_w, i32_w];rfl
               refine one_ (i := 16) (N := some 78) (bqz 19 131071) rfl rfl (one_of HT_.out (by kernel_rfl)) (by decide) (fun K hK => ?_);refine Kd.R_append_step k80 (w0 := w) w.heap.size (by rfl) (.tmp 63) (.tmp 77) 23 80 (.agg #[(.int .i64 0), (.int .i64 0), (.int .i64 0)]) 24 rfl Try.underlying23 info80 rfl (by decide) (by omega) b5 e2 (⟨(rd_T80 l0_2 a2).f0, k8, (rd_T80 l0_2 a2).f2⟩ : S80) [.int .i64 ((rd_T80 l0_2 a2).f0), .int .i64 k8, .int .i64 ((rd_T80 l0_2 a2).f2)] (fun k_ => k_ ≠ a7) (fun _ => False) rfl rfl ?aP (fun _ hk => hk.elim) ?aF ?aO ?aB ?aS ?aL ?_
               (case aP => exact k80_mkM _ _ _ (⟨(rd_T80 l0_2 a2).f0, k8, (rd_T80 l0_2 a2).f2⟩ : S80))
               (case aB => exact (wz HB.out))
               (case aF => exact (fun k_ hk => Kd.freshB (g := a7) (o := .cells #[.int .i64 ((rd_T80 l0_2 a2).f0), .int .i64 ((rd_T80 l0_2 a2).f1), .int .i64 ((rd_T80 l0_2 a2).f2)] 80 (0, 0)) (bz b7.out) k_ hk))
               (case aO => exact (rz a6.out))
               (case aS => exact (below_size (wz HB.out)))
               (case aL => have := G0.out; omega)
               intro X1 L5 ho hb hg hat;rw [← G6.out] at ho;have d0 := Aside0.mk (Kd.R_over' (rz b6.out) (Kd.R_typed (rz a6.out)) (by decide) hg);have b9 := Aside0.mk (Kd.R_over' (rz b0.out) (Kd.R_typed (rz a6.out)) (by decide) hg);have d2 := Aside0.mk (blk_grown (bz a0.out) hg (Kd.R_ne a6.out a0.out (by decide)));have d1 := Aside0.mk (blk_grown (bz a1.out) hg (Kd.R_ne a6.out a1.out (by decide)));have d6 := Aside0.mk (blk_grown (bz a5.out) hg (Kd.R_ne a6.out a5.out (by decide)));have d7 := Aside0.mk (blk_grown (bz a4.out) hg (Kd.R_ne a6.out a4.out (by decide)));have d8 := Aside0.mk (blk_grown (bz b7.out) hg (Kd.R_away a6.out (fun _ hk => hk)));have e5 := Aside0.mk (hb);have e4 := Aside0.mk (ho);clear b6 b0 a0 a1 a5 a4 b7 HB a6;have b6 := d0;have b0 := b9;have a0 := d2;have a1 := d1;have a5 := d6;have a4 := d7;have b7 := d8;have HB := e5;have D0 := e4;clear d0 b9 d2 d1 d6 d7 d8 e5 e4 ho hb hg hat;obtain ⟨z8, A5, F6⟩ := Kd.R_slice D0.out
               (first | subst F6 | (injection F6 with f1_ f2_ f3_; have f4_ := f1_.symm; have f5_ := f3_.symm; clear f1_ f2_ f3_; subst f4_; subst f5_))
               refine hK.out _ _ ⟨bcz a4 0 rfl, bcz a4 1 rfl, bcz a4 2 rfl, bcz b7 0 rfl, bcz b7 1 rfl, bcz b7 2 rfl, bcz a0 0 rfl, bcz a0 1 rfl, bcz a0 2 rfl, ((HB.out.cell (World.block_lt_of_cell? w _ f3)).trans f3)⟩ (fun hHeld => ?_);clear hK K;refine norm_ (a' := ?_) ?_ ?_;rotate_left
               ·show Act.put _ (some 78) _ = _;simp only [Act.put, qz1, qz2, qz3, i64_w, i32_w];rfl
               refine pqz 17 (some 79) (bqz 19 262143) rfl rfl (any_of HT_.out (by kernel_rfl)) ?_ ?_ (fun _ _ _ h => h) (by rfl) ?_ ?_ ?_;rotate_left 2;intro w';go_simp;(with_reducible rfl);simp only [Act.put, qz1, qz2, qz3, i64_w, i32_w];rfl
               refine last_ (i := 18) (N := none) (bqz 19 524287) rfl rfl (one_of HT_.out (by kernel_rfl)) (by decide) (fun K hK => ?_);have W7 : L5.cell? ⟨b3, 2, none⟩ = some (b5) := bcz a4 2 rfl;have O6 := blk_frozen a4.out 2;have L3 := f5.out;have K9 := e8.out;have L0 := f4.out;have L4 := r0.out;have L2 := g0.out;have K8 := f7.out;have L1 := f9.out;have K7 := g5.out;refine skip_ (w1 := ?_) (by rfl) rfl ?_ ?_;rotate_left
               ·go_simp;rfl
               refine hK.out _ _ ?_;clear hK K;refine done_ (done_of HT_.out (by kernel_rfl)) ?_;try go_wp2
               go_roundg k3
               case measure => have := u3.out; have := A3.out; have := D2.out; omega
               case rel => exact ⟨(wrap64 (a2 + 1)), (m2), (.slice z8 m2.length A5), (by first | rfl | (simp; done) | (simp [*]; done)), H', ⟨by have := u3.out; have := A3.out; have := D2.out; omega⟩, ⟨rz (Kd.R_mono (Kd.R_far (p := ⟨b3, 2, none⟩) (Kd.R_types b6.out a4.out (by decide)) (fun _ hk => hk.2) (.slice z8 m2.length A5)) (fun _ hk => trivial))⟩, ⟨rz (Kd.R_mono (Kd.R_far (p := ⟨b3, 2, none⟩) (Kd.R_types b0.out a4.out (by decide)) (fun _ hk => hk.2) (.slice z8 m2.length A5)) (fun _ hk => trivial))⟩, ⟨rz (Kd.R_mono (Kd.R_far (p := ⟨b3, 2, none⟩) (Kd.R_types D0.out a4.out (by decide)) (fun _ hk => hk.2) (.slice z8 m2.length A5)) (fun _ hk => trivial))⟩, ⟨fz a0.out f5.out⟩, ⟨fz a1.out e8.out⟩, ⟨fz a5.out f4.out⟩, ⟨by (with_reducible repeat (first | refine blk_drewN ?_ _ | refine blk_drew ?_ | refine blk_alloc ?_ _)); refine blk_put (cs := #[.int .i64 (wrap64 (a0_0 + a1_0)), .slice d4 b1.length d3, b5]) ?_ 2 _ rfl; (with_reducible repeat (first | refine blk_drewN ?_ _ | refine blk_drew ?_ | refine blk_alloc ?_ _)); exact a4.out⟩, ⟨wz HB.out⟩⟩
              ·rw [if_neg B4] at H;exact absurd H (by simp)
             ·rw [if_neg B6] at H;exact absurd H (by simp)
            ·rw [if_neg B9] at H;exact absurd H (by simp)
           ·rw [if_neg B3] at H;exact absurd H (by simp)
          ·rw [if_neg B7] at H;exact absurd H (by simp)
         ·rw [if_neg u4] at H;have c67b0 : decide (a2 < (l0_2.length : Int)) = false := decide_eq_false u4;clear u4;have H' := Aside0.mk H;clear H;have P6 := e7.out;have O1 := e6.out;have P8 := e3.out;have T6 := e1.out;have R4 := e8.out;have S6 := f7.out;have E4 : wr.cell? ⟨b2, 0, none⟩ = some (.int .i64 a1_0) := bcz a1 0 rfl;have E6 : wr.cell? ⟨b2, 1, none⟩ = some (.slice A1_1 l1_1.length c1_1) := bcz a1 1 rfl;have E3 : wr.cell? ⟨b2, 2, none⟩ = some (.slice A1_2 l1_2.length c1_2) := bcz a1 2 rfl;have E8 := blk_frozen a1.out 0;have E0 := blk_frozen a1.out 1;have E7 := blk_frozen a1.out 2;go_wp2
          go_loopg [84] k3 (fun kq L8 w' => ∃ (a3 : Int) (d5 : List (S80)) (b5 : Value), L8 = .int .i64 a3 ∧ Aside0 (Pxi.l1 kq b1 l1_2 (l1_2.length : Int) a3 a0_0 l0_1 l0_2 a1_0 l1_1 l1_2 (wrap64 (a0_0 + a1_0)) b1 d5 = some (r1, r2, r3, r4)) ∧ Aside0 (kq ≤ k3) ∧ Aside0 (Kd.R Kd.string 9 w' w.heap.size (fun _ => True) (.slice d4 b1.length d3) b1) ∧ Aside0 (Kd.R Kd.string 9 w' w.heap.size (fun _ => True) (.slice d4 b1.length d3) b1) ∧ Aside0 (Kd.R k80 80 w' w.heap.size (fun _ => True) b5 d5) ∧ Aside0 (w'.heap[a9]? = some (.cells #[.int .i64 a0_0, (.slice A0_1 l0_1.length c0_1), (.slice A0_2 l0_2.length c0_2)] 25 (0, 0))) ∧ Aside0 (w'.heap[b2]? = some (.cells #[.int .i64 a1_0, (.slice A1_1 l1_1.length c1_1), (.slice A1_2 l1_2.length c1_2)] 25 (0, 0))) ∧ Aside0 (w'.heap[b4]? = some (.cells #[.int .i64 0, (.slice none 0 0), (.slice none 0 0)] 25 (0, 0))) ∧ Aside0 (w'.heap[b3]? = some (.cells #[.int .i64 (wrap64 (a0_0 + a1_0)), (.slice d4 b1.length d3), b5] 25 (0, 0))) ∧ Aside0 (Below w.heap.size w w'))
          case atStart => exact ⟨(0), (e2), (b5), (by first | rfl | (simp; done) | (simp [*]; done)), H', ⟨Nat.le_refl _⟩, ⟨rz b6.out⟩, ⟨rz b0.out⟩, ⟨rz a6.out⟩, ⟨bz a0.out⟩, ⟨bz a1.out⟩, ⟨bz a5.out⟩, ⟨bz a4.out⟩, ⟨wz HB.out⟩⟩
          case round =>
           clear H';(try clear c8);(try clear c8b0);(try clear c8b1);(try clear u2);(try clear j7);(try clear c33b0);(try clear k1);(try clear c39b0);(try clear w9);(try clear u4);(try clear c67b0);(try clear B7);(try clear c68b0);(try clear B3);(try clear c69b0);(try clear B9);(try clear c70b0);(try clear B6);(try clear c71b0);(try clear B4);(try clear i0);(try clear i7);(try clear i3);(try clear h3);(try clear j3);(try clear h7);(try clear i4);(try clear h5);(try clear i2);(try clear n6);(try clear o2);(try clear o3);(try clear l6);(try clear m0);(try clear o8);(try clear n7);(try clear n2);(try clear p6);(try clear o4);(try clear q9);(try clear n9);(try clear p2);(try clear n4);(try clear l4);(try clear q3);(try clear o9);(try clear m5);(try clear m8);(try clear p4);(try clear n8);(try clear l3);(try clear l9);(try clear k6);(try clear m3);(try clear n3);(try clear m9);(try clear z0);(try clear x0);(try clear y7);(try clear x7);(try clear y8);(try clear y2);(try clear v9);(try clear y6);(try clear x9);(try clear x8);(try clear v6);(try clear y1);(try clear w7);(try clear w3);(try clear y5);(try clear F0);(try clear F1);(try clear E1);(try clear E4);(try clear E6);(try clear E3);(try clear h2);(try clear j2);(try clear h4);(try clear h9);(try clear h8);(try clear i5);(try clear i8);(try clear i9);(try clear i1);(try clear o0);(try clear l5);(try clear p1);(try clear q6);(try clear q8);(try clear k9);(try clear p5);(try clear q1);(try clear o1);(try clear p0);(try clear m4);(try clear q0);(try clear n5);(try clear l8);(try clear k7);(try clear q4);(try clear m7);(try clear q5);(try clear m1);(try clear p7);(try clear p8);(try clear n0);(try clear p3);(try clear q2);(try clear m6);(try clear n1);(try clear l7);(try clear w8);(try clear y3);(try clear w2);(try clear x3);(try clear y0);(try clear v8);(try clear z1);(try clear x4);(try clear v7);(try clear x2);(try clear y9);(try clear x1);(try clear v5);(try clear y4);(try clear v4);(try clear E2);(try clear E5);(try clear E9);(try clear E8);(try clear E0);(try clear E7);(try clear j4);(try clear h6);(try clear j5);(try clear f8);(try clear A4);(try clear z7);(try clear z2);(try clear z3);obtain ⟨a3, d5, b5, rfl, HA, G8, b6, b0, a6, a0, a1, a5, a4, HB⟩ := hrel
           cases gk with
           | zero => exact absurd HA.out (by simp [Pxi.l1])
           | succ k4 =>
            have H := HA.out;clear HA;simp only [Pxi.l1] at H;by_cases x5 : a3 < (l1_2.length : Int)
            ·rw [if_pos x5] at H;have c89b0 : decide (a3 < (l1_2.length : Int)) = true := decide_eq_true x5;clear x5;by_cases C9 : 0 ≤ a3
             ·rw [if_pos C9] at H;have c90b0 : decide (0 ≤ a3) = true := decide_eq_true C9;clear C9;by_cases D6 : a3 < (l1_2.length : Int)
              ·rw [if_pos D6] at H;have c91b0 : decide (a3 < (l1_2.length : Int)) = true := decide_eq_true D6;clear D6;by_cases D7 : 0 ≤ ((rd_T80 l1_2 a3).f1)
               ·rw [if_pos D7] at H;have c92b0 : decide (0 ≤ ((rd_T80 l1_2 a3).f1)) = true := decide_eq_true D7;clear D7;by_cases D4 : ((rd_T80 l1_2 a3).f1) < (l1_1.length : Int)
                ·rw [if_pos D4] at H;have c93b0 : decide (((rd_T80 l1_2 a3).f1) < (l1_1.length : Int)) = true := decide_eq_true D4;clear D4;replace H := Option.bind_eq_some_iff.mp H;obtain ⟨o5, F3, H⟩ := H;replace H : (if d5.length < 5864062014805 then (Pxi.l1 k4 b1 l1_2 (l1_2.length : Int) (wrap64 (a3 + 1)) a0_0 l0_1 l0_2 a1_0 l1_1 l1_2 (wrap64 (a0_0 + a1_0)) b1 (d5 ++ [(⟨wrap64 (((rd_T80 l1_2 a3).f0) + a0_0), o5, wrap64 (((rd_T80 l1_2 a3).f2) + a0_0)⟩ : S80)])) else (none)) = some (r1, r2, r3, r4) := H;have N3 := Aside0.mk F3;clear F3;by_cases C7 : d5.length < 5864062014805
                 ·rw [if_pos C7] at H;have G5 := Aside0.mk C7;clear C7;obtain ⟨p9, k5⟩ : ∃ y_ : List (S80), y_ = (d5 ++ [(⟨wrap64 (((rd_T80 l1_2 a3).f0) + a0_0), o5, wrap64 (((rd_T80 l1_2 a3).f2) + a0_0)⟩ : S80)]) := ⟨_, rfl⟩
                  replace H : (Pxi.l1 k4 b1 l1_2 (l1_2.length : Int) (wrap64 (a3 + 1)) a0_0 l0_1 l0_2 a1_0 l1_1 l1_2 (wrap64 (a0_0 + a1_0)) b1 p9) = some (r1, r2, r3, r4) := by first | (rw [k5]; with_reducible exact H) | (have u8 := (Option.bind_some _ _).symm.trans H; rw [k5]; with_reducible exact u8) | (have u8 := (Option.bind_some _ _).symm.trans H; with_reducible exact u8) | with_reducible exact H | (rw [k5]; exact H) | exact H
                  have F9 := Aside0.mk k5;clear k5;have H' := Aside0.mk H;clear H;have C4 : 0 ≤ (a3 : Int) := of_decide_eq_true (by first | (with_reducible assumption) | assumption);have C5 : a3 < (l1_2.length : Int) := of_decide_eq_true (by first | (with_reducible assumption) | assumption);obtain ⟨t9, K5, o7, q7, o6⟩ := at_T80 D5.out a3 C4 C5
                  cases K5;replace o7 := (HB.out.cell (World.block_lt_of_cell? w _ o7)).trans o7;replace q7 := (HB.out.cell (World.block_lt_of_cell? w _ q7)).trans q7;replace o6 := (HB.out.cell (World.block_lt_of_cell? w _ o6)).trans o6;replace C4 := eq_true C4;replace C5 := eq_true C5;try go_wp2_with (first | ((with_reducible refine gate_dst (N := 11) rfl ?_); (try (refine gate_guard (by rfl) ?_; dsimp only)); refine box_event ?hg (N := 11) ?hd (cs := #[.int .i64 0, .int .i64 0, .int .i64 0]) (t := 80) ?hr ?_; (case hd => rfl); (case hg => rfl); (case hr => first | (go_simp; done) | (go_simp; rfl)); intro a8 hg g4 hbox hb; have d0 := Aside0.mk (Kd.R_below (rz b6.out) hb); have b9 := Aside0.mk (Kd.R_below (rz b0.out) hb); have d2 := Aside0.mk (Kd.R_below (Kd.R_elderB (rz a6.out) a8 (Nat.le_of_eq hg.symm)) hb); have d1 := Aside0.mk (blk_below (bz a0.out) hb); have d6 := Aside0.mk (blk_below (bz a1.out) hb); have d7 := Aside0.mk (blk_below (bz a5.out) hb); have d8 := Aside0.mk (blk_below (bz a4.out) hb); have e5 := Aside0.mk (below_step (wz HB.out) hb); have e4 := Aside0.mk (hbox); have h1 := Aside0.mk ((by rw [hg]; exact (below_size (wz HB.out)) : w.heap.size ≤ a8)); have h0 := Aside0.mk ((by rw [hg]; exact (below_size (wz HB.out)) : w.heap.size ≤ a8)); have g9 := Aside0.mk ((by rw [hg]; exact Nat.ne_of_lt (blk_lt (g := a9) (o := .cells #[.int .i64 a0_0, .slice A0_1 l0_1.length c0_1, .slice A0_2 l0_2.length c0_2] 25 (0, 0)) (bz a0.out)) : a9 ≠ a8)); have g7 := Aside0.mk ((by rw [hg]; exact Nat.ne_of_gt (blk_lt (g := a9) (o := .cells #[.int .i64 a0_0, .slice A0_1 l0_1.length c0_1, .slice A0_2 l0_2.length c0_2] 25 (0, 0)) (bz a0.out)) : a8 ≠ a9)); have g6 := Aside0.mk ((by rw [hg]; exact Nat.ne_of_lt (blk_lt (g := b2) (o := .cells #[.int .i64 a1_0, .slice A1_1 l1_1.length c1_1, .slice (some t9) l1_2.length c1_2] 25 (0, 0)) (bz a1.out)) : b2 ≠ a8)); have v2 := Aside0.mk ((by rw [hg]; exact Nat.ne_of_gt (blk_lt (g := b2) (o := .cells #[.int .i64 a1_0, .slice A1_1 l1_1.length c1_1, .slice (some t9) l1_2.length c1_2] 25 (0, 0)) (bz a1.out)) : a8 ≠ b2)); have u5 := Aside0.mk ((by rw [hg]; exact Nat.ne_of_lt (blk_lt (g := b4) (o := .cells #[.int .i64 0, .slice none 0 0, .slice none 0 0] 25 (0, 0)) (bz a5.out)) : b4 ≠ a8)); have v3 := Aside0.mk ((by rw [hg]; exact Nat.ne_of_gt (blk_lt (g := b4) (o := .cells #[.int .i64 0, .slice none 0 0, .slice none 0 0] 25 (0, 0)) (bz a5.out)) : a8 ≠ b4)); have u6 := Aside0.mk ((by rw [hg]; exact Nat.ne_of_lt (blk_lt (g := b3) (o := .cells #[.int .i64 (wrap64 (a0_0 + a1_0)), .slice d4 b1.length d3, b5] 25 (0, 0)) (bz a4.out)) : b3 ≠ a8)); have v0 := Aside0.mk ((by rw [hg]; exact Nat.ne_of_gt (blk_lt (g := b3) (o := .cells #[.int .i64 (wrap64 (a0_0 + a1_0)), .slice d4 b1.length d3, b5] 25 (0, 0)) (bz a4.out)) : a8 ≠ b3)); clear b6 b0 a6 a0 a1 a5 a4 HB; have b6 := d0; have b0 := b9; have a6 := d2; have a0 := d1; have a1 := d6; have a5 := d7; have a4 := d8; have HB := e5; have b8 := e4; have R0 := h1; have S8 := h0; have r9 := g9; have C0 := g7; have r6 := g6; have B5 := v2; have r8 := u5; have B2 := v3; have g8 := u6; have t2 := v0; clear d0 b9 d2 d1 d6 d7 d8 e5 e4 h1 h0 g9 g7 g6 v2 u5 v3 u6 v0 hb hbox hg; have U5 := C0.out; have O3 := r9.out; have Q9 := B5.out; have S5 := r6.out; have V7 := B2.out; have R8 := r8.out; have M0 := t2.out; have L9 := g8.out; have J6 : g4.cell? ⟨a8, 0, none⟩ = some (.int .i64 0) := bcz b8 0 rfl; have J1 : g4.cell? ⟨a8, 1, none⟩ = some (.int .i64 0) := bcz b8 1 rfl; have H2 : g4.cell? ⟨a8, 2, none⟩ = some (.int .i64 0) := bcz b8 2 rfl; have K6 := blk_frozen b8.out 0; have H4 := blk_frozen b8.out 1; have K2 := blk_frozen b8.out 2))
                  have d0 : Aside0 (Kd.R Kd.string 9 (((g4.setCell ⟨a8, 0, none⟩ (.int .i64 ((rd_T80 l1_2 a3).f0))).setCell ⟨a8, 1, none⟩ (.int .i64 ((rd_T80 l1_2 a3).f1))).setCell ⟨a8, 2, none⟩ (.int .i64 ((rd_T80 l1_2 a3).f2))) w.heap.size (fun _ => True) (.slice d4 b1.length d3) b1) := ⟨rz (Kd.R_mono (Kd.R_far (p := ⟨a8, 2, none⟩) (Kd.R_far (p := ⟨a8, 1, none⟩) (Kd.R_far (p := ⟨a8, 0, none⟩) (Kd.R_types b6.out b8.out (by decide)) (fun _ hk => hk.2) (.int .i64 ((rd_T80 l1_2 a3).f0))) (fun _ hk => hk.2) (.int .i64 ((rd_T80 l1_2 a3).f1))) (fun _ hk => hk.2) (.int .i64 ((rd_T80 l1_2 a3).f2))) (fun _ hk => trivial))⟩
                  have b9 : Aside0 (Kd.R Kd.string 9 (((g4.setCell ⟨a8, 0, none⟩ (.int .i64 ((rd_T80 l1_2 a3).f0))).setCell ⟨a8, 1, none⟩ (.int .i64 ((rd_T80 l1_2 a3).f1))).setCell ⟨a8, 2, none⟩ (.int .i64 ((rd_T80 l1_2 a3).f2))) w.heap.size (fun _ => True) (.slice d4 b1.length d3) b1) := ⟨rz (Kd.R_mono (Kd.R_far (p := ⟨a8, 2, none⟩) (Kd.R_far (p := ⟨a8, 1, none⟩) (Kd.R_far (p := ⟨a8, 0, none⟩) (Kd.R_types b0.out b8.out (by decide)) (fun _ hk => hk.2) (.int .i64 ((rd_T80 l1_2 a3).f0))) (fun _ hk => hk.2) (.int .i64 ((rd_T80 l1_2 a3).f1))) (fun _ hk => hk.2) (.int .i64 ((rd_T80 l1_2 a3).f2))) (fun _ hk => trivial))⟩
                  have d2 : Aside0 (Kd.R k80 80 (((g4.setCell ⟨a8, 0, none⟩ (.int .i64 ((rd_T80 l1_2 a3).f0))).setCell ⟨a8, 1, none⟩ (.int .i64 ((rd_T80 l1_2 a3).f1))).setCell ⟨a8, 2, none⟩ (.int .i64 ((rd_T80 l1_2 a3).f2))) w.heap.size (fun k_ => k_ ≠ a8) b5 d5) := ⟨rz (Kd.R_mono (Kd.R_far (p := ⟨a8, 2, none⟩) (Kd.R_far (p := ⟨a8, 1, none⟩) (Kd.R_far (p := ⟨a8, 0, none⟩) (Kd.R_mono a6.out (fun k_ hk => (⟨hk, hk.2⟩ : _ ∧ k_ ≠ a8))) (fun _ hk => hk.2) (.int .i64 ((rd_T80 l1_2 a3).f0))) (fun _ hk => hk.2) (.int .i64 ((rd_T80 l1_2 a3).f1))) (fun _ hk => hk.2) (.int .i64 ((rd_T80 l1_2 a3).f2))) (fun _ hk => hk.1.2))⟩
                  have d1 : Aside0 ((((g4.setCell ⟨a8, 0, none⟩ (.int .i64 ((rd_T80 l1_2 a3).f0))).setCell ⟨a8, 1, none⟩ (.int .i64 ((rd_T80 l1_2 a3).f1))).setCell ⟨a8, 2, none⟩ (.int .i64 ((rd_T80 l1_2 a3).f2))).heap[a9]? = some (.cells #[.int .i64 a0_0, .slice A0_1 l0_1.length c0_1, .slice A0_2 l0_2.length c0_2] 25 (0, 0))) := ⟨fz a0.out r9.out⟩
                  have d6 : Aside0 ((((g4.setCell ⟨a8, 0, none⟩ (.int .i64 ((rd_T80 l1_2 a3).f0))).setCell ⟨a8, 1, none⟩ (.int .i64 ((rd_T80 l1_2 a3).f1))).setCell ⟨a8, 2, none⟩ (.int .i64 ((rd_T80 l1_2 a3).f2))).heap[b2]? = some (.cells #[.int .i64 a1_0, .slice A1_1 l1_1.length c1_1, .slice (some t9) l1_2.length c1_2] 25 (0, 0))) := ⟨fz a1.out r6.out⟩
                  have d7 : Aside0 ((((g4.setCell ⟨a8, 0, none⟩ (.int .i64 ((rd_T80 l1_2 a3).f0))).setCell ⟨a8, 1, none⟩ (.int .i64 ((rd_T80 l1_2 a3).f1))).setCell ⟨a8, 2, none⟩ (.int .i64 ((rd_T80 l1_2 a3).f2))).heap[b4]? = some (.cells #[.int .i64 0, .slice none 0 0, .slice none 0 0] 25 (0, 0))) := ⟨fz a5.out r8.out⟩
                  have d8 : Aside0 ((((g4.setCell ⟨a8, 0, none⟩ (.int .i64 ((rd_T80 l1_2 a3).f0))).setCell ⟨a8, 1, none⟩ (.int .i64 ((rd_T80 l1_2 a3).f1))).setCell ⟨a8, 2, none⟩ (.int .i64 ((rd_T80 l1_2 a3).f2))).heap[b3]? = some (.cells #[.int .i64 (wrap64 (a0_0 + a1_0)), .slice d4 b1.length d3, b5] 25 (0, 0))) := ⟨fz a4.out g8.out⟩
                  have e5 : Aside0 ((((g4.setCell ⟨a8, 0, none⟩ (.int .i64 ((rd_T80 l1_2 a3).f0))).setCell ⟨a8, 1, none⟩ (.int .i64 ((rd_T80 l1_2 a3).f1))).setCell ⟨a8, 2, none⟩ (.int .i64 ((rd_T80 l1_2 a3).f2))).heap[a8]? = some (.cells #[.int .i64 ((rd_T80 l1_2 a3).f0), .int .i64 ((rd_T80 l1_2 a3).f1), .int .i64 ((rd_T80 l1_2 a3).f2)] 80 (0, 0))) := ⟨by (with_reducible repeat (first | refine blk_drewN ?_ _ | refine blk_drew ?_ | refine blk_alloc ?_ _)); refine blk_put (cs := #[.int .i64 ((rd_T80 l1_2 a3).f0), .int .i64 ((rd_T80 l1_2 a3).f1), .int .i64 0]) ?_ 2 _ rfl; (with_reducible repeat (first | refine blk_drewN ?_ _ | refine blk_drew ?_ | refine blk_alloc ?_ _)); refine blk_put (cs := #[.int .i64 ((rd_T80 l1_2 a3).f0), .int .i64 0, .int .i64 0]) ?_ 1 _ rfl; (with_reducible repeat (first | refine blk_drewN ?_ _ | refine blk_drew ?_ | refine blk_alloc ?_ _)); refine blk_put (cs := #[.int .i64 0, .int .i64 0, .int .i64 0]) ?_ 0 _ rfl; (with_reducible repeat (first | refine blk_drewN ?_ _ | refine blk_drew ?_ | refine blk_alloc ?_ _)); exact b8.out⟩
                  have e4 : Aside0 (Below w.heap.size w (((g4.setCell ⟨a8, 0, none⟩ (.int .i64 ((rd_T80 l1_2 a3).f0))).setCell ⟨a8, 1, none⟩ (.int .i64 ((rd_T80 l1_2 a3).f1))).setCell ⟨a8, 2, none⟩ (.int .i64 ((rd_T80 l1_2 a3).f2)))) := ⟨wz HB.out⟩
                  (try clear b6)
                  (try clear b0)
                  (try clear a6)
                  (try clear a0)
                  (try clear a1)
                  (try clear a5)
                  (try clear a4)
                  (try clear b8)
                  (try clear HB)
                  generalize (((g4.setCell ⟨a8, 0, none⟩ (.int .i64 ((rd_T80 l1_2 a3).f0))).setCell ⟨a8, 1, none⟩ (.int .i64 ((rd_T80 l1_2 a3).f1))).setCell ⟨a8, 2, none⟩ (.int .i64 ((rd_T80 l1_2 a3).f2))) = J0 at d0 b9 d2 d1 d6 d7 d8 e5 e4 ⊢;have b6 := d0;have b0 := b9;have a6 := d2;have a0 := d1;have a1 := d6;have a5 := d7;have a4 := d8;have b8 := e5;have HB := e4;clear d0 b9 d2 d1 d6 d7 d8 e5 e4;have d0 := Aside0.mk (Kd.R_drew b6.out);have b9 := Aside0.mk (Kd.R_drew b0.out);have d2 := Aside0.mk (Kd.R_drew a6.out);have d1 := Aside0.mk (blk_drew a0.out);have d6 := Aside0.mk (blk_drew a1.out);have d7 := Aside0.mk (blk_drew a5.out);have d8 := Aside0.mk (blk_drew a4.out);have e5 := Aside0.mk (blk_drew b8.out);have e4 := Aside0.mk (below_drew1 HB.out);clear b6 b0 a6 a0 a1 a5 a4 b8 HB;have b6 := d0;have b0 := b9;have a6 := d2;have a0 := d1;have a1 := d6;have a5 := d7;have a4 := d8;have b8 := e5;have HB := e4;clear d0 b9 d2 d1 d6 d7 d8 e5 e4;have C3 : 0 ≤ (((rd_T80 l1_2 a3).f1) : Int) := of_decide_eq_true (by first | (with_reducible assumption) | assumption);have C1 : ((rd_T80 l1_2 a3).f1) < (l1_1.length : Int) := of_decide_eq_true (by first | (with_reducible assumption) | assumption);obtain ⟨D8, K4, g2⟩ := Kd.at_string A1.out ((rd_T80 l1_2 a3).f1) C3 C1;have e9 := g2
                  cases K4;replace g2 := (HB.out.cell (World.block_lt_of_cell? w _ g2)).trans g2;replace C3 := eq_true C3;replace C1 := eq_true C1;refine start_ (n := 25) (S := fun w' => w'.cell? ⟨b3, 0, none⟩ = some (.int .i64 (wrap64 (a0_0 + a1_0))) ∧ w'.cell? ⟨b3, 1, none⟩ = some (.slice d4 b1.length d3) ∧ w'.cell? ⟨b3, 2, none⟩ = some (b5) ∧ w'.cell? ⟨a8, 0, none⟩ = some (.int .i64 ((rd_T80 l1_2 a3).f0)) ∧ w'.cell? ⟨a8, 1, none⟩ = some (.int .i64 ((rd_T80 l1_2 a3).f1)) ∧ w'.cell? ⟨a8, 2, none⟩ = some (.int .i64 ((rd_T80 l1_2 a3).f2)) ∧ w'.cell? ⟨a9, 0, none⟩ = some (.int .i64 a0_0) ∧ w'.cell? ⟨a9, 1, none⟩ = some (.slice A0_1 l0_1.length c0_1) ∧ w'.cell? ⟨a9, 2, none⟩ = some (.slice A0_2 l0_2.length c0_2) ∧ w'.cell? ⟨b2, 0, none⟩ = some (.int .i64 a1_0) ∧ w'.cell? ⟨b2, 1, none⟩ = some (.slice (some D8) l1_1.length c1_1) ∧ w'.cell? ⟨b2, 2, none⟩ = some (.slice (some t9) l1_2.length c1_2) ∧ w'.cell? (D8.add (((rd_T80 l1_2 a3).f1)).toNat) = some (.string (rdOf ByteArray.empty l1_1 ((rd_T80 l1_2 a3).f1)))) (ds := [24]) (bqz 25 0) (by kernel_rfl) rfl rfl ⟨bcz a4 0 rfl, bcz a4 1 rfl, bcz a4 2 rfl, bcz b8 0 rfl, bcz b8 1 rfl, bcz b8 2 rfl, bcz a0 0 rfl, bcz a0 1 rfl, bcz a0 2 rfl, bcz a1 0 rfl, bcz a1 1 rfl, bcz a1 2 rfl, ((HB.out.cell (World.block_lt_of_cell? w _ e9)).trans e9)⟩ (fun hHeld => ?_); refine with_tabW Pxi.tab15 Pxi.bits15 (fun HT_ HW_ => ?_)
                  generalize J0.drew = w103 at b6 b0 a6 a0 a1 a5 a4 b8 HB g2 hHeld ⊢;refine pqz 0 (some 88) (bqz 25 1) rfl rfl (any_of HT_.out (by kernel_rfl)) ?_ ?_ (fun _ _ _ h => h) (by rfl) ?_ ?_ ?_;rotate_left 2;intro w';go_simp;(with_reducible rfl);simp only [Act.put, qz1, qz2, qz3, i64_w, i32_w];rfl
                  refine pqz 2 (some 90) (bqz 25 5) rfl rfl (any_of HT_.out (by kernel_rfl)) ?_ ?_ (fun _ _ _ h => h) (by rfl) ?_ ?_ ?_;rotate_left 2;intro w';go_simp;(with_reducible rfl);simp only [Act.put, qz1, qz2, qz3, i64_w, i32_w];rfl
                  refine pqz 4 (some 92) (bqz 25 21) rfl rfl (any_of HT_.out (by kernel_rfl)) ?_ ?_ (fun _ _ _ h => h) (by rfl) ?_ ?_ ?_;rotate_left 2;intro w';go_simp;(with_reducible rfl);simp only [Act.put, qz1, qz2, qz3, i64_w, i32_w];rfl
                  refine pqz 7 (some 95) (bqz 25 149) rfl rfl (any_of HT_.out (by kernel_rfl)) ?_ ?_ (fun _ _ _ h => h) (by rfl) ?_ ?_ ?_;rotate_left 2;intro w';go_simp;(with_reducible rfl);simp only [Act.put, qz1, qz2, qz3, i64_w, i32_w];rfl
                  refine pqz 8 (some 96) (bqz 25 405) rfl rfl (any_of HT_.out (by kernel_rfl)) ?_ ?_ (fun _ _ _ h => h) (by rfl) ?_ ?_ ?_;rotate_left 2;intro w';go_simp;(with_reducible rfl);simp only [Act.put, qz1, qz2, qz3, i64_w, i32_w];rfl
                  refine pqz 10 (some 98) (bqz 25 1429) rfl rfl (any_of HT_.out (by kernel_rfl)) ?_ ?_ (fun _ _ _ h => h) (by rfl) ?_ ?_ ?_;rotate_left 2;intro w';go_simp;(with_reducible rfl);simp only [Act.put, qz1, qz2, qz3, i64_w, i32_w];rfl
                  refine pqz 15 (some 103) (bqz 25 34197) rfl rfl (any_of HT_.out (by kernel_rfl)) ?_ ?_ (fun _ _ _ h => h) (by rfl) ?_ ?_ ?_;rotate_left 2;intro w';go_simp;(with_reducible rfl);simp only [Act.put, qz1, qz2, qz3, i64_w, i32_w];rfl
                  refine pqz 17 (some 105) (bqz 25 165269) rfl rfl (any_of HT_.out (by kernel_rfl)) ?_ ?_ (fun _ _ _ h => h) (by rfl) ?_ ?_ ?_;rotate_left 2;intro w';go_simp;(with_reducible rfl);simp only [Act.put, qz1, qz2, qz3, i64_w, i32_w];rfl
                  refine tqz 1 (some 89) (bqz 25 165271) rfl rfl (take_ofW HT_.out HW_.out (by kernel_rfl)) ?_ ?_ (fun _ _ _ h => h) (by rfl) ?_ hHeld ?_ ?_;rotate_left 2;rintro w' ⟨s0, s1, s2, s3, s4, s5, s6, s7, s8, s9, u7, u9, v1⟩;go_simp;(with_reducible rfl);simp only [Act.put, qz1, qz2, qz3, i64_w, i32_w];rfl
                  refine tqz 3 (some 91) (bqz 25 165279) rfl rfl (take_ofW HT_.out HW_.out (by kernel_rfl)) ?_ ?_ (fun _ _ _ h => h) (by rfl) ?_ hHeld ?_ ?_;rotate_left 2;rintro w' ⟨s0, s1, s2, s3, s4, s5, s6, s7, s8, s9, u7, u9, v1⟩;go_simp;(with_reducible rfl);simp only [Act.put, qz1, qz2, qz3, i64_w, i32_w];rfl
                  refine tqz 5 (some 93) (bqz 25 165311) rfl rfl (take_ofW HT_.out HW_.out (by kernel_rfl)) ?_ ?_ (fun _ _ _ h => h) (by rfl) ?_ hHeld ?_ ?_;rotate_left 2;rintro w' ⟨s0, s1, s2, s3, s4, s5, s6, s7, s8, s9, u7, u9, v1⟩;go_simp;(with_reducible rfl);simp only [Act.put, qz1, qz2, qz3, i64_w, i32_w];rfl
                  refine pqz 6 (some 94) (bqz 25 165375) rfl rfl (any_of HT_.out (by kernel_rfl)) ?_ ?_ (fun _ _ _ h => h) (by rfl) ?_ ?_ ?_;rotate_left 2;intro w';go_simp;(with_reducible rfl);simp only [Act.put, qz1, qz2, qz3, i64_w, i32_w];rfl
                  refine tqz 9 (some 97) (bqz 25 165887) rfl rfl (take_ofW HT_.out HW_.out (by kernel_rfl)) ?_ ?_ (fun _ _ _ h => h) (by rfl) ?_ hHeld ?_ ?_;rotate_left 2;rintro w' ⟨s0, s1, s2, s3, s4, s5, s6, s7, s8, s9, u7, u9, v1⟩;go_simp;(with_reducible rfl);simp only [Act.put, qz1, qz2, qz3, i64_w, i32_w];rfl
                  refine tqz 11 (some 99) (bqz 25 167935) rfl rfl (take_ofW HT_.out HW_.out (by kernel_rfl)) ?_ ?_ (fun _ _ _ h => h) (by rfl) ?_ hHeld ?_ ?_;rotate_left 2;rintro w' ⟨s0, s1, s2, s3, s4, s5, s6, s7, s8, s9, u7, u9, v1⟩;go_simp;(with_reducible rfl);simp only [Act.put, qz1, qz2, qz3, i64_w, i32_w];rfl
                  refine pqz 12 (some 100) (bqz 25 172031) rfl rfl (any_of HT_.out (by kernel_rfl)) ?_ ?_ (fun _ _ _ h => h) (by rfl) ?_ ?_ ?_;rotate_left 2;intro w';go_simp;(with_reducible rfl);simp only [Act.put, qz1, qz2, qz3, i64_w, i32_w];rfl
                  refine tqz 13 (some 101) (bqz 25 180223) rfl rfl (take_ofW HT_.out HW_.out (by kernel_rfl)) ?_ ?_ (fun _ _ _ h => h) (by rfl) ?_ hHeld ?_ ?_;rotate_left 2;rintro w' ⟨s0, s1, s2, s3, s4, s5, s6, s7, s8, s9, u7, u9, v1⟩;go_simp;(with_reducible rfl);simp only [Act.put, qz1, qz2, qz3, i64_w, i32_w];rfl
                  refine tqz 16 (some 104) (bqz 25 245759) rfl rfl (take_ofW HT_.out HW_.out (by kernel_rfl)) ?_ ?_ (fun _ _ _ h => h) (by rfl) ?_ hHeld ?_ ?_;rotate_left 2;rintro w' ⟨s0, s1, s2, s3, s4, s5, s6, s7, s8, s9, u7, u9, v1⟩;go_simp;(with_reducible rfl);simp only [Act.put, qz1, qz2, qz3, i64_w, i32_w];rfl
                  refine tqz 18 (some 106) (bqz 25 507903) rfl rfl (take_ofW HT_.out HW_.out (by kernel_rfl)) ?_ ?_ (fun _ _ _ h => h) (by rfl) ?_ hHeld ?_ ?_;rotate_left 2;rintro w' ⟨s0, s1, s2, s3, s4, s5, s6, s7, s8, s9, u7, u9, v1⟩;go_simp;(with_reducible rfl);simp only [Act.put, qz1, qz2, qz3, i64_w, i32_w];rfl
                  refine pqz 19 (some 107) (bqz 25 1032191) rfl rfl (any_of HT_.out (by kernel_rfl)) ?_ ?_ (fun _ _ _ h => h) (by rfl) ?_ ?_ ?_;rotate_left 2;intro w';go_simp;(with_reducible rfl);simp only [Act.put, qz1, qz2, qz3, i64_w, i32_w];rfl
                  refine one_ (i := 14) (N := some 102) (bqz 25 1048575) rfl rfl (one_of HT_.out (by kernel_rfl)) (by decide) (fun K hK => ?_);refine goes_ Try.func97 (by kernel_rfl) rfl #[.slice d4 b1.length d3, .string (rdOf ByteArray.empty l1_1 ((rd_T80 l1_2 a3).f1))] (by rfl) rfl rfl (by (try simp only [List.map_toArray, List.map_cons, List.map_nil]); first | done | rfl | (simp only [List.length_drop, List.length_take]; rfl)) ?_;with_reducible refine (Pxb.calls k4 _ _ b1 (rdOf ByteArray.empty l1_1 ((rd_T80 l1_2 a3).f1)) o5 _ ?j9 ?k2 N3.out).mono ?_
                  (case j9 => repeat (first | exact (Kd.R_reads' b6.out).2.2 | (with_reducible refine Kd.C_alloc ?_ _) | (with_reducible refine Kd.C_drewN ?_ _) | (with_reducible refine Kd.C_drew ?_)))
                  (case k2 => exact (Kd.R_reads' b6.out).2.1)
                  rintro e w' ⟨rfl, ⟨nd, rfl⟩⟩;refine ⟨_, rfl, ?_⟩;refine hK.out _ _ ⟨bcz a4 0 rfl, bcz a4 1 rfl, bcz a4 2 rfl, bcz b8 0 rfl, bcz b8 1 rfl, bcz b8 2 rfl, bcz a0 0 rfl, bcz a0 1 rfl, bcz a0 2 rfl, bcz a1 0 rfl, bcz a1 1 rfl, bcz a1 2 rfl, ((HB.out.cell (World.block_lt_of_cell? w _ e9)).trans e9)⟩ (fun hHeld => ?_);clear hK K;refine norm_ (a' := ?_) ?_ ?_;rotate_left
                  ·show Act.put _ (some 102) _ = _;simp only [Act.put, qz1, qz2, qz3, i64_w, i32_w];rfl
                  refine pqz 20 (some 108) (bqz 25 2097151) rfl rfl (any_of HT_.out (by kernel_rfl)) ?_ ?_ (fun _ _ _ h => h) (by rfl) ?_ ?_ ?_;rotate_left 2;intro w';go_simp;(with_reducible rfl);simp only [Act.put, qz1, qz2, qz3, i64_w, i32_w];rfl
                  refine one_ (i := 21) (N := some 109) (bqz 25 4194303) rfl rfl (one_of HT_.out (by kernel_rfl)) (by decide) (fun K hK => ?_);refine value_ (w1 := ?_) (v := ?_) (by rfl) rfl ?_ ?_;rotate_left 2
                  ·go_simp;constructor
                   ·rfl
                   ·rfl
                  refine hK.out _ _ ⟨(blk_cell (blk_alloc a4.out _) 0).trans rfl, (blk_cell (blk_alloc a4.out _) 1).trans rfl, (blk_cell (blk_alloc a4.out _) 2).trans rfl, (blk_cell (blk_alloc b8.out _) 0).trans rfl, (blk_cell (blk_alloc b8.out _) 1).trans rfl, (blk_cell (blk_alloc b8.out _) 2).trans rfl, (blk_cell (blk_alloc a0.out _) 0).trans rfl, (blk_cell (blk_alloc a0.out _) 1).trans rfl, (blk_cell (blk_alloc a0.out _) 2).trans rfl, (blk_cell (blk_alloc a1.out _) 0).trans rfl, (blk_cell (blk_alloc a1.out _) 1).trans rfl, (blk_cell (blk_alloc a1.out _) 2).trans rfl, (World.cell?_alloc_lt _ _ _ (World.block_lt_of_cell? _ _ (((HB.out.cell (World.block_lt_of_cell? w _ e9)).trans e9)))).trans (((HB.out.cell (World.block_lt_of_cell? w _ e9)).trans e9))⟩ (fun hHeld => ?_);clear hK K;refine norm_ (a' := ?_) ?_ ?_;rotate_left
                  ·show Act.put _ (some 109) _ = _;simp only [Act.put, qz1, qz2, qz3, i64_w, i32_w];rfl
                  refine one_ (i := 22) (N := some 110) (bqz 25 8388607) rfl rfl (one_of HT_.out (by kernel_rfl)) (by decide) (fun K hK => ?_);refine Kd.R_append_step k80 (w0 := w) w.heap.size (by rfl) (.tmp 89) (.tmp 109) 23 80 (.agg #[(.int .i64 0), (.int .i64 0), (.int .i64 0)]) 24 rfl Try.underlying23 info80 rfl (by decide) (by omega) b5 d5 (⟨wrap64 (((rd_T80 l1_2 a3).f0) + a0_0), o5, wrap64 (((rd_T80 l1_2 a3).f2) + a0_0)⟩ : S80) [.int .i64 (wrap64 (((rd_T80 l1_2 a3).f0) + a0_0)), .int .i64 o5, .int .i64 (wrap64 (((rd_T80 l1_2 a3).f2) + a0_0))] (fun k_ => k_ ≠ a8) (fun _ => False) rfl rfl ?aP (fun _ hk => hk.elim) ?aF ?aO ?aB ?aS ?aL ?_
                  (case aP => exact k80_mkM _ _ _ (⟨wrap64 (((rd_T80 l1_2 a3).f0) + a0_0), o5, wrap64 (((rd_T80 l1_2 a3).f2) + a0_0)⟩ : S80))
                  (case aB => exact (wz HB.out))
                  (case aF => exact (fun k_ hk => Kd.freshB (g := a8) (o := .cells #[.int .i64 ((rd_T80 l1_2 a3).f0), .int .i64 ((rd_T80 l1_2 a3).f1), .int .i64 ((rd_T80 l1_2 a3).f2)] 80 (0, 0)) (bz b8.out) k_ hk))
                  (case aO => exact (rz a6.out))
                  (case aS => exact (below_size (wz HB.out)))
                  (case aL => have := G5.out; omega)
                  intro X0 J8 ho hb hg hat;rw [← F9.out] at ho;have d0 := Aside0.mk (Kd.R_over' (rz b6.out) (Kd.R_typed (rz a6.out)) (by decide) hg);have b9 := Aside0.mk (Kd.R_over' (rz b0.out) (Kd.R_typed (rz a6.out)) (by decide) hg);have d2 := Aside0.mk (blk_grown (bz a0.out) hg (Kd.R_ne a6.out a0.out (by decide)));have d1 := Aside0.mk (blk_grown (bz a1.out) hg (Kd.R_ne a6.out a1.out (by decide)));have d6 := Aside0.mk (blk_grown (bz a5.out) hg (Kd.R_ne a6.out a5.out (by decide)));have d7 := Aside0.mk (blk_grown (bz a4.out) hg (Kd.R_ne a6.out a4.out (by decide)));have d8 := Aside0.mk (blk_grown (bz b8.out) hg (Kd.R_away a6.out (fun _ hk => hk)));have e5 := Aside0.mk (hb);have e4 := Aside0.mk (ho);clear b6 b0 a0 a1 a5 a4 b8 HB a6;have b6 := d0;have b0 := b9;have a0 := d2;have a1 := d1;have a5 := d6;have a4 := d7;have b8 := d8;have HB := e5;have C8 := e4;clear d0 b9 d2 d1 d6 d7 d8 e5 e4 ho hb hg hat;obtain ⟨t5, u1, D1⟩ := Kd.R_slice C8.out
                  (first | subst D1 | (injection D1 with f1_ f2_ f3_; have f4_ := f1_.symm; have f5_ := f3_.symm; clear f1_ f2_ f3_; subst f4_; subst f5_))
                  refine hK.out _ _ ⟨bcz a4 0 rfl, bcz a4 1 rfl, bcz a4 2 rfl, bcz b8 0 rfl, bcz b8 1 rfl, bcz b8 2 rfl, bcz a0 0 rfl, bcz a0 1 rfl, bcz a0 2 rfl, bcz a1 0 rfl, bcz a1 1 rfl, bcz a1 2 rfl, ((HB.out.cell (World.block_lt_of_cell? w _ e9)).trans e9)⟩ (fun hHeld => ?_);clear hK K;refine norm_ (a' := ?_) ?_ ?_;rotate_left
                  ·show Act.put _ (some 110) _ = _;simp only [Act.put, qz1, qz2, qz3, i64_w, i32_w];rfl
                  refine pqz 23 (some 111) (bqz 25 16777215) rfl rfl (any_of HT_.out (by kernel_rfl)) ?_ ?_ (fun _ _ _ h => h) (by rfl) ?_ ?_ ?_;rotate_left 2;intro w';go_simp;(with_reducible rfl);simp only [Act.put, qz1, qz2, qz3, i64_w, i32_w];rfl
                  refine last_ (i := 24) (N := none) (bqz 25 33554431) rfl rfl (one_of HT_.out (by kernel_rfl)) (by decide) (fun K hK => ?_);have V6 : J8.cell? ⟨b3, 2, none⟩ = some (b5) := bcz a4 2 rfl;have N4 := blk_frozen a4.out 2;have H9 := f5.out;have H8 := e8.out;have J3 := f4.out;have I3 := t2.out;have I1 := g0.out;have K1 := f7.out;have H6 := f9.out;have H5 := g8.out;refine skip_ (w1 := ?_) (by rfl) rfl ?_ ?_;rotate_left
                  ·go_simp;rfl
                  refine hK.out _ _ ?_;clear hK K;refine done_ (done_of HT_.out (by kernel_rfl)) ?_;try go_wp2
                  go_roundg k4
                  case measure => have := u3.out; have := A3.out; have := D2.out; have := G8.out; omega
                  case rel => exact ⟨(wrap64 (a3 + 1)), (p9), (.slice t5 p9.length u1), (by first | rfl | (simp; done) | (simp [*]; done)), H', ⟨by have := u3.out; have := A3.out; have := D2.out; have := G8.out; omega⟩, ⟨rz (Kd.R_mono (Kd.R_far (p := ⟨b3, 2, none⟩) (Kd.R_types b6.out a4.out (by decide)) (fun _ hk => hk.2) (.slice t5 p9.length u1)) (fun _ hk => trivial))⟩, ⟨rz (Kd.R_mono (Kd.R_far (p := ⟨b3, 2, none⟩) (Kd.R_types b0.out a4.out (by decide)) (fun _ hk => hk.2) (.slice t5 p9.length u1)) (fun _ hk => trivial))⟩, ⟨rz (Kd.R_mono (Kd.R_far (p := ⟨b3, 2, none⟩) (Kd.R_types C8.out a4.out (by decide)) (fun _ hk => hk.2) (.slice t5 p9.length u1)) (fun _ hk => trivial))⟩, ⟨fz a0.out f5.out⟩, ⟨fz a1.out e8.out⟩, ⟨fz a5.out f4.out⟩, ⟨by (with_reducible repeat (first | refine blk_drewN ?_ _ | refine blk_drew ?_ | refine blk_alloc ?_ _)); refine blk_put (cs := #[.int .i64 (wrap64 (a0_0 + a1_0)), .slice d4 b1.length d3, b5]) ?_ 2 _ rfl; (with_reducible repeat (first | refine blk_drewN ?_ _ | refine blk_drew ?_ | refine blk_alloc ?_ _)); exact a4.out⟩, ⟨wz HB.out⟩⟩
                 ·rw [if_neg C7] at H;exact absurd H (by simp)
                ·rw [if_neg D4] at H;exact absurd H (by simp)
               ·rw [if_neg D7] at H;exact absurd H (by simp)
              ·rw [if_neg D6] at H;exact absurd H (by simp)
             ·rw [if_neg C9] at H;exact absurd H (by simp)
            ·rw [if_neg x5] at H;have c89b0 : decide (a3 < (l1_2.length : Int)) = false := decide_eq_false x5;clear x5;simp only [Option.some.injEq, Prod.mk.injEq] at H;obtain ⟨rfl, rfl, rfl, rfl⟩ := H;have N1 := g0.out;have M8 := f5.out;have N6 := f7.out;have N5 := e8.out;have L6 := f9.out;have M5 := f4.out;have I4 : wr.cell? ⟨b3, 0, none⟩ = some (.int .i64 (wrap64 (a0_0 + a1_0))) := bcz a4 0 rfl;have I7 : wr.cell? ⟨b3, 1, none⟩ = some (.slice d4 b1.length d3) := bcz a4 1 rfl;have J2 : wr.cell? ⟨b3, 2, none⟩ = some (b5) := bcz a4 2 rfl;have J5 := blk_frozen a4.out 0;have I8 := blk_frozen a4.out 1;have I2 := blk_frozen a4.out 2;have L7 := d9.out;have M2 := e0.out;have M3 := e1.out;have M6 := e3.out;have H3 : wr.cell? ⟨b4, 0, none⟩ = some (.int .i64 0) := bcz a5 0 rfl;have J9 : wr.cell? ⟨b4, 1, none⟩ = some (.slice none 0 0) := bcz a5 1 rfl;have I0 : wr.cell? ⟨b4, 2, none⟩ = some (.slice none 0 0) := bcz a5 2 rfl;have I9 := blk_frozen a5.out 0;have K0 := blk_frozen a5.out 1;have J7 := blk_frozen a5.out 2;obtain ⟨z4, z6, G3⟩ := Kd.R_slice a6.out;subst G3;go_wp2
             refine bodyPost_ret (results_ct rfl _ _ b4 25 #[.int .i64 (wrap64 (a0_0 + a1_0)), .slice d4 b1.length d3, .slice z4 d5.length z6] (0, 0) _ rfl (by (with_reducible repeat (first | refine blk_drewN ?_ _ | refine blk_drew ?_ | refine blk_alloc ?_ _)); refine blk_put (cs := #[.int .i64 (wrap64 (a0_0 + a1_0)), .slice d4 b1.length d3, .slice none 0 0]) ?_ 2 _ rfl; (with_reducible repeat (first | refine blk_drewN ?_ _ | refine blk_drew ?_ | refine blk_alloc ?_ _)); refine blk_put (cs := #[.int .i64 (wrap64 (a0_0 + a1_0)), .slice none 0 0, .slice none 0 0]) ?_ 1 _ rfl; (with_reducible repeat (first | refine blk_drewN ?_ _ | refine blk_drew ?_ | refine blk_alloc ?_ _)); refine blk_put (cs := #[.int .i64 0, .slice none 0 0, .slice none 0 0]) ?_ 0 _ rfl; (with_reducible repeat (first | refine blk_drewN ?_ _ | refine blk_drew ?_ | refine blk_alloc ?_ _)); exact a5.out) Try.underlying25 rfl (by kernel_rfl)) rfl ?_;exact ⟨_, _, by first | rfl | (simp [errW_none, errW_some] <;> rfl) | (simp [*, errW_none, errW_some] <;> rfl), rz (Kd.R_mono (Kd.R_far (p := ⟨b4, 2, none⟩) (Kd.R_far (p := ⟨b4, 1, none⟩) (Kd.R_far (p := ⟨b4, 0, none⟩) (Kd.R_types b0.out a5.out (by decide)) (fun _ hk => hk.2) (.int .i64 (wrap64 (a0_0 + a1_0)))) (fun _ hk => hk.2) (.slice d4 b1.length d3)) (fun _ hk => hk.2) (.slice z4 d5.length z6)) (fun _ hk => trivial)), rz (Kd.R_mono (Kd.R_far (p := ⟨b4, 2, none⟩) (Kd.R_far (p := ⟨b4, 1, none⟩) (Kd.R_far (p := ⟨b4, 0, none⟩) (Kd.R_types a6.out a5.out (by decide)) (fun _ hk => hk.2) (.int .i64 (wrap64 (a0_0 + a1_0)))) (fun _ hk => hk.2) (.slice d4 b1.length d3)) (fun _ hk => hk.2) (.slice z4 d5.length z6)) (fun _ hk => trivial)), wz HB.out⟩
end Go.Proofs.Ytmcbkmfpmcbdpaa.Pr
namespace Go.Proofs.Ytmcbkmfpmcbdpaa.Pr
open Go.RowKit Go.Proofs.YtmcbkmfpmcbdpaaW.PrintWords Go.Proofs.YtmcbkmfpmcbdpaaW.PrintLast Go.Proofs.YtmcbkmfpmcbdpaaW.PrintMore
attribute [local go_sem] max2_int min2_int max_two min_two max_three min_three max_four min_four
set_option linter.unusedVariables false
set_option linter.unusedSimpArgs false
mutual
def Pl36a.j0 : Nat → List Int → Bool → Int → List ByteArray → List (S80) → Option (Bool)
 | 0, _, _, _, _, _ => none
 | k + 1, x1, x32, x405000, x405001, x405002 => if x32 = true then ((Pl36b.f k).bind fun t408 => (some t408)) else ((Pxl.f k x405000 x405001 x405002 x1).bind fun bt409 => ((Pxi.f k x405000 x405001 x405002 bt409.1 bt409.2.1 bt409.2.2.1).bind fun bt418 => (if bt409.2.2.2 = 0 then (Pl36a.j1 k x1 (bt418.2.2.2 != 0) x405000 x405001 x405002 bt418.1 bt418.2.1 bt418.2.2.1) else (Pl36a.j1 k x1 true x405000 x405001 x405002 bt418.1 bt418.2.1 bt418.2.2.1))))
def Pl36a.j1 : Nat → List Int → Bool → Int → List ByteArray → List (S80) → Int → List ByteArray → List (S80) → Option (Bool)
 | 0, _, _, _, _, _, _, _, _ => none
 | k + 1, x1, x51, x405000, x405001, x405002, x427000, x427001, x427002 => if x51 = true then (some false) else ((Pr31b.f k x1).bind fun t430 => (Pl36a.l0 k (([] : List (S71))) t430 0 x405000 x405001 x405002 x427000 x427001 x427002))
def Pl36a.l0 : Nat → List (S71) → List Int → Int → Int → List ByteArray → List (S80) → Int → List ByteArray → List (S80) → Option (Bool)
 | 0, _, _, _, _, _, _, _, _, _ => none
 | k + 1, x9, x10, x11, x405000, x405001, x405002, x427000, x427001, x427002 => if x11 < (x10.length : Int) then (if 0 ≤ x11 then (if x9.length < 8796093022208 then (Pl36a.l0 k (x9 ++ [(⟨x11, wrap64 (x405000 + (rd x10 x11))⟩ : S71)]) x10 (wrap64 (x11 + 1)) x405000 x405001 x405002 x427000 x427001 x427002) else (none)) else (none)) else ((Pxk.f x427000 x427001 x427002 x9).bind fun t437 => (if t437 = true then ((Pl36b.f k).bind fun t438 => (some t438)) else (some false)))
end
def Pl36a.f (k : Nat) (a0_0 : Int) (l0_1 : List ByteArray) (l0_2 : List (S80)) (l1 : List Int) : Option (Bool) := (Pl33a.f k a0_0 l0_1 l0_2).bind fun t405 => (if t405 = true then (if (l1.length : Int) = a0_0 then ((Pr26c.f a0_0 l0_1 l0_2).bind fun t406 => (if t406 = true then ((Pr32a.f k a0_0 l0_1 l0_2 l1).bind fun t407 => (Pl36a.j0 k l1 (!t407) a0_0 l0_1 l0_2)) else (Pl36a.j0 k l1 true a0_0 l0_1 l0_2))) else (Pl36a.j0 k l1 true a0_0 l0_1 l0_2)) else (Pl36a.j0 k l1 true a0_0 l0_1 l0_2))
theorem Pl36a.mono_l : ∀ k, (∀ y0 y1 y2 y3 y4, LeO (Pl36a.j0 k y0 y1 y2 y3 y4) (Pl36a.j0 (k + 1) y0 y1 y2 y3 y4)) ∧ (∀ y0 y1 y2 y3 y4 y5 y6 y7, LeO (Pl36a.j1 k y0 y1 y2 y3 y4 y5 y6 y7) (Pl36a.j1 (k + 1) y0 y1 y2 y3 y4 y5 y6 y7)) ∧ (∀ y0 y1 y2 y3 y4 y5 y6 y7 y8, LeO (Pl36a.l0 k y0 y1 y2 y3 y4 y5 y6 y7 y8) (Pl36a.l0 (k + 1) y0 y1 y2 y3 y4 y5 y6 y7 y8))
 | 0 => ⟨fun _ _ _ _ _ r h => by simp [Pl36a.j0] at h, fun _ _ _ _ _ _ _ _ r h => by simp [Pl36a.j1] at h, fun _ _ _ _ _ _ _ _ _ r h => by simp [Pl36a.l0] at h⟩
 | k + 1 => by
  obtain ⟨ih0, ih1, ih2⟩ := Pl36a.mono_l k
  refine ⟨?_, ?_, ?_⟩
  ·intro y0 y1 y2 y3 y4
   unfold Pl36a.j0
   repeat' first
   | (with_reducible exact ih0 _ _ _ _ _)
   | (with_reducible exact ih1 _ _ _ _ _ _ _ _)
   | (with_reducible exact ih2 _ _ _ _ _ _ _ _ _)
   | (with_reducible exact Pxl.mono _ _ _ _ _)
   | (with_reducible exact Pl33a.mono _ _ _ _)
   | (with_reducible exact Pl36b.mono _)
   | (with_reducible exact Pr31b.mono _ _)
   | (with_reducible exact Pr32a.mono _ _ _ _ _)
   | (with_reducible exact Pxi.mono _ _ _ _ _ _ _)
   | (with_reducible exact LeO.refl _)
   | (with_reducible exact LeO.none _)
   | (with_reducible refine LeO.ite ?_ ?_)
   | (with_reducible refine LeO.bind ?_ (fun _ => ?_))
   | exact ih0 _ _ _ _ _
   | exact ih1 _ _ _ _ _ _ _ _
   | exact ih2 _ _ _ _ _ _ _ _ _
   | exact Pxl.mono _ _ _ _ _
   | exact Pl33a.mono _ _ _ _
   | exact Pl36b.mono _
   | exact Pr31b.mono _ _
   | exact Pr32a.mono _ _ _ _ _
   | exact Pxi.mono _ _ _ _ _ _ _
   | exact LeO.none _
   | refine LeO.ite ?_ ?_
   | refine LeO.bind ?_ (fun _ => ?_)
  ·intro y0 y1 y2 y3 y4 y5 y6 y7
   unfold Pl36a.j1
   repeat' first
   | (with_reducible exact ih0 _ _ _ _ _)
   | (with_reducible exact ih1 _ _ _ _ _ _ _ _)
   | (with_reducible exact ih2 _ _ _ _ _ _ _ _ _)
   | (with_reducible exact Pxl.mono _ _ _ _ _)
   | (with_reducible exact Pl33a.mono _ _ _ _)
   | (with_reducible exact Pl36b.mono _)
   | (with_reducible exact Pr31b.mono _ _)
   | (with_reducible exact Pr32a.mono _ _ _ _ _)
   | (with_reducible exact Pxi.mono _ _ _ _ _ _ _)
   | (with_reducible exact LeO.refl _)
   | (with_reducible exact LeO.none _)
   | (with_reducible refine LeO.ite ?_ ?_)
   | (with_reducible refine LeO.bind ?_ (fun _ => ?_))
   | exact ih0 _ _ _ _ _
   | exact ih1 _ _ _ _ _ _ _ _
   | exact ih2 _ _ _ _ _ _ _ _ _
   | exact Pxl.mono _ _ _ _ _
   | exact Pl33a.mono _ _ _ _
   | exact Pl36b.mono _
   | exact Pr31b.mono _ _
   | exact Pr32a.mono _ _ _ _ _
   | exact Pxi.mono _ _ _ _ _ _ _
   | exact LeO.none _
   | refine LeO.ite ?_ ?_
   | refine LeO.bind ?_ (fun _ => ?_)
  ·intro y0 y1 y2 y3 y4 y5 y6 y7 y8
   unfold Pl36a.l0
   repeat' first
   | (with_reducible exact ih0 _ _ _ _ _)
   | (with_reducible exact ih1 _ _ _ _ _ _ _ _)
   | (with_reducible exact ih2 _ _ _ _ _ _ _ _ _)
   | (with_reducible exact Pxl.mono _ _ _ _ _)
   | (with_reducible exact Pl33a.mono _ _ _ _)
   | (with_reducible exact Pl36b.mono _)
   | (with_reducible exact Pr31b.mono _ _)
   | (with_reducible exact Pr32a.mono _ _ _ _ _)
   | (with_reducible exact Pxi.mono _ _ _ _ _ _ _)
   | (with_reducible exact LeO.refl _)
   | (with_reducible exact LeO.none _)
   | (with_reducible refine LeO.ite ?_ ?_)
   | (with_reducible refine LeO.bind ?_ (fun _ => ?_))
   | exact ih0 _ _ _ _ _
   | exact ih1 _ _ _ _ _ _ _ _
   | exact ih2 _ _ _ _ _ _ _ _ _
   | exact Pxl.mono _ _ _ _ _
   | exact Pl33a.mono _ _ _ _
   | exact Pl36b.mono _
   | exact Pr31b.mono _ _
   | exact Pr32a.mono _ _ _ _ _
   | exact Pxi.mono _ _ _ _ _ _ _
   | exact LeO.none _
   | refine LeO.ite ?_ ?_
   | refine LeO.bind ?_ (fun _ => ?_)
theorem Pl36a.mono : ∀ a0 a1 a2 a3 k, LeO (Pl36a.f k a0 a1 a2 a3) (Pl36a.f (k + 1) a0 a1 a2 a3) := by
 intro a0 a1 a2 a3 k
 obtain ⟨ih0, ih1, ih2⟩ := Pl36a.mono_l k
 unfold Pl36a.f
 repeat' first
   | (with_reducible exact ih0 _ _ _ _ _)
   | (with_reducible exact ih1 _ _ _ _ _ _ _ _)
   | (with_reducible exact ih2 _ _ _ _ _ _ _ _ _)
   | (with_reducible exact Pxl.mono _ _ _ _ _)
   | (with_reducible exact Pl33a.mono _ _ _ _)
   | (with_reducible exact Pl36b.mono _)
   | (with_reducible exact Pr31b.mono _ _)
   | (with_reducible exact Pr32a.mono _ _ _ _ _)
   | (with_reducible exact Pxi.mono _ _ _ _ _ _ _)
   | (with_reducible exact LeO.refl _)
   | (with_reducible exact LeO.none _)
   | (with_reducible refine LeO.ite ?_ ?_)
   | (with_reducible refine LeO.bind ?_ (fun _ => ?_))
   | exact ih0 _ _ _ _ _
   | exact ih1 _ _ _ _ _ _ _ _
   | exact ih2 _ _ _ _ _ _ _ _ _
   | exact Pxl.mono _ _ _ _ _
   | exact Pl33a.mono _ _ _ _
   | exact Pl36b.mono _
   | exact Pr31b.mono _ _
   | exact Pr32a.mono _ _ _ _ _
   | exact Pxi.mono _ _ _ _ _ _ _
   | exact LeO.none _
   | refine LeO.ite ?_ ?_
   | refine LeO.bind ?_ (fun _ => ?_)
def Pl36a.T12 : Bool × List (List Nat × List Nat) := (true, [([], []), ([], []), ([], []), ([2], [2]), ([], []), ([], []), ([4, 5], [4, 5]), ([6], [6]), ([3, 7], [3, 7]), ([1, 8], [1, 8]), ([9], [9]), ([0, 10], [0, 10]), ([11, 11, 0, 1, 2, 3, 4, 5, 6, 7, 8, 9, 10, 11], [0, 11])])
def Pl36a.B12 : List Nat := [0, 0, 0, 4, 0, 0, 48, 112, 252, 510, 1022, 2047, 4095]
theorem Pl36a.tab12 : rtab .any (opsOf Try.f14 12) = Pl36a.T12 := by kernel_rfl
theorem Pl36a.bits12 : waitsOk Pl36a.T12.2 Pl36a.B12 = true := by kernel_rfl
set_option maxHeartbeats 8000000 in
set_option maxRecDepth 100000 in
theorem Pl36a.calls (k : Nat) (a0_0 : Int) (A0_1 : Option Addr) (c0_1 : Nat) (l0_1 : List ByteArray) (A0_2 : Option Addr) (c0_2 : Nat) (l0_2 : List (S80)) (A1 : Option Addr) (c1 : Nat) (l1 : List Int) (r : Bool) (w : World) (hr0_1 : Kd.C Kd.string w A0_1 l0_1.length l0_1) (hc0_1 : l0_1.length ≤ c0_1) (hr0_2 : Kd.C k80 w A0_2 l0_2.length l0_2) (hc0_2 : l0_2.length ≤ c0_2) (hr1 : Kd.C (Kd.int .i64) w A1 l1.length l1) (hc1 : l1.length ≤ c1) (h : Pl36a.f k a0_0 l0_1 l0_2 l1 = some r) (hr_ : Aside0 (r = true)) :
  Calls Try.prog 14 #[.agg #[.int .i64 a0_0, .slice A0_1 l0_1.length c0_1, .slice A0_2 l0_2.length c0_2], .slice A1 l1.length c1] w fun e w' => e = .returned (.bool r) ∧ Below w.heap.size w w' := by
 have B4 := Try.underlying25;have C0 := Try.underlying71;have f4 := Aside0.mk hr0_1;have f8 := Aside0.mk hc0_1;clear hr0_1 hc0_1;have f7 := Aside0.mk hr0_2;have f9 := Aside0.mk hc0_2;clear hr0_2 hc0_2;have t4 := Aside0.mk hr1;have s7 := Aside0.mk hc1;clear hr1 hc1;have HB := Aside0.mk (Below.refl w.heap.size w);have H : ((Pl33a.f k a0_0 l0_1 l0_2).bind fun q9 => (if q9 = true then (if (l1.length : Int) = a0_0 then ((Pr26c.f a0_0 l0_1 l0_2).bind fun g3 => (if g3 = true then ((Pr32a.f k a0_0 l0_1 l0_2 l1).bind fun f0 => (Pl36a.j0 k l1 (!f0) a0_0 l0_1 l0_2)) else (Pl36a.j0 k l1 true a0_0 l0_1 l0_2))) else (Pl36a.j0 k l1 true a0_0 l0_1 l0_2)) else (Pl36a.j0 k l1 true a0_0 l0_1 l0_2))) = some r := h;clear h;have s6 := Aside0.mk H;clear H;go_enter Try.func14, Try.ntmps14
 go_upto_region 1 with (first | ((with_reducible refine gate_dst (N := 2) rfl ?_); (try (refine gate_guard (by rfl) ?_; dsimp only)); refine box_event ?hg (N := 2) ?hd (cs := #[.int .i64 a0_0, .slice A0_1 l0_1.length c0_1, .slice A0_2 l0_2.length c0_2]) (t := 25) ?hr ?_; (case hd => rfl); (case hg => rfl); (case hr => first | (go_simp; done) | (go_simp; rfl)); intro a1 hg w4 hbox hb; have b0 := Aside0.mk (below_step (wz HB.out) hb); have a9 := Aside0.mk (hbox); have b7 := Aside0.mk ((by rw [hg]; exact (below_size (wz HB.out)) : w.heap.size ≤ a1)); have b6 := Aside0.mk ((by rw [hg]; exact (below_size (wz HB.out)) : w.heap.size ≤ a1)); clear HB; have HB := b0; have a0 := a9; have z6 := b7; have z9 := b6; clear b0 a9 b7 b6 hb hbox hg))
 (try simp only [Act.put, qz1, qz2, qz3])
 go_cut [32] (fun y6 wc => ∃ (kq : Nat) (n2 : Bool), y6 = .bool n2 ∧ Aside0 (Pl36a.j0 kq l1 n2 a0_0 l0_1 l0_2 = some r) ∧ Aside0 (kq ≤ k) ∧ Aside0 (wc.heap[a1]? = some (.cells #[.int .i64 a0_0, (.slice A0_1 l0_1.length c0_1), (.slice A0_2 l0_2.length c0_2)] 25 (0, 0))) ∧ Aside0 (Below w.heap.size w wc))
 case first =>
  have H := s6.out;clear s6;replace H := Option.bind_eq_some_iff.mp H;obtain ⟨q9, w2, H⟩ := H;replace H : (if q9 = true then (if (l1.length : Int) = a0_0 then ((Pr26c.f a0_0 l0_1 l0_2).bind fun g3 => (if g3 = true then ((Pr32a.f k a0_0 l0_1 l0_2 l1).bind fun f0 => (Pl36a.j0 k l1 (!f0) a0_0 l0_1 l0_2)) else (Pl36a.j0 k l1 true a0_0 l0_1 l0_2))) else (Pl36a.j0 k l1 true a0_0 l0_1 l0_2)) else (Pl36a.j0 k l1 true a0_0 l0_1 l0_2)) = some r := H;have A5 := Aside0.mk w2;clear w2;by_cases c6 : q9 = true
  ·subst c6;have H1 : (if (l1.length : Int) = a0_0 then ((Pr26c.f a0_0 l0_1 l0_2).bind fun g3 => (if g3 = true then ((Pr32a.f k a0_0 l0_1 l0_2 l1).bind fun f0 => (Pl36a.j0 k l1 (!f0) a0_0 l0_1 l0_2)) else (Pl36a.j0 k l1 true a0_0 l0_1 l0_2))) else (Pl36a.j0 k l1 true a0_0 l0_1 l0_2)) = some r := by rw [if_pos rfl] at H; exact H
   clear H;have H := H1;clear H1;by_cases c7 : (l1.length : Int) = a0_0
   ·rw [if_pos c7] at H;have c7b0 : ((l1.length : Int) == a0_0) = true := beq_iff_eq.mpr c7;have c7b1 : ((l1.length : Int) != a0_0) = false := bne_eq_false_iff_eq.mpr c7;clear c7
    (first | rw [c7b0] | (simp only [i64_w, i32_w]; rw [c7b0]) | skip)
    replace H := Option.bind_eq_some_iff.mp H;obtain ⟨g3, v7, H⟩ := H;replace H : (if g3 = true then ((Pr32a.f k a0_0 l0_1 l0_2 l1).bind fun f0 => (Pl36a.j0 k l1 (!f0) a0_0 l0_1 l0_2)) else (Pl36a.j0 k l1 true a0_0 l0_1 l0_2)) = some r := H;have A8 := Aside0.mk v7;clear v7;by_cases c9 : g3 = true
    ·subst c9;have H1 : ((Pr32a.f k a0_0 l0_1 l0_2 l1).bind fun f0 => (Pl36a.j0 k l1 (!f0) a0_0 l0_1 l0_2)) = some r := by rw [if_pos rfl] at H; exact H
     clear H;have H := H1;clear H1;replace H := Option.bind_eq_some_iff.mp H;obtain ⟨f0, t6, H⟩ := H;replace H : (Pl36a.j0 k l1 (!f0) a0_0 l0_1 l0_2) = some r := H;have y4 := Aside0.mk t6;clear t6;have H' := Aside0.mk H;clear H;have m2 : w4.cell? ⟨a1, 0, none⟩ = some (.int .i64 a0_0) := bcz a0 0 rfl;have i2 : w4.cell? ⟨a1, 1, none⟩ = some (.slice A0_1 l0_1.length c0_1) := bcz a0 1 rfl;have h3 : w4.cell? ⟨a1, 2, none⟩ = some (.slice A0_2 l0_2.length c0_2) := bcz a0 2 rfl;have k1 := blk_frozen a0.out 0;have l4 := blk_frozen a0.out 1;have k9 := blk_frozen a0.out 2;go_wp2_with (first | ((with_reducible refine gate_callee (f := 15) rfl ?_); refine goesL_ (some 13) rfl rfl Try.func15 (by kernel_rfl) rfl #[.agg #[.int .i64 a0_0, .slice A0_1 l0_1.length c0_1, .slice A0_2 l0_2.length c0_2]] rfl (by (try simp only [List.map_toArray, List.map_cons, List.map_nil]); first | done | rfl | (simp only [List.length_drop, List.length_take]; rfl)) ?_; (with_reducible refine (Pl33a.calls k a0_0 _ _ l0_1 _ _ l0_2 true _ ?f1 ?f2 ?f6 ?f5 A5.out).mono ?_); (case f1 => exact cz f4.out HB.out); (case f2 => exact f8.out); (case f6 => exact cz f7.out HB.out); (case f5 => exact f9.out); rintro e s8 ⟨rfl, hb⟩; refine ⟨_, rfl, ?_⟩; have b0 := Aside0.mk (blk_below (bz a0.out) hb); have a9 := Aside0.mk (below_step (wz HB.out) hb); clear a0; clear HB; have a0 := b0; have HB := a9; clear b0 a9; (try clear hb); (try clear g2); (try clear hk); (try clear hi); have l3 : s8.cell? ⟨a1, 0, none⟩ = some (.int .i64 a0_0) := bcz a0 0 rfl; have i0 : s8.cell? ⟨a1, 1, none⟩ = some (.slice A0_1 l0_1.length c0_1) := bcz a0 1 rfl; have k0 : s8.cell? ⟨a1, 2, none⟩ = some (.slice A0_2 l0_2.length c0_2) := bcz a0 2 rfl; have l9 := blk_frozen a0.out 0; have h5 := blk_frozen a0.out 1; have j3 := blk_frozen a0.out 2) | (go_at_call 18; (with_reducible refine (Pr26c.calls a0_0 _ _ l0_1 _ _ l0_2 true _ ?f1 ?f2 ?f6 ?f5 A8.out).mono ?_); (case f1 => exact cz f4.out HB.out); (case f2 => exact f8.out); (case f6 => exact cz f7.out HB.out); (case f5 => exact f9.out); rintro e u2 ⟨rfl, hb⟩; have b0 := Aside0.mk (blk_below (bz a0.out) hb); have a9 := Aside0.mk (below_step (wz HB.out) hb); clear a0; clear HB; have a0 := b0; have HB := a9; clear b0 a9; (try clear hb); (try clear g2); (try clear hk); (try clear hi); have h8 : u2.cell? ⟨a1, 0, none⟩ = some (.int .i64 a0_0) := bcz a0 0 rfl; have k8 : u2.cell? ⟨a1, 1, none⟩ = some (.slice A0_1 l0_1.length c0_1) := bcz a0 1 rfl; have l7 : u2.cell? ⟨a1, 2, none⟩ = some (.slice A0_2 l0_2.length c0_2) := bcz a0 2 rfl; have m4 := blk_frozen a0.out 0; have l8 := blk_frozen a0.out 1; have j5 := blk_frozen a0.out 2) | (go_at_call 62; (with_reducible refine (Pr32a.calls k a0_0 _ _ l0_1 _ _ l0_2 _ _ l1 f0 _ ?f1 ?f2 ?f6 ?f5 ?q6 ?q8 y4.out).mono ?_); (case f1 => exact cz f4.out HB.out); (case f2 => exact f8.out); (case f6 => exact cz f7.out HB.out); (case f5 => exact f9.out); (case q6 => exact cz t4.out HB.out); (case q8 => exact s7.out); rintro e C8 ⟨rfl, hb⟩; have b0 := Aside0.mk (blk_below (bz a0.out) hb); have a9 := Aside0.mk (below_step (wz HB.out) hb); clear a0; clear HB; have a0 := b0; have HB := a9; clear b0 a9; (try clear hb); (try clear g2); (try clear hk); (try clear hi)))
     go_meet
     case rel => exact ⟨_, (!f0), (by first | rfl | (simp; done) | (simp [*]; done)), H', ⟨by first | omega | exact Nat.le_refl _⟩, ⟨bz a0.out⟩, ⟨wz HB.out⟩⟩
    ·replace c9 := Bool.eq_false_iff.mpr c9;subst c9;have H1 : (Pl36a.j0 k l1 true a0_0 l0_1 l0_2) = some r := by rw [if_neg (show ¬ (false = true) by decide)] at H; exact H
     clear H;have H := H1;clear H1;have H' := Aside0.mk H;clear H;have h9 : w4.cell? ⟨a1, 0, none⟩ = some (.int .i64 a0_0) := bcz a0 0 rfl;have m1 : w4.cell? ⟨a1, 1, none⟩ = some (.slice A0_1 l0_1.length c0_1) := bcz a0 1 rfl;have j9 : w4.cell? ⟨a1, 2, none⟩ = some (.slice A0_2 l0_2.length c0_2) := bcz a0 2 rfl;have l5 := blk_frozen a0.out 0;have m8 := blk_frozen a0.out 1;have j6 := blk_frozen a0.out 2;go_wp2_with (first | ((with_reducible refine gate_callee (f := 15) rfl ?_); refine goesL_ (some 13) rfl rfl Try.func15 (by kernel_rfl) rfl #[.agg #[.int .i64 a0_0, .slice A0_1 l0_1.length c0_1, .slice A0_2 l0_2.length c0_2]] rfl (by (try simp only [List.map_toArray, List.map_cons, List.map_nil]); first | done | rfl | (simp only [List.length_drop, List.length_take]; rfl)) ?_; (with_reducible refine (Pl33a.calls k a0_0 _ _ l0_1 _ _ l0_2 true _ ?f1 ?f2 ?f6 ?f5 A5.out).mono ?_); (case f1 => exact cz f4.out HB.out); (case f2 => exact f8.out); (case f6 => exact cz f7.out HB.out); (case f5 => exact f9.out); rintro e u4 ⟨rfl, hb⟩; refine ⟨_, rfl, ?_⟩; have b0 := Aside0.mk (blk_below (bz a0.out) hb); have a9 := Aside0.mk (below_step (wz HB.out) hb); clear a0; clear HB; have a0 := b0; have HB := a9; clear b0 a9; (try clear hb); (try clear g2); (try clear hk); (try clear hi); have l6 : u4.cell? ⟨a1, 0, none⟩ = some (.int .i64 a0_0) := bcz a0 0 rfl; have i1 : u4.cell? ⟨a1, 1, none⟩ = some (.slice A0_1 l0_1.length c0_1) := bcz a0 1 rfl; have i7 : u4.cell? ⟨a1, 2, none⟩ = some (.slice A0_2 l0_2.length c0_2) := bcz a0 2 rfl; have i5 := blk_frozen a0.out 0; have j4 := blk_frozen a0.out 1; have h6 := blk_frozen a0.out 2) | (go_at_call 18; (with_reducible refine (Pr26c.calls a0_0 _ _ l0_1 _ _ l0_2 false _ ?f1 ?f2 ?f6 ?f5 A8.out).mono ?_); (case f1 => exact cz f4.out HB.out); (case f2 => exact f8.out); (case f6 => exact cz f7.out HB.out); (case f5 => exact f9.out); rintro e D3 ⟨rfl, hb⟩; have b0 := Aside0.mk (blk_below (bz a0.out) hb); have a9 := Aside0.mk (below_step (wz HB.out) hb); clear a0; clear HB; have a0 := b0; have HB := a9; clear b0 a9; (try clear hb); (try clear g2); (try clear hk); (try clear hi)))
     go_meet
     case rel => exact ⟨_, (true), (by first | rfl | (simp; done) | (simp [*]; done)), H', ⟨by first | omega | exact Nat.le_refl _⟩, ⟨bz a0.out⟩, ⟨wz HB.out⟩⟩
   ·rw [if_neg c7] at H;have c7b0 : ((l1.length : Int) == a0_0) = false := beq_eq_false_iff_ne.mpr c7;have c7b1 : ((l1.length : Int) != a0_0) = true := bne_iff_ne.mpr c7
    (first | rw [c7b0] | (simp only [i64_w, i32_w]; rw [c7b0]) | skip)
    have H' := Aside0.mk H;clear H;have k2 : w4.cell? ⟨a1, 0, none⟩ = some (.int .i64 a0_0) := bcz a0 0 rfl;have k5 : w4.cell? ⟨a1, 1, none⟩ = some (.slice A0_1 l0_1.length c0_1) := bcz a0 1 rfl;have h7 : w4.cell? ⟨a1, 2, none⟩ = some (.slice A0_2 l0_2.length c0_2) := bcz a0 2 rfl;have j2 := blk_frozen a0.out 0;have k6 := blk_frozen a0.out 1;have j7 := blk_frozen a0.out 2;go_wp2_with (first | ((with_reducible refine gate_callee (f := 15) rfl ?_); refine goesL_ (some 13) rfl rfl Try.func15 (by kernel_rfl) rfl #[.agg #[.int .i64 a0_0, .slice A0_1 l0_1.length c0_1, .slice A0_2 l0_2.length c0_2]] rfl (by (try simp only [List.map_toArray, List.map_cons, List.map_nil]); first | done | rfl | (simp only [List.length_drop, List.length_take]; rfl)) ?_; (with_reducible refine (Pl33a.calls k a0_0 _ _ l0_1 _ _ l0_2 true _ ?f1 ?f2 ?f6 ?f5 A5.out).mono ?_); (case f1 => exact cz f4.out HB.out); (case f2 => exact f8.out); (case f6 => exact cz f7.out HB.out); (case f5 => exact f9.out); rintro e u8 ⟨rfl, hb⟩; refine ⟨_, rfl, ?_⟩; have b0 := Aside0.mk (blk_below (bz a0.out) hb); have a9 := Aside0.mk (below_step (wz HB.out) hb); clear a0; clear HB; have a0 := b0; have HB := a9; clear b0 a9; (try clear hb); (try clear g2); (try clear hk); (try clear hi); have j8 : u8.cell? ⟨a1, 0, none⟩ = some (.int .i64 a0_0) := bcz a0 0 rfl; have m5 : u8.cell? ⟨a1, 1, none⟩ = some (.slice A0_1 l0_1.length c0_1) := bcz a0 1 rfl; have m7 : u8.cell? ⟨a1, 2, none⟩ = some (.slice A0_2 l0_2.length c0_2) := bcz a0 2 rfl; have k7 := blk_frozen a0.out 0; have i9 := blk_frozen a0.out 1; have m6 := blk_frozen a0.out 2))
    go_meet
    case rel => exact ⟨_, (true), (by first | rfl | (simp; done) | (simp [*]; done)), H', ⟨by first | omega | exact Nat.le_refl _⟩, ⟨bz a0.out⟩, ⟨wz HB.out⟩⟩
  ·replace c6 := Bool.eq_false_iff.mpr c6;subst c6;have H1 : (Pl36a.j0 k l1 true a0_0 l0_1 l0_2) = some r := by rw [if_neg (show ¬ (false = true) by decide)] at H; exact H
   clear H;have H := H1;clear H1;have H' := Aside0.mk H;clear H;have m0 : w4.cell? ⟨a1, 0, none⟩ = some (.int .i64 a0_0) := bcz a0 0 rfl;have i3 : w4.cell? ⟨a1, 1, none⟩ = some (.slice A0_1 l0_1.length c0_1) := bcz a0 1 rfl;have i8 : w4.cell? ⟨a1, 2, none⟩ = some (.slice A0_2 l0_2.length c0_2) := bcz a0 2 rfl;have h4 := blk_frozen a0.out 0;have k4 := blk_frozen a0.out 1;have m3 := blk_frozen a0.out 2;go_wp2_with (first | ((with_reducible refine gate_callee (f := 15) rfl ?_); refine goesL_ (some 13) rfl rfl Try.func15 (by kernel_rfl) rfl #[.agg #[.int .i64 a0_0, .slice A0_1 l0_1.length c0_1, .slice A0_2 l0_2.length c0_2]] rfl (by (try simp only [List.map_toArray, List.map_cons, List.map_nil]); first | done | rfl | (simp only [List.length_drop, List.length_take]; rfl)) ?_; (with_reducible refine (Pl33a.calls k a0_0 _ _ l0_1 _ _ l0_2 false _ ?f1 ?f2 ?f6 ?f5 A5.out).mono ?_); (case f1 => exact cz f4.out HB.out); (case f2 => exact f8.out); (case f6 => exact cz f7.out HB.out); (case f5 => exact f9.out); rintro e C6 ⟨rfl, hb⟩; refine ⟨_, rfl, ?_⟩; have b0 := Aside0.mk (blk_below (bz a0.out) hb); have a9 := Aside0.mk (below_step (wz HB.out) hb); clear a0; clear HB; have a0 := b0; have HB := a9; clear b0 a9; (try clear hb); (try clear g2); (try clear hk); (try clear hi)))
   go_meet
   case rel => exact ⟨_, (true), (by first | rfl | (simp; done) | (simp [*]; done)), H', ⟨by first | omega | exact Nat.le_refl _⟩, ⟨bz a0.out⟩, ⟨wz HB.out⟩⟩
 case rest =>
  clear s6;(try clear c1);(try clear c6);(try clear c7);(try clear c7b0);(try clear c7b1);(try clear c9);(try clear m2);(try clear i2);(try clear h3);(try clear l3);(try clear i0);(try clear k0);(try clear h8);(try clear k8);(try clear l7);(try clear h9);(try clear m1);(try clear j9);(try clear l6);(try clear i1);(try clear i7);(try clear k2);(try clear k5);(try clear h7);(try clear j8);(try clear m5);(try clear m7);(try clear m0);(try clear i3);(try clear i8);(try clear k1);(try clear l4);(try clear k9);(try clear l9);(try clear h5);(try clear j3);(try clear m4);(try clear l8);(try clear j5);(try clear l5);(try clear m8);(try clear j6);(try clear i5);(try clear j4);(try clear h6);(try clear j2);(try clear k6);(try clear j7);(try clear k7);(try clear i9);(try clear m6);(try clear h4);(try clear k4);(try clear m3);obtain ⟨kq, n2, rfl, HA, r9, a0, HB⟩ := hcut
  cases kq with
  | zero => exact absurd HA.out (by simp [Pl36a.j0])
  | succ kj2 =>
   have H := HA.out;clear HA;simp only [Pl36a.j0] at H;by_cases o4 : n2 = true
   ·subst o4;have H1 : ((Pl36b.f kj2).bind fun q7 => (some q7)) = some r := by rw [if_pos rfl] at H; exact H
    clear H;have H := H1;clear H1;replace H := Option.bind_eq_some_iff.mp H;obtain ⟨q7, s9, H⟩ := H;replace H : (some q7) = some r := H;have y2 := Aside0.mk s9;clear s9;obtain rfl := Option.some.inj H;go_wp2_with (first | ((with_reducible refine gate_callee (f := 46) rfl ?_); refine goesL_ (some 33) rfl rfl Try.func46 (by kernel_rfl) rfl #[] rfl (by (try simp only [List.map_toArray, List.map_cons, List.map_nil]); first | done | rfl | (simp only [List.length_drop, List.length_take]; rfl)) ?_; (with_reducible refine (Pl36b.calls kj2  q7 _ y2.out hr_).mono ?_); rintro e D2 ⟨rfl, hb⟩; refine ⟨_, rfl, ?_⟩; have b0 := Aside0.mk (blk_below (bz a0.out) hb); have a9 := Aside0.mk (below_step (wz HB.out) hb); clear a0; clear HB; have a0 := b0; have HB := a9; clear b0 a9; (try clear hb); (try clear g2); (try clear hk); (try clear hi)))
    go_ret
    exact ⟨by first | rfl | (simp [errW_none, errW_some] <;> rfl) | (simp [*, errW_none, errW_some] <;> rfl), wz HB.out⟩
   ·replace o4 := Bool.eq_false_iff.mpr o4;subst o4;have H1 : ((Pxl.f kj2 a0_0 l0_1 l0_2 l1).bind fun n3 => ((Pxi.f kj2 a0_0 l0_1 l0_2 n3.1 n3.2.1 n3.2.2.1).bind fun d5 => (if n3.2.2.2 = 0 then (Pl36a.j1 kj2 l1 (d5.2.2.2 != 0) a0_0 l0_1 l0_2 d5.1 d5.2.1 d5.2.2.1) else (Pl36a.j1 kj2 l1 true a0_0 l0_1 l0_2 d5.1 d5.2.1 d5.2.2.1)))) = some r := by rw [if_neg (show ¬ (false = true) by decide)] at H; exact H
    clear H;have H := H1;clear H1;replace H := Option.bind_eq_some_iff.mp H;obtain ⟨⟨e3, b9, d0, g4⟩, v1, H⟩ := H;replace H : ((Pxi.f kj2 a0_0 l0_1 l0_2 e3 b9 d0).bind fun d5 => (if g4 = 0 then (Pl36a.j1 kj2 l1 (d5.2.2.2 != 0) a0_0 l0_1 l0_2 d5.1 d5.2.1 d5.2.2.1) else (Pl36a.j1 kj2 l1 true a0_0 l0_1 l0_2 d5.1 d5.2.1 d5.2.2.1))) = some r := H;have y8 := Aside0.mk v1;clear v1;replace H := Option.bind_eq_some_iff.mp H;obtain ⟨⟨b5, b2, b4, r4⟩, u3, H⟩ := H;replace H : (if g4 = 0 then (Pl36a.j1 kj2 l1 (r4 != 0) a0_0 l0_1 l0_2 b5 b2 b4) else (Pl36a.j1 kj2 l1 true a0_0 l0_1 l0_2 b5 b2 b4)) = some r := H;have y1 := Aside0.mk u3;clear u3;have r6 := Aside0.mk H;clear H;have p5 : wc.cell? ⟨a1, 0, none⟩ = some (.int .i64 a0_0) := bcz a0 0 rfl;have p8 : wc.cell? ⟨a1, 1, none⟩ = some (.slice A0_1 l0_1.length c0_1) := bcz a0 1 rfl;have p3 : wc.cell? ⟨a1, 2, none⟩ = some (.slice A0_2 l0_2.length c0_2) := bcz a0 2 rfl;have q1 := blk_frozen a0.out 0;have p4 := blk_frozen a0.out 1;have o2 := blk_frozen a0.out 2;go_upto_region 5 with (first | ((with_reducible refine gate_callee (f := 47) rfl ?_); refine goesL_ (some 37) rfl rfl Try.func47 (by kernel_rfl) rfl #[.agg #[.int .i64 a0_0, .slice A0_1 l0_1.length c0_1, .slice A0_2 l0_2.length c0_2], .slice A1 l1.length c1] rfl (by (try simp only [List.map_toArray, List.map_cons, List.map_nil]); first | done | rfl | (simp only [List.length_drop, List.length_take]; rfl)) ?_; (with_reducible refine (Pxl.calls kj2 a0_0 _ _ l0_1 _ _ l0_2 _ _ l1 e3 b9 d0 g4 _ ?f1 ?f2 ?f6 ?f5 ?q6 ?q8 y8.out).mono ?_); (case f1 => exact cz f4.out HB.out); (case f2 => exact f8.out); (case f6 => exact cz f7.out HB.out); (case f5 => exact f9.out); (case q6 => exact cz t4.out HB.out); (case q8 => exact s7.out); rintro e C9 ⟨B7, C4, rfl, h1, p2, hb⟩; refine ⟨_, rfl, ?_⟩; have b0 := Aside0.mk (Kd.R_lower h1 (below_size (wz HB.out))); have a9 := Aside0.mk (Kd.R_lower p2 (below_size (wz HB.out))); have b7 := Aside0.mk (blk_below (bz a0.out) hb); have b6 := Aside0.mk (below_step (wz HB.out) hb); clear a0; clear HB; have d6 := b0; have d7 := a9; have a0 := b7; have HB := b6; clear b0 a9 b7 b6; (try clear hb); (try clear g2); (try clear hk); (try clear hi); (try clear h1); (try clear p2)) | ((with_reducible refine gate_dst (N := 5) rfl ?_); (try (refine gate_guard (by rfl) ?_; dsimp only)); refine box_event ?hg (N := 5) ?hd (cs := #[.int .i64 0, .slice none 0 0, .slice none 0 0]) (t := 25) ?hr ?_; (case hd => rfl); (case hg => rfl); (case hr => first | (go_simp; done) | (go_simp; rfl)); intro b1 hg q0 hbox hb; have b0 := Aside0.mk (Kd.R_below (rz d6.out) hb); have a9 := Aside0.mk (Kd.R_below (rz d7.out) hb); have b7 := Aside0.mk (blk_below (bz a0.out) hb); have b6 := Aside0.mk (below_step (wz HB.out) hb); have d3 := Aside0.mk (hbox); have d2 := Aside0.mk ((by rw [hg]; exact (below_size (wz HB.out)) : w.heap.size ≤ b1)); have d4 := Aside0.mk ((by rw [hg]; exact (below_size (wz HB.out)) : w.heap.size ≤ b1)); have e2 := Aside0.mk ((by rw [hg]; exact Nat.ne_of_lt (blk_lt (g := a1) (o := .cells #[.int .i64 a0_0, .slice A0_1 l0_1.length c0_1, .slice A0_2 l0_2.length c0_2] 25 (0, 0)) (bz a0.out)) : a1 ≠ b1)); have e4 := Aside0.mk ((by rw [hg]; exact Nat.ne_of_gt (blk_lt (g := a1) (o := .cells #[.int .i64 a0_0, .slice A0_1 l0_1.length c0_1, .slice A0_2 l0_2.length c0_2] 25 (0, 0)) (bz a0.out)) : b1 ≠ a1)); clear d6; clear d7; clear a0; clear HB; have d6 := b0; have d7 := a9; have a0 := b7; have HB := b6; have a2 := d3; have z1 := d2; have B2 := d4; have n0 := e2; have r0 := e4; clear b0 a9 b7 b6 d3 d2 d4 e2 e4; clear hb hbox hg; have A2 := r0.out; have A4 := n0.out; have o6 : q0.cell? ⟨b1, 0, none⟩ = some (.int .i64 0) := bcz a2 0 rfl; have q5 : q0.cell? ⟨b1, 1, none⟩ = some (.slice none 0 0) := bcz a2 1 rfl; have q4 : q0.cell? ⟨b1, 2, none⟩ = some (.slice none 0 0) := bcz a2 2 rfl; have p9 := blk_frozen a2.out 0; have o0 := blk_frozen a2.out 1; have o7 := blk_frozen a2.out 2; obtain ⟨e6, e1, w5⟩ := Kd.R_slice d6.out; subst w5; obtain ⟨e7, e5, x4⟩ := Kd.R_slice d7.out; subst x4; have p0 : q0.cell? ⟨a1, 0, none⟩ = some (.int .i64 a0_0) := bcz a0 0 rfl; have o5 : q0.cell? ⟨a1, 1, none⟩ = some (.slice A0_1 l0_1.length c0_1) := bcz a0 1 rfl; have p6 : q0.cell? ⟨a1, 2, none⟩ = some (.slice A0_2 l0_2.length c0_2) := bcz a0 2 rfl; have o3 := blk_frozen a0.out 0; have o8 := blk_frozen a0.out 1; have p1 := blk_frozen a0.out 2) | ((with_reducible refine gate_callee (f := 63) rfl ?_); refine goesL_ (some 43) rfl rfl Try.func63 (by kernel_rfl) rfl #[.agg #[.int .i64 a0_0, .slice A0_1 l0_1.length c0_1, .slice A0_2 l0_2.length c0_2], .agg #[.int .i64 e3, .slice e6 b9.length e1, .slice e7 d0.length e5]] rfl (by (try simp only [List.map_toArray, List.map_cons, List.map_nil]); first | done | rfl | (simp only [List.length_drop, List.length_take]; rfl)) ?_; (with_reducible refine (Pxi.calls kj2 a0_0 _ _ l0_1 _ _ l0_2 e3 _ _ b9 _ _ d0 b5 b2 b4 r4 _ ?f1 ?f2 ?f6 ?f5 ?q6 ?q8 ?z7 ?A0 y1.out).mono ?_); (case f1 => exact Kd.C_below f4.out (wz HB.out)); (case f2 => exact f8.out); (case f6 => exact Kd.C_below f7.out (wz HB.out)); (case f5 => exact f9.out); (case q6 => refine (Kd.R_reads' (e := 9) (base := w.heap.size) (ok := fun k_ => True) (n := b9.length) (c := e1) ?_).2.2; exact (rz (Kd.R_mono (Kd.R_far (p := ⟨b1, 2, none⟩) (Kd.R_far (p := ⟨b1, 1, none⟩) (Kd.R_far (p := ⟨b1, 0, none⟩) (Kd.R_types d6.out a2.out (by decide)) (fun _ hk => hk.2) (.int .i64 e3)) (fun _ hk => hk.2) (.slice e6 b9.length e1)) (fun _ hk => hk.2) (.slice e7 d0.length e5)) (fun _ h_ => h_.1)))); (case q8 => exact (Kd.R_reads' d6.out).2.1); (case z7 => refine (Kd.R_reads' (e := 80) (base := w.heap.size) (ok := fun k_ => True) (n := d0.length) (c := e5) ?_).2.2; exact (rz (Kd.R_mono (Kd.R_far (p := ⟨b1, 2, none⟩) (Kd.R_far (p := ⟨b1, 1, none⟩) (Kd.R_far (p := ⟨b1, 0, none⟩) (Kd.R_types d7.out a2.out (by decide)) (fun _ hk => hk.2) (.int .i64 e3)) (fun _ hk => hk.2) (.slice e6 b9.length e1)) (fun _ hk => hk.2) (.slice e7 d0.length e5)) (fun _ h_ => h_.1)))); (case A0 => exact (Kd.R_reads' d7.out).2.1); rintro e C7 ⟨B9, C3, rfl, h1, p2, hb⟩; refine ⟨_, rfl, ?_⟩; have b0 := Aside0.mk (Kd.R_elder' (rz (Kd.R_mono (Kd.R_far (p := ⟨b1, 2, none⟩) (Kd.R_far (p := ⟨b1, 1, none⟩) (Kd.R_far (p := ⟨b1, 0, none⟩) (Kd.R_types d6.out a2.out (by decide)) (fun _ hk => hk.2) (.int .i64 e3)) (fun _ hk => hk.2) (.slice e6 b9.length e1)) (fun _ hk => hk.2) (.slice e7 d0.length e5)) (fun _ h_ => h_.1))) (Kd.R_base h1) hb); have a9 := Aside0.mk (Kd.R_elder' (rz (Kd.R_mono (Kd.R_far (p := ⟨b1, 2, none⟩) (Kd.R_far (p := ⟨b1, 1, none⟩) (Kd.R_far (p := ⟨b1, 0, none⟩) (Kd.R_types d7.out a2.out (by decide)) (fun _ hk => hk.2) (.int .i64 e3)) (fun _ hk => hk.2) (.slice e6 b9.length e1)) (fun _ hk => hk.2) (.slice e7 d0.length e5)) (fun _ h_ => h_.1))) (Kd.R_base p2) hb); have b7 := Aside0.mk (Kd.R_lower (Kd.R_new' h1 (Kd.R_lt (rz (Kd.R_mono (Kd.R_far (p := ⟨b1, 2, none⟩) (Kd.R_far (p := ⟨b1, 1, none⟩) (Kd.R_far (p := ⟨b1, 0, none⟩) (Kd.R_types d6.out a2.out (by decide)) (fun _ hk => hk.2) (.int .i64 e3)) (fun _ hk => hk.2) (.slice e6 b9.length e1)) (fun _ hk => hk.2) (.slice e7 d0.length e5)) (fun _ h_ => h_.1))))) (below_size (wz HB.out))); have b6 := Aside0.mk (Kd.R_lower (Kd.R_new' p2 (Kd.R_lt (rz (Kd.R_mono (Kd.R_far (p := ⟨b1, 2, none⟩) (Kd.R_far (p := ⟨b1, 1, none⟩) (Kd.R_far (p := ⟨b1, 0, none⟩) (Kd.R_types d7.out a2.out (by decide)) (fun _ hk => hk.2) (.int .i64 e3)) (fun _ hk => hk.2) (.slice e6 b9.length e1)) (fun _ hk => hk.2) (.slice e7 d0.length e5)) (fun _ h_ => h_.1))))) (below_size (wz HB.out))); have d3 := Aside0.mk (blk_below (g := a1) (o := .cells #[.int .i64 a0_0, .slice A0_1 l0_1.length c0_1, .slice A0_2 l0_2.length c0_2] 25 (0, 0)) (fz a0.out n0.out) hb); have d2 := Aside0.mk (blk_below (g := b1) (o := .cells #[.int .i64 e3, .slice e6 b9.length e1, .slice e7 d0.length e5] 25 (0, 0)) (by (with_reducible repeat (first | refine blk_drewN ?_ _ | refine blk_drew ?_ | refine blk_alloc ?_ _)); refine blk_put (cs := #[.int .i64 e3, .slice e6 b9.length e1, .slice none 0 0]) ?_ 2 _ rfl; (with_reducible repeat (first | refine blk_drewN ?_ _ | refine blk_drew ?_ | refine blk_alloc ?_ _)); refine blk_put (cs := #[.int .i64 e3, .slice none 0 0, .slice none 0 0]) ?_ 1 _ rfl; (with_reducible repeat (first | refine blk_drewN ?_ _ | refine blk_drew ?_ | refine blk_alloc ?_ _)); refine blk_put (cs := #[.int .i64 0, .slice none 0 0, .slice none 0 0]) ?_ 0 _ rfl; (with_reducible repeat (first | refine blk_drewN ?_ _ | refine blk_drew ?_ | refine blk_alloc ?_ _)); exact a2.out) hb); have d4 := Aside0.mk (below_step (wz HB.out) hb); clear d6; clear d7; clear a0; clear a2; clear HB; have d6 := b0; have d7 := a9; have g7 := b7; have g6 := b6; have a0 := d3; have a2 := d2; have HB := d4; clear b0 a9 b7 b6 d3 d2 d4; (try clear hb); (try clear g2); (try clear hk); (try clear hi); (try clear h1); (try clear p2)) | ((with_reducible refine gate_dst (N := 7) rfl ?_); (try (refine gate_guard (by rfl) ?_; dsimp only)); refine box_event ?hg (N := 7) ?hd (cs := #[.int .i64 0, .slice none 0 0, .slice none 0 0]) (t := 25) ?hr ?_; (case hd => rfl); (case hg => rfl); (case hr => first | (go_simp; done) | (go_simp; rfl)); intro a8 hg u6 hbox hb; have b0 := Aside0.mk (Kd.R_below (rz d6.out) hb); have a9 := Aside0.mk (Kd.R_below (rz d7.out) hb); have b7 := Aside0.mk (Kd.R_below (rz g7.out) hb); have b6 := Aside0.mk (Kd.R_below (rz g6.out) hb); have d3 := Aside0.mk (blk_below (bz a0.out) hb); have d2 := Aside0.mk (blk_below (bz a2.out) hb); have d4 := Aside0.mk (below_step (wz HB.out) hb); have e2 := Aside0.mk (hbox); have e4 := Aside0.mk ((by rw [hg]; exact (below_size (wz HB.out)) : w.heap.size ≤ a8)); have f3 := Aside0.mk ((by rw [hg]; exact (below_size (wz HB.out)) : w.heap.size ≤ a8)); have u5 := Aside0.mk ((by rw [hg]; exact Nat.ne_of_lt (blk_lt (g := a1) (o := .cells #[.int .i64 a0_0, .slice A0_1 l0_1.length c0_1, .slice A0_2 l0_2.length c0_2] 25 (0, 0)) (bz a0.out)) : a1 ≠ a8)); have t8 := Aside0.mk ((by rw [hg]; exact Nat.ne_of_gt (blk_lt (g := a1) (o := .cells #[.int .i64 a0_0, .slice A0_1 l0_1.length c0_1, .slice A0_2 l0_2.length c0_2] 25 (0, 0)) (bz a0.out)) : a8 ≠ a1)); have v0 := Aside0.mk ((by rw [hg]; exact Nat.ne_of_lt (blk_lt (g := b1) (o := .cells #[.int .i64 e3, .slice e6 b9.length e1, .slice e7 d0.length e5] 25 (0, 0)) (bz a2.out)) : b1 ≠ a8)); have t5 := Aside0.mk ((by rw [hg]; exact Nat.ne_of_gt (blk_lt (g := b1) (o := .cells #[.int .i64 e3, .slice e6 b9.length e1, .slice e7 d0.length e5] 25 (0, 0)) (bz a2.out)) : a8 ≠ b1)); clear d6; clear d7; clear g7; clear g6; clear a0; clear a2; clear HB; have d6 := b0; have d7 := a9; have g7 := b7; have g6 := b6; have a0 := d3; have a2 := d2; have HB := d4; have a3 := e2; have z5 := e4; have A9 := f3; have g0 := u5; have m9 := t8; have g1 := v0; have n1 := t5; clear b0 a9 b7 b6 d3 d2 d4 e2 e4 f3 u5 t8 v0 t5; clear hb hbox hg; have z8 := m9.out; have A6 := g0.out; have A7 := n1.out; have z4 := g1.out; have o9 : u6.cell? ⟨a8, 0, none⟩ = some (.int .i64 0) := bcz a3 0 rfl; have n7 : u6.cell? ⟨a8, 1, none⟩ = some (.slice none 0 0) := bcz a3 1 rfl; have q3 : u6.cell? ⟨a8, 2, none⟩ = some (.slice none 0 0) := bcz a3 2 rfl; have q2 := blk_frozen a3.out 0; have n8 := blk_frozen a3.out 1; have n9 := blk_frozen a3.out 2; obtain ⟨d9, d8, w7⟩ := Kd.R_slice g7.out; subst w7; obtain ⟨e9, e8, x0⟩ := Kd.R_slice g6.out; subst x0))
    (try simp only [Act.put, qz1, qz2, qz3])
    go_cut [51] (fun y5 wc => ∃ (kq : Nat) (g8 : Bool), y5 = .bool g8 ∧ Aside0 (Pl36a.j1 kq l1 g8 a0_0 l0_1 l0_2 b5 b2 b4 = some r) ∧ Aside0 (kq ≤ kj2) ∧ Aside0 (Kd.R Kd.string 9 wc w.heap.size (fun k_ => some k_ ≠ ((.slice d9 b2.length d8) : Value).ownBlock) (.slice e6 b9.length e1) b9) ∧ Aside0 (Kd.R k80 80 wc w.heap.size (fun k_ => some k_ ≠ ((.slice e9 b4.length e8) : Value).ownBlock) (.slice e7 d0.length e5) d0) ∧ Aside0 (Kd.R Kd.string 9 wc w.heap.size (fun k_ => some k_ ≠ ((.slice e6 b9.length e1) : Value).ownBlock) (.slice d9 b2.length d8) b2) ∧ Aside0 (Kd.R k80 80 wc w.heap.size (fun k_ => some k_ ≠ ((.slice e7 d0.length e5) : Value).ownBlock) (.slice e9 b4.length e8) b4) ∧ Aside0 (wc.heap[a1]? = some (.cells #[.int .i64 a0_0, (.slice A0_1 l0_1.length c0_1), (.slice A0_2 l0_2.length c0_2)] 25 (0, 0))) ∧ Aside0 (wc.heap[b1]? = some (.cells #[.int .i64 e3, (.slice e6 b9.length e1), (.slice e7 d0.length e5)] 25 (0, 0))) ∧ Aside0 (wc.heap[a8]? = some (.cells #[.int .i64 b5, (.slice d9 b2.length d8), (.slice e9 b4.length e8)] 25 (0, 0))) ∧ Aside0 (Below w.heap.size w wc))
    case first =>
     have H := r6.out;clear r6;by_cases h0 : g4 = 0
     ·rw [if_pos h0] at H;have c47b0 : (g4 == 0) = true := beq_iff_eq.mpr h0;have c47b1 : (g4 != 0) = false := bne_eq_false_iff_eq.mpr h0;clear h0
      (first | rw [c47b0] | (simp only [i64_w, i32_w]; rw [c47b0]) | skip)
      have H' := Aside0.mk H;clear H;go_wp2
      go_meet
      case rel => exact ⟨_, ((r4 != 0)), (by first | rfl | (simp; done) | (simp [*]; done)), H', ⟨by have := r9.out; first | omega | exact Nat.le_refl _⟩, ⟨rz (Kd.R_mono (Kd.R_far (p := ⟨a8, 2, none⟩) (Kd.R_far (p := ⟨a8, 1, none⟩) (Kd.R_far (p := ⟨a8, 0, none⟩) (Kd.R_types d6.out a3.out (by decide)) (fun _ hk => hk.2) (.int .i64 b5)) (fun _ hk => hk.2) (.slice d9 b2.length d8)) (fun _ hk => hk.2) (.slice e9 b4.length e8)) (fun _ hk => hk.1.2))⟩, ⟨rz (Kd.R_mono (Kd.R_far (p := ⟨a8, 2, none⟩) (Kd.R_far (p := ⟨a8, 1, none⟩) (Kd.R_far (p := ⟨a8, 0, none⟩) (Kd.R_types d7.out a3.out (by decide)) (fun _ hk => hk.2) (.int .i64 b5)) (fun _ hk => hk.2) (.slice d9 b2.length d8)) (fun _ hk => hk.2) (.slice e9 b4.length e8)) (fun _ hk => hk.1.2))⟩, ⟨rz (Kd.R_mono (Kd.R_far (p := ⟨a8, 2, none⟩) (Kd.R_far (p := ⟨a8, 1, none⟩) (Kd.R_far (p := ⟨a8, 0, none⟩) (Kd.R_types g7.out a3.out (by decide)) (fun _ hk => hk.2) (.int .i64 b5)) (fun _ hk => hk.2) (.slice d9 b2.length d8)) (fun _ hk => hk.2) (.slice e9 b4.length e8)) (fun _ hk => hk.1.2))⟩, ⟨rz (Kd.R_mono (Kd.R_far (p := ⟨a8, 2, none⟩) (Kd.R_far (p := ⟨a8, 1, none⟩) (Kd.R_far (p := ⟨a8, 0, none⟩) (Kd.R_types g6.out a3.out (by decide)) (fun _ hk => hk.2) (.int .i64 b5)) (fun _ hk => hk.2) (.slice d9 b2.length d8)) (fun _ hk => hk.2) (.slice e9 b4.length e8)) (fun _ hk => hk.1.2))⟩, ⟨fz a0.out g0.out⟩, ⟨fz a2.out g1.out⟩, ⟨by (with_reducible repeat (first | refine blk_drewN ?_ _ | refine blk_drew ?_ | refine blk_alloc ?_ _)); refine blk_put (cs := #[.int .i64 b5, .slice d9 b2.length d8, .slice none 0 0]) ?_ 2 _ rfl; (with_reducible repeat (first | refine blk_drewN ?_ _ | refine blk_drew ?_ | refine blk_alloc ?_ _)); refine blk_put (cs := #[.int .i64 b5, .slice none 0 0, .slice none 0 0]) ?_ 1 _ rfl; (with_reducible repeat (first | refine blk_drewN ?_ _ | refine blk_drew ?_ | refine blk_alloc ?_ _)); refine blk_put (cs := #[.int .i64 0, .slice none 0 0, .slice none 0 0]) ?_ 0 _ rfl; (with_reducible repeat (first | refine blk_drewN ?_ _ | refine blk_drew ?_ | refine blk_alloc ?_ _)); exact a3.out⟩, ⟨wz HB.out⟩⟩
     ·rw [if_neg h0] at H;have c47b0 : (g4 == 0) = false := beq_eq_false_iff_ne.mpr h0;have c47b1 : (g4 != 0) = true := bne_iff_ne.mpr h0
      (first | rw [c47b0] | (simp only [i64_w, i32_w]; rw [c47b0]) | skip)
      have H' := Aside0.mk H;clear H;go_wp2
      go_meet
      case rel => exact ⟨_, (true), (by first | rfl | (simp; done) | (simp [*]; done)), H', ⟨by have := r9.out; first | omega | exact Nat.le_refl _⟩, ⟨rz (Kd.R_mono (Kd.R_far (p := ⟨a8, 2, none⟩) (Kd.R_far (p := ⟨a8, 1, none⟩) (Kd.R_far (p := ⟨a8, 0, none⟩) (Kd.R_types d6.out a3.out (by decide)) (fun _ hk => hk.2) (.int .i64 b5)) (fun _ hk => hk.2) (.slice d9 b2.length d8)) (fun _ hk => hk.2) (.slice e9 b4.length e8)) (fun _ hk => hk.1.2))⟩, ⟨rz (Kd.R_mono (Kd.R_far (p := ⟨a8, 2, none⟩) (Kd.R_far (p := ⟨a8, 1, none⟩) (Kd.R_far (p := ⟨a8, 0, none⟩) (Kd.R_types d7.out a3.out (by decide)) (fun _ hk => hk.2) (.int .i64 b5)) (fun _ hk => hk.2) (.slice d9 b2.length d8)) (fun _ hk => hk.2) (.slice e9 b4.length e8)) (fun _ hk => hk.1.2))⟩, ⟨rz (Kd.R_mono (Kd.R_far (p := ⟨a8, 2, none⟩) (Kd.R_far (p := ⟨a8, 1, none⟩) (Kd.R_far (p := ⟨a8, 0, none⟩) (Kd.R_types g7.out a3.out (by decide)) (fun _ hk => hk.2) (.int .i64 b5)) (fun _ hk => hk.2) (.slice d9 b2.length d8)) (fun _ hk => hk.2) (.slice e9 b4.length e8)) (fun _ hk => hk.1.2))⟩, ⟨rz (Kd.R_mono (Kd.R_far (p := ⟨a8, 2, none⟩) (Kd.R_far (p := ⟨a8, 1, none⟩) (Kd.R_far (p := ⟨a8, 0, none⟩) (Kd.R_types g6.out a3.out (by decide)) (fun _ hk => hk.2) (.int .i64 b5)) (fun _ hk => hk.2) (.slice d9 b2.length d8)) (fun _ hk => hk.2) (.slice e9 b4.length e8)) (fun _ hk => hk.1.2))⟩, ⟨fz a0.out g0.out⟩, ⟨fz a2.out g1.out⟩, ⟨by (with_reducible repeat (first | refine blk_drewN ?_ _ | refine blk_drew ?_ | refine blk_alloc ?_ _)); refine blk_put (cs := #[.int .i64 b5, .slice d9 b2.length d8, .slice none 0 0]) ?_ 2 _ rfl; (with_reducible repeat (first | refine blk_drewN ?_ _ | refine blk_drew ?_ | refine blk_alloc ?_ _)); refine blk_put (cs := #[.int .i64 b5, .slice none 0 0, .slice none 0 0]) ?_ 1 _ rfl; (with_reducible repeat (first | refine blk_drewN ?_ _ | refine blk_drew ?_ | refine blk_alloc ?_ _)); refine blk_put (cs := #[.int .i64 0, .slice none 0 0, .slice none 0 0]) ?_ 0 _ rfl; (with_reducible repeat (first | refine blk_drewN ?_ _ | refine blk_drew ?_ | refine blk_alloc ?_ _)); exact a3.out⟩, ⟨wz HB.out⟩⟩
    case rest =>
     clear r6;(try clear c1);(try clear c6);(try clear c7);(try clear c7b0);(try clear c7b1);(try clear c9);(try clear o4);(try clear h0);(try clear c47b0);(try clear c47b1);(try clear m2);(try clear i2);(try clear h3);(try clear l3);(try clear i0);(try clear k0);(try clear h8);(try clear k8);(try clear l7);(try clear h9);(try clear m1);(try clear j9);(try clear l6);(try clear i1);(try clear i7);(try clear k2);(try clear k5);(try clear h7);(try clear j8);(try clear m5);(try clear m7);(try clear m0);(try clear i3);(try clear i8);(try clear p5);(try clear p8);(try clear p3);(try clear o6);(try clear q5);(try clear q4);(try clear p0);(try clear o5);(try clear p6);(try clear o9);(try clear n7);(try clear q3);(try clear k1);(try clear l4);(try clear k9);(try clear l9);(try clear h5);(try clear j3);(try clear m4);(try clear l8);(try clear j5);(try clear l5);(try clear m8);(try clear j6);(try clear i5);(try clear j4);(try clear h6);(try clear j2);(try clear k6);(try clear j7);(try clear k7);(try clear i9);(try clear m6);(try clear h4);(try clear k4);(try clear m3);(try clear q1);(try clear p4);(try clear o2);(try clear p9);(try clear o0);(try clear o7);(try clear o3);(try clear o8);(try clear p1);(try clear q2);(try clear n8);(try clear n9);obtain ⟨kq, g8, rfl, HA, u7, a7, a6, a4, a5, a0, a2, a3, HB⟩ := hcut
     cases kq with
     | zero => exact absurd HA.out (by simp [Pl36a.j1])
     | succ kj30 =>
      have H := HA.out;clear HA;simp only [Pl36a.j1] at H;by_cases r1 : g8 = true
      ·subst r1;have H1 : (some false) = some r := by rw [if_pos rfl] at H; exact H
       clear H;have H := H1;clear H1;obtain rfl := Option.some.inj H;exact absurd hr_.out (by decide)
      ·replace r1 := Bool.eq_false_iff.mpr r1;subst r1;have H1 : ((Pr31b.f kj30 l1).bind fun e0 => (Pl36a.l0 kj30 (([] : List (S71))) e0 0 a0_0 l0_1 l0_2 b5 b2 b4)) = some r := by rw [if_neg (show ¬ (false = true) by decide)] at H; exact H
       clear H;have H := H1;clear H1;obtain ⟨r3, g9⟩ : ∃ y_ : List (S71), y_ = (([] : List (S71))) := ⟨_, rfl⟩
       replace H : ((Pr31b.f kj30 l1).bind fun e0 => (Pl36a.l0 kj30 r3 e0 0 a0_0 l0_1 l0_2 b5 b2 b4)) = some r := by first | (rw [g9]; with_reducible exact H) | (have n5 := (Option.bind_some _ _).symm.trans H; rw [g9]; with_reducible exact n5) | (have n5 := (Option.bind_some _ _).symm.trans H; with_reducible exact n5) | with_reducible exact H | (rw [g9]; exact H) | exact H
       have s4 := Aside0.mk g9;clear g9;replace H := Option.bind_eq_some_iff.mp H;obtain ⟨e0, u0, H⟩ := H;replace H : (Pl36a.l0 kj30 r3 e0 0 a0_0 l0_1 l0_2 b5 b2 b4) = some r := H;have y9 := Aside0.mk u0;clear u0;have H' := Aside0.mk H;clear H;go_wp2_with (first | ((with_reducible refine gate_dst (N := 52) rfl ?_); (try (refine gate_guard (by rfl) ?_; dsimp only)); refine Kd.R_lit k71 _ 71 ?hg (N := 52) ?hd (xs := ([] : List (S71))) (inner := []) (ok := fun _ => True) (okp := fun _ => True) ?hr ?hp (fun _ hk => hk) trivial (Below.refl _ _) (Nat.le_refl _) (by simp) ?_; (case hd => rfl); (case hg => rfl); (case hr => first | (go_simp; done) | (go_simp; rfl)); (case hp => exact (Reps.none _ _)); intro B5 D4 n6 hb hg_ hnew_; clear hg_ hnew_; (first | rw [← s4.out] at n6 | (simp only [Int.reduceToNat] at n6; rw [← s4.out] at n6)); have b0 := Aside0.mk (Kd.R_below (rz a7.out) hb); have a9 := Aside0.mk (Kd.R_below (rz a6.out) hb); have b7 := Aside0.mk (Kd.R_below (rz a4.out) hb); have b6 := Aside0.mk (Kd.R_below (rz a5.out) hb); have d3 := Aside0.mk (Kd.R_lower n6 (below_size (wz HB.out))); have d2 := Aside0.mk (blk_below (bz a0.out) hb); have d4 := Aside0.mk (blk_below (bz a2.out) hb); have e2 := Aside0.mk (blk_below (bz a3.out) hb); have e4 := Aside0.mk (below_step (wz HB.out) hb); clear a7; clear a6; clear a4; clear a5; clear a0; clear a2; clear a3; clear HB; have a7 := b0; have a6 := a9; have a4 := b7; have a5 := b6; have n4 := d3; have a0 := d2; have a2 := d4; have a3 := e2; have HB := e4; clear b0 a9 b7 b6 d3 d2 d4 e2 e4; clear hb n6) | ((with_reducible refine gate_callee (f := 64) rfl ?_); refine goesL_ (some 54) rfl rfl Try.func64 (by kernel_rfl) rfl #[.slice A1 l1.length c1] rfl (by (try simp only [List.map_toArray, List.map_cons, List.map_nil]); first | done | rfl | (simp only [List.length_drop, List.length_take]; rfl)) ?_; (with_reducible refine (Pr31b.calls kj30 _ _ l1 e0 _ ?f1 ?f2 y9.out).mono ?_); (case f1 => exact cz t4.out HB.out); (case f2 => exact s7.out); rintro e D1 ⟨x2, rfl, h1, hb⟩; refine ⟨_, rfl, ?_⟩; have b0 := Aside0.mk (Kd.R_below (rz a7.out) hb); have a9 := Aside0.mk (Kd.R_below (rz a6.out) hb); have b7 := Aside0.mk (Kd.R_below (rz a4.out) hb); have b6 := Aside0.mk (Kd.R_below (rz a5.out) hb); have d3 := Aside0.mk (Kd.R_below (rz n4.out) hb); have d2 := Aside0.mk (Kd.R_lower h1 (below_size (wz HB.out))); have d4 := Aside0.mk (blk_below (bz a0.out) hb); have e2 := Aside0.mk (blk_below (bz a2.out) hb); have e4 := Aside0.mk (blk_below (bz a3.out) hb); have f3 := Aside0.mk (below_step (wz HB.out) hb); clear a7; clear a6; clear a4; clear a5; clear n4; clear a0; clear a2; clear a3; clear HB; have a7 := b0; have a6 := a9; have a4 := b7; have a5 := b6; have n4 := d3; have v4 := d2; have a0 := d4; have a2 := e2; have a3 := e4; have HB := f3; clear b0 a9 b7 b6 d3 d2 d4 e2 e4 f3; (try clear hb); (try clear g2); (try clear hk); (try clear hi); (try clear h1)))
       go_loopg [9, 11] kj30 (fun kq v9 z0 w' => ∃ (g5 : List (S71)) (b3 : Int), z0 = .int .i64 b3 ∧ Aside0 (Pl36a.l0 kq g5 e0 b3 a0_0 l0_1 l0_2 b5 b2 b4 = some r) ∧ Aside0 (kq ≤ kj30) ∧ Aside0 (Kd.R k71 71 w' w.heap.size (fun _ => True) v9 g5) ∧ Aside0 (Kd.R (Kd.int .i64) 3 w' w.heap.size (fun _ => True) x2 e0) ∧ Aside0 (Kd.R Kd.string 9 w' w.heap.size (fun k_ => some k_ ≠ ((.slice d9 b2.length d8) : Value).ownBlock) (.slice e6 b9.length e1) b9) ∧ Aside0 (Kd.R k80 80 w' w.heap.size (fun k_ => some k_ ≠ ((.slice e9 b4.length e8) : Value).ownBlock) (.slice e7 d0.length e5) d0) ∧ Aside0 (Kd.R Kd.string 9 w' w.heap.size (fun k_ => some k_ ≠ ((.slice e6 b9.length e1) : Value).ownBlock) (.slice d9 b2.length d8) b2) ∧ Aside0 (Kd.R k80 80 w' w.heap.size (fun k_ => some k_ ≠ ((.slice e7 d0.length e5) : Value).ownBlock) (.slice e9 b4.length e8) b4) ∧ Aside0 (w'.heap[a1]? = some (.cells #[.int .i64 a0_0, (.slice A0_1 l0_1.length c0_1), (.slice A0_2 l0_2.length c0_2)] 25 (0, 0))) ∧ Aside0 (w'.heap[b1]? = some (.cells #[.int .i64 e3, (.slice e6 b9.length e1), (.slice e7 d0.length e5)] 25 (0, 0))) ∧ Aside0 (w'.heap[a8]? = some (.cells #[.int .i64 b5, (.slice d9 b2.length d8), (.slice e9 b4.length e8)] 25 (0, 0))) ∧ Aside0 (Below w.heap.size w w'))
       case atStart => exact ⟨(r3), (0), (by first | rfl | (simp; done) | (simp [*]; done)), H', ⟨Nat.le_refl _⟩, ⟨rz n4.out⟩, ⟨rz v4.out⟩, ⟨rz a7.out⟩, ⟨rz a6.out⟩, ⟨rz a4.out⟩, ⟨rz a5.out⟩, ⟨bz a0.out⟩, ⟨bz a2.out⟩, ⟨bz a3.out⟩, ⟨wz HB.out⟩⟩
       case round =>
        clear H';(try clear c1);(try clear c6);(try clear c7);(try clear c7b0);(try clear c7b1);(try clear c9);(try clear o4);(try clear h0);(try clear c47b0);(try clear c47b1);(try clear r1);(try clear m2);(try clear i2);(try clear h3);(try clear l3);(try clear i0);(try clear k0);(try clear h8);(try clear k8);(try clear l7);(try clear h9);(try clear m1);(try clear j9);(try clear l6);(try clear i1);(try clear i7);(try clear k2);(try clear k5);(try clear h7);(try clear j8);(try clear m5);(try clear m7);(try clear m0);(try clear i3);(try clear i8);(try clear p5);(try clear p8);(try clear p3);(try clear o6);(try clear q5);(try clear q4);(try clear p0);(try clear o5);(try clear p6);(try clear o9);(try clear n7);(try clear q3);(try clear k1);(try clear l4);(try clear k9);(try clear l9);(try clear h5);(try clear j3);(try clear m4);(try clear l8);(try clear j5);(try clear l5);(try clear m8);(try clear j6);(try clear i5);(try clear j4);(try clear h6);(try clear j2);(try clear k6);(try clear j7);(try clear k7);(try clear i9);(try clear m6);(try clear h4);(try clear k4);(try clear m3);(try clear q1);(try clear p4);(try clear o2);(try clear p9);(try clear o0);(try clear o7);(try clear o3);(try clear o8);(try clear p1);(try clear q2);(try clear n8);(try clear n9);obtain ⟨g5, b3, rfl, HA, v8, b8, d1, a7, a6, a4, a5, a0, a2, a3, HB⟩ := hrel
        cases gk with
        | zero => exact absurd HA.out (by simp [Pl36a.l0])
        | succ k3 =>
         have H := HA.out;clear HA;simp only [Pl36a.l0] at H;by_cases o1 : b3 < (e0.length : Int)
         ·rw [if_pos o1] at H;have c53b0 : decide (b3 < (e0.length : Int)) = true := decide_eq_true o1;clear o1;by_cases r7 : 0 ≤ b3
          ·rw [if_pos r7] at H;have c54b0 : decide (0 ≤ b3) = true := decide_eq_true r7;clear r7;by_cases r8 : g5.length < 8796093022208
           ·rw [if_pos r8] at H;have v5 := Aside0.mk r8;clear r8;obtain ⟨t2, h2⟩ : ∃ y_ : List (S71), y_ = (g5 ++ [(⟨b3, wrap64 (a0_0 + (rd e0 b3))⟩ : S71)]) := ⟨_, rfl⟩
            replace H : (Pl36a.l0 k3 t2 e0 (wrap64 (b3 + 1)) a0_0 l0_1 l0_2 b5 b2 b4) = some r := by first | (rw [h2]; with_reducible exact H) | (have n5 := (Option.bind_some _ _).symm.trans H; rw [h2]; with_reducible exact n5) | (have n5 := (Option.bind_some _ _).symm.trans H; with_reducible exact n5) | with_reducible exact H | (rw [h2]; exact H) | exact H
            have v3 := Aside0.mk h2;clear h2;have H' := Aside0.mk H;clear H;obtain ⟨B6, C1, x1⟩ := Kd.R_slice d1.out;subst x1;try go_wp2
            have b0 := Aside0.mk (Kd.R_drew b8.out);have a9 := Aside0.mk (Kd.R_drew d1.out);have b7 := Aside0.mk (Kd.R_drew a7.out);have b6 := Aside0.mk (Kd.R_drew a6.out);have d3 := Aside0.mk (Kd.R_drew a4.out);have d2 := Aside0.mk (Kd.R_drew a5.out);have d4 := Aside0.mk (blk_drew a0.out);have e2 := Aside0.mk (blk_drew a2.out);have e4 := Aside0.mk (blk_drew a3.out);have f3 := Aside0.mk (below_drew1 HB.out);clear b8 d1 a7 a6 a4 a5 a0 a2 a3 HB;have b8 := b0;have d1 := a9;have a7 := b7;have a6 := b6;have a4 := d3;have a5 := d2;have a0 := d4;have a2 := e2;have a3 := e4;have HB := f3;clear b0 a9 b7 b6 d3 d2 d4 e2 e4 f3;have r5 : 0 ≤ (b3 : Int) := of_decide_eq_true (by first | (with_reducible assumption) | assumption);have r2 : b3 < (e0.length : Int) := of_decide_eq_true (by first | (with_reducible assumption) | assumption);obtain ⟨v6, w8, p7⟩ := Kd.at_int (Kd.R_reads' d1.out).2.2 b3 r5 r2
            cases w8;replace r5 := eq_true r5;replace r2 := eq_true r2;refine start_ (n := 13) (S := fun w' => w'.cell? ⟨a1, 0, none⟩ = some (.int .i64 a0_0) ∧ w'.cell? ⟨a1, 1, none⟩ = some (.slice A0_1 l0_1.length c0_1) ∧ w'.cell? ⟨a1, 2, none⟩ = some (.slice A0_2 l0_2.length c0_2) ∧ w'.cell? (v6.add (b3).toNat) = some (.int .i64 (rd e0 b3))) (ds := [10, 11]) (bqz 13 0) (by kernel_rfl) rfl rfl ⟨bcz a0 0 rfl, bcz a0 1 rfl, bcz a0 2 rfl, p7⟩ (fun hHeld => ?_); refine with_tabW Pl36a.tab12 Pl36a.bits12 (fun HT_ HW_ => ?_)
            generalize wr.drew = w57 at b8 d1 a7 a6 a4 a5 a0 a2 a3 HB p7 hHeld ⊢;refine pqz 0 (some 61) (bqz 13 1) rfl rfl (any_of HT_.out (by kernel_rfl)) ?_ ?_ (fun _ _ _ h => h) (by rfl) ?_ ?_ ?_;rotate_left 2;intro w';go_simp;(with_reducible rfl);simp only [Act.put, qz1, qz2, qz3, i64_w, i32_w];rfl
            refine pqz 1 (some 62) (bqz 13 3) rfl rfl (any_of HT_.out (by kernel_rfl)) ?_ ?_ (fun _ _ _ h => h) (by rfl) ?_ ?_ ?_;rotate_left 2;intro w';go_simp;(with_reducible rfl);simp only [Act.put, qz1, qz2, qz3, i64_w, i32_w];rfl
            refine pqz 2 (some 63) (bqz 13 7) rfl rfl (any_of HT_.out (by kernel_rfl)) ?_ ?_ (fun _ _ _ h => h) (by rfl) ?_ ?_ ?_;rotate_left 2;intro w';go_simp;(with_reducible rfl);simp only [Act.put, qz1, qz2, qz3, i64_w, i32_w];rfl
            refine pqz 4 (some 65) (bqz 13 23) rfl rfl (any_of HT_.out (by kernel_rfl)) ?_ ?_ (fun _ _ _ h => h) (by rfl) ?_ ?_ ?_;rotate_left 2;intro w';go_simp;(with_reducible rfl);simp only [Act.put, qz1, qz2, qz3, i64_w, i32_w];rfl
            refine pqz 5 (some 66) (bqz 13 55) rfl rfl (any_of HT_.out (by kernel_rfl)) ?_ ?_ (fun _ _ _ h => h) (by rfl) ?_ ?_ ?_;rotate_left 2;intro w';go_simp;(with_reducible rfl);simp only [Act.put, qz1, qz2, qz3, i64_w, i32_w];rfl
            refine pqz 6 (some 67) (bqz 13 119) rfl rfl (any_of HT_.out (by kernel_rfl)) ?_ ?_ (fun _ _ _ h => h) (by rfl) ?_ ?_ ?_;rotate_left 2;intro w';go_simp;(with_reducible rfl);simp only [Act.put, qz1, qz2, qz3, i64_w, i32_w];rfl
            refine tqz 3 (some 64) (bqz 13 127) rfl rfl (take_ofW HT_.out HW_.out (by kernel_rfl)) ?_ ?_ (fun _ _ _ h => h) (by rfl) ?_ hHeld ?_ ?_;rotate_left 2;rintro w' ⟨s0, s1, s2, s3⟩;go_simp;(with_reducible rfl);simp only [Act.put, qz1, qz2, qz3, i64_w, i32_w];rfl
            refine tqz 7 (some 68) (bqz 13 255) rfl rfl (take_ofW HT_.out HW_.out (by kernel_rfl)) ?_ ?_ (fun _ _ _ h => h) (by rfl) ?_ hHeld ?_ ?_;rotate_left 2;rintro w' ⟨s0, s1, s2, s3⟩;go_simp;(with_reducible rfl);simp only [Act.put, qz1, qz2, qz3, i64_w, i32_w];rfl
            refine pqz 8 (some 69) (bqz 13 511) rfl rfl (any_of HT_.out (by kernel_rfl)) ?_ ?_ (fun _ _ _ h => h) (by rfl) ?_ ?_ ?_;rotate_left 2;intro w';go_simp;(with_reducible rfl);simp only [Act.put, qz1, qz2, qz3, i64_w, i32_w];rfl
            refine pqz 9 (some 70) (bqz 13 1023) rfl rfl (any_of HT_.out (by kernel_rfl)) ?_ ?_ (fun _ _ _ h => h) (by rfl) ?_ ?_ ?_;rotate_left 2;intro w';go_simp;(with_reducible rfl);simp only [Act.put, qz1, qz2, qz3, i64_w, i32_w];rfl
            refine last_ (i := 10) (N := some 71) (bqz 13 2047) rfl rfl (one_of HT_.out (by kernel_rfl)) (by decide) (fun K hK => ?_);refine value_ (w1 := ?_) (v := ?_) (by rfl) rfl ?_ ?_;rotate_left 2
            ·go_simp;constructor
             ·rfl
             ·rfl
            refine hK.out _ _ ?_;clear hK K;refine norm_ (a' := ?_) ?_ ?_;rotate_left
            ·show Act.put _ (some 71) _ = _;simp only [Act.put, qz1, qz2, qz3, i64_w, i32_w];rfl
            refine last_ (i := 11) (N := some 72) (bqz 13 4095) rfl rfl (one_of HT_.out (by kernel_rfl)) (by decide) (fun K hK => ?_);refine Kd.R_append_step k71 (w0 := w) w.heap.size (by rfl) (.tmp 61) (.tmp 71) 48 71 (.agg #[(.int .i64 0), (.int .i64 0)]) 16 rfl Try.underlying48 info71 rfl (by decide) (by omega) u9 g5 (⟨b3, wrap64 (a0_0 + (rd e0 b3))⟩ : S71) [.int .i64 b3, .int .i64 (wrap64 (a0_0 + (rd e0 b3)))] (fun _ => True) (fun _ => False) rfl rfl ?aP (fun _ hk => hk.elim) ?aF ?aO ?aB ?aS ?aL ?_
            (case aP => exact k71_mkM _ _ _ (⟨b3, wrap64 (a0_0 + (rd e0 b3))⟩ : S71))
            (case aB => exact (wz HB.out))
            (case aF => exact (fun _ _ => trivial))
            (case aO => exact (rz b8.out))
            (case aS => exact (below_size (wz HB.out)))
            (case aL => have := v5.out; omega)
            intro C5 D5 ho hb hg hat;rw [← v3.out] at ho;have b0 := Aside0.mk (Kd.R_over' (rz d1.out) (Kd.R_typed (rz b8.out)) (by decide) hg);have a9 := Aside0.mk (Kd.R_over' (rz a7.out) (Kd.R_typed (rz b8.out)) (by decide) hg);have b7 := Aside0.mk (Kd.R_over' (rz a6.out) (Kd.R_typed (rz b8.out)) (by decide) hg);have b6 := Aside0.mk (Kd.R_over' (rz a4.out) (Kd.R_typed (rz b8.out)) (by decide) hg);have d3 := Aside0.mk (Kd.R_over' (rz a5.out) (Kd.R_typed (rz b8.out)) (by decide) hg);have d2 := Aside0.mk (blk_grown (bz a0.out) hg (Kd.R_ne b8.out a0.out (by decide)));have d4 := Aside0.mk (blk_grown (bz a2.out) hg (Kd.R_ne b8.out a2.out (by decide)));have e2 := Aside0.mk (blk_grown (bz a3.out) hg (Kd.R_ne b8.out a3.out (by decide)));have e4 := Aside0.mk (hb);have f3 := Aside0.mk (ho);clear d1 a7 a6 a4 a5 a0 a2 a3 HB b8;have d1 := b0;have a7 := a9;have a6 := b7;have a4 := b6;have a5 := d3;have a0 := d2;have a2 := d4;have a3 := e2;have HB := e4;have v2 := f3;clear b0 a9 b7 b6 d3 d2 d4 e2 e4 f3 ho hb hg hat;refine hK.out _ _ ?_;clear hK K;refine norm_ (a' := ?_) ?_ ?_;rotate_left
            ·show Act.put _ (some 72) _ = _;simp only [Act.put, qz1, qz2, qz3, i64_w, i32_w];rfl
            refine pqz 12 (some 9) (bqz 13 8191) rfl rfl (any_of HT_.out (by kernel_rfl)) ?_ ?_ (fun _ _ _ h => h) (by rfl) ?_ ?_ ?_;rotate_left 2;intro w';go_simp;(with_reducible rfl);simp only [Act.put, qz1, qz2, qz3, i64_w, i32_w];rfl
            refine done_ (done_of HT_.out (by kernel_rfl)) ?_;try go_wp2
            go_roundg k3
            case measure => have := r9.out; have := u7.out; have := v8.out; omega
            case rel => exact ⟨(t2), (wrap64 (b3 + 1)), (by first | rfl | (simp; done) | (simp [*]; done)), H', ⟨by have := r9.out; have := u7.out; have := v8.out; omega⟩, ⟨rz v2.out⟩, ⟨rz d1.out⟩, ⟨rz a7.out⟩, ⟨rz a6.out⟩, ⟨rz a4.out⟩, ⟨rz a5.out⟩, ⟨bz a0.out⟩, ⟨bz a2.out⟩, ⟨bz a3.out⟩, ⟨wz HB.out⟩⟩
           ·rw [if_neg r8] at H;exact absurd H (by simp)
          ·rw [if_neg r7] at H;exact absurd H (by simp)
         ·rw [if_neg o1] at H;have c53b0 : decide (b3 < (e0.length : Int)) = false := decide_eq_false o1;clear o1;replace H := Option.bind_eq_some_iff.mp H;obtain ⟨t9, u1, H⟩ := H;replace H : (if t9 = true then ((Pl36b.f k3).bind fun i4 => (some i4)) else (some false)) = some r := H;have y7 := Aside0.mk u1;clear u1;by_cases s5 : t9 = true
          ·subst s5;have H1 : ((Pl36b.f k3).bind fun i4 => (some i4)) = some r := by rw [if_pos rfl] at H; exact H
           clear H;have H := H1;clear H1;replace H := Option.bind_eq_some_iff.mp H;obtain ⟨i4, t7, H⟩ := H;replace H : (some i4) = some r := H;have y3 := Aside0.mk t7;clear t7;obtain rfl := Option.some.inj H;obtain ⟨C2, B3, w3⟩ := Kd.R_slice d1.out;subst w3;have z2 := m9.out;have z3 := g0.out;have A3 := n1.out;have B0 := g1.out;have x8 : wr.cell? ⟨a8, 0, none⟩ = some (.int .i64 b5) := bcz a3 0 rfl;have x6 : wr.cell? ⟨a8, 1, none⟩ = some (.slice d9 b2.length d8) := bcz a3 1 rfl;have y0 : wr.cell? ⟨a8, 2, none⟩ = some (.slice e9 b4.length e8) := bcz a3 2 rfl;have x9 := blk_frozen a3.out 0;have x5 := blk_frozen a3.out 1;have x7 := blk_frozen a3.out 2;obtain ⟨w6, w9, x3⟩ := Kd.R_slice b8.out;subst x3;go_wp2_with (first | ((with_reducible refine gate_callee (f := 65) rfl ?_); refine goesL_ (some 75) rfl rfl Try.func65 (by kernel_rfl) rfl #[.agg #[.int .i64 b5, .slice d9 b2.length d8, .slice e9 b4.length e8], .slice w6 g5.length w9] rfl (by (try simp only [List.map_toArray, List.map_cons, List.map_nil]); first | done | rfl | (simp only [List.length_drop, List.length_take]; rfl)) ?_; (with_reducible refine (Pxk.calls b5 _ _ b2 _ _ b4 _ _ g5 true _ ?f1 ?f2 ?f6 ?f5 ?q6 ?q8 y7.out).mono ?_); (case f1 => repeat (first | exact (Kd.R_reads' a4.out).2.2 | (with_reducible refine Kd.C_alloc ?_ _) | (with_reducible refine Kd.C_drewN ?_ _) | (with_reducible refine Kd.C_drew ?_))); (case f2 => exact (Kd.R_reads' a4.out).2.1); (case f6 => repeat (first | exact (Kd.R_reads' a5.out).2.2 | (with_reducible refine Kd.C_alloc ?_ _) | (with_reducible refine Kd.C_drewN ?_ _) | (with_reducible refine Kd.C_drew ?_))); (case f5 => exact (Kd.R_reads' a5.out).2.1); (case q6 => repeat (first | exact (Kd.R_reads' b8.out).2.2 | (with_reducible refine Kd.C_alloc ?_ _) | (with_reducible refine Kd.C_drewN ?_ _) | (with_reducible refine Kd.C_drew ?_))); (case q8 => exact (Kd.R_reads' b8.out).2.1); rintro e D0 ⟨rfl, hb⟩; refine ⟨_, rfl, ?_⟩; have b0 := Aside0.mk (Kd.R_below (rz b8.out) hb); have a9 := Aside0.mk (Kd.R_below (rz d1.out) hb); have b7 := Aside0.mk (Kd.R_below (rz a7.out) hb); have b6 := Aside0.mk (Kd.R_below (rz a6.out) hb); have d3 := Aside0.mk (Kd.R_below (rz a4.out) hb); have d2 := Aside0.mk (Kd.R_below (rz a5.out) hb); have d4 := Aside0.mk (blk_below (bz a0.out) hb); have e2 := Aside0.mk (blk_below (bz a2.out) hb); have e4 := Aside0.mk (blk_below (bz a3.out) hb); have f3 := Aside0.mk (below_step (wz HB.out) hb); clear b8; clear d1; clear a7; clear a6; clear a4; clear a5; clear a0; clear a2; clear a3; clear HB; have b8 := b0; have d1 := a9; have a7 := b7; have a6 := b6; have a4 := d3; have a5 := d2; have a0 := d4; have a2 := e2; have a3 := e4; have HB := f3; clear b0 a9 b7 b6 d3 d2 d4 e2 e4 f3; (try clear hb); (try clear g2); (try clear hk); (try clear hi)) | (go_at_call 46; (with_reducible refine (Pl36b.calls k3  i4 _ y3.out hr_).mono ?_); rintro e D6 ⟨rfl, hb⟩; have b0 := Aside0.mk (Kd.R_below (rz b8.out) hb); have a9 := Aside0.mk (Kd.R_below (rz d1.out) hb); have b7 := Aside0.mk (Kd.R_below (rz a7.out) hb); have b6 := Aside0.mk (Kd.R_below (rz a6.out) hb); have d3 := Aside0.mk (Kd.R_below (rz a4.out) hb); have d2 := Aside0.mk (Kd.R_below (rz a5.out) hb); have d4 := Aside0.mk (blk_below (bz a0.out) hb); have e2 := Aside0.mk (blk_below (bz a2.out) hb); have e4 := Aside0.mk (blk_below (bz a3.out) hb); have f3 := Aside0.mk (below_step (wz HB.out) hb); clear b8; clear d1; clear a7; clear a6; clear a4; clear a5; clear a0; clear a2; clear a3; clear HB; have b8 := b0; have d1 := a9; have a7 := b7; have a6 := b6; have a4 := d3; have a5 := d2; have a0 := d4; have a2 := e2; have a3 := e4; have HB := f3; clear b0 a9 b7 b6 d3 d2 d4 e2 e4 f3; (try clear hb); (try clear g2); (try clear hk); (try clear hi)))
           go_ret
           exact ⟨by first | rfl | (simp [errW_none, errW_some] <;> rfl) | (simp [*, errW_none, errW_some] <;> rfl), wz HB.out⟩
          ·replace s5 := Bool.eq_false_iff.mpr s5;subst s5;have H1 : (some false) = some r := by rw [if_neg (show ¬ (false = true) by decide)] at H; exact H
           clear H;have H := H1;clear H1;obtain rfl := Option.some.inj H;exact absurd hr_.out (by decide)
end Go.Proofs.Ytmcbkmfpmcbdpaa.Pr
set_option linter.unusedVariables false
set_option linter.unusedSimpArgs false
namespace Go.Proofs.Ytmcbkmfpmcbdpaa.H
open Go.RowKit Go.Proofs.Ytmcbkmfpmcbdpaa.Pr Go.Proofs.YtmcbkmfpmcbdpaaW.PrintWords Go.Proofs.Ytmcbkmfpmcbdpaa.Sem
theorem Ev.pos {α : Type} {c : Prop} [Decidable c] {a b : Nat → Option α} {r : α} (h : c) (e : Ev a r) : Ev (fun k => if c then a k else b k) r := by
 simp only [if_pos h]
 exact e
theorem Ev.neg {α : Type} {c : Prop} [Decidable c] {a b : Nat → Option α} {r : α} (h : ¬ c) (e : Ev b r) : Ev (fun k => if c then a k else b k) r := by
 simp only [if_neg h]
 exact e
theorem Ev.some_ {α : Type} {a : Nat → Option α} {r : α} (h : ∀ k, a k = some r) : Ev a r := ⟨0, fun k _ => h k⟩
theorem Ev.bindS {α β : Type} {g : Option α} {f : Nat → α → Option β} {a : α} {r : β} (h : g = some a) (k : Ev (fun n => f n a) r) : Ev (fun n => g.bind (f n)) r := by
 subst h
 simpa using k
theorem Ev.last {α : Type} {g : Nat → Option α} {r : α} (h : Ev g r) : Ev (fun n => (g n).bind fun t => some t) r := by
 obtain ⟨K, h⟩ := h
 exact ⟨K, fun k hk => by simp [h k hk]⟩
theorem w1 {i : Int} (h0 : 0 ≤ i) (h1 : i < 4611686018427387904) : wrap64 (i + 1) = i + 1 := by unfold wrap64; omega
theorem w1n {k : Nat} (h1 : (k : Int) < 4611686018427387904) : wrap64 ((k : Int) + 1) = ((k + 1 : Nat) : Int) := by unfold wrap64; omega
theorem take_snocD {α : Type} (d : α) {xs : List α} {k : Nat} (hk : k < xs.length) : xs.take (k + 1) = xs.take k ++ [xs.getD k d] := take_snoc d hk
end Go.Proofs.Ytmcbkmfpmcbdpaa.H
set_option linter.unusedVariables false
set_option linter.unusedSimpArgs false
namespace Go.Proofs.Ytmcbkmfpmcbdpaa.H
open Go.RowKit Go.Proofs.Ytmcbkmfpmcbdpaa.Pr Go.Proofs.YtmcbkmfpmcbdpaaW.PrintWords Go.Proofs.Ytmcbkmfpmcbdpaa.Sem Go.Proofs.Ytmcbkmfpmcbdpaa.PL
theorem may_of {n : Int} {ls : List ByteArray} {es : List Ed} (h1 : 1 ≤ n ∧ n ≤ 2048) (h2 : ls.length ≤ 64) (h3 : ls.Pairwise slt) (h4 : ∀ s ∈ ls, s.size ≤ 200) (h5 : es.length ≤ 1000000) (h6 : es.Pairwise elt) (h7 : ∀ e ∈ es, (0 ≤ e.f0 ∧ e.f0 < n) ∧ (0 ≤ e.f2 ∧ e.f2 < n) ∧ 0 ≤ e.f1 ∧ e.f1 < (ls.length : Int)) : mayR n ls es = true := by
 unfold mayR
 simp only [Bool.and_eq_true, decide_eq_true_eq, List.all_eq_true, List.mem_range]
 refine ⟨h1.1, h1.2, h2, h5, fun k hk => ?_, fun k hk => ?_⟩
 ·unfold labAt tooLong
  simp only [Bool.and_eq_true, Bool.not_eq_true', decide_eq_false_iff_not, Bool.or_eq_true, decide_eq_true_eq]
  refine ⟨?_, ?_⟩
  ·rw [getD_get hk]
   have := h4 _ (List.getElem_mem hk)
   omega
  ·rcases Nat.eq_zero_or_pos k with q | q
   ·exact .inl q
   ·right
    rw [getD_get hk, getD_get (show k - 1 < ls.length by omega), bytesLess_lt, decide_eq_true_eq, ByteArray.toList_eq, ByteArray.toList_eq]
    exact List.pairwise_iff_getElem.1 h3 (k - 1) k (by omega) hk (by omega)
 ·unfold okAt'
  simp only [Bool.and_eq_true, decide_eq_true_eq, Bool.or_eq_true]
  have hm := h7 _ (List.getElem_mem hk)
  rw [getD_get hk]
  refine ⟨hm.1, hm.2.1, hm.2.2.1, hm.2.2.2, ?_⟩
  rcases Nat.eq_zero_or_pos k with q | q
  ·exact .inl q
  ·right
   rw [getD_get (show k - 1 < es.length by omega)]
   exact List.pairwise_iff_getElem.1 h6 (k - 1) k (by omega) hk (by omega)
theorem may_lab {n : Int} {ls : List ByteArray} {es : List Ed} (h : mayR n ls es = true) : ls.length ≤ 64 ∧ ∀ s ∈ ls, s.size ≤ 200 := by
 unfold mayR at h
 simp only [Bool.and_eq_true, decide_eq_true_eq, List.all_eq_true, List.mem_range] at h
 refine ⟨h.2.2.1, fun s hs => ?_⟩
 obtain ⟨k, hk, rfl⟩ := List.getElem_of_mem hs
 have := h.2.2.2.2.1 k hk
 unfold labAt tooLong at this
 simp only [Bool.and_eq_true, Bool.not_eq_true', decide_eq_false_iff_not] at this
 have := this.1
 rw [getD_get hk] at this
 omega
theorem may_rise {n : Int} {ls : List ByteArray} {es : List Ed} (h : mayR n ls es = true) : ls.Pairwise slt := by
 unfold mayR at h
 simp only [Bool.and_eq_true, decide_eq_true_eq, List.all_eq_true, List.mem_range] at h
 have step : ∀ k, 0 < k → (hk : k < ls.length) → slt (ls[k - 1]'(by omega)) ls[k] := by
  intro k h0 hk
  have := h.2.2.2.2.1 k hk
  unfold labAt at this
  simp only [Bool.and_eq_true, Bool.or_eq_true, decide_eq_true_eq] at this
  rcases this.2 with q | q
  ·omega
  ·rw [getD_get hk, getD_get (show k - 1 < ls.length by omega), bytesLess_lt, decide_eq_true_eq, ByteArray.toList_eq, ByteArray.toList_eq] at q
   exact q
 rw [List.pairwise_iff_getElem]
 intro i j hi hj hij
 induction j with
 | zero => omega
 | succ j ih =>
  have hs := step (j + 1) (by omega) hj
  rcases Nat.lt_succ_iff_lt_or_eq.1 hij with q | rfl
  ·exact slt_tr _ _ _ (ih (by omega) q) hs
  ·exact hs
theorem may_edge {n : Int} {ls : List ByteArray} {es : List Ed} (h : mayR n ls es = true) : ∀ e ∈ es, (0 ≤ e.f0 ∧ e.f0 < n) ∧ (0 ≤ e.f2 ∧ e.f2 < n) ∧ 0 ≤ e.f1 ∧ e.f1 < (ls.length : Int) := fun e he => by
 obtain ⟨k, hk, rfl⟩ := List.getElem_of_mem he
 have := lt_ok h hk
 unfold okAt' at this
 simp only [Bool.and_eq_true, decide_eq_true_eq] at this
 rw [getD_get hk] at this
 exact ⟨this.1, this.2.1, this.2.2.1, this.2.2.2.1⟩
theorem may_sorted {n : Int} {ls : List ByteArray} {es : List Ed} (h : mayR n ls es = true) : es.Pairwise elt := by
 rw [List.pairwise_iff_getElem]
 intro i j hi hj hij
 induction j with
 | zero => omega
 | succ j ih =>
  have hs := lt_next h hj
  rw [getD_get hj, getD_get (show j < es.length by omega)] at hs
  rcases Nat.lt_succ_iff_lt_or_eq.1 hij with q | rfl
  ·exact elt_trans (ih (by omega) q) hs
  ·exact hs
end Go.Proofs.Ytmcbkmfpmcbdpaa.H
set_option linter.unusedVariables false
set_option linter.unusedSimpArgs false
namespace Go.Proofs.Ytmcbkmfpmcbdpaa.H
open Go.RowKit Go.Proofs.Ytmcbkmfpmcbdpaa.Pr Go.Proofs.YtmcbkmfpmcbdpaaW.PrintWords Go.Proofs.Ytmcbkmfpmcbdpaa.Sem Go.Proofs.Ytmcbkmfpmcbdpaa.PL
theorem rdI (ks : List Int) {i : Nat} (hi : i < ks.length) : rd ks (i : Int) = ks[i] := by
 show ks.getD (i : Int).toNat 0 = _
 rw [Int.toNat_natCast, List.getD_eq_getElem?_getD, List.getElem?_eq_getElem hi]
 rfl
theorem firstN_of {ks : List Int} {i j : Nat} (hi : i < ks.length) (hj : j ≤ i) (h : ks[j]'(by omega) = ks[i]) (hb : ∀ m (hm : m < j), ks[m]'(by omega) ≠ ks[i]) : firstN ks i = j := by
 have hle := firstN_le hi
 rcases Nat.lt_trichotomy (firstN ks i) j with q | q | q
 ·exact absurd (firstN_same hi) (hb _ q)
 ·exact q
 ·exact absurd h (firstN_least hi q)
theorem first_ev (ks : List Int) {i : Nat} (hi : i < ks.length) (hl : ks.length ≤ 1000000000) : Ev (fun k => Pr31c.f k ks (i : Int)) (firstN ks i : Int) := by
 have key : ∀ (d j : Nat) (hji : j + d = i), (∀ m (hm : m < j), ks[m]'(by omega) ≠ ks[i]) → Ev (fun k => Pr31c.l0 k ks (i : Int) (j : Int)) (firstN ks i : Int) := by
  intro d
  induction d with
  | zero =>
   intro j h hb
   obtain rfl : j = i := by omega
   rw [firstN_of hi (Nat.le_refl _) rfl hb]
   exact Ev.step (fun k => Pr31c.l0.eq_2 ..) (Ev.neg (by omega) (Ev.now _))
  | succ d ih =>
   intro j h hb
   refine Ev.step (fun k => Pr31c.l0.eq_2 ..) (Ev.pos (by omega) (Ev.pos (by omega) (Ev.pos (by omega) (Ev.pos (by omega) (Ev.pos (by omega) ?_)))))
   rw [rdI ks (show j < ks.length by omega), rdI ks hi]
   by_cases q : ks[j]'(by omega) = ks[i]
   ·rw [firstN_of hi (by omega) q hb]
    exact Ev.pos q (Ev.now _)
   ·refine Ev.neg q ?_
    rw [w1n (by omega)]
    refine ih (j + 1) (by omega) fun m hm => ?_
    rcases Nat.lt_succ_iff_lt_or_eq.1 hm with h1 | h1
    ·exact hb m h1
    ·subst h1; exact q
 exact key i 0 (by omega) fun m hm => by omega
theorem newN_succ (ks : List Int) (m : Nat) : newN ks (m + 1) = newN ks m + if firstN ks m = m then 1 else 0 := by
 unfold newN
 rw [List.range_succ, List.filter_append, List.length_append]
 congr 1
 by_cases q : firstN ks m = m
 ·simp [q]
 ·simp [q]
theorem newN_le (ks : List Int) (m : Nat) : newN ks m ≤ m := by
 unfold newN
 have := List.length_filter_le (fun k => firstN ks k == k) (List.range m)
 simpa using this
theorem count_ev (ks : List Int) (hl : ks.length ≤ 1000000000) : Ev (fun k => Pr31a.f k ks) ((fstK ks).length : Int) := by
 have key : ∀ d i : Nat, i + d = ks.length → Ev (fun k => Pr31a.l0 k ks (newN ks i : Int) (i : Int)) ((fstK ks).length : Int) := by
  intro d
  induction d with
  | zero =>
   intro i h
   obtain rfl : i = ks.length := by omega
   rw [count_new]
   exact Ev.step (fun k => Pr31a.l0.eq_2 ..) (Ev.neg (by omega) (Ev.now _))
  | succ d ih =>
   intro i h
   have hi : i < ks.length := by omega
   have hn := newN_le ks i
   have ih' := ih (i + 1) (by omega)
   rw [newN_succ] at ih'
   refine Ev.step (fun k => Pr31a.l0.eq_2 ..) (Ev.pos (by omega) (Ev.bind (first_ev ks hi hl) ?_))
   rw [w1n (by omega), w1n (by omega)]
   by_cases q : firstN ks i = i
   ·rw [if_pos q] at ih'
    exact Ev.pos (by omega) ih'
   ·rw [if_neg q] at ih'
    exact Ev.neg (by omega) ih'
 exact key ks.length 0 (by omega)
theorem plain_ev (ks : List Int) (hl : ks.length ≤ 1000000000) : Ev (fun k => Pr31b.f k ks) (numK ks) := by
 have key : ∀ d i : Nat, i + d = ks.length → Ev (fun k => Pr31b.l0 k ks ((numK ks).take i) (i : Int)) (numK ks) := by
  intro d
  induction d with
  | zero =>
   intro i h;rw [List.take_of_length_le (by rw [numK_length]; omega)];exact Ev.step (fun k => Pr31b.l0.eq_2 ..) (Ev.neg (by omega) (Ev.now _))
  | succ d ih =>
   intro i h;have hi : i < ks.length := by omega
   have hf := firstN_le hi;have ih' := ih (i + 1) (by omega);rw [take_snocD (0 : Int) (show i < (numK ks).length by rw [numK_length]; exact hi), numK_new hi] at ih';have hlen : ((numK ks).take i).length < 17592186044416 := by rw [List.length_take]; omega
   have inner : ∀ d2 m : Nat, m + d2 = firstN ks i → Ev (fun k => Pr31b.l1 k ks ((numK ks).take i) (i : Int) (firstN ks i : Int) (newN ks m : Int) (m : Int)) (numK ks) := by
    intro d2
    induction d2 with
    | zero =>
     intro m h2;obtain rfl : m = firstN ks i := by omega
     refine Ev.step (fun k => Pr31b.l1.eq_2 ..) (Ev.neg (by omega) (Ev.pos hlen ?_));rw [w1n (by omega)];exact ih'
    | succ d2 ih2 =>
     intro m h2;have hn := newN_le ks m;have ih2' := ih2 (m + 1) (by omega);rw [newN_succ] at ih2';refine Ev.step (fun k => Pr31b.l1.eq_2 ..) (Ev.pos (by omega) (Ev.bind (first_ev ks (show m < ks.length by omega) hl) ?_));rw [w1n (by omega), w1n (by omega)];by_cases q : firstN ks m = m
     ·rw [if_pos q] at ih2';exact Ev.pos (by omega) ih2'
     ·rw [if_neg q] at ih2';exact Ev.neg (by omega) ih2'
   exact Ev.step (fun k => Pr31b.l0.eq_2 ..) (Ev.pos (by omega) (Ev.bind (first_ev ks hi hl) (inner (firstN ks i) 0 (by omega))))
 exact key ks.length 0 (by omega)
theorem sortE_sorted (es : List Ed) : (sortE es).Pairwise elt := (fold_ins es [] List.Pairwise.nil).1
theorem sortE_mem (es : List Ed) (x : Ed) : x ∈ sortE es ↔ x ∈ es := by
 have := (fold_ins es [] List.Pairwise.nil).2 x
 rw [show sortE es = es.foldl (fun o e => insE e o) [] from rfl, this]
 simp
def imE (c : List Int) (e : Ed) : Ed := ⟨c.getD e.f0.toNat 0, e.f1, c.getD e.f2.toNat 0⟩
theorem numK_numK (ks : List Int) : numK (numK ks) = numK ks ∧ (fstK (numK ks)).length = (fstK ks).length := numK_ker _ _ (ker_numK ks)
theorem inW_numK (ks : List Int) (hl : ks.length ≤ 1000000000) : inW (numK ks) = true := by
 unfold inW
 rw [Bool.and_eq_true, List.all_eq_true, decide_eq_true_eq]
 refine ⟨fun x hx => ?_, by rw [numK_length]; exact hl⟩
 have h1 := numK_range ks x hx
 have h2 := fstK_length_le ks
 simp only [Bool.and_eq_true, decide_eq_true_eq]
 omega
theorem cls_in {ks : List Int} {x : Int} (h0 : 0 ≤ x) (h1 : x < (ks.length : Int)) : 0 ≤ (numK ks).getD x.toNat 0 ∧ (numK ks).getD x.toNat 0 < ((fstK ks).length : Int) := by
 refine numK_range ks _ ?_
 have : x.toNat < (numK ks).length := by rw [numK_length]; omega
 rw [List.getD_eq_getElem?_getD, List.getElem?_eq_getElem this]
 exact List.getElem_mem this
theorem may_quot {n : Nat} {ls : List ByteArray} {es : List Ed} {ks : List Int} (hm : mayR n ls es = true) (hl : ks.length = n) : mayR ((fstK ks).length : Int) ls (sortE (es.map (imE (numK ks)))) = true := by
 have hn := lt_n hm
 have hf := fstK_length_le ks
 have h0 : 1 ≤ (fstK ks).length := by
  have hmem : ks[0]'(by omega) ∈ fstK ks := (fstK_mem _ _).2 (List.getElem_mem _)
  exact List.length_pos_of_mem hmem
 refine may_of ⟨by omega, by omega⟩ (may_lab hm).1 (may_rise hm) (may_lab hm).2 ?_ (sortE_sorted _) fun e he => ?_
 ·have h1 := sortE_length (es.map (imE (numK ks)))
  rw [List.length_map] at h1
  have := es_le hm
  omega
 ·obtain ⟨f, hf, rfl⟩ := List.mem_map.1 ((sortE_mem _ _).1 he)
  have h1 := may_edge hm f hf
  exact ⟨cls_in h1.1.1 (by omega), cls_in h1.2.1.1 (by omega), h1.2.2⟩
theorem quotOf_ev {n : Nat} {ls : List ByteArray} {es : List Ed} {ks : List Int} (hm : mayR n ls es = true) (hl : ks.length = n) (hw : inW ks = true) : Ev (fun k => Pxl.f k (n : Int) ls es ks) (((fstK ks).length : Int), ls, sortE (es.map (imE (numK ks))), 0) := by
 have hn := lt_n hm;have hel := es_le hm;have hc := numK_length ks;have hkk := numK_numK ks
 have key : ∀ d i : Nat, i + d = es.length → Ev (fun k => Pxl.l0 k (numK ks) es (es.length : Int) (i : Int) ((fstK ks).length : Int) ls ((es.take i).map (imE (numK ks)))) (((fstK ks).length : Int), ls, sortE (es.map (imE (numK ks))), (0 : Int)) := by
  intro d
  induction d with
  | zero =>
   intro i h;rw [List.take_of_length_le (by omega)];refine Ev.step (fun k => Pxl.l0.eq_2 ..) (Ev.neg (by omega) (Ev.bindS (a := (((fstK ks).length : Int), ls, sortE (es.map (imE (numK ks))), (0 : Int))) ?_ (Ev.now _)));unfold Pxj.f;rw [if_pos ⟨by rw [List.length_map]; exact hel, by have := (may_lab hm).1; omega⟩, if_pos (may_quot hm hl)]
  | succ d ih =>
   intro i h;have hi : i < es.length := by omega
   have ih' := ih (i + 1) (by omega);have hmem : es[i] ∈ es := List.getElem_mem hi;have he := may_edge hm _ hmem;rw [take_snocD z80 hi, List.map_append] at ih';have hd : es.getD i z80 = es[i] := getD_get hi
   have hr : rd_T80 es (i : Int) = es[i] := by
    show es.getD (i : Int).toNat _ = _;rw [Int.toNat_natCast, hd]
   rw [hd] at ih';refine Ev.step (fun k => Pxl.l0.eq_2 ..) (Ev.pos (by omega) (Ev.pos (by omega) (Ev.pos (by omega) ?_)));rw [hr, w1n (by omega)];exact Ev.pos he.1.1 (Ev.pos (by omega) (Ev.pos he.2.1.1 (Ev.pos (by omega) (Ev.pos (by rw [List.length_map, List.length_take]; omega) ih'))))
 refine Ev.bindS (a := 0) (by unfold Pxh.f; rw [hm]; rfl) (Ev.pos rfl (Ev.step (fun k => Pxl.j0.eq_2 ..) (Ev.neg (by simp; omega) (Ev.bindS (a := numK ks) (by unfold Pxf.f; rw [if_pos hw]) (Ev.bindS (a := ((fstK ks).length : Int)) ?_ (key es.length 0 (by omega)))))));unfold Pxg.f;rw [if_pos (inW_numK ks (by omega)), hkk.2]
end Go.Proofs.Ytmcbkmfpmcbdpaa.H
set_option linter.unusedVariables false
set_option linter.unusedSimpArgs false
namespace Go.Proofs.Ytmcbkmfpmcbdpaa.H
open Go.RowKit Go.Proofs.Ytmcbkmfpmcbdpaa.Pr Go.Proofs.YtmcbkmfpmcbdpaaW.PrintWords Go.Proofs.Ytmcbkmfpmcbdpaa.Sem Go.Proofs.Ytmcbkmfpmcbdpaa.PL
theorem toList_eq {a b : ByteArray} : a.toList = b.toList ↔ a = b := by
 constructor
 ·intro h
  exact ByteArray.ext (Array.toList_inj.1 (by simpa [ByteArray.toList_eq] using h))
 ·intro h; rw [h]
instance lawB : LawfulBEq ByteArray where
  eq_of_beq {a b} h := by
    have h2 : a.data = b.data := eq_of_beq (show (a.data == b.data) = true from h)
    exact ByteArray.ext h2
  rfl {a} := show (a.data == a.data) = true from beq_self_eq_true _
def plc (ls : List ByteArray) (s : ByteArray) : Int := if s ∈ ls then (ls.idxOf s : Int) else -1
theorem rdS (ls : List ByteArray) {i : Nat} (hi : i < ls.length) : rdOf ByteArray.empty ls (i : Int) = ls[i] := by
 unfold rdOf
 rw [Int.toNat_natCast, getD_get hi]
theorem idxOf_beforeB : ∀ (l : List ByteArray) (k : ByteArray) (j : Nat) (h : j < l.length), j < l.idxOf k → l[j] ≠ k
 | [], _, _, h, _ => by simp at h
 | a :: r, k, j, h, hj => by
  rw [List.idxOf_cons] at hj
  by_cases q : a = k
  ·subst q; simp at hj
  ·rw [show (a == k) = false by simpa using q] at hj
   cases j with
   | zero => simpa using q
   | succ j => simp only [cond_false] at hj; rw [List.getElem_cons_succ]; exact idxOf_beforeB r k j (by simpa using h) (by omega)
theorem plc_at {ls : List ByteArray} {s : ByteArray} {i : Nat} (hi : i < ls.length) (h : ls[i] = s) (hb : ∀ j (hj : j < ls.length), j < i → ls[j] ≠ s) : plc ls s = (i : Int) := by
 unfold plc
 rw [if_pos (h ▸ List.getElem_mem hi)]
 congr 1
 have h1 := List.idxOf_lt_length_of_mem (h ▸ List.getElem_mem hi : s ∈ ls)
 have h2 := List.getElem_idxOf h1
 rcases Nat.lt_trichotomy (ls.idxOf s) i with q | q | q
 ·exact absurd h2 (hb _ h1 q)
 ·exact q
 ·exact absurd h (idxOf_beforeB ls s i hi q)
theorem plc_no {ls : List ByteArray} {s : ByteArray} (hb : ∀ j (hj : j < ls.length), ls[j] ≠ s) : plc ls s = -1 := by
 unfold plc
 rw [if_neg fun h => ?_]
 obtain ⟨j, hj, e⟩ := List.getElem_of_mem h
 exact hb j hj e
theorem index_ev (ls : List ByteArray) (s : ByteArray) (hl : ls.length ≤ 1000000) : Ev (fun k => Pxa.f k ls s) (plc ls s) := by
 have key : ∀ d i : Nat, i + d = ls.length → (∀ j (hj : j < ls.length), j < i → ls[j] ≠ s) → Ev (fun k => Pxa.l0 k ls s (ls.length : Int) (i : Int)) (plc ls s) := by
  intro d
  induction d with
  | zero =>
   intro i h hb
   rw [plc_no fun j hj => hb j hj (by omega)]
   exact Ev.step (fun k => Pxa.l0.eq_2 ..) (Ev.neg (by omega) (Ev.now _))
  | succ d ih =>
   intro i h hb
   have hi : i < ls.length := by omega
   refine Ev.step (fun k => Pxa.l0.eq_2 ..) (Ev.pos (by omega) (Ev.pos (by omega) (Ev.pos (by omega) ?_)))
   rw [rdS ls hi]
   by_cases q : ls[i] = s
   ·rw [plc_at hi q hb]
    exact Ev.pos (toList_eq.2 q.symm) (Ev.now _)
   ·refine Ev.neg (fun h => q (toList_eq.1 h).symm) ?_
    rw [w1n (by omega)]
    refine ih (i + 1) (by omega) fun j hj hji => ?_
    rcases Nat.lt_succ_iff_lt_or_eq.1 hji with h | rfl
    ·exact hb j hj h
    ·exact q
 exact key ls.length 0 (by omega) fun j hj h => by omega
theorem nplace_ev (ls : List ByteArray) (s : ByteArray) (hl : ls.length ≤ 1000000) : Ev (fun k => Pxb.f k ls s) (plc ls s) := Ev.last (index_ev ls s hl)
def succP (es : List Ed) (a l : Int) : List Int := (es.filter fun e => decide (e.f0 = a) && decide (e.f1 = l)).map (·.f2)
theorem succP_len (es : List Ed) (a l : Int) : (succP es a l).length ≤ es.length := by unfold succP; rw [List.length_map]; exact List.length_filter_le _ _
theorem succP_mem {es : List Ed} {a l q : Int} : q ∈ succP es a l ↔ ∃ f ∈ es, f.f0 = a ∧ f.f1 = l ∧ f.f2 = q := by
 unfold succP
 simp only [List.mem_map, List.mem_filter, Bool.and_eq_true, decide_eq_true_eq]
 constructor
 ·rintro ⟨f, ⟨h1, h2, h3⟩, h4⟩; exact ⟨f, h1, h2, h3, h4⟩
 ·rintro ⟨f, h1, h2, h3, h4⟩; exact ⟨f, ⟨h1, h2, h3⟩, h4⟩
theorem succP_snoc (es : List Ed) (e : Ed) (a b : Int) : succP (es ++ [e]) a b = if e.f0 = a ∧ e.f1 = b then succP es a b ++ [e.f2] else succP es a b := by
 unfold succP
 by_cases h : e.f0 = a ∧ e.f1 = b
 ·rw [if_pos h]; simp [h.1, h.2]
 ·rw [if_neg h]
  have : (decide (e.f0 = a) && decide (e.f1 = b)) = false := by simpa using h
  simp [this]
theorem rd81 (es : List Ed) (i : Nat) : rd_T80 es (i : Int) = es.getD i z80 := rfl
theorem succ_ev (n : Int) (ls : List ByteArray) (es : List Ed) (a l : Int) (hl : es.length ≤ 1000000) : Ev (fun k => Pr26a.f k n ls es a l) (succP es a l) := by
 have key : ∀ d i : Nat, i + d = es.length → Ev (fun k => Pr26a.l0 k a l (succP (es.take i) a l) (i : Int) n ls es) (succP es a l) := by
  intro d
  induction d with
  | zero =>
   intro i h
   rw [List.take_of_length_le (by omega)]
   exact Ev.step (fun k => Pr26a.l0.eq_2 ..) (Ev.neg (by omega) (Ev.now _))
  | succ d ih =>
   intro i h
   have ih' := ih (i + 1) (by omega)
   rw [take_snocD z80 (show i < es.length by omega), succP_snoc] at ih'
   have hlen : (succP (es.take i) a l).length < 17592186044416 := by
    have := succP_len (es.take i) a l
    rw [List.length_take] at this
    omega
   refine Ev.step (fun k => Pr26a.l0.eq_2 ..) (Ev.pos (by omega) (Ev.pos (by omega) ?_))
   rw [w1n (by omega), rd81]
   by_cases h1 : (es.getD i z80).f0 = a
   ·by_cases h2 : (es.getD i z80).f1 = l
    ·rw [if_pos ⟨h1, h2⟩] at ih'
     exact Ev.pos h1 (Ev.pos h2 (Ev.pos hlen ih'))
    ·rw [if_neg (fun h => h2 h.2)] at ih'
     exact Ev.pos h1 (Ev.neg h2 ih')
   ·rw [if_neg (fun h => h1 h.1)] at ih'
    exact Ev.neg h1 ih'
 exact key es.length 0 (by omega)
def doesB (es : List Ed) (c : List Int) (a l b : Int) : Bool := (succP es a l).any fun q => decide (c.getD q.toNat 0 = b)
theorem does_ev {n : Nat} {ls : List ByteArray} {es : List Ed} {c : List Int} (hm : mayR n ls es = true) (hc : c.length = n) (a l b : Int) : Ev (fun k => Pr32d.f k (n : Int) ls es c a l b) (doesB es c a l b) := by
 have hel := es_le hm;have hn := lt_n hm
 have hin : ∀ q ∈ succP es a l, 0 ≤ q ∧ q < (n : Int) := fun q hq => by
  obtain ⟨f, hf, _, _, rfl⟩ := succP_mem.1 hq;exact (may_edge hm f hf).2.1
 have hsl := succP_len es a l;refine Ev.bind (succ_ev (n : Int) ls es a l hel) ?_;obtain ⟨L, hL⟩ : ∃ L, L = succP es a l := ⟨_, rfl⟩
 unfold doesB;rw [← hL] at hin hsl ⊢
 have key : ∀ d i : Nat, i + d = L.length → ((L.take i).any fun q => decide (c.getD q.toNat 0 = b)) = false → Ev (fun k => Pr32d.l0 k c b L (i : Int)) (L.any fun q => decide (c.getD q.toNat 0 = b)) := by
  intro d
  induction d with
  | zero =>
   intro i h hall;rw [List.take_of_length_le (by omega)] at hall;rw [hall];exact Ev.step (fun k => Pr32d.l0.eq_2 ..) (Ev.neg (by omega) (Ev.now _))
  | succ d ih =>
   intro i h hall;have hi : i < L.length := by omega
   have hq := hin _ (List.getElem_mem hi);have ih' := ih (i + 1) (by omega);have hd : L.getD i 0 = L[i] := getD_get hi;rw [take_snocD (0 : Int) hi, List.any_append, hall, Bool.false_or, hd] at ih';refine Ev.step (fun k => Pr32d.l0.eq_2 ..) (Ev.pos (by omega) (Ev.pos (by omega) ?_));rw [rdI L hi];refine Ev.pos hq.1 (Ev.pos (by omega) ?_);have e : rd c L[i] = c.getD (L[i]).toNat 0 := rfl;rw [e, w1n (by omega)];by_cases h1 : c.getD (L[i]).toNat 0 = b
   ·have hr : (L.any fun q => decide (c.getD q.toNat 0 = b)) = true := by
     rw [List.any_eq_true];exact ⟨L[i], List.getElem_mem hi, decide_eq_true h1⟩
    rw [hr];exact Ev.pos h1 (Ev.now _)
   ·exact Ev.neg h1 (ih' (by rw [List.any_cons, List.any_nil, Bool.or_false]; exact decide_eq_false h1))
 exact key L.length 0 (by omega) (by simp)
def wayL (es : List Ed) (c : List Int) (a : Int) (l m : Nat) : List S184 := ((List.range m).filter fun b : Nat => doesB es c a (l : Int) (b : Int)).map fun b : Nat => ⟨(l : Int), (b : Int)⟩
def waysL (es : List Ed) (c : List Int) (cnt : Nat) (a : Int) (L : Nat) : List S184 := (List.range L).flatMap fun l => wayL es c a l cnt
theorem wayL_len (es : List Ed) (c : List Int) (a : Int) (l m : Nat) : (wayL es c a l m).length ≤ m := by
 unfold wayL
 rw [List.length_map]
 have := List.length_filter_le (fun b : Nat => doesB es c a (l : Int) (b : Int)) (List.range m)
 simpa using this
theorem waysL_len (es : List Ed) (c : List Int) (cnt : Nat) (a : Int) (L : Nat) : (waysL es c cnt a L).length ≤ L * cnt := by
 unfold waysL
 induction L with
 | zero => simp
 | succ L ih =>
  have := wayL_len es c a L cnt
  rw [List.range_succ, List.flatMap_append, List.length_append, Nat.succ_mul]
  simp only [List.flatMap_cons, List.flatMap_nil, List.append_nil]
  omega
theorem wayL_succ (es : List Ed) (c : List Int) (a : Int) (l m : Nat) : wayL es c a l (m + 1) = if doesB es c a (l : Int) (m : Int) = true then wayL es c a l m ++ [⟨(l : Int), (m : Int)⟩] else wayL es c a l m := by
 unfold wayL
 rw [List.range_succ, List.filter_append, List.map_append]
 by_cases h : doesB es c a (l : Int) (m : Int) = true
 ·rw [if_pos h]; simp [h]
 ·rw [if_neg h]; simp [h]
theorem ways_ev {n : Nat} {ls : List ByteArray} {es : List Ed} {c : List Int} (hm : mayR n ls es = true) (hc : c.length = n) (a : Int) : Ev (fun k => Pr32e.f k (n : Int) ls es c a) (waysL es c (fstK c).length a ls.length) := by
 have hn := lt_n hm;have hll := (may_lab hm).1;have hcnt := fstK_length_le c;obtain ⟨cnt, hcn⟩ : ∃ cnt, cnt = (fstK c).length := ⟨_, rfl⟩
 have hC := count_ev c (by omega);rw [← hcn] at hC ⊢
 have key : ∀ d l : Nat, l + d = ls.length → Ev (fun k => Pr32e.l0 k c a (waysL es c cnt a l) (l : Int) (n : Int) ls es) (waysL es c cnt a ls.length) := by
  intro d
  induction d with
  | zero =>
   intro l h;obtain rfl : l = ls.length := by omega
   exact Ev.step (fun k => Pr32e.l0.eq_2 ..) (Ev.neg (by omega) (Ev.now _))
  | succ d ih =>
   intro l h;have ih' := ih (l + 1) (by omega);have hwl := waysL_len es c cnt a l;have hlc : l * cnt ≤ 64 * 2048 := Nat.mul_le_mul (by omega) (by omega)
   have inner : ∀ d2 b : Nat, b + d2 = cnt → Ev (fun k => Pr32e.l1 k c a (waysL es c cnt a l ++ wayL es c a l b) (l : Int) (b : Int) (n : Int) ls es) (waysL es c cnt a ls.length) := by
    intro d2
    induction d2 with
    | zero =>
     intro b h2;obtain rfl : b = cnt := by omega
     refine Ev.step (fun k => Pr32e.l1.eq_2 ..) (Ev.bind hC (Ev.neg (by omega) ?_));rw [w1n (by omega)]
     have e : waysL es c b a l ++ wayL es c a l b = waysL es c b a (l + 1) := by
      unfold waysL;rw [List.range_succ, List.flatMap_append];simp
     rw [e];exact ih'
    | succ d2 ih2 =>
     intro b h2;have ih2' := ih2 (b + 1) (by omega);rw [wayL_succ] at ih2';have hw := wayL_len es c a l b;refine Ev.step (fun k => Pr32e.l1.eq_2 ..) (Ev.bind hC (Ev.pos (by omega) (Ev.bind (does_ev hm hc a (l : Int) (b : Int)) ?_)));rw [w1n (by omega)];by_cases q : doesB es c a (l : Int) (b : Int) = true
     ·rw [if_pos q, ← List.append_assoc] at ih2';exact Ev.pos q (Ev.pos (by rw [List.length_append]; omega) ih2')
     ·rw [if_neg q] at ih2';exact Ev.neg q ih2'
   refine Ev.step (fun k => Pr32e.l0.eq_2 ..) (Ev.pos (by omega) ?_);have := inner cnt 0 (by omega);rwa [show wayL es c a l 0 = [] from rfl, List.append_nil] at this
 exact key ls.length 0 (by omega)
theorem way_ext {x y : S184} (h0 : x.f0 = y.f0) (h1 : x.f1 = y.f1) : x = y := by cases x; cases y; simp_all
theorem same32_ev (A B : List S184) (hl : A.length ≤ 1000000000) : ∃ r, Ev (fun k => Pr32c.f k A B) r ∧ (r = true → A = B) := by
 by_cases hlen : A.length = B.length
 ·have key : ∀ d i : Nat, i + d = A.length → (∀ j (h : j < i) (h1 : j < A.length) (h2 : j < B.length), A[j] = B[j]) → ∃ r, Ev (fun k => Pr32c.l0 k A B (i : Int)) r ∧ (r = true → A = B) := by
   intro d
   induction d with
   | zero =>
    intro i h hb;exact ⟨true, Ev.step (fun k => Pr32c.l0.eq_2 ..) (Ev.neg (by omega) (Ev.now _)), fun _ => List.ext_getElem hlen fun j h1 h2 => hb j (by omega) h1 h2⟩
   | succ d ih =>
    intro i h hb;have hi : i < A.length := by omega
    have hi2 : i < B.length := by omega
    have e1 : rd_T184 A (i : Int) = A[i] := by show A.getD (i : Int).toNat _ = _; rw [Int.toNat_natCast, getD_get hi]
    have e2 : rd_T184 B (i : Int) = B[i] := by show B.getD (i : Int).toNat _ = _; rw [Int.toNat_natCast, getD_get hi2]
    by_cases q : A[i] = B[i]
    ·obtain ⟨r, hr, hr2⟩ := ih (i + 1) (by omega) fun j hj h1 h2 => by
      rcases Nat.lt_succ_iff_lt_or_eq.1 hj with h3 | h3
      ·exact hb j h3 h1 h2
      ·subst h3; exact q
     refine ⟨r, Ev.step (fun k => Pr32c.l0.eq_2 ..) (Ev.pos (by omega) (Ev.pos (by omega) (Ev.pos (by omega) ?_))), hr2⟩;rw [e1, e2, w1n (by omega), q];exact Ev.neg (by simp) hr
    ·refine ⟨false, Ev.step (fun k => Pr32c.l0.eq_2 ..) (Ev.pos (by omega) (Ev.pos (by omega) (Ev.pos (by omega) ?_))), fun h => by cases h⟩;rw [e1, e2];refine Ev.pos ?_ (Ev.now _);by_cases q0 : A[i].f0 = B[i].f0
     ·have q1 : ¬ A[i].f1 = B[i].f1 := fun q1 => q (way_ext q0 q1)
      simp [q1]
     ·simp [q0]
  obtain ⟨r, hr, h2⟩ := key A.length 0 (by omega) fun j hj => by omega
  exact ⟨r, Ev.pos (by omega) hr, h2⟩
 ·exact ⟨false, Ev.neg (by omega) (Ev.now _), fun h => by cases h⟩
theorem alike_ev {n : Nat} {ls : List ByteArray} {es : List Ed} {c : List Int} (hm : mayR n ls es = true) (hc : c.length = n) (a b : Int) : ∃ r, Ev (fun k => Pr32b.f k (n : Int) ls es c a b) r ∧ (r = true → waysL es c (fstK c).length a ls.length = waysL es c (fstK c).length b ls.length) := by
 have hn := lt_n hm
 have hll := (may_lab hm).1
 have hcnt := fstK_length_le c
 have h1 := waysL_len es c (fstK c).length a ls.length
 have h2 : ls.length * (fstK c).length ≤ 64 * 2048 := Nat.mul_le_mul (by omega) (by omega)
 obtain ⟨r, hr, hr2⟩ := same32_ev (waysL es c (fstK c).length a ls.length) (waysL es c (fstK c).length b ls.length) (by omega)
 exact ⟨r, Ev.bind (ways_ev hm hc a) (Ev.bind (ways_ev hm hc b) (Ev.last hr)), hr2⟩
theorem stable_ev {n : Nat} {ls : List ByteArray} {es : List Ed} {ks : List Int} (hm : mayR n ls es = true) (hl : ks.length = n) : ∃ r, Ev (fun k => Pr32a.f k (n : Int) ls es ks) r ∧
  (r = true → ∀ i k : Nat, i < n → k < i → (numK ks).getD i 0 = (numK ks).getD k 0 → waysL es (numK ks) (fstK (numK ks)).length (i : Int) ls.length = waysL es (numK ks) (fstK (numK ks)).length (k : Int) ls.length) := by
 have hn := lt_n hm;obtain ⟨c, hcd⟩ : ∃ c, c = numK ks := ⟨_, rfl⟩
 have hc : c.length = n := by rw [hcd, numK_length, hl]
 have hP := plain_ev ks (by omega);rw [← hcd] at hP ⊢
 have out : ∀ d i : Nat, i + d = n → ∃ r, Ev (fun k => Pr32a.l0 k c (i : Int) (n : Int) ls es) r ∧ (r = true → ∀ j k : Nat, i ≤ j → j < n → k < j → c.getD j 0 = c.getD k 0 → waysL es c (fstK c).length (j : Int) ls.length = waysL es c (fstK c).length (k : Int) ls.length) := by
  intro d
  induction d with
  | zero =>
   intro i h;exact ⟨true, Ev.step (fun k => Pr32a.l0.eq_2 ..) (Ev.neg (by omega) (Ev.now _)), fun _ j k h1 h2 => by omega⟩
  | succ d ih =>
   intro i h;have hi : i < c.length := by omega
   obtain ⟨r0, hr0, hr02⟩ := ih (i + 1) (by omega)
   have inner : ∀ d2 m : Nat, m + d2 = i → ∃ r, Ev (fun k => Pr32a.l1 k c (i : Int) (m : Int) (n : Int) ls es) r ∧ (r = true → r0 = true ∧ ∀ k : Nat, m ≤ k → k < i → c.getD i 0 = c.getD k 0 → waysL es c (fstK c).length (i : Int) ls.length = waysL es c (fstK c).length (k : Int) ls.length) := by
    intro d2
    induction d2 with
    | zero =>
     intro m h2;refine ⟨r0, Ev.step (fun k => Pr32a.l1.eq_2 ..) (Ev.neg (by omega) ?_), fun hr => ⟨hr, fun k h3 h4 => by omega⟩⟩;rw [w1n (by omega)];exact hr0
    | succ d2 ih2 =>
     intro m h2;have hm2 : m < c.length := by omega
     obtain ⟨r1, hr1, hr12⟩ := ih2 (m + 1) (by omega);have e1 : rd c (i : Int) = c.getD i 0 := by show c.getD (i : Int).toNat 0 = _; rw [Int.toNat_natCast]
     have e2 : rd c (m : Int) = c.getD m 0 := by show c.getD (m : Int).toNat 0 = _; rw [Int.toNat_natCast]
     by_cases q : c.getD i 0 = c.getD m 0
     ·obtain ⟨ra, hra, hra2⟩ := alike_ev hm hc (i : Int) (m : Int)
      cases ra with
      | true =>
       refine ⟨r1, Ev.step (fun k => Pr32a.l1.eq_2 ..) (Ev.pos (by omega) (Ev.pos (by omega) (Ev.pos (by omega) (Ev.pos (by omega) (Ev.pos (by omega) ?_))))), fun hr => ⟨(hr12 hr).1, fun k h3 h4 h5 => ?_⟩⟩
       ·rw [e1, e2, w1n (by omega)];exact Ev.pos q (Ev.bind hra (Ev.pos rfl hr1))
       ·by_cases e : k = m
        ·subst e; exact hra2 rfl
        ·exact (hr12 hr).2 k (by omega) h4 h5
      | false =>
       refine ⟨false, Ev.step (fun k => Pr32a.l1.eq_2 ..) (Ev.pos (by omega) (Ev.pos (by omega) (Ev.pos (by omega) (Ev.pos (by omega) (Ev.pos (by omega) ?_))))), fun hr => by cases hr⟩;rw [e1, e2];exact Ev.pos q (Ev.bind hra (Ev.neg (by simp) (Ev.now _)))
     ·refine ⟨r1, Ev.step (fun k => Pr32a.l1.eq_2 ..) (Ev.pos (by omega) (Ev.pos (by omega) (Ev.pos (by omega) (Ev.pos (by omega) (Ev.pos (by omega) ?_))))), fun hr => ⟨(hr12 hr).1, fun k h3 h4 h5 => ?_⟩⟩
      ·rw [e1, e2, w1n (by omega)];exact Ev.neg q hr1
      ·by_cases e : k = m
       ·subst e; exact absurd h5 q
       ·exact (hr12 hr).2 k (by omega) h4 h5
   obtain ⟨r, hr, hr2⟩ := inner i 0 (by omega);refine ⟨r, Ev.step (fun k => Pr32a.l0.eq_2 ..) (Ev.pos (by omega) hr), fun h1 j k h3 h4 h5 h6 => ?_⟩;by_cases e : j = i
   ·subst e; exact (hr2 h1).2 k (by omega) h5 h6
   ·exact hr02 (hr2 h1).1 j k (by omega) h4 h5 h6
 obtain ⟨r, hr, hr2⟩ := out n 0 (by omega);exact ⟨r, Ev.bind hP hr, fun h i k h1 h2 h3 => hr2 h i k (by omega) h1 h2 h3⟩
theorem way_mem {es : List Ed} {c : List Int} {cnt L : Nat} {a : Int} {l b : Nat} : (⟨(l : Int), (b : Int)⟩ : S184) ∈ waysL es c cnt a L ↔ l < L ∧ b < cnt ∧ doesB es c a (l : Int) (b : Int) = true := by
 unfold waysL wayL
 rw [List.mem_flatMap]
 constructor
 ·rintro ⟨l', hl', h⟩
  obtain ⟨b', hb', e⟩ := List.mem_map.1 h
  obtain ⟨h1, h2⟩ := List.mem_filter.1 hb'
  have e1 : (l' : Int) = (l : Int) := congrArg S184.f0 e
  have e2 : (b' : Int) = (b : Int) := congrArg S184.f1 e
  have e1 : l' = l := by omega
  have e2 : b' = b := by omega
  subst e1
  subst e2
  exact ⟨List.mem_range.1 hl', List.mem_range.1 h1, h2⟩
 ·rintro ⟨h1, h2, h3⟩
  exact ⟨l, List.mem_range.2 h1, List.mem_map.2 ⟨b, List.mem_filter.2 ⟨List.mem_range.2 h2, h3⟩, rfl⟩⟩
def St (n : Nat) (es : List Ed) (c : List Int) : Prop := ∀ i k : Int, Nd n i → Nd n k → c.getD i.toNat 0 = c.getD k.toNat 0 → ∀ e ∈ es, e.f0 = i → ∃ f ∈ es, f.f0 = k ∧ f.f1 = e.f1 ∧ c.getD f.f2.toNat 0 = c.getD e.f2.toNat 0
theorem stable_st {n : Nat} {ls : List ByteArray} {es : List Ed} {ks : List Int} (hm : mayR n ls es = true) (hl : ks.length = n) (h : ∀ i k : Nat, i < n → k < i → (numK ks).getD i 0 = (numK ks).getD k 0 → waysL es (numK ks) (fstK (numK ks)).length (i : Int) ls.length = waysL es (numK ks) (fstK (numK ks)).length (k : Int) ls.length) : St n es (numK ks) := by
 intro i k hi hk hik e he h0
 obtain ⟨i, rfl, hin⟩ := hi.nat
 obtain ⟨k, rfl, hkn⟩ := hk.nat
 rw [Int.toNat_natCast, Int.toNat_natCast] at hik
 have hw : waysL es (numK ks) (fstK (numK ks)).length (i : Int) ls.length = waysL es (numK ks) (fstK (numK ks)).length (k : Int) ls.length := by
  rcases Nat.lt_trichotomy i k with q | q | q
  ·exact (h k i hkn q hik.symm).symm
  ·rw [q]
  ·exact h i k hin q hik
 have hee := may_edge hm e he
 have hb := cls_in (ks := ks) hee.2.1.1 (by omega)
 obtain ⟨l, hle⟩ := Int.eq_ofNat_of_zero_le hee.2.2.1
 obtain ⟨b, hbe⟩ := Int.eq_ofNat_of_zero_le hb.1
 have h1 : (⟨(l : Int), (b : Int)⟩ : S184) ∈ waysL es (numK ks) (fstK (numK ks)).length (i : Int) ls.length := by
  refine way_mem.2 ⟨by omega, by rw [(numK_numK ks).2]; omega, ?_⟩
  unfold doesB
  rw [List.any_eq_true]
  exact ⟨e.f2, succP_mem.2 ⟨e, he, h0, hle, rfl⟩, decide_eq_true hbe⟩
 rw [hw] at h1
 have h2 := (way_mem.1 h1).2.2
 unfold doesB at h2
 rw [List.any_eq_true] at h2
 obtain ⟨q, hq, hqb⟩ := h2
 obtain ⟨f, hf, f0, f1, f2⟩ := succP_mem.1 hq
 have hqb := of_decide_eq_true hqb
 exact ⟨f, hf, f0, by rw [f1, hle], by rw [f2, hqb, hbe]⟩
def shE (m : Int) (e : Ed) : Ed := ⟨e.f0 + m, e.f1, e.f2 + m⟩
theorem uniS_self {ls : List ByteArray} (h : ls.Pairwise slt) : uniS (ls ++ ls) = ls :=
 uniqueG slt_irr slt_tr _ _ (uniS_sorted _) h fun x => by rw [uniS_mem]; simp
theorem plc_self {ls : List ByteArray} (h : ls.Pairwise slt) {i : Nat} (hi : i < ls.length) : plc ls ls[i] = (i : Int) :=
 plc_at hi rfl fun j hj hji e => slt_irr ls[i] (by
  have := List.pairwise_iff_getElem.1 h j i hj hi hji
  rwa [e] at this)
theorem union_ev {n m : Nat} {ls : List ByteArray} {es fs : List Ed} (hm : mayR n ls es = true) (hf : mayR m ls fs = true) (hn : n ≤ 16) (hm2 : m ≤ 16) (he : es.length ≤ 60) (hf2 : fs.length ≤ 60) : Ev (fun k => Pxi.f k (n : Int) ls es (m : Int) ls fs) (((n + m : Nat) : Int), ls, es ++ fs.map (shE n), 0) := by
 have hll := (may_lab hm).1;have hrise := may_rise hm
 have place : ∀ e ∈ es ++ fs, Ev (fun k => Pxb.f k ls (rdOf ByteArray.empty ls e.f1)) e.f1 := fun e hef => by
  have hin : 0 ≤ e.f1 ∧ e.f1 < (ls.length : Int) := by
   rcases List.mem_append.1 hef with h | h
   ·exact (may_edge hm e h).2.2
   ·exact (may_edge hf e h).2.2
  obtain ⟨l, hl⟩ := Int.eq_ofNat_of_zero_le hin.1;rw [hl] at hin ⊢;have hl2 : l < ls.length := by omega
  rw [rdS ls hl2];have := nplace_ev ls ls[l] (by omega);rwa [plc_self hrise hl2] at this
 have k1 : ∀ d i : Nat, i + d = fs.length → Ev (fun k => Pxi.l1 k ls fs (fs.length : Int) (i : Int) (n : Int) ls es (m : Int) ls fs ((n + m : Nat) : Int) ls (es ++ (fs.take i).map (shE n))) (((n + m : Nat) : Int), ls, es ++ fs.map (shE n), (0 : Int)) := by
  intro d
  induction d with
  | zero =>
   intro i h;rw [List.take_of_length_le (by omega)];exact Ev.step (fun k => Pxi.l1.eq_2 ..) (Ev.neg (by omega) (Ev.now _))
  | succ d ih =>
   intro i h;have hi : i < fs.length := by omega
   have hmem : fs[i] ∈ fs := List.getElem_mem hi;have hee := may_edge hf _ hmem;have ih' := ih (i + 1) (by omega);have hd : fs.getD i z80 = fs[i] := getD_get hi;rw [take_snocD z80 hi, List.map_append, hd, ← List.append_assoc] at ih';have hr : rd_T80 fs (i : Int) = fs[i] := by show fs.getD (i : Int).toNat _ = _; rw [Int.toNat_natCast, hd]
   refine Ev.step (fun k => Pxi.l1.eq_2 ..) (Ev.pos (by omega) (Ev.pos (by omega) (Ev.pos (by omega) ?_)));rw [hr, w1n (by omega)];refine Ev.pos hee.2.2.1 (Ev.pos hee.2.2.2 (Ev.bind (place _ (List.mem_append_right _ hmem)) (Ev.pos (by rw [List.length_append, List.length_map, List.length_take]; omega) ?_)));have e1 : wrap64 (fs[i].f0 + (n : Int)) = fs[i].f0 + n := by unfold wrap64; omega
   have e2 : wrap64 (fs[i].f2 + (n : Int)) = fs[i].f2 + n := by unfold wrap64; omega
   rw [e1, e2];exact ih'
 have k0 : ∀ d i : Nat, i + d = es.length → Ev (fun k => Pxi.l0 k ls es (es.length : Int) (i : Int) (n : Int) ls es (m : Int) ls fs ((n + m : Nat) : Int) ls (es.take i)) (((n + m : Nat) : Int), ls, es ++ fs.map (shE n), (0 : Int)) := by
  intro d
  induction d with
  | zero =>
   intro i h;rw [List.take_of_length_le (by omega)];refine Ev.step (fun k => Pxi.l0.eq_2 ..) (Ev.neg (by omega) ?_);have := k1 fs.length 0 (by omega);simpa using this
  | succ d ih =>
   intro i h;have hi : i < es.length := by omega
   have hmem : es[i] ∈ es := List.getElem_mem hi;have hee := may_edge hm _ hmem;have ih' := ih (i + 1) (by omega);have hd : es.getD i z80 = es[i] := getD_get hi;rw [take_snocD z80 hi, hd] at ih';have hr : rd_T80 es (i : Int) = es[i] := by show es.getD (i : Int).toNat _ = _; rw [Int.toNat_natCast, hd]
   refine Ev.step (fun k => Pxi.l0.eq_2 ..) (Ev.pos (by omega) (Ev.pos (by omega) (Ev.pos (by omega) ?_)));rw [hr, w1n (by omega)];exact Ev.pos hee.2.2.1 (Ev.pos hee.2.2.2 (Ev.bind (place _ (List.mem_append_left _ hmem)) (Ev.pos (by rw [List.length_take]; omega) ih')))
 have hw1 : wrap64 ((n : Int) + (m : Int)) = ((n + m : Nat) : Int) := by unfold wrap64; omega
 have hw2 : wrap64 ((es.length : Int) + (fs.length : Int)) = ((es.length + fs.length : Nat) : Int) := by unfold wrap64; omega
 refine Ev.bindS (a := 0) (by unfold Pxh.f; rw [hm]; rfl) (Ev.pos rfl (Ev.bindS (a := 0) (by unfold Pxh.f; rw [hf]; rfl) (Ev.step (fun k => Pxi.j0.eq_2 ..) (Ev.neg (by simp) (Ev.bindS (a := ls) ?_ ?_)))))
 ·unfold Pxc.f;rw [if_pos (by omega), uniS_self hrise]
 ·rw [hw1, hw2];refine Ev.neg (by omega) (Ev.neg (by omega) (Ev.step (fun k => Pxi.j1.eq_2 ..) (Ev.neg (by simp; omega) ?_)));rw [hw1];exact k0 es.length 0 (by omega)
theorem may_union {n m : Nat} {ls : List ByteArray} {es fs : List Ed} (hm : mayR n ls es = true) (hf : mayR m ls fs = true) (hn : n ≤ 16) (hm2 : m ≤ 16) (he : es.length ≤ 60) (hf2 : fs.length ≤ 60) : mayR ((n + m : Nat) : Int) ls (es ++ fs.map (shE n)) = true := by
 have h1 := lt_n hm
 refine may_of ⟨by omega, by omega⟩ (may_lab hm).1 (may_rise hm) (may_lab hm).2 (by rw [List.length_append, List.length_map]; omega) ?_ fun e hx => ?_
 ·rw [List.pairwise_append]
  refine ⟨may_sorted hm, List.pairwise_map.2 ((may_sorted hf).imp fun {a b} h => ?_), fun a ha b hb => ?_⟩
  ·unfold elt shE at *
   simp only
   omega
  ·obtain ⟨f, hf3, rfl⟩ := List.mem_map.1 hb
   have h2 := may_edge hm a ha
   have h3 := may_edge hf f hf3
   unfold elt shE
   simp only
   omega
 ·rcases List.mem_append.1 hx with h | h
  ·have := may_edge hm e h
   omega
  ·obtain ⟨f, hf3, rfl⟩ := List.mem_map.1 h
   have h3 := may_edge hf f hf3
   unfold shE
   simp only
   omega
def relQ (n : Nat) (c : List Int) : List Pair := (List.range n).map fun i : Nat => ⟨(i : Int), (n : Int) + c.getD i 0⟩
theorem relQ_iff {n : Nat} {c : List Int} {a b : Int} : relS (relQ n c) a b = true ↔ Nd n a ∧ b = (n : Int) + c.getD a.toNat 0 := by
 rw [relS_iff]
 unfold relQ
 constructor
 ·intro h
  obtain ⟨i, hi, e⟩ := List.mem_map.1 h
  have e1 : (i : Int) = a := congrArg S71.f0 e
  have e2 : (n : Int) + c.getD i 0 = b := congrArg S71.f1 e
  subst e1
  rw [Int.toNat_natCast]
  exact ⟨nd_iff.2 (List.mem_range.1 hi), e2.symm⟩
 ·rintro ⟨h1, rfl⟩
  obtain ⟨i, rfl, hi⟩ := h1.nat
  rw [Int.toNat_natCast]
  exact List.mem_map.2 ⟨i, List.mem_range.2 hi, rfl⟩
theorem quot_is {n : Nat} {ls : List ByteArray} {es : List Ed} {ks : List Int} (hm : mayR n ls es = true) (hl : ks.length = n) (hst : St n es (numK ks)) (hn : n ≤ 16) (he : es.length ≤ 60) :
  isB ((n + (fstK ks).length : Nat) : Int) ls (es ++ (sortE (es.map (imE (numK ks)))).map (shE n)) (relQ n (numK ks)) = true := by
 have hfl := fstK_length_le ks;have hsl := sortE_length (es.map (imE (numK ks)));rw [List.length_map] at hsl;have hmu := may_union hm (may_quot hm hl) hn (by omega) he (by omega)
 have low : ∀ e ∈ es ++ (sortE (es.map (imE (numK ks)))).map (shE n), e.f0 < (n : Int) → e ∈ es := fun e h hlt => by
  rcases List.mem_append.1 h with h | h
  ·exact h
  ·obtain ⟨f, hf, rfl⟩ := List.mem_map.1 h;have := (may_edge (may_quot hm hl) f hf).1.1;unfold shE at hlt;simp only at hlt;omega
 have high : ∀ e ∈ es ++ (sortE (es.map (imE (numK ks)))).map (shE n), (n : Int) ≤ e.f0 → ∃ g ∈ es, e = shE n (imE (numK ks) g) := fun e h hge => by
  rcases List.mem_append.1 h with h | h
  ·have := (may_edge hm e h).1.2;omega
  ·obtain ⟨f, hf, rfl⟩ := List.mem_map.1 h;obtain ⟨g, hg, rfl⟩ := List.mem_map.1 ((sortE_mem _ _).1 hf);exact ⟨g, hg, rfl⟩
 have has : ∀ g ∈ es, shE n (imE (numK ks) g) ∈ es ++ (sortE (es.map (imE (numK ks)))).map (shE n) := fun g hg => List.mem_append_right _ (List.mem_map.2 ⟨_, (sortE_mem _ _).2 (List.mem_map.2 ⟨g, hg, rfl⟩), rfl⟩)
 rw [isB_iff _ _ _ _ hmu];refine ⟨fun p hp => ?_, fun a b hab => ?_⟩
 ·unfold relQ at hp;obtain ⟨i, hi, rfl⟩ := List.mem_map.1 hp;have hi := List.mem_range.1 hi;have h1 := cls_in (ks := ks) (x := (i : Int)) (by omega) (by omega);rw [Int.toNat_natCast] at h1;unfold inP;simp only [Bool.and_eq_true, decide_eq_true_eq];omega
 ·obtain ⟨ha, rfl⟩ := relQ_iff.1 hab;rw [fol_iff, folT_iff];refine ⟨fun e hx h0 => ?_, fun e hx h0 => ?_⟩
  ·have hin := low e hx (by rw [h0]; exact ha.2);have hee := may_edge hm e hin;refine ⟨_, has e hin, ?_, rfl, relQ_iff.2 ⟨hee.2.1, ?_⟩⟩
   ·show (numK ks).getD e.f0.toNat 0 + (n : Int) = _;rw [h0];omega
   ·show (numK ks).getD e.f2.toNat 0 + (n : Int) = _;omega
  ·have hc := cls_in (ks := ks) ha.1 (by have := ha.2; omega);obtain ⟨g, hg, rfl⟩ := high e hx (by omega);have hgg := may_edge hm g hg
   have e0 : (numK ks).getD g.f0.toNat 0 = (numK ks).getD a.toNat 0 := by
    have : (numK ks).getD g.f0.toNat 0 + (n : Int) = (n : Int) + (numK ks).getD a.toNat 0 := h0;omega
   obtain ⟨f, hf, f0, f1, f2⟩ := hst g.f0 a hgg.1 ha e0 g hg rfl;have hff := may_edge hm f hf;refine ⟨f, List.mem_append_left _ hf, f0, f1.symm, relQ_iff.2 ⟨hff.2.1, ?_⟩⟩;show (numK ks).getD g.f2.toNat 0 + (n : Int) = _;rw [f2];omega
theorem aw36 : Ev (fun k => Pl36b.f k) true := Ev.of Pl36b.mono (k := 20) (by kernel_rfl)
theorem quotFollows_true (n : Int) (ls : List ByteArray) (es : List Ed) (ks : List Int) (hw : ∀ x ∈ ks, (Lit.int .i64 x).wf = true) : Ev (fun k => Pl36a.f k n ls es ks) true := by
 have jt : ∀ N L E, Ev (fun k => Pl36a.j0 k ks true N L E) true := fun N L E => Ev.step (fun k => Pl36a.j0.eq_2 ..) (Ev.pos rfl (Ev.last aw36))
 obtain ⟨b, hL, hsm⟩ : ∃ b, Ev (fun k => Pl33a.f k n ls es) b ∧ (b = true → SmallL n ls es) := ⟨light33 n ls es, Ev.now _, light33_small⟩
 refine Ev.bind hL ?_
 cases b with
 | false => exact Ev.neg (by simp) (jt _ _ _)
 | true =>
  refine Ev.pos rfl ?_;have hS := hsm rfl;by_cases hlen : (ks.length : Int) = n
  ·refine Ev.pos hlen ?_
   cases hm : mayR n ls es with
   | false => exact Ev.bindS (a := false) (by unfold Pr26c.f; rw [hm]) (Ev.neg (by simp) (jt _ _ _))
   | true =>
    refine Ev.bindS (a := true) (by unfold Pr26c.f; rw [hm]) (Ev.pos rfl ?_);obtain ⟨m, rfl⟩ : ∃ m : Nat, (m : Int) = n := ⟨ks.length, hlen⟩
    have hl : ks.length = m := by omega
    have hn := lt_n hm;have hn16 : m ≤ 16 := by have := hS.1; omega
    have hel := hS.2.1;obtain ⟨r, hr, hr2⟩ := stable_ev hm hl;refine Ev.bind hr ?_
    cases r with
    | false => exact jt _ _ _
    | true =>
     have hst := stable_st hm hl (hr2 rfl);have hfl := fstK_length_le ks;have hsl := sortE_length (es.map (imE (numK ks)));rw [List.length_map] at hsl
     have hiw : inW ks = true := by
      unfold inW;rw [Bool.and_eq_true, List.all_eq_true, decide_eq_true_eq];refine ⟨fun x hx => ?_, by omega⟩;have := wf_in (hw x hx);unfold i64in at this;simp only [Bool.and_eq_true, decide_eq_true_eq];exact this
     have hU := union_ev hm (may_quot hm hl) hn16 (by omega) hel (by omega);refine Ev.step (fun k => Pl36a.j0.eq_2 ..) (Ev.neg (by simp) (Ev.bind (quotOf_ev hm hl hiw) (Ev.bind hU (Ev.pos rfl (Ev.step (fun k => Pl36a.j1.eq_2 ..) (Ev.neg (by simp) (Ev.bind (plain_ev ks (by omega)) ?_)))))));have hcl : (numK ks).length = m := by rw [numK_length, hl]
     have key : ∀ d i : Nat, i + d = m → Ev (fun k => Pl36a.l0 k ((relQ m (numK ks)).take i) (numK ks) (i : Int) (m : Int) ls es ((m + (fstK ks).length : Nat) : Int) ls (es ++ (sortE (es.map (imE (numK ks)))).map (shE m))) true := by
      intro d
      induction d with
      | zero =>
       intro i h;rw [List.take_of_length_le (by unfold relQ; rw [List.length_map, List.length_range]; omega)];refine Ev.step (fun k => Pl36a.l0.eq_2 ..) (Ev.neg (by omega) (Ev.bindS (a := true) ?_ (Ev.pos rfl (Ev.last aw36))));unfold Pxk.f;rw [quot_is hm hl hst hn16 hel]
      | succ d ih =>
       intro i h;have hi : i < (relQ m (numK ks)).length := by unfold relQ; rw [List.length_map, List.length_range]; omega
       have ih' := ih (i + 1) (by omega)
       have hd : (relQ m (numK ks)).getD i z71 = ⟨(i : Int), (m : Int) + (numK ks).getD i 0⟩ := by
        rw [getD_get hi];unfold relQ;simp
       rw [take_snocD z71 hi, hd] at ih';have hc := cls_in (ks := ks) (x := (i : Int)) (by omega) (by omega);rw [Int.toNat_natCast] at hc;refine Ev.step (fun k => Pl36a.l0.eq_2 ..) (Ev.pos (by omega) (Ev.pos (by omega) (Ev.pos (by rw [List.length_take]; omega) ?_)));have e1 : rd (numK ks) (i : Int) = (numK ks).getD i 0 := by show (numK ks).getD (i : Int).toNat 0 = _; rw [Int.toNat_natCast]
       have e2 : wrap64 ((m : Int) + (numK ks).getD i 0) = (m : Int) + (numK ks).getD i 0 := by unfold wrap64; omega
       rw [e1, e2, w1n (by omega)];exact ih'
     exact key m 0 (by omega)
  ·exact Ev.neg hlen (jt _ _ _)
end Go.Proofs.Ytmcbkmfpmcbdpaa.H
set_option linter.unusedVariables false
set_option linter.unusedSimpArgs false
namespace Go.Proofs.Ytmcbkmfpmcbdpaa.quotFollows
open Go.ChangeShapes Go.WideShapes Go.ChangeAt Go.RowKit Go.Proofs.Ytmcbkmfpmcbdpaa.Pr Go.Proofs.YtmcbkmfpmcbdpaaW.PrintWords Go.Proofs.Ytmcbkmfpmcbdpaa.H
theorem own : ownKnob Try.prog.godebug = none := by kernel_rfl
set_option maxRecDepth 100000 in
theorem lifted (os : Os) (started : os.Started) (H : Type) (enc : TypeId × Value → H) :
  ReturnsInHanded {} Try.checked os 14 .any (Rows.quotFollowsSpec.pre6 enc Try.prog Try.f14 Rows.quotFollowsRow.domain false) (Rows.quotFollowsSpec.post enc Try.prog Try.f14 false true false false) := by
 refine returnsInHanded_of_change_sized (C := Try.checked) own started (by kernel_rfl) Try.func14
  (ChangeSpec.witness6 (enc := enc) (C := Try.checked) false ⟨#[], #[.agg #[.int .i64 0, .slice none 0 0, .slice none 0 0], .slice none 0 0], []⟩ 8 (by kernel_rfl) (by kernel_rfl) (by kernel_rfl) (by kernel_rfl)) ?_
 intro W base args ds gs before hval0 hW hcnd hsz0 _;have hval : ∀ (j : Nat) t v, Try.f14.params[j]? = some t → args[j]? = some v → Value.okWide Try.prog W .any base t v := hval0;have hW' := hW;obtain ⟨p, q, hA0, hV, rfl, hfz, hnd⟩ := hW;have hA : DataW.TrodAll enc Try.prog W 0 (fun _ => true) true Try.f14.params.toList args.toList ds p := hA0;rw [Try.params14] at hA hval;obtain ⟨v0, vs0, d0, ds0, p0, q0, hargs, rfl, rfl, h0, r0⟩ := trodAll_cons hA;obtain ⟨v1, vs1, d1, ds1, p1, q1, rfl, rfl, rfl, h1, r1⟩ := trodAll_cons r0;obtain ⟨rfl, rfl, rfl⟩ := trodAll_nil r1;obtain rfl : args = #[v0, v1] := by cases args; simp_all
 obtain ⟨rfl, rfl⟩ := trodVars_none hV;have k0 := h0;have lt0 : ∀ x ∈ p0, x.block < W.heap.size := by obtain ⟨m, hm⟩ := k0; exact DataW.trod_lt m _ _ _ hm
 obtain ⟨n0, ls0, es0, A0, B0, c0, e0, rfl, wf0, rl0, cl0, re0, ce0⟩ := open_lts2 (hval 0 25 v0 rfl rfl) h0;have k1 := h1;have lt1 : ∀ x ∈ p1, x.block < W.heap.size := by obtain ⟨m, hm⟩ := k1; exact DataW.trod_lt m _ _ _ hm
 obtain ⟨A1, x1, c1, rfl, rx1, cx1, wx1⟩ := open_ints (hval 1 28 v1 rfl rfl) h1;clear hA0 hval0 hsz0;obtain ⟨k, hk⟩ := (quotFollows_true n0 ls0 es0 x1 wx1).rounds;refine (Pr.Pl36a.calls (k := k) (r := true) (w := W) (hr0_1 := rl0) (hc0_1 := cl0) (hr0_2 := re0) (hc0_2 := ce0) (hr1 := rx1) (hc1 := cx1) (h := hk) (hr_ := ⟨rfl⟩)).mono fun e W' ⟨he, bel⟩ => ?_
 subst he;exact ⟨_, rfl, _, _, _, [], _, [], hW', trodAll_mk1 (shut_bool Try.underlying4 _), (trodAll_cons_mk (Below.trod laid_out (by kernel_rfl) (of_decide_eq_true (by kernel_rfl)) k0 bel lt0) (trodAll_cons_mk (Below.trod laid_out (by kernel_rfl) (of_decide_eq_true (by kernel_rfl)) k1 bel lt1) trodAll_mk0)), rfl, bel.frame _, fun h => by cases h⟩
theorem over : Rows.quotFollowsRow.holds Try.pinned (OpenSpec.ofChange Rows.quotFollowsSpec) :=
 OpenClaim.holds_of_wide 14 Try.f14 rfl rfl rfl rfl rfl rfl rfl ⟨rfl, rfl, rfl, rfl, rfl⟩ rfl rfl rfl rfl rfl (by kernel_rfl) Try.func14 (by kernel_rfl)
  (of_decide_eq_true (by kernel_rfl)) (by unfold Func.isWrapper; first | (rw [if_pos (by decide +kernel)]; kernel_rfl) | (rw [if_neg (by decide +kernel)]; exact ⟨rfl, rfl⟩))
  (fun os started H enc _ => lifted os started H enc)
theorem proved : Rows.QuotFollowsSaid := over
#print axioms proved
end Go.Proofs.Ytmcbkmfpmcbdpaa.quotFollows
namespace Go.Proofs.Ytmcbkmfpmcbdpaa
theorem quotFollows_holds : Rows.QuotFollowsSaid := quotFollows.proved
end Go.Proofs.Ytmcbkmfpmcbdpaa
