/-
  The law ProductOf: for every input the call returns true, and what came in reads as it read before.
  Condition: none.
-/
import Derived.Test.YthaaockbapbooaaZProductOf4
namespace Go.Proofs.Ythaaockbapbooaa.Pr
open Go.RowKit Go.Proofs.YthaaockbapbooaaW.PrintWords Go.Proofs.YthaaockbapbooaaW.PrintLast Go.Proofs.YthaaockbapbooaaW.PrintMore
attribute [local go_sem] max2_int min2_int max_two min_two max_three min_three max_four min_four
set_option linter.unusedVariables false
set_option linter.unusedSimpArgs false
mutual
def Pl50a.j0 : Nat → Int → Int → Int → Int → Bool → Int → List ByteArray → List (S51) → Int → List ByteArray → List (S51) → Int → List ByteArray → List (S51) → Option (Bool)
 | 0, _, _, _, _, _, _, _, _, _, _, _, _, _, _ => none
 | k + 1, x2, x8, x9, x10, x36, x268000, x268001, x268002, x269000, x269001, x269002, x280000, x280001, x280002 => if x36 = true then ((Pr26b.f k x280000 x280001 x280002 0 ([] : List ByteArray) ([] : List (S51))).bind fun t284 => (if t284 = true then (if x8 = 1 then (if x9 = (-1) then (if x10 = (-1) then ((Pl50c.f k).bind fun t285 => (some t285)) else (some false)) else (some false)) else (some false)) else (some false))) else ((Pr50b.f k x268000 x268001 x268002 x269000 x269001 x269002).bind fun bt286 => ((Pr26b.f k x280000 x280001 x280002 bt286.1 bt286.2.1 bt286.2.2).bind fun t293 => (if t293 = true then (Pl50a.j1 k x2 x9 x10 (x8 != 0) x268000 x268001 x268002 x269000 x269001 x269002) else (Pl50a.j1 k x2 x9 x10 true x268000 x268001 x268002 x269000 x269001 x269002))))
def Pl50a.j1 : Nat → Int → Int → Int → Bool → Int → List ByteArray → List (S51) → Int → List ByteArray → List (S51) → Option (Bool)
 | 0, _, _, _, _, _, _, _, _, _, _ => none
 | k + 1, x2, x9, x10, x64, x268000, x268001, x268002, x269000, x269001, x269002 => if x64 = true then (some false) else (if x2 < 0 then (Pl50a.j2 k x2 x9 x10 true x269000 x269001 x269002) else (Pl50a.j2 k x2 x9 x10 (decide (x2 ≥ (wrap64 (x268000 * x269000)))) x269000 x269001 x269002))
def Pl50a.j2 : Nat → Int → Int → Int → Bool → Int → List ByteArray → List (S51) → Option (Bool)
 | 0, _, _, _, _, _, _, _ => none
 | k + 1, x2, x9, x10, x75, x269000, x269001, x269002 => if x75 = true then (if x9 = (-1) then (if x10 = (-1) then ((Pl50c.f k).bind fun t294 => (some t294)) else (some false)) else (some false)) else (if (wrap64 ((wrap64 (x9 * x269000)) + x10)) = x2 then (if x9 ≥ 0 then (if x10 ≥ 0 then (if x10 < x269000 then ((Pl50c.f k).bind fun t295 => (some t295)) else (some false)) else (some false)) else (some false)) else (some false))
end
noncomputable def Pl50a.f (k : Nat) (a0_0 : Int) (l0_1 : List ByteArray) (l0_2 : List (S51)) (a1_0 : Int) (l1_1 : List ByteArray) (l1_2 : List (S51)) (a2 : Int) : Option (Bool) := (Pl50b.f a0_0 l0_1 l0_2 a1_0 l1_1 l1_2).bind fun t269 => (if t269 = true then ((Pxh.f k a0_0 l0_1 l0_2 a1_0 l1_1 l1_2).bind fun bt271 => ((Pxc.f a0_0 l0_1 l0_2 a1_0 l1_1 l1_2 a2).bind fun bt280 => ((Pr26d.f a0_0 l0_1 l0_2).bind fun t282 => (if t282 = true then ((Pr26d.f a1_0 l1_1 l1_2).bind fun t283 => (Pl50a.j0 k a2 bt271.2.2.2 bt280.1 bt280.2 (!t283) a0_0 l0_1 l0_2 a1_0 l1_1 l1_2 bt271.1 bt271.2.1 bt271.2.2.1)) else (Pl50a.j0 k a2 bt271.2.2.2 bt280.1 bt280.2 true a0_0 l0_1 l0_2 a1_0 l1_1 l1_2 bt271.1 bt271.2.1 bt271.2.2.1))))) else ((Pl50c.f k).bind fun t270 => (some t270)))
theorem Pl50a.mono_l : ∀ k, (∀ y0 y1 y2 y3 y4 y5 y6 y7 y8 y9 y10 y11 y12 y13, LeO (Pl50a.j0 k y0 y1 y2 y3 y4 y5 y6 y7 y8 y9 y10 y11 y12 y13) (Pl50a.j0 (k + 1) y0 y1 y2 y3 y4 y5 y6 y7 y8 y9 y10 y11 y12 y13)) ∧ (∀ y0 y1 y2 y3 y4 y5 y6 y7 y8 y9, LeO (Pl50a.j1 k y0 y1 y2 y3 y4 y5 y6 y7 y8 y9) (Pl50a.j1 (k + 1) y0 y1 y2 y3 y4 y5 y6 y7 y8 y9)) ∧ (∀ y0 y1 y2 y3 y4 y5 y6, LeO (Pl50a.j2 k y0 y1 y2 y3 y4 y5 y6) (Pl50a.j2 (k + 1) y0 y1 y2 y3 y4 y5 y6))
 | 0 => ⟨fun _ _ _ _ _ _ _ _ _ _ _ _ _ _ r h => by simp [Pl50a.j0] at h, fun _ _ _ _ _ _ _ _ _ _ r h => by simp [Pl50a.j1] at h, fun _ _ _ _ _ _ _ r h => by simp [Pl50a.j2] at h⟩
 | k + 1 => by
  obtain ⟨ih0, ih1, ih2⟩ := Pl50a.mono_l k
  refine ⟨?_, ?_, ?_⟩
  ·intro y0 y1 y2 y3 y4 y5 y6 y7 y8 y9 y10 y11 y12 y13
   unfold Pl50a.j0
   repeat' first
   | (with_reducible exact ih0 _ _ _ _ _ _ _ _ _ _ _ _ _ _)
   | (with_reducible exact ih1 _ _ _ _ _ _ _ _ _ _)
   | (with_reducible exact ih2 _ _ _ _ _ _ _)
   | (with_reducible exact Pxh.mono _ _ _ _ _ _ _)
   | (with_reducible exact Pl50c.mono _)
   | (with_reducible exact Pr26b.mono _ _ _ _ _ _ _)
   | (with_reducible exact Pr50b.mono _ _ _ _ _ _ _)
   | (with_reducible exact LeO.refl _)
   | (with_reducible exact LeO.none _)
   | (with_reducible refine LeO.ite ?_ ?_)
   | (with_reducible refine LeO.bind ?_ (fun _ => ?_))
   | exact ih0 _ _ _ _ _ _ _ _ _ _ _ _ _ _
   | exact ih1 _ _ _ _ _ _ _ _ _ _
   | exact ih2 _ _ _ _ _ _ _
   | exact Pxh.mono _ _ _ _ _ _ _
   | exact Pl50c.mono _
   | exact Pr26b.mono _ _ _ _ _ _ _
   | exact Pr50b.mono _ _ _ _ _ _ _
   | exact LeO.none _
   | refine LeO.ite ?_ ?_
   | refine LeO.bind ?_ (fun _ => ?_)
  ·intro y0 y1 y2 y3 y4 y5 y6 y7 y8 y9
   unfold Pl50a.j1
   repeat' first
   | (with_reducible exact ih0 _ _ _ _ _ _ _ _ _ _ _ _ _ _)
   | (with_reducible exact ih1 _ _ _ _ _ _ _ _ _ _)
   | (with_reducible exact ih2 _ _ _ _ _ _ _)
   | (with_reducible exact Pxh.mono _ _ _ _ _ _ _)
   | (with_reducible exact Pl50c.mono _)
   | (with_reducible exact Pr26b.mono _ _ _ _ _ _ _)
   | (with_reducible exact Pr50b.mono _ _ _ _ _ _ _)
   | (with_reducible exact LeO.refl _)
   | (with_reducible exact LeO.none _)
   | (with_reducible refine LeO.ite ?_ ?_)
   | (with_reducible refine LeO.bind ?_ (fun _ => ?_))
   | exact ih0 _ _ _ _ _ _ _ _ _ _ _ _ _ _
   | exact ih1 _ _ _ _ _ _ _ _ _ _
   | exact ih2 _ _ _ _ _ _ _
   | exact Pxh.mono _ _ _ _ _ _ _
   | exact Pl50c.mono _
   | exact Pr26b.mono _ _ _ _ _ _ _
   | exact Pr50b.mono _ _ _ _ _ _ _
   | exact LeO.none _
   | refine LeO.ite ?_ ?_
   | refine LeO.bind ?_ (fun _ => ?_)
  ·intro y0 y1 y2 y3 y4 y5 y6
   unfold Pl50a.j2
   repeat' first
   | (with_reducible exact ih0 _ _ _ _ _ _ _ _ _ _ _ _ _ _)
   | (with_reducible exact ih1 _ _ _ _ _ _ _ _ _ _)
   | (with_reducible exact ih2 _ _ _ _ _ _ _)
   | (with_reducible exact Pxh.mono _ _ _ _ _ _ _)
   | (with_reducible exact Pl50c.mono _)
   | (with_reducible exact Pr26b.mono _ _ _ _ _ _ _)
   | (with_reducible exact Pr50b.mono _ _ _ _ _ _ _)
   | (with_reducible exact LeO.refl _)
   | (with_reducible exact LeO.none _)
   | (with_reducible refine LeO.ite ?_ ?_)
   | (with_reducible refine LeO.bind ?_ (fun _ => ?_))
   | exact ih0 _ _ _ _ _ _ _ _ _ _ _ _ _ _
   | exact ih1 _ _ _ _ _ _ _ _ _ _
   | exact ih2 _ _ _ _ _ _ _
   | exact Pxh.mono _ _ _ _ _ _ _
   | exact Pl50c.mono _
   | exact Pr26b.mono _ _ _ _ _ _ _
   | exact Pr50b.mono _ _ _ _ _ _ _
   | exact LeO.none _
   | refine LeO.ite ?_ ?_
   | refine LeO.bind ?_ (fun _ => ?_)
theorem Pl50a.mono : ∀ a0 a1 a2 a3 a4 a5 a6 k, LeO (Pl50a.f k a0 a1 a2 a3 a4 a5 a6) (Pl50a.f (k + 1) a0 a1 a2 a3 a4 a5 a6) := by
 intro a0 a1 a2 a3 a4 a5 a6 k
 obtain ⟨ih0, ih1, ih2⟩ := Pl50a.mono_l k
 unfold Pl50a.f
 repeat' first
   | (with_reducible exact ih0 _ _ _ _ _ _ _ _ _ _ _ _ _ _)
   | (with_reducible exact ih1 _ _ _ _ _ _ _ _ _ _)
   | (with_reducible exact ih2 _ _ _ _ _ _ _)
   | (with_reducible exact Pxh.mono _ _ _ _ _ _ _)
   | (with_reducible exact Pl50c.mono _)
   | (with_reducible exact Pr26b.mono _ _ _ _ _ _ _)
   | (with_reducible exact Pr50b.mono _ _ _ _ _ _ _)
   | (with_reducible exact LeO.refl _)
   | (with_reducible exact LeO.none _)
   | (with_reducible refine LeO.ite ?_ ?_)
   | (with_reducible refine LeO.bind ?_ (fun _ => ?_))
   | exact ih0 _ _ _ _ _ _ _ _ _ _ _ _ _ _
   | exact ih1 _ _ _ _ _ _ _ _ _ _
   | exact ih2 _ _ _ _ _ _ _
   | exact Pxh.mono _ _ _ _ _ _ _
   | exact Pl50c.mono _
   | exact Pr26b.mono _ _ _ _ _ _ _
   | exact Pr50b.mono _ _ _ _ _ _ _
   | exact LeO.none _
   | refine LeO.ite ?_ ?_
   | refine LeO.bind ?_ (fun _ => ?_)
def Pl50a.T7 : Bool × List (List Nat × List Nat) := (true, [([], []), ([], []), ([], []), ([1, 2], [1, 2]), ([0, 3, 3], [0, 3]), ([4], [4]), ([5, 4], [5]), ([6], [6]), ([7, 6], [6, 7]), ([6, 8], [6, 8])])
def Pl50a.B7 : List Nat := [0, 0, 0, 6, 15, 31, 63, 127, 255, 511]
theorem Pl50a.tab7 : rtab .any (opsOf Try.f4 7) = Pl50a.T7 := by kernel_rfl
theorem Pl50a.bits7 : waitsOk Pl50a.T7.2 Pl50a.B7 = true := by kernel_rfl
set_option maxHeartbeats 8000000 in
set_option maxRecDepth 100000 in
theorem Pl50a.calls (k : Nat) (a0_0 : Int) (A0_1 : Option Addr) (c0_1 : Nat) (l0_1 : List ByteArray) (A0_2 : Option Addr) (c0_2 : Nat) (l0_2 : List (S51)) (a1_0 : Int) (A1_1 : Option Addr) (c1_1 : Nat) (l1_1 : List ByteArray) (A1_2 : Option Addr) (c1_2 : Nat) (l1_2 : List (S51)) (a2 : Int) (r : Bool) (w : World) (hr0_1 : Kd.C Kd.string w A0_1 l0_1.length l0_1) (hc0_1 : l0_1.length ≤ c0_1) (hr0_2 : Kd.C k51 w A0_2 l0_2.length l0_2) (hc0_2 : l0_2.length ≤ c0_2) (hr1_1 : Kd.C Kd.string w A1_1 l1_1.length l1_1) (hc1_1 : l1_1.length ≤ c1_1) (hr1_2 : Kd.C k51 w A1_2 l1_2.length l1_2) (hc1_2 : l1_2.length ≤ c1_2) (h : Pl50a.f k a0_0 l0_1 l0_2 a1_0 l1_1 l1_2 a2 = some r) (hr_ : Aside0 (r = true)) :
  Calls Try.prog 4 #[.agg #[.int .i64 a0_0, .slice A0_1 l0_1.length c0_1, .slice A0_2 l0_2.length c0_2], .agg #[.int .i64 a1_0, .slice A1_1 l1_1.length c1_1, .slice A1_2 l1_2.length c1_2], .int .i64 a2] w fun e w' => e = .returned (.bool r) ∧ Below w.heap.size w w' := by
 have J5 := Try.underlying25
 have g4 := Aside0.mk hr0_1
 have f8 := Aside0.mk hc0_1
 clear hr0_1 hc0_1
 have g3 := Aside0.mk hr0_2
 have g5 := Aside0.mk hc0_2
 clear hr0_2 hc0_2
 have h0 := Aside0.mk hr1_1
 have g9 := Aside0.mk hc1_1
 clear hr1_1 hc1_1
 have g8 := Aside0.mk hr1_2
 have g7 := Aside0.mk hc1_2
 clear hr1_2 hc1_2
 have HB := Aside0.mk (Below.refl w.heap.size w)
 have H : ((Pl50b.f a0_0 l0_1 l0_2 a1_0 l1_1 l1_2).bind fun r1 => (if r1 = true then ((Pxh.f k a0_0 l0_1 l0_2 a1_0 l1_1 l1_2).bind fun d3 => ((Pxc.f a0_0 l0_1 l0_2 a1_0 l1_1 l1_2 a2).bind fun d9 => ((Pr26d.f a0_0 l0_1 l0_2).bind fun f6 => (if f6 = true then ((Pr26d.f a1_0 l1_1 l1_2).bind fun e6 => (Pl50a.j0 k a2 d3.2.2.2 d9.1 d9.2 (!e6) a0_0 l0_1 l0_2 a1_0 l1_1 l1_2 d3.1 d3.2.1 d3.2.2.1)) else (Pl50a.j0 k a2 d3.2.2.2 d9.1 d9.2 true a0_0 l0_1 l0_2 a1_0 l1_1 l1_2 d3.1 d3.2.1 d3.2.2.1))))) else ((Pl50c.f k).bind fun h1 => (some h1)))) = some r := h
 clear h
 replace H := Option.bind_eq_some_iff.mp H
 obtain ⟨r1, z3, H⟩ := H
 replace H : (if r1 = true then ((Pxh.f k a0_0 l0_1 l0_2 a1_0 l1_1 l1_2).bind fun d3 => ((Pxc.f a0_0 l0_1 l0_2 a1_0 l1_1 l1_2 a2).bind fun d9 => ((Pr26d.f a0_0 l0_1 l0_2).bind fun f6 => (if f6 = true then ((Pr26d.f a1_0 l1_1 l1_2).bind fun e6 => (Pl50a.j0 k a2 d3.2.2.2 d9.1 d9.2 (!e6) a0_0 l0_1 l0_2 a1_0 l1_1 l1_2 d3.1 d3.2.1 d3.2.2.1)) else (Pl50a.j0 k a2 d3.2.2.2 d9.1 d9.2 true a0_0 l0_1 l0_2 a1_0 l1_1 l1_2 d3.1 d3.2.1 d3.2.2.1))))) else ((Pl50c.f k).bind fun h1 => (some h1))) = some r := H
 have A4 := Aside0.mk z3
 clear z3
 by_cases c5 : r1 = true
 ·subst c5
  have H1 : ((Pxh.f k a0_0 l0_1 l0_2 a1_0 l1_1 l1_2).bind fun d3 => ((Pxc.f a0_0 l0_1 l0_2 a1_0 l1_1 l1_2 a2).bind fun d9 => ((Pr26d.f a0_0 l0_1 l0_2).bind fun f6 => (if f6 = true then ((Pr26d.f a1_0 l1_1 l1_2).bind fun e6 => (Pl50a.j0 k a2 d3.2.2.2 d9.1 d9.2 (!e6) a0_0 l0_1 l0_2 a1_0 l1_1 l1_2 d3.1 d3.2.1 d3.2.2.1)) else (Pl50a.j0 k a2 d3.2.2.2 d9.1 d9.2 true a0_0 l0_1 l0_2 a1_0 l1_1 l1_2 d3.1 d3.2.1 d3.2.2.1))))) = some r := by rw [if_pos rfl] at H; exact H
  clear H
  have H := H1
  clear H1
  replace H := Option.bind_eq_some_iff.mp H
  obtain ⟨⟨b9, b5, b6, d8⟩, z7, H⟩ := H
  replace H : ((Pxc.f a0_0 l0_1 l0_2 a1_0 l1_1 l1_2 a2).bind fun d9 => ((Pr26d.f a0_0 l0_1 l0_2).bind fun f6 => (if f6 = true then ((Pr26d.f a1_0 l1_1 l1_2).bind fun e6 => (Pl50a.j0 k a2 d8 d9.1 d9.2 (!e6) a0_0 l0_1 l0_2 a1_0 l1_1 l1_2 b9 b5 b6)) else (Pl50a.j0 k a2 d8 d9.1 d9.2 true a0_0 l0_1 l0_2 a1_0 l1_1 l1_2 b9 b5 b6)))) = some r := H
  have A6 := Aside0.mk z7
  clear z7
  replace H := Option.bind_eq_some_iff.mp H
  obtain ⟨⟨b7, b4⟩, r5, H⟩ := H
  replace H : ((Pr26d.f a0_0 l0_1 l0_2).bind fun f6 => (if f6 = true then ((Pr26d.f a1_0 l1_1 l1_2).bind fun e6 => (Pl50a.j0 k a2 d8 b7 b4 (!e6) a0_0 l0_1 l0_2 a1_0 l1_1 l1_2 b9 b5 b6)) else (Pl50a.j0 k a2 d8 b7 b4 true a0_0 l0_1 l0_2 a1_0 l1_1 l1_2 b9 b5 b6))) = some r := H
  have A7 := Aside0.mk r5
  clear r5
  have y0 := Aside0.mk H
  clear H
  go_enter Try.func4, Try.ntmps4
  go_upto_region 5 with (first | ((with_reducible refine gate_dst (N := 3) rfl ?_); refine box_event ?hg (N := 3) ?hd (cs := #[.int .i64 a0_0, .slice A0_1 l0_1.length c0_1, .slice A0_2 l0_2.length c0_2]) (t := 25) ?hr ?_; (case hd => rfl); (case hg => rfl); (case hr => first | (go_simp; done) | (go_simp; rfl)); intro a6 hg w9 hbox hb; have b0 := Aside0.mk (below_step (by repeat (first | (with_reducible first | exact HB.out | apply below_alloc | apply pw_below_drewN | apply below_drew1) | exact HB.out)) hb); have b1 := Aside0.mk (hbox); have a9 := Aside0.mk ((by rw [hg]; exact (below_size (by repeat (first | (with_reducible first | exact HB.out | apply below_alloc | apply pw_below_drewN | apply below_drew1) | exact HB.out))) : w.heap.size ≤ a6)); have b8 := Aside0.mk ((by rw [hg]; exact (below_size (by repeat (first | (with_reducible first | exact HB.out | apply below_alloc | apply pw_below_drewN | apply below_drew1) | exact HB.out))) : w.heap.size ≤ a6)); clear HB; have HB := b0; have a0 := b1; have z1 := a9; have a8 := b8; clear b0 b1 a9 b8; clear hb hbox hg) | ((with_reducible refine gate_dst (N := 4) rfl ?_); refine box_event ?hg (N := 4) ?hd (cs := #[.int .i64 a1_0, .slice A1_1 l1_1.length c1_1, .slice A1_2 l1_2.length c1_2]) (t := 25) ?hr ?_; (case hd => rfl); (case hg => rfl); (case hr => first | (go_simp; done) | (go_simp; rfl)); intro a7 hg q4 hbox hb; have b0 := Aside0.mk (blk_below (g := a6) (o := .cells #[.int .i64 a0_0, .slice A0_1 l0_1.length c0_1, .slice A0_2 l0_2.length c0_2] 25 (0, 0)) (by (with_reducible repeat (first | refine blk_drewN ?_ _ | refine blk_drew ?_ | refine blk_alloc ?_ _)); exact a0.out) hb); have b1 := Aside0.mk (below_step (by repeat (first | (with_reducible first | exact HB.out | apply below_alloc | apply pw_below_drewN | apply below_drew1 | refine below_set ?_ a8.out) | exact HB.out)) hb); have a9 := Aside0.mk (hbox); have b8 := Aside0.mk ((by rw [hg]; exact (below_size (by repeat (first | (with_reducible first | exact HB.out | apply below_alloc | apply pw_below_drewN | apply below_drew1 | refine below_set ?_ a8.out) | exact HB.out))) : w.heap.size ≤ a7)); have d0 := Aside0.mk ((by rw [hg]; exact (below_size (by repeat (first | (with_reducible first | exact HB.out | apply below_alloc | apply pw_below_drewN | apply below_drew1 | refine below_set ?_ a8.out) | exact HB.out))) : w.heap.size ≤ a7)); have d1 := Aside0.mk ((by rw [hg]; exact Nat.ne_of_lt (blk_lt (g := a6) (o := .cells #[.int .i64 a0_0, .slice A0_1 l0_1.length c0_1, .slice A0_2 l0_2.length c0_2] 25 (0, 0)) (by (with_reducible repeat (first | refine blk_drewN ?_ _ | refine blk_drew ?_ | refine blk_alloc ?_ _)); exact a0.out)) : a6 ≠ a7)); have e9 := Aside0.mk ((by rw [hg]; exact Nat.ne_of_gt (blk_lt (g := a6) (o := .cells #[.int .i64 a0_0, .slice A0_1 l0_1.length c0_1, .slice A0_2 l0_2.length c0_2] 25 (0, 0)) (by (with_reducible repeat (first | refine blk_drewN ?_ _ | refine blk_drew ?_ | refine blk_alloc ?_ _)); exact a0.out)) : a7 ≠ a6)); clear a0; clear HB; have a0 := b0; have HB := b1; have a1 := a9; have z0 := b8; have b2 := d0; have e4 := d1; have e5 := e9; clear b0 b1 a9 b8 d0 d1 e9; clear hb hbox hg; have G6 := e4.out; have G8 := e5.out; have u6 : q4.cell? ⟨a6, 0, none⟩ = some (.int .i64 a0_0) := (blk_cell a0.out 0).trans rfl; have v3 : q4.cell? ⟨a6, 1, none⟩ = some (.slice A0_1 l0_1.length c0_1) := (blk_cell a0.out 1).trans rfl; have u1 : q4.cell? ⟨a6, 2, none⟩ = some (.slice A0_2 l0_2.length c0_2) := (blk_cell a0.out 2).trans rfl; have i9 := blk_frozen a0.out 0; have o5 := blk_frozen a0.out 1; have l6 := blk_frozen a0.out 2; have u7 : q4.cell? ⟨a7, 0, none⟩ = some (.int .i64 a1_0) := (blk_cell a1.out 0).trans rfl; have u8 : q4.cell? ⟨a7, 1, none⟩ = some (.slice A1_1 l1_1.length c1_1) := (blk_cell a1.out 1).trans rfl; have t8 : q4.cell? ⟨a7, 2, none⟩ = some (.slice A1_2 l1_2.length c1_2) := (blk_cell a1.out 2).trans rfl; have k4 := blk_frozen a1.out 0; have o3 := blk_frozen a1.out 1; have j8 := blk_frozen a1.out 2) | ((with_reducible refine gate_callee (f := 18) rfl ?_); refine goesL_ (some 13) rfl rfl Try.func18 (by kernel_rfl) rfl #[.agg #[.int .i64 a0_0, .slice A0_1 l0_1.length c0_1, .slice A0_2 l0_2.length c0_2], .agg #[.int .i64 a1_0, .slice A1_1 l1_1.length c1_1, .slice A1_2 l1_2.length c1_2]] rfl (by (try simp only [List.map_toArray, List.map_cons, List.map_nil]); first | done | rfl | (simp only [List.length_drop, List.length_take]; rfl)) ?_; (with_reducible refine (Pl50b.calls a0_0 _ _ l0_1 _ _ l0_2 a1_0 _ _ l1_1 _ _ l1_2 true _ ?f1 ?f2 ?f0 ?f3 ?g6 ?g2 ?f9 ?g0 A4.out).mono ?_); (case f1 => repeat (first | exact (Kd.C_below g4.out HB.out) | (with_reducible refine Kd.C_alloc ?_ _) | (with_reducible refine Kd.C_drewN ?_ _) | (with_reducible refine Kd.C_drew ?_))); (case f2 => exact f8.out); (case f0 => repeat (first | exact (Kd.C_below g3.out HB.out) | (with_reducible refine Kd.C_alloc ?_ _) | (with_reducible refine Kd.C_drewN ?_ _) | (with_reducible refine Kd.C_drew ?_))); (case f3 => exact g5.out); (case g6 => repeat (first | exact (Kd.C_below h0.out HB.out) | (with_reducible refine Kd.C_alloc ?_ _) | (with_reducible refine Kd.C_drewN ?_ _) | (with_reducible refine Kd.C_drew ?_))); (case g2 => exact g9.out); (case f9 => repeat (first | exact (Kd.C_below g8.out HB.out) | (with_reducible refine Kd.C_alloc ?_ _) | (with_reducible refine Kd.C_drewN ?_ _) | (with_reducible refine Kd.C_drew ?_))); (case g0 => exact g7.out); rintro e p1 ⟨rfl, hb⟩; refine ⟨_, rfl, ?_⟩; have b0 := Aside0.mk (blk_below (g := a6) (o := .cells #[.int .i64 a0_0, .slice A0_1 l0_1.length c0_1, .slice A0_2 l0_2.length c0_2] 25 (0, 0)) (by (with_reducible repeat (first | refine blk_drewN ?_ _ | refine blk_drew ?_ | refine blk_alloc ?_ _)); exact a0.out) hb); have b1 := Aside0.mk (blk_below (g := a7) (o := .cells #[.int .i64 a1_0, .slice A1_1 l1_1.length c1_1, .slice A1_2 l1_2.length c1_2] 25 (0, 0)) (by (with_reducible repeat (first | refine blk_drewN ?_ _ | refine blk_drew ?_ | refine blk_alloc ?_ _)); exact a1.out) hb); have a9 := Aside0.mk (below_step (by repeat (first | (with_reducible first | exact HB.out | apply below_alloc | apply pw_below_drewN | apply below_drew1 | refine below_set ?_ a8.out | refine below_set ?_ b2.out) | exact HB.out)) hb); clear a0; clear a1; clear HB; have a0 := b0; have a1 := b1; have HB := a9; clear b0 b1 a9; (try clear hb); (try clear f7); (try clear hk); (try clear hi); have j5 : p1.cell? ⟨a6, 0, none⟩ = some (.int .i64 a0_0) := (blk_cell a0.out 0).trans rfl; have l7 : p1.cell? ⟨a6, 1, none⟩ = some (.slice A0_1 l0_1.length c0_1) := (blk_cell a0.out 1).trans rfl; have m1 : p1.cell? ⟨a6, 2, none⟩ = some (.slice A0_2 l0_2.length c0_2) := (blk_cell a0.out 2).trans rfl; have m2 := blk_frozen a0.out 0; have o1 := blk_frozen a0.out 1; have k9 := blk_frozen a0.out 2; have k1 : p1.cell? ⟨a7, 0, none⟩ = some (.int .i64 a1_0) := (blk_cell a1.out 0).trans rfl; have m8 : p1.cell? ⟨a7, 1, none⟩ = some (.slice A1_1 l1_1.length c1_1) := (blk_cell a1.out 1).trans rfl; have i6 : p1.cell? ⟨a7, 2, none⟩ = some (.slice A1_2 l1_2.length c1_2) := (blk_cell a1.out 2).trans rfl; have o2 := blk_frozen a1.out 0; have k8 := blk_frozen a1.out 1; have n4 := blk_frozen a1.out 2) | ((with_reducible refine gate_callee (f := 20) rfl ?_); refine goesL_ (some 19) rfl rfl Try.func20 (by kernel_rfl) rfl #[.agg #[.int .i64 a0_0, .slice A0_1 l0_1.length c0_1, .slice A0_2 l0_2.length c0_2], .agg #[.int .i64 a1_0, .slice A1_1 l1_1.length c1_1, .slice A1_2 l1_2.length c1_2]] rfl (by (try simp only [List.map_toArray, List.map_cons, List.map_nil]); first | done | rfl | (simp only [List.length_drop, List.length_take]; rfl)) ?_; (with_reducible refine (Pxh.calls k a0_0 _ _ l0_1 _ _ l0_2 a1_0 _ _ l1_1 _ _ l1_2 b9 b5 b6 d8 _ ?f1 ?f2 ?f0 ?f3 ?g6 ?g2 ?f9 ?g0 A6.out).mono ?_); (case f1 => repeat (first | exact (Kd.C_below g4.out HB.out) | (with_reducible refine Kd.C_alloc ?_ _) | (with_reducible refine Kd.C_drewN ?_ _) | (with_reducible refine Kd.C_drew ?_))); (case f2 => exact f8.out); (case f0 => repeat (first | exact (Kd.C_below g3.out HB.out) | (with_reducible refine Kd.C_alloc ?_ _) | (with_reducible refine Kd.C_drewN ?_ _) | (with_reducible refine Kd.C_drew ?_))); (case f3 => exact g5.out); (case g6 => repeat (first | exact (Kd.C_below h0.out HB.out) | (with_reducible refine Kd.C_alloc ?_ _) | (with_reducible refine Kd.C_drewN ?_ _) | (with_reducible refine Kd.C_drew ?_))); (case g2 => exact g9.out); (case f9 => repeat (first | exact (Kd.C_below g8.out HB.out) | (with_reducible refine Kd.C_alloc ?_ _) | (with_reducible refine Kd.C_drewN ?_ _) | (with_reducible refine Kd.C_drew ?_))); (case g0 => exact g7.out); rintro e L4 ⟨J0, J3, rfl, h3, h4, hb⟩; refine ⟨_, rfl, ?_⟩; have b0 := Aside0.mk (Kd.R_lower h3 (below_size (by repeat (first | (with_reducible first | exact HB.out | apply below_alloc | apply pw_below_drewN | apply below_drew1 | refine below_set ?_ a8.out | refine below_set ?_ b2.out) | exact HB.out)))); have b1 := Aside0.mk (Kd.R_lower h4 (below_size (by repeat (first | (with_reducible first | exact HB.out | apply below_alloc | apply pw_below_drewN | apply below_drew1 | refine below_set ?_ a8.out | refine below_set ?_ b2.out) | exact HB.out)))); have a9 := Aside0.mk (blk_below (g := a6) (o := .cells #[.int .i64 a0_0, .slice A0_1 l0_1.length c0_1, .slice A0_2 l0_2.length c0_2] 25 (0, 0)) (by (with_reducible repeat (first | refine blk_drewN ?_ _ | refine blk_drew ?_ | refine blk_alloc ?_ _)); exact a0.out) hb); have b8 := Aside0.mk (blk_below (g := a7) (o := .cells #[.int .i64 a1_0, .slice A1_1 l1_1.length c1_1, .slice A1_2 l1_2.length c1_2] 25 (0, 0)) (by (with_reducible repeat (first | refine blk_drewN ?_ _ | refine blk_drew ?_ | refine blk_alloc ?_ _)); exact a1.out) hb); have d0 := Aside0.mk (below_step (by repeat (first | (with_reducible first | exact HB.out | apply below_alloc | apply pw_below_drewN | apply below_drew1 | refine below_set ?_ a8.out | refine below_set ?_ b2.out) | exact HB.out)) hb); clear a0; clear a1; clear HB; have e1 := b0; have e0 := b1; have a0 := a9; have a1 := b8; have HB := d0; clear b0 b1 a9 b8 d0; (try clear hb); (try clear f7); (try clear hk); (try clear hi); (try clear h3); (try clear h4)) | ((with_reducible refine gate_dst (N := 7) rfl ?_); refine box_event ?hg (N := 7) ?hd (cs := #[.int .i64 0, .slice none 0 0, .slice none 0 0]) (t := 25) ?hr ?_; (case hd => rfl); (case hg => rfl); (case hr => first | (go_simp; done) | (go_simp; rfl)); intro b3 hg i1 hbox hb; have b0 := Aside0.mk (Kd.R_below (by (with_reducible repeat (first | apply Kd.R_alloc | apply Kd.R_drewN | apply Kd.R_drew)); exact e1.out) hb); have b1 := Aside0.mk (Kd.R_below (by (with_reducible repeat (first | apply Kd.R_alloc | apply Kd.R_drewN | apply Kd.R_drew)); exact e0.out) hb); have a9 := Aside0.mk (blk_below (g := a6) (o := .cells #[.int .i64 a0_0, .slice A0_1 l0_1.length c0_1, .slice A0_2 l0_2.length c0_2] 25 (0, 0)) (by (with_reducible repeat (first | refine blk_drewN ?_ _ | refine blk_drew ?_ | refine blk_alloc ?_ _)); exact a0.out) hb); have b8 := Aside0.mk (blk_below (g := a7) (o := .cells #[.int .i64 a1_0, .slice A1_1 l1_1.length c1_1, .slice A1_2 l1_2.length c1_2] 25 (0, 0)) (by (with_reducible repeat (first | refine blk_drewN ?_ _ | refine blk_drew ?_ | refine blk_alloc ?_ _)); exact a1.out) hb); have d0 := Aside0.mk (below_step (by repeat (first | (with_reducible first | exact HB.out | apply below_alloc | apply pw_below_drewN | apply below_drew1 | refine below_set ?_ a8.out | refine below_set ?_ b2.out) | exact HB.out)) hb); have d1 := Aside0.mk (hbox); have e9 := Aside0.mk ((by rw [hg]; exact (below_size (by repeat (first | (with_reducible first | exact HB.out | apply below_alloc | apply pw_below_drewN | apply below_drew1 | refine below_set ?_ a8.out | refine below_set ?_ b2.out) | exact HB.out))) : w.heap.size ≤ b3)); have g1 := Aside0.mk ((by rw [hg]; exact (below_size (by repeat (first | (with_reducible first | exact HB.out | apply below_alloc | apply pw_below_drewN | apply below_drew1 | refine below_set ?_ a8.out | refine below_set ?_ b2.out) | exact HB.out))) : w.heap.size ≤ b3)); have z6 := Aside0.mk ((by rw [hg]; exact Nat.ne_of_lt (blk_lt (g := a6) (o := .cells #[.int .i64 a0_0, .slice A0_1 l0_1.length c0_1, .slice A0_2 l0_2.length c0_2] 25 (0, 0)) (by (with_reducible repeat (first | refine blk_drewN ?_ _ | refine blk_drew ?_ | refine blk_alloc ?_ _)); exact a0.out)) : a6 ≠ b3)); have z4 := Aside0.mk ((by rw [hg]; exact Nat.ne_of_gt (blk_lt (g := a6) (o := .cells #[.int .i64 a0_0, .slice A0_1 l0_1.length c0_1, .slice A0_2 l0_2.length c0_2] 25 (0, 0)) (by (with_reducible repeat (first | refine blk_drewN ?_ _ | refine blk_drew ?_ | refine blk_alloc ?_ _)); exact a0.out)) : b3 ≠ a6)); have x6 := Aside0.mk ((by rw [hg]; exact Nat.ne_of_lt (blk_lt (g := a7) (o := .cells #[.int .i64 a1_0, .slice A1_1 l1_1.length c1_1, .slice A1_2 l1_2.length c1_2] 25 (0, 0)) (by (with_reducible repeat (first | refine blk_drewN ?_ _ | refine blk_drew ?_ | refine blk_alloc ?_ _)); exact a1.out)) : a7 ≠ b3)); have x9 := Aside0.mk ((by rw [hg]; exact Nat.ne_of_gt (blk_lt (g := a7) (o := .cells #[.int .i64 a1_0, .slice A1_1 l1_1.length c1_1, .slice A1_2 l1_2.length c1_2] 25 (0, 0)) (by (with_reducible repeat (first | refine blk_drewN ?_ _ | refine blk_drew ?_ | refine blk_alloc ?_ _)); exact a1.out)) : b3 ≠ a7)); clear e1; clear e0; clear a0; clear a1; clear HB; have e1 := b0; have e0 := b1; have a0 := a9; have a1 := b8; have HB := d0; have a3 := d1; have G5 := e9; have d2 := g1; have e2 := z6; have f5 := z4; have e3 := x6; have f4 := x9; clear b0 b1 a9 b8 d0 d1 e9 g1 z6 z4 x6 x9; clear hb hbox hg; have H0 := f5.out; have G3 := e2.out; have I7 := f4.out; have H7 := e3.out; have i8 : i1.cell? ⟨b3, 0, none⟩ = some (.int .i64 0) := (blk_cell a3.out 0).trans rfl; have m0 : i1.cell? ⟨b3, 1, none⟩ = some (.slice none 0 0) := (blk_cell a3.out 1).trans rfl; have j3 : i1.cell? ⟨b3, 2, none⟩ = some (.slice none 0 0) := (blk_cell a3.out 2).trans rfl; have n3 := blk_frozen a3.out 0; have i7 := blk_frozen a3.out 1; have m9 := blk_frozen a3.out 2; obtain ⟨d4, d5, C0⟩ := Kd.R_slice e1.out; subst C0; obtain ⟨d7, d6, B8⟩ := Kd.R_slice e0.out; subst B8; have j9 : i1.cell? ⟨a6, 0, none⟩ = some (.int .i64 a0_0) := (blk_cell a0.out 0).trans rfl; have m6 : i1.cell? ⟨a6, 1, none⟩ = some (.slice A0_1 l0_1.length c0_1) := (blk_cell a0.out 1).trans rfl; have j6 : i1.cell? ⟨a6, 2, none⟩ = some (.slice A0_2 l0_2.length c0_2) := (blk_cell a0.out 2).trans rfl; have n7 := blk_frozen a0.out 0; have j4 := blk_frozen a0.out 1; have k3 := blk_frozen a0.out 2; have k2 : i1.cell? ⟨a7, 0, none⟩ = some (.int .i64 a1_0) := (blk_cell a1.out 0).trans rfl; have o4 : i1.cell? ⟨a7, 1, none⟩ = some (.slice A1_1 l1_1.length c1_1) := (blk_cell a1.out 1).trans rfl; have n0 : i1.cell? ⟨a7, 2, none⟩ = some (.slice A1_2 l1_2.length c1_2) := (blk_cell a1.out 2).trans rfl; have n6 := blk_frozen a1.out 0; have n2 := blk_frozen a1.out 1; have i5 := blk_frozen a1.out 2) | ((with_reducible refine gate_callee (f := 21) rfl ?_); refine goesL_ (some 26) rfl rfl Try.func21 (by kernel_rfl) rfl #[.agg #[.int .i64 a0_0, .slice A0_1 l0_1.length c0_1, .slice A0_2 l0_2.length c0_2], .agg #[.int .i64 a1_0, .slice A1_1 l1_1.length c1_1, .slice A1_2 l1_2.length c1_2], .int .i64 a2] rfl (by (try simp only [List.map_toArray, List.map_cons, List.map_nil]); first | done | rfl | (simp only [List.length_drop, List.length_take]; rfl)) ?_; (with_reducible refine (Pxc.calls a0_0 _ _ l0_1 _ _ l0_2 a1_0 _ _ l1_1 _ _ l1_2 a2 b7 b4 _ ?f1 ?f2 ?f0 ?f3 ?g6 ?g2 ?f9 ?g0 A7.out).mono ?_); (case f1 => exact Kd.C_below g4.out (by repeat (first | (with_reducible first | exact HB.out | apply below_alloc | apply pw_below_drewN | apply below_drew1 | refine below_set ?_ a8.out | refine below_set ?_ b2.out | refine below_set ?_ d2.out) | exact HB.out))); (case f2 => exact f8.out); (case f0 => exact Kd.C_below g3.out (by repeat (first | (with_reducible first | exact HB.out | apply below_alloc | apply pw_below_drewN | apply below_drew1 | refine below_set ?_ a8.out | refine below_set ?_ b2.out | refine below_set ?_ d2.out) | exact HB.out))); (case f3 => exact g5.out); (case g6 => exact Kd.C_below h0.out (by repeat (first | (with_reducible first | exact HB.out | apply below_alloc | apply pw_below_drewN | apply below_drew1 | refine below_set ?_ a8.out | refine below_set ?_ b2.out | refine below_set ?_ d2.out) | exact HB.out))); (case g2 => exact g9.out); (case f9 => exact Kd.C_below g8.out (by repeat (first | (with_reducible first | exact HB.out | apply below_alloc | apply pw_below_drewN | apply below_drew1 | refine below_set ?_ a8.out | refine below_set ?_ b2.out | refine below_set ?_ d2.out) | exact HB.out))); (case g0 => exact g7.out); rintro e q5 ⟨rfl, hb⟩; refine ⟨_, rfl, ?_⟩; have b0 := Aside0.mk (Kd.R_below (by (with_reducible repeat (first | apply Kd.R_alloc | apply Kd.R_drewN | apply Kd.R_drew)); exact (Kd.R_mono (Kd.R_far (p := ⟨b3, 2, none⟩) (Kd.R_far (p := ⟨b3, 1, none⟩) (Kd.R_far (p := ⟨b3, 0, none⟩) (Kd.R_types e1.out a3.out (by decide)) (fun _ hk => hk.2) (.int .i64 b9)) (fun _ hk => hk.2) (.slice d4 b5.length d5)) (fun _ hk => hk.2) (.slice d7 b6.length d6)) (fun _ h_ => h_.1))) hb); have b1 := Aside0.mk (Kd.R_below (by (with_reducible repeat (first | apply Kd.R_alloc | apply Kd.R_drewN | apply Kd.R_drew)); exact (Kd.R_mono (Kd.R_far (p := ⟨b3, 2, none⟩) (Kd.R_far (p := ⟨b3, 1, none⟩) (Kd.R_far (p := ⟨b3, 0, none⟩) (Kd.R_types e0.out a3.out (by decide)) (fun _ hk => hk.2) (.int .i64 b9)) (fun _ hk => hk.2) (.slice d4 b5.length d5)) (fun _ hk => hk.2) (.slice d7 b6.length d6)) (fun _ h_ => h_.1))) hb); have a9 := Aside0.mk (blk_below (g := a6) (o := .cells #[.int .i64 a0_0, .slice A0_1 l0_1.length c0_1, .slice A0_2 l0_2.length c0_2] 25 (0, 0)) (by (with_reducible repeat (first | refine blk_drewN ?_ _ | refine blk_drew ?_ | refine blk_alloc ?_ _)); refine blk_far ?_ e2.out _; (with_reducible repeat (first | refine blk_drewN ?_ _ | refine blk_drew ?_ | refine blk_alloc ?_ _)); refine blk_far ?_ e2.out _; (with_reducible repeat (first | refine blk_drewN ?_ _ | refine blk_drew ?_ | refine blk_alloc ?_ _)); refine blk_far ?_ e2.out _; (with_reducible repeat (first | refine blk_drewN ?_ _ | refine blk_drew ?_ | refine blk_alloc ?_ _)); exact a0.out) hb); have b8 := Aside0.mk (blk_below (g := a7) (o := .cells #[.int .i64 a1_0, .slice A1_1 l1_1.length c1_1, .slice A1_2 l1_2.length c1_2] 25 (0, 0)) (by (with_reducible repeat (first | refine blk_drewN ?_ _ | refine blk_drew ?_ | refine blk_alloc ?_ _)); refine blk_far ?_ e3.out _; (with_reducible repeat (first | refine blk_drewN ?_ _ | refine blk_drew ?_ | refine blk_alloc ?_ _)); refine blk_far ?_ e3.out _; (with_reducible repeat (first | refine blk_drewN ?_ _ | refine blk_drew ?_ | refine blk_alloc ?_ _)); refine blk_far ?_ e3.out _; (with_reducible repeat (first | refine blk_drewN ?_ _ | refine blk_drew ?_ | refine blk_alloc ?_ _)); exact a1.out) hb); have d0 := Aside0.mk (blk_below (g := b3) (o := .cells #[.int .i64 b9, .slice d4 b5.length d5, .slice d7 b6.length d6] 25 (0, 0)) (by (with_reducible repeat (first | refine blk_drewN ?_ _ | refine blk_drew ?_ | refine blk_alloc ?_ _)); refine blk_put (cs := #[.int .i64 b9, .slice d4 b5.length d5, .slice none 0 0]) ?_ 2 _ rfl; (with_reducible repeat (first | refine blk_drewN ?_ _ | refine blk_drew ?_ | refine blk_alloc ?_ _)); refine blk_put (cs := #[.int .i64 b9, .slice none 0 0, .slice none 0 0]) ?_ 1 _ rfl; (with_reducible repeat (first | refine blk_drewN ?_ _ | refine blk_drew ?_ | refine blk_alloc ?_ _)); refine blk_put (cs := #[.int .i64 0, .slice none 0 0, .slice none 0 0]) ?_ 0 _ rfl; (with_reducible repeat (first | refine blk_drewN ?_ _ | refine blk_drew ?_ | refine blk_alloc ?_ _)); exact a3.out) hb); have d1 := Aside0.mk (below_step (by repeat (first | (with_reducible first | exact HB.out | apply below_alloc | apply pw_below_drewN | apply below_drew1 | refine below_set ?_ a8.out | refine below_set ?_ b2.out | refine below_set ?_ d2.out) | exact HB.out)) hb); clear e1; clear e0; clear a0; clear a1; clear a3; clear HB; have e1 := b0; have e0 := b1; have a0 := a9; have a1 := b8; have a3 := d0; have HB := d1; clear b0 b1 a9 b8 d0 d1; (try clear hb); (try clear f7); (try clear hk); (try clear hi)))
  (try simp only [Act.put, List.setIfInBounds_toArray, List.set_cons_zero, List.set_cons_succ])
  go_cut [36] (fun E7 wc => ∃ (kq : Nat) (o6 : Bool), E7 = .bool o6 ∧ Aside0 (Pl50a.j0 kq a2 d8 b7 b4 o6 a0_0 l0_1 l0_2 a1_0 l1_1 l1_2 b9 b5 b6 = some r) ∧ Aside0 (kq ≤ k) ∧ Aside0 (Kd.R Kd.string 9 wc w.heap.size (fun _ => True) (.slice d4 b5.length d5) b5) ∧ Aside0 (Kd.R k51 51 wc w.heap.size (fun _ => True) (.slice d7 b6.length d6) b6) ∧ Aside0 (wc.heap[a6]? = some (.cells #[.int .i64 a0_0, (.slice A0_1 l0_1.length c0_1), (.slice A0_2 l0_2.length c0_2)] 25 (0, 0))) ∧ Aside0 (wc.heap[a7]? = some (.cells #[.int .i64 a1_0, (.slice A1_1 l1_1.length c1_1), (.slice A1_2 l1_2.length c1_2)] 25 (0, 0))) ∧ Aside0 (wc.heap[b3]? = some (.cells #[.int .i64 b9, (.slice d4 b5.length d5), (.slice d7 b6.length d6)] 25 (0, 0))) ∧ Aside0 (Below w.heap.size w wc))
  case first =>
   have H := y0.out
   clear y0
   replace H := Option.bind_eq_some_iff.mp H
   obtain ⟨f6, y1, H⟩ := H
   replace H : (if f6 = true then ((Pr26d.f a1_0 l1_1 l1_2).bind fun e6 => (Pl50a.j0 k a2 d8 b7 b4 (!e6) a0_0 l0_1 l0_2 a1_0 l1_1 l1_2 b9 b5 b6)) else (Pl50a.j0 k a2 d8 b7 b4 true a0_0 l0_1 l0_2 a1_0 l1_1 l1_2 b9 b5 b6)) = some r := H
   have z2 := Aside0.mk y1
   clear y1
   by_cases r4 : f6 = true
   ·subst r4
    have H1 : ((Pr26d.f a1_0 l1_1 l1_2).bind fun e6 => (Pl50a.j0 k a2 d8 b7 b4 (!e6) a0_0 l0_1 l0_2 a1_0 l1_1 l1_2 b9 b5 b6)) = some r := by rw [if_pos rfl] at H; exact H
    clear H
    have H := H1
    clear H1
    replace H := Option.bind_eq_some_iff.mp H
    obtain ⟨e6, x4, H⟩ := H
    replace H : (Pl50a.j0 k a2 d8 b7 b4 (!e6) a0_0 l0_1 l0_2 a1_0 l1_1 l1_2 b9 b5 b6) = some r := H
    have F3 := Aside0.mk x4
    clear x4
    have H' := Aside0.mk H
    clear H
    have I0 := e4.out
    have I5 := e5.out
    have G4 := e2.out
    have I2 := f5.out
    have k5 : q5.cell? ⟨a6, 0, none⟩ = some (.int .i64 a0_0) := (blk_cell a0.out 0).trans rfl
    have m3 : q5.cell? ⟨a6, 1, none⟩ = some (.slice A0_1 l0_1.length c0_1) := (blk_cell a0.out 1).trans rfl
    have l9 : q5.cell? ⟨a6, 2, none⟩ = some (.slice A0_2 l0_2.length c0_2) := (blk_cell a0.out 2).trans rfl
    have k7 := blk_frozen a0.out 0
    have n5 := blk_frozen a0.out 1
    have m7 := blk_frozen a0.out 2
    go_wp2_with (first | ((with_reducible refine gate_callee (f := 15) rfl ?_); refine goesL_ (some 30) rfl rfl Try.func15 (by kernel_rfl) rfl #[.agg #[.int .i64 a0_0, .slice A0_1 l0_1.length c0_1, .slice A0_2 l0_2.length c0_2]] rfl (by (try simp only [List.map_toArray, List.map_cons, List.map_nil]); first | done | rfl | (simp only [List.length_drop, List.length_take]; rfl)) ?_; (with_reducible refine (Pr26d.calls a0_0 _ _ l0_1 _ _ l0_2 true _ ?f1 ?f2 ?f0 ?f3 z2.out).mono ?_); (case f1 => repeat (first | exact (Kd.C_below g4.out HB.out) | (with_reducible refine Kd.C_alloc ?_ _) | (with_reducible refine Kd.C_drewN ?_ _) | (with_reducible refine Kd.C_drew ?_))); (case f2 => exact f8.out); (case f0 => repeat (first | exact (Kd.C_below g3.out HB.out) | (with_reducible refine Kd.C_alloc ?_ _) | (with_reducible refine Kd.C_drewN ?_ _) | (with_reducible refine Kd.C_drew ?_))); (case f3 => exact g5.out); rintro e y2 ⟨rfl, hb⟩; refine ⟨_, rfl, ?_⟩; have b0 := Aside0.mk (Kd.R_below (by (with_reducible repeat (first | apply Kd.R_alloc | apply Kd.R_drewN | apply Kd.R_drew)); exact e1.out) hb); have b1 := Aside0.mk (Kd.R_below (by (with_reducible repeat (first | apply Kd.R_alloc | apply Kd.R_drewN | apply Kd.R_drew)); exact e0.out) hb); have a9 := Aside0.mk (blk_below (g := a6) (o := .cells #[.int .i64 a0_0, .slice A0_1 l0_1.length c0_1, .slice A0_2 l0_2.length c0_2] 25 (0, 0)) (by (with_reducible repeat (first | refine blk_drewN ?_ _ | refine blk_drew ?_ | refine blk_alloc ?_ _)); exact a0.out) hb); have b8 := Aside0.mk (blk_below (g := a7) (o := .cells #[.int .i64 a1_0, .slice A1_1 l1_1.length c1_1, .slice A1_2 l1_2.length c1_2] 25 (0, 0)) (by (with_reducible repeat (first | refine blk_drewN ?_ _ | refine blk_drew ?_ | refine blk_alloc ?_ _)); exact a1.out) hb); have d0 := Aside0.mk (blk_below (g := b3) (o := .cells #[.int .i64 b9, .slice d4 b5.length d5, .slice d7 b6.length d6] 25 (0, 0)) (by (with_reducible repeat (first | refine blk_drewN ?_ _ | refine blk_drew ?_ | refine blk_alloc ?_ _)); exact a3.out) hb); have d1 := Aside0.mk (below_step (by repeat (first | (with_reducible first | exact HB.out | apply below_alloc | apply pw_below_drewN | apply below_drew1 | refine below_set ?_ a8.out | refine below_set ?_ b2.out | refine below_set ?_ d2.out) | exact HB.out)) hb); clear e1; clear e0; clear a0; clear a1; clear a3; clear HB; have e1 := b0; have e0 := b1; have a0 := a9; have a1 := b8; have a3 := d0; have HB := d1; clear b0 b1 a9 b8 d0 d1; (try clear hb); (try clear f7); (try clear hk); (try clear hi); have I8 := e3.out; have G1 := f4.out; have k0 : y2.cell? ⟨a7, 0, none⟩ = some (.int .i64 a1_0) := (blk_cell a1.out 0).trans rfl; have j7 : y2.cell? ⟨a7, 1, none⟩ = some (.slice A1_1 l1_1.length c1_1) := (blk_cell a1.out 1).trans rfl; have l5 : y2.cell? ⟨a7, 2, none⟩ = some (.slice A1_2 l1_2.length c1_2) := (blk_cell a1.out 2).trans rfl; have k6 := blk_frozen a1.out 0; have o0 := blk_frozen a1.out 1; have n8 := blk_frozen a1.out 2) | (go_at_call 15; (with_reducible refine (Pr26d.calls a1_0 _ _ l1_1 _ _ l1_2 e6 _ ?f1 ?f2 ?f0 ?f3 F3.out).mono ?_); (case f1 => repeat (first | exact (Kd.C_below h0.out HB.out) | (with_reducible refine Kd.C_alloc ?_ _) | (with_reducible refine Kd.C_drewN ?_ _) | (with_reducible refine Kd.C_drew ?_))); (case f2 => exact g9.out); (case f0 => repeat (first | exact (Kd.C_below g8.out HB.out) | (with_reducible refine Kd.C_alloc ?_ _) | (with_reducible refine Kd.C_drewN ?_ _) | (with_reducible refine Kd.C_drew ?_))); (case f3 => exact g7.out); rintro e J7 ⟨rfl, hb⟩; have b0 := Aside0.mk (Kd.R_below (by (with_reducible repeat (first | apply Kd.R_alloc | apply Kd.R_drewN | apply Kd.R_drew)); exact e1.out) hb); have b1 := Aside0.mk (Kd.R_below (by (with_reducible repeat (first | apply Kd.R_alloc | apply Kd.R_drewN | apply Kd.R_drew)); exact e0.out) hb); have a9 := Aside0.mk (blk_below (g := a6) (o := .cells #[.int .i64 a0_0, .slice A0_1 l0_1.length c0_1, .slice A0_2 l0_2.length c0_2] 25 (0, 0)) (by (with_reducible repeat (first | refine blk_drewN ?_ _ | refine blk_drew ?_ | refine blk_alloc ?_ _)); exact a0.out) hb); have b8 := Aside0.mk (blk_below (g := a7) (o := .cells #[.int .i64 a1_0, .slice A1_1 l1_1.length c1_1, .slice A1_2 l1_2.length c1_2] 25 (0, 0)) (by (with_reducible repeat (first | refine blk_drewN ?_ _ | refine blk_drew ?_ | refine blk_alloc ?_ _)); exact a1.out) hb); have d0 := Aside0.mk (blk_below (g := b3) (o := .cells #[.int .i64 b9, .slice d4 b5.length d5, .slice d7 b6.length d6] 25 (0, 0)) (by (with_reducible repeat (first | refine blk_drewN ?_ _ | refine blk_drew ?_ | refine blk_alloc ?_ _)); exact a3.out) hb); have d1 := Aside0.mk (below_step (by repeat (first | (with_reducible first | exact HB.out | apply below_alloc | apply pw_below_drewN | apply below_drew1 | refine below_set ?_ a8.out | refine below_set ?_ b2.out | refine below_set ?_ d2.out) | exact HB.out)) hb); clear e1; clear e0; clear a0; clear a1; clear a3; clear HB; have e1 := b0; have e0 := b1; have a0 := a9; have a1 := b8; have a3 := d0; have HB := d1; clear b0 b1 a9 b8 d0 d1; (try clear hb); (try clear f7); (try clear hk); (try clear hi)))
    go_meet
    case rel => exact ⟨_, (!e6), (by first | rfl | (simp; done) | (simp [*]; done)), H', ⟨by first | omega | exact Nat.le_refl _⟩, ⟨by (with_reducible repeat (first | apply Kd.R_alloc | apply Kd.R_drewN | apply Kd.R_drew)); exact e1.out⟩, ⟨by (with_reducible repeat (first | apply Kd.R_alloc | apply Kd.R_drewN | apply Kd.R_drew)); exact e0.out⟩, ⟨by (with_reducible repeat (first | refine blk_drewN ?_ _ | refine blk_drew ?_ | refine blk_alloc ?_ _)); exact a0.out⟩, ⟨by (with_reducible repeat (first | refine blk_drewN ?_ _ | refine blk_drew ?_ | refine blk_alloc ?_ _)); exact a1.out⟩, ⟨by (with_reducible repeat (first | refine blk_drewN ?_ _ | refine blk_drew ?_ | refine blk_alloc ?_ _)); exact a3.out⟩, ⟨by repeat (first | (with_reducible first | exact HB.out | apply below_alloc | apply pw_below_drewN | apply below_drew1 | refine below_set ?_ a8.out | refine below_set ?_ b2.out | refine below_set ?_ d2.out) | exact HB.out)⟩⟩
   ·replace r4 := Bool.eq_false_iff.mpr r4
    subst r4
    have H1 : (Pl50a.j0 k a2 d8 b7 b4 true a0_0 l0_1 l0_2 a1_0 l1_1 l1_2 b9 b5 b6) = some r := by rw [if_neg (show ¬ (false = true) by decide)] at H; exact H
    clear H
    have H := H1
    clear H1
    have H' := Aside0.mk H
    clear H
    have H9 := e4.out
    have H6 := e5.out
    have I3 := e2.out
    have H4 := f5.out
    have l4 : q5.cell? ⟨a6, 0, none⟩ = some (.int .i64 a0_0) := (blk_cell a0.out 0).trans rfl
    have l8 : q5.cell? ⟨a6, 1, none⟩ = some (.slice A0_1 l0_1.length c0_1) := (blk_cell a0.out 1).trans rfl
    have n1 : q5.cell? ⟨a6, 2, none⟩ = some (.slice A0_2 l0_2.length c0_2) := (blk_cell a0.out 2).trans rfl
    have i4 := blk_frozen a0.out 0
    have l3 := blk_frozen a0.out 1
    have m4 := blk_frozen a0.out 2
    go_wp2_with (first | ((with_reducible refine gate_callee (f := 15) rfl ?_); refine goesL_ (some 30) rfl rfl Try.func15 (by kernel_rfl) rfl #[.agg #[.int .i64 a0_0, .slice A0_1 l0_1.length c0_1, .slice A0_2 l0_2.length c0_2]] rfl (by (try simp only [List.map_toArray, List.map_cons, List.map_nil]); first | done | rfl | (simp only [List.length_drop, List.length_take]; rfl)) ?_; (with_reducible refine (Pr26d.calls a0_0 _ _ l0_1 _ _ l0_2 false _ ?f1 ?f2 ?f0 ?f3 z2.out).mono ?_); (case f1 => repeat (first | exact (Kd.C_below g4.out HB.out) | (with_reducible refine Kd.C_alloc ?_ _) | (with_reducible refine Kd.C_drewN ?_ _) | (with_reducible refine Kd.C_drew ?_))); (case f2 => exact f8.out); (case f0 => repeat (first | exact (Kd.C_below g3.out HB.out) | (with_reducible refine Kd.C_alloc ?_ _) | (with_reducible refine Kd.C_drewN ?_ _) | (with_reducible refine Kd.C_drew ?_))); (case f3 => exact g5.out); rintro e K9 ⟨rfl, hb⟩; refine ⟨_, rfl, ?_⟩; have b0 := Aside0.mk (Kd.R_below (by (with_reducible repeat (first | apply Kd.R_alloc | apply Kd.R_drewN | apply Kd.R_drew)); exact e1.out) hb); have b1 := Aside0.mk (Kd.R_below (by (with_reducible repeat (first | apply Kd.R_alloc | apply Kd.R_drewN | apply Kd.R_drew)); exact e0.out) hb); have a9 := Aside0.mk (blk_below (g := a6) (o := .cells #[.int .i64 a0_0, .slice A0_1 l0_1.length c0_1, .slice A0_2 l0_2.length c0_2] 25 (0, 0)) (by (with_reducible repeat (first | refine blk_drewN ?_ _ | refine blk_drew ?_ | refine blk_alloc ?_ _)); exact a0.out) hb); have b8 := Aside0.mk (blk_below (g := a7) (o := .cells #[.int .i64 a1_0, .slice A1_1 l1_1.length c1_1, .slice A1_2 l1_2.length c1_2] 25 (0, 0)) (by (with_reducible repeat (first | refine blk_drewN ?_ _ | refine blk_drew ?_ | refine blk_alloc ?_ _)); exact a1.out) hb); have d0 := Aside0.mk (blk_below (g := b3) (o := .cells #[.int .i64 b9, .slice d4 b5.length d5, .slice d7 b6.length d6] 25 (0, 0)) (by (with_reducible repeat (first | refine blk_drewN ?_ _ | refine blk_drew ?_ | refine blk_alloc ?_ _)); exact a3.out) hb); have d1 := Aside0.mk (below_step (by repeat (first | (with_reducible first | exact HB.out | apply below_alloc | apply pw_below_drewN | apply below_drew1 | refine below_set ?_ a8.out | refine below_set ?_ b2.out | refine below_set ?_ d2.out) | exact HB.out)) hb); clear e1; clear e0; clear a0; clear a1; clear a3; clear HB; have e1 := b0; have e0 := b1; have a0 := a9; have a1 := b8; have a3 := d0; have HB := d1; clear b0 b1 a9 b8 d0 d1; (try clear hb); (try clear f7); (try clear hk); (try clear hi)))
    go_meet
    case rel => exact ⟨_, (true), (by first | rfl | (simp; done) | (simp [*]; done)), H', ⟨by first | omega | exact Nat.le_refl _⟩, ⟨by (with_reducible repeat (first | apply Kd.R_alloc | apply Kd.R_drewN | apply Kd.R_drew)); exact e1.out⟩, ⟨by (with_reducible repeat (first | apply Kd.R_alloc | apply Kd.R_drewN | apply Kd.R_drew)); exact e0.out⟩, ⟨by (with_reducible repeat (first | refine blk_drewN ?_ _ | refine blk_drew ?_ | refine blk_alloc ?_ _)); exact a0.out⟩, ⟨by (with_reducible repeat (first | refine blk_drewN ?_ _ | refine blk_drew ?_ | refine blk_alloc ?_ _)); exact a1.out⟩, ⟨by (with_reducible repeat (first | refine blk_drewN ?_ _ | refine blk_drew ?_ | refine blk_alloc ?_ _)); exact a3.out⟩, ⟨by repeat (first | (with_reducible first | exact HB.out | apply below_alloc | apply pw_below_drewN | apply below_drew1 | refine below_set ?_ a8.out | refine below_set ?_ b2.out | refine below_set ?_ d2.out) | exact HB.out)⟩⟩
  case rest =>
   clear y0
   try clear c1
   try clear c2
   try clear p2
   try clear c3
   try clear c4
   try clear c5
   try clear M0
   try clear K2
   try clear L6
   try clear J8
   try clear L7
   try clear K3
   try clear r4
   try clear K1
   try clear K7
   try clear L3
   try clear K4
   try clear L1
   try clear u6
   try clear v3
   try clear u1
   try clear u7
   try clear u8
   try clear t8
   try clear j5
   try clear l7
   try clear m1
   try clear k1
   try clear m8
   try clear i6
   try clear i8
   try clear m0
   try clear j3
   try clear j9
   try clear m6
   try clear j6
   try clear k2
   try clear o4
   try clear n0
   try clear k5
   try clear m3
   try clear l9
   try clear k0
   try clear j7
   try clear l5
   try clear l4
   try clear l8
   try clear n1
   try clear i9
   try clear o5
   try clear l6
   try clear k4
   try clear o3
   try clear j8
   try clear m2
   try clear o1
   try clear k9
   try clear o2
   try clear k8
   try clear n4
   try clear n3
   try clear i7
   try clear m9
   try clear n7
   try clear j4
   try clear k3
   try clear n6
   try clear n2
   try clear i5
   try clear k7
   try clear n5
   try clear m7
   try clear k6
   try clear o0
   try clear n8
   try clear i4
   try clear l3
   try clear m4
   obtain ⟨kq, o6, rfl, HA, r8, a4, a5, a0, a1, a3, HB⟩ := hcut
   cases kq with
   | zero => exact absurd HA.out (by simp [Pl50a.j0])
   | succ kj7 =>
    have H := HA.out
    clear HA
    simp only [Pl50a.j0] at H
    by_cases p5 : o6 = true
    ·subst p5
     have H1 : ((Pr26b.f kj7 b9 b5 b6 0 ([] : List ByteArray) ([] : List (S51))).bind fun r0 => (if r0 = true then (if d8 = 1 then (if b7 = (-1) then (if b4 = (-1) then ((Pl50c.f kj7).bind fun h2 => (some h2)) else (some false)) else (some false)) else (some false)) else (some false))) = some r := by rw [if_pos rfl] at H; exact H
     clear H
     have H := H1
     clear H1
     replace H := Option.bind_eq_some_iff.mp H
     obtain ⟨r0, x8, H⟩ := H
     replace H : (if r0 = true then (if d8 = 1 then (if b7 = (-1) then (if b4 = (-1) then ((Pl50c.f kj7).bind fun h2 => (some h2)) else (some false)) else (some false)) else (some false)) else (some false)) = some r := H
     have E0 := Aside0.mk x8
     clear x8
     by_cases p8 : r0 = true
     ·subst p8
      have H1 : (if d8 = 1 then (if b7 = (-1) then (if b4 = (-1) then ((Pl50c.f kj7).bind fun h2 => (some h2)) else (some false)) else (some false)) else (some false)) = some r := by rw [if_pos rfl] at H; exact H
      clear H
      have H := H1
      clear H1
      by_cases i0 : d8 = 1
      ·rw [if_pos i0] at H
       have c44b0 : (d8 == 1) = true := beq_iff_eq.mpr i0
       have c44b1 : (d8 != 1) = false := bne_eq_false_iff_eq.mpr i0
       clear i0
       by_cases i2 : b7 = (-1)
       ·rw [if_pos i2] at H
        have c45b0 : (b7 == (-1)) = true := beq_iff_eq.mpr i2
        have c45b1 : (b7 != (-1)) = false := bne_eq_false_iff_eq.mpr i2
        clear i2
        by_cases h8 : b4 = (-1)
        ·rw [if_pos h8] at H
         have c46b0 : (b4 == (-1)) = true := beq_iff_eq.mpr h8
         have c46b1 : (b4 != (-1)) = false := bne_eq_false_iff_eq.mpr h8
         clear h8
         replace H := Option.bind_eq_some_iff.mp H
         obtain ⟨h2, y5, H⟩ := H
         replace H : (some h2) = some r := H
         have F2 := Aside0.mk y5
         clear y5
         obtain rfl := Option.some.inj H
         have H8 := f5.out
         have I1 := e2.out
         have I6 := f4.out
         have G9 := e3.out
         have p9 : wc.cell? ⟨b3, 0, none⟩ = some (.int .i64 b9) := (blk_cell a3.out 0).trans rfl
         have q6 : wc.cell? ⟨b3, 1, none⟩ = some (.slice d4 b5.length d5) := (blk_cell a3.out 1).trans rfl
         have q1 : wc.cell? ⟨b3, 2, none⟩ = some (.slice d7 b6.length d6) := (blk_cell a3.out 2).trans rfl
         have q3 := blk_frozen a3.out 0
         have p4 := blk_frozen a3.out 1
         have p7 := blk_frozen a3.out 2
         go_wp2_with (first | ((with_reducible refine gate_callee (f := 16) rfl ?_); refine goesL_ (some 39) rfl rfl Try.func16 (by kernel_rfl) rfl #[.agg #[.int .i64 b9, .slice d4 b5.length d5, .slice d7 b6.length d6], .agg #[.int .i64 0, .slice none 0 0, .slice none 0 0]] rfl (by (try simp only [List.map_toArray, List.map_cons, List.map_nil]); first | done | rfl | (simp only [List.length_drop, List.length_take]; rfl)) ?_; (refine (Pr26b.calls kj7 b9 _ _ b5 _ _ b6 0 _ _ ([] : List ByteArray) _ _ ([] : List (S51)) true _ ?f1 ?f2 ?f0 ?f3 ?g6 ?g2 ?f9 ?g0 E0.out).mono ?_); (case f1 => repeat (first | exact (Kd.R_reads' a4.out).2.2 | (with_reducible refine Kd.C_alloc ?_ _) | (with_reducible refine Kd.C_drewN ?_ _) | (with_reducible refine Kd.C_drew ?_))); (case f2 => exact (Kd.R_reads' a4.out).2.1); (case f0 => repeat (first | exact (Kd.R_reads' a5.out).2.2 | (with_reducible refine Kd.C_alloc ?_ _) | (with_reducible refine Kd.C_drewN ?_ _) | (with_reducible refine Kd.C_drew ?_))); (case f3 => exact (Kd.R_reads' a5.out).2.1); (case g6 => exact Kd.C_nil _ _); (case g2 => exact Nat.le_refl _); (case f9 => exact Kd.C_nil _ _); (case g0 => exact Nat.le_refl _); rintro e L8 ⟨rfl, hb⟩; refine ⟨_, rfl, ?_⟩; have b0 := Aside0.mk (Kd.R_below (by (with_reducible repeat (first | apply Kd.R_alloc | apply Kd.R_drewN | apply Kd.R_drew)); exact a4.out) hb); have b1 := Aside0.mk (Kd.R_below (by (with_reducible repeat (first | apply Kd.R_alloc | apply Kd.R_drewN | apply Kd.R_drew)); exact a5.out) hb); have a9 := Aside0.mk (blk_below (g := a6) (o := .cells #[.int .i64 a0_0, .slice A0_1 l0_1.length c0_1, .slice A0_2 l0_2.length c0_2] 25 (0, 0)) (by (with_reducible repeat (first | refine blk_drewN ?_ _ | refine blk_drew ?_ | refine blk_alloc ?_ _)); exact a0.out) hb); have b8 := Aside0.mk (blk_below (g := a7) (o := .cells #[.int .i64 a1_0, .slice A1_1 l1_1.length c1_1, .slice A1_2 l1_2.length c1_2] 25 (0, 0)) (by (with_reducible repeat (first | refine blk_drewN ?_ _ | refine blk_drew ?_ | refine blk_alloc ?_ _)); exact a1.out) hb); have d0 := Aside0.mk (blk_below (g := b3) (o := .cells #[.int .i64 b9, .slice d4 b5.length d5, .slice d7 b6.length d6] 25 (0, 0)) (by (with_reducible repeat (first | refine blk_drewN ?_ _ | refine blk_drew ?_ | refine blk_alloc ?_ _)); exact a3.out) hb); have d1 := Aside0.mk (below_step (by repeat (first | (with_reducible first | exact HB.out | apply below_alloc | apply pw_below_drewN | apply below_drew1 | refine below_set ?_ a8.out | refine below_set ?_ b2.out | refine below_set ?_ d2.out) | exact HB.out)) hb); clear a4; clear a5; clear a0; clear a1; clear a3; clear HB; have a4 := b0; have a5 := b1; have a0 := a9; have a1 := b8; have a3 := d0; have HB := d1; clear b0 b1 a9 b8 d0 d1; (try clear hb); (try clear f7); (try clear hk); (try clear hi)) | (go_at_call 19; (with_reducible refine (Pl50c.calls kj7  h2 _ F2.out hr_).mono ?_); rintro e L2 ⟨rfl, hb⟩; have b0 := Aside0.mk (Kd.R_below (by (with_reducible repeat (first | apply Kd.R_alloc | apply Kd.R_drewN | apply Kd.R_drew)); exact a4.out) hb); have b1 := Aside0.mk (Kd.R_below (by (with_reducible repeat (first | apply Kd.R_alloc | apply Kd.R_drewN | apply Kd.R_drew)); exact a5.out) hb); have a9 := Aside0.mk (blk_below (g := a6) (o := .cells #[.int .i64 a0_0, .slice A0_1 l0_1.length c0_1, .slice A0_2 l0_2.length c0_2] 25 (0, 0)) (by (with_reducible repeat (first | refine blk_drewN ?_ _ | refine blk_drew ?_ | refine blk_alloc ?_ _)); exact a0.out) hb); have b8 := Aside0.mk (blk_below (g := a7) (o := .cells #[.int .i64 a1_0, .slice A1_1 l1_1.length c1_1, .slice A1_2 l1_2.length c1_2] 25 (0, 0)) (by (with_reducible repeat (first | refine blk_drewN ?_ _ | refine blk_drew ?_ | refine blk_alloc ?_ _)); exact a1.out) hb); have d0 := Aside0.mk (blk_below (g := b3) (o := .cells #[.int .i64 b9, .slice d4 b5.length d5, .slice d7 b6.length d6] 25 (0, 0)) (by (with_reducible repeat (first | refine blk_drewN ?_ _ | refine blk_drew ?_ | refine blk_alloc ?_ _)); exact a3.out) hb); have d1 := Aside0.mk (below_step (by repeat (first | (with_reducible first | exact HB.out | apply below_alloc | apply pw_below_drewN | apply below_drew1 | refine below_set ?_ a8.out | refine below_set ?_ b2.out | refine below_set ?_ d2.out) | exact HB.out)) hb); clear a4; clear a5; clear a0; clear a1; clear a3; clear HB; have a4 := b0; have a5 := b1; have a0 := a9; have a1 := b8; have a3 := d0; have HB := d1; clear b0 b1 a9 b8 d0 d1; (try clear hb); (try clear f7); (try clear hk); (try clear hi)))
         go_ret
         exact ⟨by first | rfl | (simp [errW_none, errW_some] <;> rfl) | (simp [*, errW_none, errW_some] <;> rfl), by repeat (first | (with_reducible first | exact HB.out | apply below_alloc | apply pw_below_drewN | apply below_drew1 | refine below_set ?_ a8.out | refine below_set ?_ b2.out | refine below_set ?_ d2.out) | exact HB.out)⟩
        ·rw [if_neg h8] at H
         have c46b0 : (b4 == (-1)) = false := beq_eq_false_iff_ne.mpr h8
         have c46b1 : (b4 != (-1)) = true := bne_iff_ne.mpr h8
         obtain rfl := Option.some.inj H
         exact absurd hr_.out (by decide)
       ·rw [if_neg i2] at H
        have c45b0 : (b7 == (-1)) = false := beq_eq_false_iff_ne.mpr i2
        have c45b1 : (b7 != (-1)) = true := bne_iff_ne.mpr i2
        obtain rfl := Option.some.inj H
        exact absurd hr_.out (by decide)
      ·rw [if_neg i0] at H
       have c44b0 : (d8 == 1) = false := beq_eq_false_iff_ne.mpr i0
       have c44b1 : (d8 != 1) = true := bne_iff_ne.mpr i0
       obtain rfl := Option.some.inj H
       exact absurd hr_.out (by decide)
     ·replace p8 := Bool.eq_false_iff.mpr p8
      subst p8
      have H1 : (some false) = some r := by rw [if_neg (show ¬ (false = true) by decide)] at H; exact H
      clear H
      have H := H1
      clear H1
      obtain rfl := Option.some.inj H
      exact absurd hr_.out (by decide)
    ·replace p5 := Bool.eq_false_iff.mpr p5
     subst p5
     have H1 : ((Pr50b.f kj7 a0_0 l0_1 l0_2 a1_0 l1_1 l1_2).bind fun q9 => ((Pr26b.f kj7 b9 b5 b6 q9.1 q9.2.1 q9.2.2).bind fun n9 => (if n9 = true then (Pl50a.j1 kj7 a2 b7 b4 (d8 != 0) a0_0 l0_1 l0_2 a1_0 l1_1 l1_2) else (Pl50a.j1 kj7 a2 b7 b4 true a0_0 l0_1 l0_2 a1_0 l1_1 l1_2)))) = some r := by rw [if_neg (show ¬ (false = true) by decide)] at H; exact H
     clear H
     have H := H1
     clear H1
     have r7 := Aside0.mk H
     clear H
     go_upto_region 7 with (fail)
     go_cut [64] (fun E3 wc => ∃ (kq : Nat) (h9 : Bool), E3 = .bool h9 ∧ Aside0 (Pl50a.j1 kq a2 b7 b4 h9 a0_0 l0_1 l0_2 a1_0 l1_1 l1_2 = some r) ∧ Aside0 (kq ≤ kj7) ∧ Aside0 (Kd.R Kd.string 9 wc w.heap.size (fun _ => True) (.slice d4 b5.length d5) b5) ∧ Aside0 (Kd.R k51 51 wc w.heap.size (fun _ => True) (.slice d7 b6.length d6) b6) ∧ Aside0 (wc.heap[a6]? = some (.cells #[.int .i64 a0_0, (.slice A0_1 l0_1.length c0_1), (.slice A0_2 l0_2.length c0_2)] 25 (0, 0))) ∧ Aside0 (wc.heap[a7]? = some (.cells #[.int .i64 a1_0, (.slice A1_1 l1_1.length c1_1), (.slice A1_2 l1_2.length c1_2)] 25 (0, 0))) ∧ Aside0 (wc.heap[b3]? = some (.cells #[.int .i64 b9, (.slice d4 b5.length d5), (.slice d7 b6.length d6)] 25 (0, 0))) ∧ Aside0 (Below w.heap.size w wc))
     case first =>
      have H := r7.out
      clear r7
      replace H := Option.bind_eq_some_iff.mp H
      obtain ⟨⟨h6, h7, h5⟩, y9, H⟩ := H
      replace H : ((Pr26b.f kj7 b9 b5 b6 h6 h7 h5).bind fun n9 => (if n9 = true then (Pl50a.j1 kj7 a2 b7 b4 (d8 != 0) a0_0 l0_1 l0_2 a1_0 l1_1 l1_2) else (Pl50a.j1 kj7 a2 b7 b4 true a0_0 l0_1 l0_2 a1_0 l1_1 l1_2))) = some r := H
      have r5 := Aside0.mk y9
      clear y9
      replace H := Option.bind_eq_some_iff.mp H
      obtain ⟨n9, y7, H⟩ := H
      replace H : (if n9 = true then (Pl50a.j1 kj7 a2 b7 b4 (d8 != 0) a0_0 l0_1 l0_2 a1_0 l1_1 l1_2) else (Pl50a.j1 kj7 a2 b7 b4 true a0_0 l0_1 l0_2 a1_0 l1_1 l1_2)) = some r := H
      have z5 := Aside0.mk y7
      clear y7
      by_cases q0 : n9 = true
      ·subst q0
       have H1 : (Pl50a.j1 kj7 a2 b7 b4 (d8 != 0) a0_0 l0_1 l0_2 a1_0 l1_1 l1_2) = some r := by rw [if_pos rfl] at H; exact H
       clear H
       have H := H1
       clear H1
       have H' := Aside0.mk H
       clear H
       try go_wp2
       have b0 := Aside0.mk (Kd.R_drew a4.out)
       have b1 := Aside0.mk (Kd.R_drew a5.out)
       have a9 := Aside0.mk (blk_drew a0.out)
       have b8 := Aside0.mk (blk_drew a1.out)
       have d0 := Aside0.mk (blk_drew a3.out)
       have d1 := Aside0.mk (below_drew1 HB.out)
       clear a4
       clear a5
       clear a0
       clear a1
       clear a3
       clear HB
       have a4 := b0
       have a5 := b1
       have a0 := a9
       have a1 := b8
       have a3 := d0
       have HB := d1
       clear b0 b1 a9 b8 d0 d1
       refine start_ (n := 10) (S := fun w' => w'.cell? ⟨b3, 0, none⟩ = some (.int .i64 b9) ∧ w'.cell? ⟨b3, 1, none⟩ = some (.slice d4 b5.length d5) ∧ w'.cell? ⟨b3, 2, none⟩ = some (.slice d7 b6.length d6) ∧ w'.cell? ⟨a6, 0, none⟩ = some (.int .i64 a0_0) ∧ w'.cell? ⟨a6, 1, none⟩ = some (.slice A0_1 l0_1.length c0_1) ∧ w'.cell? ⟨a6, 2, none⟩ = some (.slice A0_2 l0_2.length c0_2) ∧ w'.cell? ⟨a7, 0, none⟩ = some (.int .i64 a1_0) ∧ w'.cell? ⟨a7, 1, none⟩ = some (.slice A1_1 l1_1.length c1_1) ∧ w'.cell? ⟨a7, 2, none⟩ = some (.slice A1_2 l1_2.length c1_2)) (ds := []) #[false, false, false, false, false, false, false, false, false, false] (by kernel_rfl) rfl rfl ⟨(blk_cell a3.out 0).trans rfl, (blk_cell a3.out 1).trans rfl, (blk_cell a3.out 2).trans rfl, (blk_cell a0.out 0).trans rfl, (blk_cell a0.out 1).trans rfl, (blk_cell a0.out 2).trans rfl, (blk_cell a1.out 0).trans rfl, (blk_cell a1.out 1).trans rfl, (blk_cell a1.out 2).trans rfl⟩ (fun hHeld => ?_); refine with_tabW Pl50a.tab7 Pl50a.bits7 (fun HT_ HW_ => ?_)
       generalize wc.drew = w73 at a4 a5 a0 a1 a3 HB hHeld ⊢
       refine take_ (i := 0) (N := some 55) (v := ?_) (a' := ?_) #[true, false, false, false, false, false, false, false, false, false] rfl rfl (take_ofW HT_.out HW_.out (by kernel_rfl)) (fun _ _ _ h => h) (Or.inl ⟨by rfl, ?_⟩) hHeld ?_ ?_
       rotate_left
       ·rintro w' ⟨s0, s1, s2, s3, s4, s5, s6, s7, s8⟩
        go_simp
        with_reducible rfl
       rotate_left
       ·simp only [Act.put, List.setIfInBounds_toArray, List.set_cons_zero, List.set_cons_succ, i64_w, i32_w]
        rfl
       refine take_ (i := 1) (N := some 56) (v := ?_) (a' := ?_) #[true, true, false, false, false, false, false, false, false, false] rfl rfl (take_ofW HT_.out HW_.out (by kernel_rfl)) (fun _ _ _ h => h) (Or.inl ⟨by rfl, ?_⟩) hHeld ?_ ?_
       rotate_left
       ·rintro w' ⟨s0, s1, s2, s3, s4, s5, s6, s7, s8⟩
        go_simp
        with_reducible rfl
       rotate_left
       ·simp only [Act.put, List.setIfInBounds_toArray, List.set_cons_zero, List.set_cons_succ, i64_w, i32_w]
        rfl
       refine take_ (i := 2) (N := some 57) (v := ?_) (a' := ?_) #[true, true, true, false, false, false, false, false, false, false] rfl rfl (take_ofW HT_.out HW_.out (by kernel_rfl)) (fun _ _ _ h => h) (Or.inl ⟨by rfl, ?_⟩) hHeld ?_ ?_
       rotate_left
       ·rintro w' ⟨s0, s1, s2, s3, s4, s5, s6, s7, s8⟩
        go_simp
        with_reducible rfl
       rotate_left
       ·simp only [Act.put, List.setIfInBounds_toArray, List.set_cons_zero, List.set_cons_succ, i64_w, i32_w]
        rfl
       refine one_ (i := 3) (N := some 58) #[true, true, true, true, false, false, false, false, false, false] rfl rfl (one_of HT_.out (by kernel_rfl)) (by decide) (fun K hK => ?_)
       refine goes_ Try.func22 (by kernel_rfl) rfl #[.agg #[.int .i64 a0_0, .slice A0_1 l0_1.length c0_1, .slice A0_2 l0_2.length c0_2], .agg #[.int .i64 a1_0, .slice A1_1 l1_1.length c1_1, .slice A1_2 l1_2.length c1_2]] (by rfl) rfl rfl (by (try simp only [List.map_toArray, List.map_cons, List.map_nil]); first | done | rfl | (simp only [List.length_drop, List.length_take]; rfl)) ?_
       with_reducible refine (Pr50b.calls kj7 a0_0 _ _ l0_1 _ _ l0_2 a1_0 _ _ l1_1 _ _ l1_2 h6 h7 h5 _ ?f1 ?f2 ?f0 ?f3 ?g6 ?g2 ?f9 ?g0 r5.out).mono ?_
       (case f1 => repeat (first | exact (Kd.C_below g4.out HB.out) | (with_reducible refine Kd.C_alloc ?_ _) | (with_reducible refine Kd.C_drewN ?_ _) | (with_reducible refine Kd.C_drew ?_)))
       (case f2 => exact f8.out)
       (case f0 => repeat (first | exact (Kd.C_below g3.out HB.out) | (with_reducible refine Kd.C_alloc ?_ _) | (with_reducible refine Kd.C_drewN ?_ _) | (with_reducible refine Kd.C_drew ?_)))
       (case f3 => exact g5.out)
       (case g6 => repeat (first | exact (Kd.C_below h0.out HB.out) | (with_reducible refine Kd.C_alloc ?_ _) | (with_reducible refine Kd.C_drewN ?_ _) | (with_reducible refine Kd.C_drew ?_)))
       (case g2 => exact g9.out)
       (case f9 => repeat (first | exact (Kd.C_below g8.out HB.out) | (with_reducible refine Kd.C_alloc ?_ _) | (with_reducible refine Kd.C_drewN ?_ _) | (with_reducible refine Kd.C_drew ?_)))
       (case g0 => exact g7.out)
       rintro e K6 ⟨B5, A9, rfl, h3, h4, hb⟩
       refine ⟨_, rfl, ?_⟩
       have b0 := Aside0.mk (Kd.R_elder' (by (with_reducible repeat (first | apply Kd.R_alloc | apply Kd.R_drewN | apply Kd.R_drew)); exact a4.out) (Kd.R_base h3) hb)
       have b1 := Aside0.mk (Kd.R_elder' (by (with_reducible repeat (first | apply Kd.R_alloc | apply Kd.R_drewN | apply Kd.R_drew)); exact a5.out) (Kd.R_base h4) hb)
       have a9 := Aside0.mk (Kd.R_lower (Kd.R_new' h3 (Kd.R_lt (by (with_reducible repeat (first | apply Kd.R_alloc | apply Kd.R_drewN | apply Kd.R_drew)); exact a4.out))) (below_size (by repeat (first | (with_reducible first | exact HB.out | apply below_alloc | apply pw_below_drewN | apply below_drew1 | refine below_set ?_ a8.out | refine below_set ?_ b2.out | refine below_set ?_ d2.out) | exact HB.out))))
       have b8 := Aside0.mk (Kd.R_lower (Kd.R_new' h4 (Kd.R_lt (by (with_reducible repeat (first | apply Kd.R_alloc | apply Kd.R_drewN | apply Kd.R_drew)); exact a5.out))) (below_size (by repeat (first | (with_reducible first | exact HB.out | apply below_alloc | apply pw_below_drewN | apply below_drew1 | refine below_set ?_ a8.out | refine below_set ?_ b2.out | refine below_set ?_ d2.out) | exact HB.out))))
       have d0 := Aside0.mk (blk_below (g := a6) (o := .cells #[.int .i64 a0_0, .slice A0_1 l0_1.length c0_1, .slice A0_2 l0_2.length c0_2] 25 (0, 0)) (by (with_reducible repeat (first | refine blk_drewN ?_ _ | refine blk_drew ?_ | refine blk_alloc ?_ _)); exact a0.out) hb)
       have d1 := Aside0.mk (blk_below (g := a7) (o := .cells #[.int .i64 a1_0, .slice A1_1 l1_1.length c1_1, .slice A1_2 l1_2.length c1_2] 25 (0, 0)) (by (with_reducible repeat (first | refine blk_drewN ?_ _ | refine blk_drew ?_ | refine blk_alloc ?_ _)); exact a1.out) hb)
       have e9 := Aside0.mk (blk_below (g := b3) (o := .cells #[.int .i64 b9, .slice d4 b5.length d5, .slice d7 b6.length d6] 25 (0, 0)) (by (with_reducible repeat (first | refine blk_drewN ?_ _ | refine blk_drew ?_ | refine blk_alloc ?_ _)); exact a3.out) hb)
       have g1 := Aside0.mk (below_step (by repeat (first | (with_reducible first | exact HB.out | apply below_alloc | apply pw_below_drewN | apply below_drew1 | refine below_set ?_ a8.out | refine below_set ?_ b2.out | refine below_set ?_ d2.out) | exact HB.out)) hb)
       clear a4
       clear a5
       clear a0
       clear a1
       clear a3
       clear HB
       have a4 := b0
       have a5 := b1
       have e8 := a9
       have e7 := b8
       have a0 := d0
       have a1 := d1
       have a3 := e9
       have HB := g1
       clear b0 b1 a9 b8 d0 d1 e9 g1
       (try clear hb)
       (try clear f7)
       (try clear hk)
       (try clear hi)
       (try clear h3)
       (try clear h4)
       obtain ⟨D1, D3, x5⟩ := Kd.R_slice e8.out
       (first | subst x5 | (injection x5 with f1_ f2_ f3_; have f4_ := f1_.symm; have f5_ := f3_.symm; clear f1_ f2_ f3_; subst f4_; subst f5_))
       obtain ⟨A1, D4, x7⟩ := Kd.R_slice e7.out
       (first | subst x7 | (injection x7 with f1_ f2_ f3_; have f4_ := f1_.symm; have f5_ := f3_.symm; clear f1_ f2_ f3_; subst f4_; subst f5_))
       refine hK.out _ _ ⟨(blk_cell a3.out 0).trans rfl, (blk_cell a3.out 1).trans rfl, (blk_cell a3.out 2).trans rfl, (blk_cell a0.out 0).trans rfl, (blk_cell a0.out 1).trans rfl, (blk_cell a0.out 2).trans rfl, (blk_cell a1.out 0).trans rfl, (blk_cell a1.out 1).trans rfl, (blk_cell a1.out 2).trans rfl⟩ (fun hHeld => ?_)
       clear hK K
       refine norm_ (a' := ?_) ?_ ?_
       rotate_left
       ·show Act.put _ (some 58) _ = _
        simp only [Act.put, List.setIfInBounds_toArray, List.set_cons_zero, List.set_cons_succ, i64_w, i32_w]
        rfl
       refine one_ (i := 4) (N := some 59) #[true, true, true, true, true, false, false, false, false, false] rfl rfl (one_of HT_.out (by kernel_rfl)) (by decide) (fun K hK => ?_)
       refine goes_ Try.func16 (by kernel_rfl) rfl #[.agg #[.int .i64 b9, .slice d4 b5.length d5, .slice d7 b6.length d6], .agg #[.int .i64 h6, .slice D1 h7.length D3, .slice A1 h5.length D4]] (by rfl) rfl rfl (by (try simp only [List.map_toArray, List.map_cons, List.map_nil]); first | done | rfl | (simp only [List.length_drop, List.length_take]; rfl)) ?_
       with_reducible refine (Pr26b.calls kj7 b9 _ _ b5 _ _ b6 h6 _ _ h7 _ _ h5 true _ ?f1 ?f2 ?f0 ?f3 ?g6 ?g2 ?f9 ?g0 z5.out).mono ?_
       (case f1 => repeat (first | exact (Kd.R_reads' a4.out).2.2 | (with_reducible refine Kd.C_alloc ?_ _) | (with_reducible refine Kd.C_drewN ?_ _) | (with_reducible refine Kd.C_drew ?_)))
       (case f2 => exact (Kd.R_reads' a4.out).2.1)
       (case f0 => repeat (first | exact (Kd.R_reads' a5.out).2.2 | (with_reducible refine Kd.C_alloc ?_ _) | (with_reducible refine Kd.C_drewN ?_ _) | (with_reducible refine Kd.C_drew ?_)))
       (case f3 => exact (Kd.R_reads' a5.out).2.1)
       (case g6 => repeat (first | exact (Kd.R_reads' e8.out).2.2 | (with_reducible refine Kd.C_alloc ?_ _) | (with_reducible refine Kd.C_drewN ?_ _) | (with_reducible refine Kd.C_drew ?_)))
       (case g2 => exact (Kd.R_reads' e8.out).2.1)
       (case f9 => repeat (first | exact (Kd.R_reads' e7.out).2.2 | (with_reducible refine Kd.C_alloc ?_ _) | (with_reducible refine Kd.C_drewN ?_ _) | (with_reducible refine Kd.C_drew ?_)))
       (case g0 => exact (Kd.R_reads' e7.out).2.1)
       rintro e L9 ⟨rfl, hb⟩
       refine ⟨_, rfl, ?_⟩
       have b0 := Aside0.mk (Kd.R_below (by (with_reducible repeat (first | apply Kd.R_alloc | apply Kd.R_drewN | apply Kd.R_drew)); exact a4.out) hb)
       have b1 := Aside0.mk (Kd.R_below (by (with_reducible repeat (first | apply Kd.R_alloc | apply Kd.R_drewN | apply Kd.R_drew)); exact a5.out) hb)
       have a9 := Aside0.mk (Kd.R_below (by (with_reducible repeat (first | apply Kd.R_alloc | apply Kd.R_drewN | apply Kd.R_drew)); exact e8.out) hb)
       have b8 := Aside0.mk (Kd.R_below (by (with_reducible repeat (first | apply Kd.R_alloc | apply Kd.R_drewN | apply Kd.R_drew)); exact e7.out) hb)
       have d0 := Aside0.mk (blk_below (g := a6) (o := .cells #[.int .i64 a0_0, .slice A0_1 l0_1.length c0_1, .slice A0_2 l0_2.length c0_2] 25 (0, 0)) (by (with_reducible repeat (first | refine blk_drewN ?_ _ | refine blk_drew ?_ | refine blk_alloc ?_ _)); exact a0.out) hb)
       have d1 := Aside0.mk (blk_below (g := a7) (o := .cells #[.int .i64 a1_0, .slice A1_1 l1_1.length c1_1, .slice A1_2 l1_2.length c1_2] 25 (0, 0)) (by (with_reducible repeat (first | refine blk_drewN ?_ _ | refine blk_drew ?_ | refine blk_alloc ?_ _)); exact a1.out) hb)
       have e9 := Aside0.mk (blk_below (g := b3) (o := .cells #[.int .i64 b9, .slice d4 b5.length d5, .slice d7 b6.length d6] 25 (0, 0)) (by (with_reducible repeat (first | refine blk_drewN ?_ _ | refine blk_drew ?_ | refine blk_alloc ?_ _)); exact a3.out) hb)
       have g1 := Aside0.mk (below_step (by repeat (first | (with_reducible first | exact HB.out | apply below_alloc | apply pw_below_drewN | apply below_drew1 | refine below_set ?_ a8.out | refine below_set ?_ b2.out | refine below_set ?_ d2.out) | exact HB.out)) hb)
       clear a4
       clear a5
       clear e8
       clear e7
       clear a0
       clear a1
       clear a3
       clear HB
       have a4 := b0
       have a5 := b1
       have e8 := a9
       have e7 := b8
       have a0 := d0
       have a1 := d1
       have a3 := e9
       have HB := g1
       clear b0 b1 a9 b8 d0 d1 e9 g1
       (try clear hb)
       (try clear f7)
       (try clear hk)
       (try clear hi)
       refine hK.out _ _ ⟨(blk_cell a3.out 0).trans rfl, (blk_cell a3.out 1).trans rfl, (blk_cell a3.out 2).trans rfl, (blk_cell a0.out 0).trans rfl, (blk_cell a0.out 1).trans rfl, (blk_cell a0.out 2).trans rfl, (blk_cell a1.out 0).trans rfl, (blk_cell a1.out 1).trans rfl, (blk_cell a1.out 2).trans rfl⟩ (fun hHeld => ?_)
       clear hK K
       refine norm_ (a' := ?_) ?_ ?_
       rotate_left
       ·show Act.put _ (some 59) _ = _
        simp only [Act.put, List.setIfInBounds_toArray, List.set_cons_zero, List.set_cons_succ, i64_w, i32_w]
        rfl
       refine pure_ (i := 5) (N := some 60) (v := ?_) (a' := ?_) #[true, true, true, true, true, true, false, false, false, false] rfl rfl (any_of HT_.out (by kernel_rfl)) (fun _ _ _ h => h) (Or.inl ⟨by rfl, ?_⟩) ?_ ?_
       rotate_left
       ·intro w'
        go_simp
        with_reducible rfl
       rotate_left
       ·simp only [Act.put, List.setIfInBounds_toArray, List.set_cons_zero, List.set_cons_succ, i64_w, i32_w]
        rfl
       refine pure_ (i := 6) (N := some 61) (v := ?_) (a' := ?_) #[true, true, true, true, true, true, true, false, false, false] rfl rfl (any_of HT_.out (by kernel_rfl)) (fun _ _ _ h => h) (Or.inl ⟨by rfl, ?_⟩) ?_ ?_
       rotate_left
       ·intro w'
        go_simp
        with_reducible rfl
       rotate_left
       ·simp only [Act.put, List.setIfInBounds_toArray, List.set_cons_zero, List.set_cons_succ, i64_w, i32_w]
        rfl
       refine pure_ (i := 7) (N := some 62) (v := ?_) (a' := ?_) #[true, true, true, true, true, true, true, true, false, false] rfl rfl (any_of HT_.out (by kernel_rfl)) (fun _ _ _ h => h) (Or.inl ⟨by rfl, ?_⟩) ?_ ?_
       rotate_left
       ·intro w'
        go_simp
        with_reducible rfl
       rotate_left
       ·simp only [Act.put, List.setIfInBounds_toArray, List.set_cons_zero, List.set_cons_succ, i64_w, i32_w]
        rfl
       refine pure_ (i := 8) (N := some 63) (v := ?_) (a' := ?_) #[true, true, true, true, true, true, true, true, true, false] rfl rfl (any_of HT_.out (by kernel_rfl)) (fun _ _ _ h => h) (Or.inl ⟨by rfl, ?_⟩) ?_ ?_
       rotate_left
       ·intro w'
        go_simp
        with_reducible rfl
       rotate_left
       ·simp only [Act.put, List.setIfInBounds_toArray, List.set_cons_zero, List.set_cons_succ, i64_w, i32_w]
        rfl
       refine pure_ (i := 9) (N := some 64) (v := ?_) (a' := ?_) #[true, true, true, true, true, true, true, true, true, true] rfl rfl (any_of HT_.out (by kernel_rfl)) (fun _ _ _ h => h) (Or.inl ⟨by rfl, ?_⟩) ?_ ?_
       rotate_left
       ·intro w'
        go_simp
        with_reducible rfl
       rotate_left
       ·simp only [Act.put, List.setIfInBounds_toArray, List.set_cons_zero, List.set_cons_succ, i64_w, i32_w]
        rfl
       refine done_ (done_of HT_.out (by kernel_rfl)) ?_
       try go_wp2
       go_meet
       case rel => exact ⟨_, ((d8 != 0)), (by first | rfl | (simp; done) | (simp [*]; done)), H', ⟨by have := r8.out; first | omega | exact Nat.le_refl _⟩, ⟨by (with_reducible repeat (first | apply Kd.R_alloc | apply Kd.R_drewN | apply Kd.R_drew)); exact Kd.R_mono a4.out (fun _ hk => trivial)⟩, ⟨by (with_reducible repeat (first | apply Kd.R_alloc | apply Kd.R_drewN | apply Kd.R_drew)); exact Kd.R_mono a5.out (fun _ hk => trivial)⟩, ⟨by (with_reducible repeat (first | refine blk_drewN ?_ _ | refine blk_drew ?_ | refine blk_alloc ?_ _)); exact a0.out⟩, ⟨by (with_reducible repeat (first | refine blk_drewN ?_ _ | refine blk_drew ?_ | refine blk_alloc ?_ _)); exact a1.out⟩, ⟨by (with_reducible repeat (first | refine blk_drewN ?_ _ | refine blk_drew ?_ | refine blk_alloc ?_ _)); exact a3.out⟩, ⟨by repeat (first | (with_reducible first | exact HB.out | apply below_alloc | apply pw_below_drewN | apply below_drew1 | refine below_set ?_ a8.out | refine below_set ?_ b2.out | refine below_set ?_ d2.out) | exact HB.out)⟩⟩
      ·replace q0 := Bool.eq_false_iff.mpr q0
       subst q0
       have H1 : (Pl50a.j1 kj7 a2 b7 b4 true a0_0 l0_1 l0_2 a1_0 l1_1 l1_2) = some r := by rw [if_neg (show ¬ (false = true) by decide)] at H; exact H
       clear H
       have H := H1
       clear H1
       have H' := Aside0.mk H
       clear H
       try go_wp2
       have b0 := Aside0.mk (Kd.R_drew a4.out)
       have b1 := Aside0.mk (Kd.R_drew a5.out)
       have a9 := Aside0.mk (blk_drew a0.out)
       have b8 := Aside0.mk (blk_drew a1.out)
       have d0 := Aside0.mk (blk_drew a3.out)
       have d1 := Aside0.mk (below_drew1 HB.out)
       clear a4
       clear a5
       clear a0
       clear a1
       clear a3
       clear HB
       have a4 := b0
       have a5 := b1
       have a0 := a9
       have a1 := b8
       have a3 := d0
       have HB := d1
       clear b0 b1 a9 b8 d0 d1
       refine start_ (n := 10) (S := fun w' => w'.cell? ⟨b3, 0, none⟩ = some (.int .i64 b9) ∧ w'.cell? ⟨b3, 1, none⟩ = some (.slice d4 b5.length d5) ∧ w'.cell? ⟨b3, 2, none⟩ = some (.slice d7 b6.length d6) ∧ w'.cell? ⟨a6, 0, none⟩ = some (.int .i64 a0_0) ∧ w'.cell? ⟨a6, 1, none⟩ = some (.slice A0_1 l0_1.length c0_1) ∧ w'.cell? ⟨a6, 2, none⟩ = some (.slice A0_2 l0_2.length c0_2) ∧ w'.cell? ⟨a7, 0, none⟩ = some (.int .i64 a1_0) ∧ w'.cell? ⟨a7, 1, none⟩ = some (.slice A1_1 l1_1.length c1_1) ∧ w'.cell? ⟨a7, 2, none⟩ = some (.slice A1_2 l1_2.length c1_2)) (ds := []) #[false, false, false, false, false, false, false, false, false, false] (by kernel_rfl) rfl rfl ⟨(blk_cell a3.out 0).trans rfl, (blk_cell a3.out 1).trans rfl, (blk_cell a3.out 2).trans rfl, (blk_cell a0.out 0).trans rfl, (blk_cell a0.out 1).trans rfl, (blk_cell a0.out 2).trans rfl, (blk_cell a1.out 0).trans rfl, (blk_cell a1.out 1).trans rfl, (blk_cell a1.out 2).trans rfl⟩ (fun hHeld => ?_); refine with_tabW Pl50a.tab7 Pl50a.bits7 (fun HT_ HW_ => ?_)
       generalize wc.drew = w78 at a4 a5 a0 a1 a3 HB hHeld ⊢
       refine take_ (i := 0) (N := some 55) (v := ?_) (a' := ?_) #[true, false, false, false, false, false, false, false, false, false] rfl rfl (take_ofW HT_.out HW_.out (by kernel_rfl)) (fun _ _ _ h => h) (Or.inl ⟨by rfl, ?_⟩) hHeld ?_ ?_
       rotate_left
       ·rintro w' ⟨s0, s1, s2, s3, s4, s5, s6, s7, s8⟩
        go_simp
        with_reducible rfl
       rotate_left
       ·simp only [Act.put, List.setIfInBounds_toArray, List.set_cons_zero, List.set_cons_succ, i64_w, i32_w]
        rfl
       refine take_ (i := 1) (N := some 56) (v := ?_) (a' := ?_) #[true, true, false, false, false, false, false, false, false, false] rfl rfl (take_ofW HT_.out HW_.out (by kernel_rfl)) (fun _ _ _ h => h) (Or.inl ⟨by rfl, ?_⟩) hHeld ?_ ?_
       rotate_left
       ·rintro w' ⟨s0, s1, s2, s3, s4, s5, s6, s7, s8⟩
        go_simp
        with_reducible rfl
       rotate_left
       ·simp only [Act.put, List.setIfInBounds_toArray, List.set_cons_zero, List.set_cons_succ, i64_w, i32_w]
        rfl
       refine take_ (i := 2) (N := some 57) (v := ?_) (a' := ?_) #[true, true, true, false, false, false, false, false, false, false] rfl rfl (take_ofW HT_.out HW_.out (by kernel_rfl)) (fun _ _ _ h => h) (Or.inl ⟨by rfl, ?_⟩) hHeld ?_ ?_
       rotate_left
       ·rintro w' ⟨s0, s1, s2, s3, s4, s5, s6, s7, s8⟩
        go_simp
        with_reducible rfl
       rotate_left
       ·simp only [Act.put, List.setIfInBounds_toArray, List.set_cons_zero, List.set_cons_succ, i64_w, i32_w]
        rfl
       refine one_ (i := 3) (N := some 58) #[true, true, true, true, false, false, false, false, false, false] rfl rfl (one_of HT_.out (by kernel_rfl)) (by decide) (fun K hK => ?_)
       refine goes_ Try.func22 (by kernel_rfl) rfl #[.agg #[.int .i64 a0_0, .slice A0_1 l0_1.length c0_1, .slice A0_2 l0_2.length c0_2], .agg #[.int .i64 a1_0, .slice A1_1 l1_1.length c1_1, .slice A1_2 l1_2.length c1_2]] (by rfl) rfl rfl (by (try simp only [List.map_toArray, List.map_cons, List.map_nil]); first | done | rfl | (simp only [List.length_drop, List.length_take]; rfl)) ?_
       with_reducible refine (Pr50b.calls kj7 a0_0 _ _ l0_1 _ _ l0_2 a1_0 _ _ l1_1 _ _ l1_2 h6 h7 h5 _ ?f1 ?f2 ?f0 ?f3 ?g6 ?g2 ?f9 ?g0 r5.out).mono ?_
       (case f1 => repeat (first | exact (Kd.C_below g4.out HB.out) | (with_reducible refine Kd.C_alloc ?_ _) | (with_reducible refine Kd.C_drewN ?_ _) | (with_reducible refine Kd.C_drew ?_)))
       (case f2 => exact f8.out)
       (case f0 => repeat (first | exact (Kd.C_below g3.out HB.out) | (with_reducible refine Kd.C_alloc ?_ _) | (with_reducible refine Kd.C_drewN ?_ _) | (with_reducible refine Kd.C_drew ?_)))
       (case f3 => exact g5.out)
       (case g6 => repeat (first | exact (Kd.C_below h0.out HB.out) | (with_reducible refine Kd.C_alloc ?_ _) | (with_reducible refine Kd.C_drewN ?_ _) | (with_reducible refine Kd.C_drew ?_)))
       (case g2 => exact g9.out)
       (case f9 => repeat (first | exact (Kd.C_below g8.out HB.out) | (with_reducible refine Kd.C_alloc ?_ _) | (with_reducible refine Kd.C_drewN ?_ _) | (with_reducible refine Kd.C_drew ?_)))
       (case g0 => exact g7.out)
       rintro e L5 ⟨B5, A9, rfl, h3, h4, hb⟩
       refine ⟨_, rfl, ?_⟩
       have b0 := Aside0.mk (Kd.R_elder' (by (with_reducible repeat (first | apply Kd.R_alloc | apply Kd.R_drewN | apply Kd.R_drew)); exact a4.out) (Kd.R_base h3) hb)
       have b1 := Aside0.mk (Kd.R_elder' (by (with_reducible repeat (first | apply Kd.R_alloc | apply Kd.R_drewN | apply Kd.R_drew)); exact a5.out) (Kd.R_base h4) hb)
       have a9 := Aside0.mk (Kd.R_lower (Kd.R_new' h3 (Kd.R_lt (by (with_reducible repeat (first | apply Kd.R_alloc | apply Kd.R_drewN | apply Kd.R_drew)); exact a4.out))) (below_size (by repeat (first | (with_reducible first | exact HB.out | apply below_alloc | apply pw_below_drewN | apply below_drew1 | refine below_set ?_ a8.out | refine below_set ?_ b2.out | refine below_set ?_ d2.out) | exact HB.out))))
       have b8 := Aside0.mk (Kd.R_lower (Kd.R_new' h4 (Kd.R_lt (by (with_reducible repeat (first | apply Kd.R_alloc | apply Kd.R_drewN | apply Kd.R_drew)); exact a5.out))) (below_size (by repeat (first | (with_reducible first | exact HB.out | apply below_alloc | apply pw_below_drewN | apply below_drew1 | refine below_set ?_ a8.out | refine below_set ?_ b2.out | refine below_set ?_ d2.out) | exact HB.out))))
       have d0 := Aside0.mk (blk_below (g := a6) (o := .cells #[.int .i64 a0_0, .slice A0_1 l0_1.length c0_1, .slice A0_2 l0_2.length c0_2] 25 (0, 0)) (by (with_reducible repeat (first | refine blk_drewN ?_ _ | refine blk_drew ?_ | refine blk_alloc ?_ _)); exact a0.out) hb)
       have d1 := Aside0.mk (blk_below (g := a7) (o := .cells #[.int .i64 a1_0, .slice A1_1 l1_1.length c1_1, .slice A1_2 l1_2.length c1_2] 25 (0, 0)) (by (with_reducible repeat (first | refine blk_drewN ?_ _ | refine blk_drew ?_ | refine blk_alloc ?_ _)); exact a1.out) hb)
       have e9 := Aside0.mk (blk_below (g := b3) (o := .cells #[.int .i64 b9, .slice d4 b5.length d5, .slice d7 b6.length d6] 25 (0, 0)) (by (with_reducible repeat (first | refine blk_drewN ?_ _ | refine blk_drew ?_ | refine blk_alloc ?_ _)); exact a3.out) hb)
       have g1 := Aside0.mk (below_step (by repeat (first | (with_reducible first | exact HB.out | apply below_alloc | apply pw_below_drewN | apply below_drew1 | refine below_set ?_ a8.out | refine below_set ?_ b2.out | refine below_set ?_ d2.out) | exact HB.out)) hb)
       clear a4
       clear a5
       clear a0
       clear a1
       clear a3
       clear HB
       have a4 := b0
       have a5 := b1
       have e8 := a9
       have e7 := b8
       have a0 := d0
       have a1 := d1
       have a3 := e9
       have HB := g1
       clear b0 b1 a9 b8 d0 d1 e9 g1
       (try clear hb)
       (try clear f7)
       (try clear hk)
       (try clear hi)
       (try clear h3)
       (try clear h4)
       obtain ⟨A0, A5, y8⟩ := Kd.R_slice e8.out
       (first | subst y8 | (injection y8 with f1_ f2_ f3_; have f4_ := f1_.symm; have f5_ := f3_.symm; clear f1_ f2_ f3_; subst f4_; subst f5_))
       obtain ⟨D2, B6, y4⟩ := Kd.R_slice e7.out
       (first | subst y4 | (injection y4 with f1_ f2_ f3_; have f4_ := f1_.symm; have f5_ := f3_.symm; clear f1_ f2_ f3_; subst f4_; subst f5_))
       refine hK.out _ _ ⟨(blk_cell a3.out 0).trans rfl, (blk_cell a3.out 1).trans rfl, (blk_cell a3.out 2).trans rfl, (blk_cell a0.out 0).trans rfl, (blk_cell a0.out 1).trans rfl, (blk_cell a0.out 2).trans rfl, (blk_cell a1.out 0).trans rfl, (blk_cell a1.out 1).trans rfl, (blk_cell a1.out 2).trans rfl⟩ (fun hHeld => ?_)
       clear hK K
       refine norm_ (a' := ?_) ?_ ?_
       rotate_left
       ·show Act.put _ (some 58) _ = _
        simp only [Act.put, List.setIfInBounds_toArray, List.set_cons_zero, List.set_cons_succ, i64_w, i32_w]
        rfl
       refine one_ (i := 4) (N := some 59) #[true, true, true, true, true, false, false, false, false, false] rfl rfl (one_of HT_.out (by kernel_rfl)) (by decide) (fun K hK => ?_)
       refine goes_ Try.func16 (by kernel_rfl) rfl #[.agg #[.int .i64 b9, .slice d4 b5.length d5, .slice d7 b6.length d6], .agg #[.int .i64 h6, .slice A0 h7.length A5, .slice D2 h5.length B6]] (by rfl) rfl rfl (by (try simp only [List.map_toArray, List.map_cons, List.map_nil]); first | done | rfl | (simp only [List.length_drop, List.length_take]; rfl)) ?_
       with_reducible refine (Pr26b.calls kj7 b9 _ _ b5 _ _ b6 h6 _ _ h7 _ _ h5 false _ ?f1 ?f2 ?f0 ?f3 ?g6 ?g2 ?f9 ?g0 z5.out).mono ?_
       (case f1 => repeat (first | exact (Kd.R_reads' a4.out).2.2 | (with_reducible refine Kd.C_alloc ?_ _) | (with_reducible refine Kd.C_drewN ?_ _) | (with_reducible refine Kd.C_drew ?_)))
       (case f2 => exact (Kd.R_reads' a4.out).2.1)
       (case f0 => repeat (first | exact (Kd.R_reads' a5.out).2.2 | (with_reducible refine Kd.C_alloc ?_ _) | (with_reducible refine Kd.C_drewN ?_ _) | (with_reducible refine Kd.C_drew ?_)))
       (case f3 => exact (Kd.R_reads' a5.out).2.1)
       (case g6 => repeat (first | exact (Kd.R_reads' e8.out).2.2 | (with_reducible refine Kd.C_alloc ?_ _) | (with_reducible refine Kd.C_drewN ?_ _) | (with_reducible refine Kd.C_drew ?_)))
       (case g2 => exact (Kd.R_reads' e8.out).2.1)
       (case f9 => repeat (first | exact (Kd.R_reads' e7.out).2.2 | (with_reducible refine Kd.C_alloc ?_ _) | (with_reducible refine Kd.C_drewN ?_ _) | (with_reducible refine Kd.C_drew ?_)))
       (case g0 => exact (Kd.R_reads' e7.out).2.1)
       rintro e K8 ⟨rfl, hb⟩
       refine ⟨_, rfl, ?_⟩
       have b0 := Aside0.mk (Kd.R_below (by (with_reducible repeat (first | apply Kd.R_alloc | apply Kd.R_drewN | apply Kd.R_drew)); exact a4.out) hb)
       have b1 := Aside0.mk (Kd.R_below (by (with_reducible repeat (first | apply Kd.R_alloc | apply Kd.R_drewN | apply Kd.R_drew)); exact a5.out) hb)
       have a9 := Aside0.mk (Kd.R_below (by (with_reducible repeat (first | apply Kd.R_alloc | apply Kd.R_drewN | apply Kd.R_drew)); exact e8.out) hb)
       have b8 := Aside0.mk (Kd.R_below (by (with_reducible repeat (first | apply Kd.R_alloc | apply Kd.R_drewN | apply Kd.R_drew)); exact e7.out) hb)
       have d0 := Aside0.mk (blk_below (g := a6) (o := .cells #[.int .i64 a0_0, .slice A0_1 l0_1.length c0_1, .slice A0_2 l0_2.length c0_2] 25 (0, 0)) (by (with_reducible repeat (first | refine blk_drewN ?_ _ | refine blk_drew ?_ | refine blk_alloc ?_ _)); exact a0.out) hb)
       have d1 := Aside0.mk (blk_below (g := a7) (o := .cells #[.int .i64 a1_0, .slice A1_1 l1_1.length c1_1, .slice A1_2 l1_2.length c1_2] 25 (0, 0)) (by (with_reducible repeat (first | refine blk_drewN ?_ _ | refine blk_drew ?_ | refine blk_alloc ?_ _)); exact a1.out) hb)
       have e9 := Aside0.mk (blk_below (g := b3) (o := .cells #[.int .i64 b9, .slice d4 b5.length d5, .slice d7 b6.length d6] 25 (0, 0)) (by (with_reducible repeat (first | refine blk_drewN ?_ _ | refine blk_drew ?_ | refine blk_alloc ?_ _)); exact a3.out) hb)
       have g1 := Aside0.mk (below_step (by repeat (first | (with_reducible first | exact HB.out | apply below_alloc | apply pw_below_drewN | apply below_drew1 | refine below_set ?_ a8.out | refine below_set ?_ b2.out | refine below_set ?_ d2.out) | exact HB.out)) hb)
       clear a4
       clear a5
       clear e8
       clear e7
       clear a0
       clear a1
       clear a3
       clear HB
       have a4 := b0
       have a5 := b1
       have e8 := a9
       have e7 := b8
       have a0 := d0
       have a1 := d1
       have a3 := e9
       have HB := g1
       clear b0 b1 a9 b8 d0 d1 e9 g1
       (try clear hb)
       (try clear f7)
       (try clear hk)
       (try clear hi)
       refine hK.out _ _ ⟨(blk_cell a3.out 0).trans rfl, (blk_cell a3.out 1).trans rfl, (blk_cell a3.out 2).trans rfl, (blk_cell a0.out 0).trans rfl, (blk_cell a0.out 1).trans rfl, (blk_cell a0.out 2).trans rfl, (blk_cell a1.out 0).trans rfl, (blk_cell a1.out 1).trans rfl, (blk_cell a1.out 2).trans rfl⟩ (fun hHeld => ?_)
       clear hK K
       refine norm_ (a' := ?_) ?_ ?_
       rotate_left
       ·show Act.put _ (some 59) _ = _
        simp only [Act.put, List.setIfInBounds_toArray, List.set_cons_zero, List.set_cons_succ, i64_w, i32_w]
        rfl
       refine pure_ (i := 5) (N := some 60) (v := ?_) (a' := ?_) #[true, true, true, true, true, true, false, false, false, false] rfl rfl (any_of HT_.out (by kernel_rfl)) (fun _ _ _ h => h) (Or.inl ⟨by rfl, ?_⟩) ?_ ?_
       rotate_left
       ·intro w'
        go_simp
        with_reducible rfl
       rotate_left
       ·simp only [Act.put, List.setIfInBounds_toArray, List.set_cons_zero, List.set_cons_succ, i64_w, i32_w]
        rfl
       refine pure_ (i := 6) (N := some 61) (v := ?_) (a' := ?_) #[true, true, true, true, true, true, true, false, false, false] rfl rfl (any_of HT_.out (by kernel_rfl)) (fun _ _ _ h => h) (Or.inl ⟨by rfl, ?_⟩) ?_ ?_
       rotate_left
       ·intro w'
        go_simp
        with_reducible rfl
       rotate_left
       ·simp only [Act.put, List.setIfInBounds_toArray, List.set_cons_zero, List.set_cons_succ, i64_w, i32_w]
        rfl
       refine pure_ (i := 7) (N := some 62) (v := undef) (a' := ?_) #[true, true, true, true, true, true, true, true, false, false] rfl rfl (any_of HT_.out (by kernel_rfl)) (fun _ _ _ h => h) (Or.inr ⟨by rfl, rfl⟩) ?_ ?_
       rotate_left
       ·simp only [Act.put, List.setIfInBounds_toArray, List.set_cons_zero, List.set_cons_succ, i64_w, i32_w]
        rfl
       refine pure_ (i := 8) (N := some 63) (v := undef) (a' := ?_) #[true, true, true, true, true, true, true, true, true, false] rfl rfl (any_of HT_.out (by kernel_rfl)) (fun _ _ _ h => h) (Or.inr ⟨by rfl, rfl⟩) ?_ ?_
       rotate_left
       ·simp only [Act.put, List.setIfInBounds_toArray, List.set_cons_zero, List.set_cons_succ, i64_w, i32_w]
        rfl
       refine pure_ (i := 9) (N := some 64) (v := ?_) (a' := ?_) #[true, true, true, true, true, true, true, true, true, true] rfl rfl (any_of HT_.out (by kernel_rfl)) (fun _ _ _ h => h) (Or.inl ⟨by rfl, ?_⟩) ?_ ?_
       rotate_left
       ·intro w'
        go_simp
        with_reducible rfl
       rotate_left
       ·simp only [Act.put, List.setIfInBounds_toArray, List.set_cons_zero, List.set_cons_succ, i64_w, i32_w]
        rfl
       refine done_ (done_of HT_.out (by kernel_rfl)) ?_
       try go_wp2
       go_meet
       case rel => exact ⟨_, (true), (by first | rfl | (simp; done) | (simp [*]; done)), H', ⟨by have := r8.out; first | omega | exact Nat.le_refl _⟩, ⟨by (with_reducible repeat (first | apply Kd.R_alloc | apply Kd.R_drewN | apply Kd.R_drew)); exact Kd.R_mono a4.out (fun _ hk => trivial)⟩, ⟨by (with_reducible repeat (first | apply Kd.R_alloc | apply Kd.R_drewN | apply Kd.R_drew)); exact Kd.R_mono a5.out (fun _ hk => trivial)⟩, ⟨by (with_reducible repeat (first | refine blk_drewN ?_ _ | refine blk_drew ?_ | refine blk_alloc ?_ _)); exact a0.out⟩, ⟨by (with_reducible repeat (first | refine blk_drewN ?_ _ | refine blk_drew ?_ | refine blk_alloc ?_ _)); exact a1.out⟩, ⟨by (with_reducible repeat (first | refine blk_drewN ?_ _ | refine blk_drew ?_ | refine blk_alloc ?_ _)); exact a3.out⟩, ⟨by repeat (first | (with_reducible first | exact HB.out | apply below_alloc | apply pw_below_drewN | apply below_drew1 | refine below_set ?_ a8.out | refine below_set ?_ b2.out | refine below_set ?_ d2.out) | exact HB.out)⟩⟩
     case rest =>
      clear r7
      try clear c1
      try clear c2
      try clear p2
      try clear c4
      try clear c5
      try clear c6
      try clear c7
      try clear E8
      try clear F9
      try clear p5
      try clear p8
      try clear i0
      try clear c44b0
      try clear c44b1
      try clear i2
      try clear c45b0
      try clear c45b1
      try clear h8
      try clear c46b0
      try clear c46b1
      try clear F1
      try clear D8
      try clear F5
      try clear F7
      try clear E6
      try clear F4
      try clear E1
      try clear D7
      try clear E2
      try clear D6
      try clear q0
      try clear j5
      try clear l7
      try clear m1
      try clear k1
      try clear m8
      try clear i6
      try clear i8
      try clear m0
      try clear j3
      try clear j9
      try clear m6
      try clear j6
      try clear k2
      try clear o4
      try clear n0
      try clear k5
      try clear m3
      try clear l9
      try clear k0
      try clear j7
      try clear l5
      try clear l4
      try clear l8
      try clear n1
      try clear p9
      try clear q6
      try clear q1
      try clear u0
      try clear u9
      try clear x3
      try clear w3
      try clear t5
      try clear x0
      try clear u2
      try clear t9
      try clear w4
      try clear u5
      try clear v1
      try clear t1
      try clear i9
      try clear o5
      try clear l6
      try clear k4
      try clear o3
      try clear j8
      try clear m2
      try clear o1
      try clear k9
      try clear o2
      try clear k8
      try clear n4
      try clear n3
      try clear i7
      try clear m9
      try clear n7
      try clear j4
      try clear k3
      try clear n6
      try clear n2
      try clear i5
      try clear k7
      try clear n5
      try clear m7
      try clear k6
      try clear o0
      try clear n8
      try clear i4
      try clear l3
      try clear m4
      try clear q3
      try clear p4
      try clear p7
      try clear t3
      try clear t2
      try clear x1
      try clear v4
      try clear w5
      try clear t6
      try clear v7
      try clear x2
      try clear w1
      try clear t7
      try clear v8
      try clear v2
      obtain ⟨kq, h9, rfl, HA, y6, a4, a5, a0, a1, a3, HB⟩ := hcut
      cases kq with
      | zero => exact absurd HA.out (by simp [Pl50a.j1])
      | succ kj68 =>
       have H := HA.out
       clear HA
       simp only [Pl50a.j1] at H
       by_cases r3 : h9 = true
       ·subst r3
        have H1 : (some false) = some r := by rw [if_pos rfl] at H; exact H
        clear H
        have H := H1
        clear H1
        obtain rfl := Option.some.inj H
        exact absurd hr_.out (by decide)
       ·replace r3 := Bool.eq_false_iff.mpr r3
        subst r3
        have H1 : (if a2 < 0 then (Pl50a.j2 kj68 a2 b7 b4 true a1_0 l1_1 l1_2) else (Pl50a.j2 kj68 a2 b7 b4 (decide (a2 ≥ (wrap64 (a0_0 * a1_0)))) a1_0 l1_1 l1_2)) = some r := by rw [if_neg (show ¬ (false = true) by decide)] at H; exact H
        clear H
        have H := H1
        clear H1
        have r6 := Aside0.mk H
        clear H
        go_upto_region 9 with (fail)
        go_cut [75] (fun E9 wc => ∃ (kq : Nat) (i3 : Bool), E9 = .bool i3 ∧ Aside0 (Pl50a.j2 kq a2 b7 b4 i3 a1_0 l1_1 l1_2 = some r) ∧ Aside0 (kq ≤ kj68) ∧ Aside0 (Kd.R Kd.string 9 wc w.heap.size (fun _ => True) (.slice d4 b5.length d5) b5) ∧ Aside0 (Kd.R k51 51 wc w.heap.size (fun _ => True) (.slice d7 b6.length d6) b6) ∧ Aside0 (wc.heap[a6]? = some (.cells #[.int .i64 a0_0, (.slice A0_1 l0_1.length c0_1), (.slice A0_2 l0_2.length c0_2)] 25 (0, 0))) ∧ Aside0 (wc.heap[a7]? = some (.cells #[.int .i64 a1_0, (.slice A1_1 l1_1.length c1_1), (.slice A1_2 l1_2.length c1_2)] 25 (0, 0))) ∧ Aside0 (wc.heap[b3]? = some (.cells #[.int .i64 b9, (.slice d4 b5.length d5), (.slice d7 b6.length d6)] 25 (0, 0))) ∧ Aside0 (Below w.heap.size w wc))
        case first =>
         have H := r6.out
         clear r6
         by_cases o9 : a2 < 0
         ·rw [if_pos o9] at H
          have c85b0 : decide (a2 < 0) = true := decide_eq_true o9
          clear o9
          (first | rw [c85b0] | (simp only [i64_w, i32_w]; rw [c85b0]) | skip)
          have H' := Aside0.mk H
          clear H
          go_wp2
          go_meet
          case rel => exact ⟨_, (true), (by first | rfl | (simp; done) | (simp [*]; done)), H', ⟨by have := r8.out; have := y6.out; first | omega | exact Nat.le_refl _⟩, ⟨by (with_reducible repeat (first | apply Kd.R_alloc | apply Kd.R_drewN | apply Kd.R_drew)); exact a4.out⟩, ⟨by (with_reducible repeat (first | apply Kd.R_alloc | apply Kd.R_drewN | apply Kd.R_drew)); exact a5.out⟩, ⟨by (with_reducible repeat (first | refine blk_drewN ?_ _ | refine blk_drew ?_ | refine blk_alloc ?_ _)); exact a0.out⟩, ⟨by (with_reducible repeat (first | refine blk_drewN ?_ _ | refine blk_drew ?_ | refine blk_alloc ?_ _)); exact a1.out⟩, ⟨by (with_reducible repeat (first | refine blk_drewN ?_ _ | refine blk_drew ?_ | refine blk_alloc ?_ _)); exact a3.out⟩, ⟨by repeat (first | (with_reducible first | exact HB.out | apply below_alloc | apply pw_below_drewN | apply below_drew1 | refine below_set ?_ a8.out | refine below_set ?_ b2.out | refine below_set ?_ d2.out) | exact HB.out)⟩⟩
         ·rw [if_neg o9] at H
          have c85b0 : decide (a2 < 0) = false := decide_eq_false o9
          clear o9
          (first | rw [c85b0] | (simp only [i64_w, i32_w]; rw [c85b0]) | skip)
          have H' := Aside0.mk H
          clear H
          have G7 := e4.out
          have I4 := e5.out
          have H3 := e2.out
          have H5 := f5.out
          have v0 : wc.cell? ⟨a6, 0, none⟩ = some (.int .i64 a0_0) := (blk_cell a0.out 0).trans rfl
          have t4 : wc.cell? ⟨a6, 1, none⟩ = some (.slice A0_1 l0_1.length c0_1) := (blk_cell a0.out 1).trans rfl
          have w6 : wc.cell? ⟨a6, 2, none⟩ = some (.slice A0_2 l0_2.length c0_2) := (blk_cell a0.out 2).trans rfl
          have u3 := blk_frozen a0.out 0
          have w8 := blk_frozen a0.out 1
          have v5 := blk_frozen a0.out 2
          have H2 := e3.out
          have G2 := f4.out
          have w0 : wc.cell? ⟨a7, 0, none⟩ = some (.int .i64 a1_0) := (blk_cell a1.out 0).trans rfl
          have w7 : wc.cell? ⟨a7, 1, none⟩ = some (.slice A1_1 l1_1.length c1_1) := (blk_cell a1.out 1).trans rfl
          have w2 : wc.cell? ⟨a7, 2, none⟩ = some (.slice A1_2 l1_2.length c1_2) := (blk_cell a1.out 2).trans rfl
          have v9 := blk_frozen a1.out 0
          have u4 := blk_frozen a1.out 1
          have v6 := blk_frozen a1.out 2
          go_wp2
          go_meet
          case rel => exact ⟨_, (decide (a2 ≥ (wrap64 (a0_0 * a1_0)))), (by first | rfl | (simp; done) | (simp [*]; done)), H', ⟨by have := r8.out; have := y6.out; first | omega | exact Nat.le_refl _⟩, ⟨by (with_reducible repeat (first | apply Kd.R_alloc | apply Kd.R_drewN | apply Kd.R_drew)); exact a4.out⟩, ⟨by (with_reducible repeat (first | apply Kd.R_alloc | apply Kd.R_drewN | apply Kd.R_drew)); exact a5.out⟩, ⟨by (with_reducible repeat (first | refine blk_drewN ?_ _ | refine blk_drew ?_ | refine blk_alloc ?_ _)); exact a0.out⟩, ⟨by (with_reducible repeat (first | refine blk_drewN ?_ _ | refine blk_drew ?_ | refine blk_alloc ?_ _)); exact a1.out⟩, ⟨by (with_reducible repeat (first | refine blk_drewN ?_ _ | refine blk_drew ?_ | refine blk_alloc ?_ _)); exact a3.out⟩, ⟨by repeat (first | (with_reducible first | exact HB.out | apply below_alloc | apply pw_below_drewN | apply below_drew1 | refine below_set ?_ a8.out | refine below_set ?_ b2.out | refine below_set ?_ d2.out) | exact HB.out)⟩⟩
        case rest =>
         clear r6
         try clear c1
         try clear c2
         try clear p2
         try clear c4
         try clear c5
         try clear c6
         try clear p6
         try clear c7
         try clear c8
         try clear E8
         try clear F9
         try clear p5
         try clear p8
         try clear i0
         try clear c44b0
         try clear c44b1
         try clear i2
         try clear c45b0
         try clear c45b1
         try clear h8
         try clear c46b0
         try clear c46b1
         try clear F1
         try clear D8
         try clear F5
         try clear F7
         try clear E6
         try clear F4
         try clear E1
         try clear D7
         try clear K5
         try clear E2
         try clear D6
         try clear q0
         try clear r3
         try clear o9
         try clear c85b0
         try clear K0
         try clear M1
         try clear L0
         try clear j5
         try clear l7
         try clear m1
         try clear k1
         try clear m8
         try clear i6
         try clear i8
         try clear m0
         try clear j3
         try clear j9
         try clear m6
         try clear j6
         try clear k2
         try clear o4
         try clear n0
         try clear k5
         try clear m3
         try clear l9
         try clear k0
         try clear j7
         try clear l5
         try clear l4
         try clear l8
         try clear n1
         try clear p9
         try clear q6
         try clear q1
         try clear u0
         try clear u9
         try clear x3
         try clear w3
         try clear t5
         try clear x0
         try clear u2
         try clear t9
         try clear w4
         try clear u5
         try clear v1
         try clear t1
         try clear v0
         try clear t4
         try clear w6
         try clear w0
         try clear w7
         try clear w2
         try clear i9
         try clear o5
         try clear l6
         try clear k4
         try clear o3
         try clear j8
         try clear m2
         try clear o1
         try clear k9
         try clear o2
         try clear k8
         try clear n4
         try clear n3
         try clear i7
         try clear m9
         try clear n7
         try clear j4
         try clear k3
         try clear n6
         try clear n2
         try clear i5
         try clear k7
         try clear n5
         try clear m7
         try clear k6
         try clear o0
         try clear n8
         try clear i4
         try clear l3
         try clear m4
         try clear q3
         try clear p4
         try clear p7
         try clear t3
         try clear t2
         try clear x1
         try clear v4
         try clear w5
         try clear t6
         try clear v7
         try clear x2
         try clear w1
         try clear t7
         try clear v8
         try clear v2
         try clear u3
         try clear w8
         try clear v5
         try clear v9
         try clear u4
         try clear v6
         try clear p2
         obtain ⟨kq, i3, rfl, HA, J6, a4, a5, a0, a1, a3, HB⟩ := hcut
         cases kq with
         | zero => exact absurd HA.out (by simp [Pl50a.j2])
         | succ kj83 =>
          have H := HA.out
          clear HA
          simp only [Pl50a.j2] at H
          by_cases t0 : i3 = true
          ·subst t0
           have H1 : (if b7 = (-1) then (if b4 = (-1) then ((Pl50c.f kj83).bind fun q8 => (some q8)) else (some false)) else (some false)) = some r := by rw [if_pos rfl] at H; exact H
           clear H
           have H := H1
           clear H1
           by_cases p0 : b7 = (-1)
           ·rw [if_pos p0] at H
            have c92b0 : (b7 == (-1)) = true := beq_iff_eq.mpr p0
            have c92b1 : (b7 != (-1)) = false := bne_eq_false_iff_eq.mpr p0
            clear p0
            by_cases o8 : b4 = (-1)
            ·rw [if_pos o8] at H
             have c93b0 : (b4 == (-1)) = true := beq_iff_eq.mpr o8
             have c93b1 : (b4 != (-1)) = false := bne_eq_false_iff_eq.mpr o8
             clear o8
             replace H := Option.bind_eq_some_iff.mp H
             obtain ⟨q8, y3, H⟩ := H
             replace H : (some q8) = some r := H
             have E5 := Aside0.mk y3
             clear y3
             obtain rfl := Option.some.inj H
             go_wp2_with (first | (go_at_call 19; (with_reducible refine (Pl50c.calls kj83  q8 _ E5.out hr_).mono ?_); rintro e J9 ⟨rfl, hb⟩; have b0 := Aside0.mk (Kd.R_below (by (with_reducible repeat (first | apply Kd.R_alloc | apply Kd.R_drewN | apply Kd.R_drew)); exact a4.out) hb); have b1 := Aside0.mk (Kd.R_below (by (with_reducible repeat (first | apply Kd.R_alloc | apply Kd.R_drewN | apply Kd.R_drew)); exact a5.out) hb); have a9 := Aside0.mk (blk_below (g := a6) (o := .cells #[.int .i64 a0_0, .slice A0_1 l0_1.length c0_1, .slice A0_2 l0_2.length c0_2] 25 (0, 0)) (by (with_reducible repeat (first | refine blk_drewN ?_ _ | refine blk_drew ?_ | refine blk_alloc ?_ _)); exact a0.out) hb); have b8 := Aside0.mk (blk_below (g := a7) (o := .cells #[.int .i64 a1_0, .slice A1_1 l1_1.length c1_1, .slice A1_2 l1_2.length c1_2] 25 (0, 0)) (by (with_reducible repeat (first | refine blk_drewN ?_ _ | refine blk_drew ?_ | refine blk_alloc ?_ _)); exact a1.out) hb); have d0 := Aside0.mk (blk_below (g := b3) (o := .cells #[.int .i64 b9, .slice d4 b5.length d5, .slice d7 b6.length d6] 25 (0, 0)) (by (with_reducible repeat (first | refine blk_drewN ?_ _ | refine blk_drew ?_ | refine blk_alloc ?_ _)); exact a3.out) hb); have d1 := Aside0.mk (below_step (by repeat (first | (with_reducible first | exact HB.out | apply below_alloc | apply pw_below_drewN | apply below_drew1 | refine below_set ?_ a8.out | refine below_set ?_ b2.out | refine below_set ?_ d2.out) | exact HB.out)) hb); clear a4; clear a5; clear a0; clear a1; clear a3; clear HB; have a4 := b0; have a5 := b1; have a0 := a9; have a1 := b8; have a3 := d0; have HB := d1; clear b0 b1 a9 b8 d0 d1; (try clear hb); (try clear f7); (try clear hk); (try clear hi)))
             go_ret
             exact ⟨by first | rfl | (simp [errW_none, errW_some] <;> rfl) | (simp [*, errW_none, errW_some] <;> rfl), by repeat (first | (with_reducible first | exact HB.out | apply below_alloc | apply pw_below_drewN | apply below_drew1 | refine below_set ?_ a8.out | refine below_set ?_ b2.out | refine below_set ?_ d2.out) | exact HB.out)⟩
            ·rw [if_neg o8] at H
             have c93b0 : (b4 == (-1)) = false := beq_eq_false_iff_ne.mpr o8
             have c93b1 : (b4 != (-1)) = true := bne_iff_ne.mpr o8
             obtain rfl := Option.some.inj H
             exact absurd hr_.out (by decide)
           ·rw [if_neg p0] at H
            have c92b0 : (b7 == (-1)) = false := beq_eq_false_iff_ne.mpr p0
            have c92b1 : (b7 != (-1)) = true := bne_iff_ne.mpr p0
            obtain rfl := Option.some.inj H
            exact absurd hr_.out (by decide)
          ·replace t0 := Bool.eq_false_iff.mpr t0
           subst t0
           have H1 : (if (wrap64 ((wrap64 (b7 * a1_0)) + b4)) = a2 then (if b7 ≥ 0 then (if b4 ≥ 0 then (if b4 < a1_0 then ((Pl50c.f kj83).bind fun r2 => (some r2)) else (some false)) else (some false)) else (some false)) else (some false)) = some r := by rw [if_neg (show ¬ (false = true) by decide)] at H; exact H
           clear H
           have H := H1
           clear H1
           by_cases o7 : (wrap64 ((wrap64 (b7 * a1_0)) + b4)) = a2
           ·rw [if_pos o7] at H
            have c96b0 : ((wrap64 ((wrap64 (b7 * a1_0)) + b4)) == a2) = true := beq_iff_eq.mpr o7
            have c96b1 : ((wrap64 ((wrap64 (b7 * a1_0)) + b4)) != a2) = false := bne_eq_false_iff_eq.mpr o7
            clear o7
            by_cases q7 : b7 ≥ 0
            ·rw [if_pos q7] at H
             have c97b0 : decide (0 ≤ b7) = true := decide_eq_true q7
             clear q7
             by_cases p3 : b4 ≥ 0
             ·rw [if_pos p3] at H
              have c98b0 : decide (0 ≤ b4) = true := decide_eq_true p3
              clear p3
              by_cases q2 : b4 < a1_0
              ·rw [if_pos q2] at H
               have c99b0 : decide (b4 < a1_0) = true := decide_eq_true q2
               clear q2
               replace H := Option.bind_eq_some_iff.mp H
               obtain ⟨r2, s9, H⟩ := H
               replace H : (some r2) = some r := H
               have C5 := Aside0.mk s9
               clear s9
               obtain rfl := Option.some.inj H
               have D9 := e5.out
               have F6 := e4.out
               have E4 := e3.out
               have G0 := f4.out
               have z8 : wc.cell? ⟨a7, 0, none⟩ = some (.int .i64 a1_0) := (blk_cell a1.out 0).trans rfl
               have B0 : wc.cell? ⟨a7, 1, none⟩ = some (.slice A1_1 l1_1.length c1_1) := (blk_cell a1.out 1).trans rfl
               have D5 : wc.cell? ⟨a7, 2, none⟩ = some (.slice A1_2 l1_2.length c1_2) := (blk_cell a1.out 2).trans rfl
               have B9 := blk_frozen a1.out 0
               have B2 := blk_frozen a1.out 1
               have C9 := blk_frozen a1.out 2
               go_wp2_with (first | (go_at_call 19; (with_reducible refine (Pl50c.calls kj83  r2 _ C5.out hr_).mono ?_); rintro e J1 ⟨rfl, hb⟩; have b0 := Aside0.mk (Kd.R_below (by (with_reducible repeat (first | apply Kd.R_alloc | apply Kd.R_drewN | apply Kd.R_drew)); exact a4.out) hb); have b1 := Aside0.mk (Kd.R_below (by (with_reducible repeat (first | apply Kd.R_alloc | apply Kd.R_drewN | apply Kd.R_drew)); exact a5.out) hb); have a9 := Aside0.mk (blk_below (g := a6) (o := .cells #[.int .i64 a0_0, .slice A0_1 l0_1.length c0_1, .slice A0_2 l0_2.length c0_2] 25 (0, 0)) (by (with_reducible repeat (first | refine blk_drewN ?_ _ | refine blk_drew ?_ | refine blk_alloc ?_ _)); exact a0.out) hb); have b8 := Aside0.mk (blk_below (g := a7) (o := .cells #[.int .i64 a1_0, .slice A1_1 l1_1.length c1_1, .slice A1_2 l1_2.length c1_2] 25 (0, 0)) (by (with_reducible repeat (first | refine blk_drewN ?_ _ | refine blk_drew ?_ | refine blk_alloc ?_ _)); exact a1.out) hb); have d0 := Aside0.mk (blk_below (g := b3) (o := .cells #[.int .i64 b9, .slice d4 b5.length d5, .slice d7 b6.length d6] 25 (0, 0)) (by (with_reducible repeat (first | refine blk_drewN ?_ _ | refine blk_drew ?_ | refine blk_alloc ?_ _)); exact a3.out) hb); have d1 := Aside0.mk (below_step (by repeat (first | (with_reducible first | exact HB.out | apply below_alloc | apply pw_below_drewN | apply below_drew1 | refine below_set ?_ a8.out | refine below_set ?_ b2.out | refine below_set ?_ d2.out) | exact HB.out)) hb); clear a4; clear a5; clear a0; clear a1; clear a3; clear HB; have a4 := b0; have a5 := b1; have a0 := a9; have a1 := b8; have a3 := d0; have HB := d1; clear b0 b1 a9 b8 d0 d1; (try clear hb); (try clear f7); (try clear hk); (try clear hi)))
               go_ret
               exact ⟨by first | rfl | (simp [errW_none, errW_some] <;> rfl) | (simp [*, errW_none, errW_some] <;> rfl), by repeat (first | (with_reducible first | exact HB.out | apply below_alloc | apply pw_below_drewN | apply below_drew1 | refine below_set ?_ a8.out | refine below_set ?_ b2.out | refine below_set ?_ d2.out) | exact HB.out)⟩
              ·rw [if_neg q2] at H
               have c99b0 : decide (b4 < a1_0) = false := decide_eq_false q2
               clear q2
               obtain rfl := Option.some.inj H
               exact absurd hr_.out (by decide)
             ·rw [if_neg p3] at H
              have c98b0 : decide (0 ≤ b4) = false := decide_eq_false p3
              clear p3
              obtain rfl := Option.some.inj H
              exact absurd hr_.out (by decide)
            ·rw [if_neg q7] at H
             have c97b0 : decide (0 ≤ b7) = false := decide_eq_false q7
             clear q7
             obtain rfl := Option.some.inj H
             exact absurd hr_.out (by decide)
           ·rw [if_neg o7] at H
            have c96b0 : ((wrap64 ((wrap64 (b7 * a1_0)) + b4)) == a2) = false := beq_eq_false_iff_ne.mpr o7
            have c96b1 : ((wrap64 ((wrap64 (b7 * a1_0)) + b4)) != a2) = true := bne_iff_ne.mpr o7
            obtain rfl := Option.some.inj H
            exact absurd hr_.out (by decide)
 ·replace c5 := Bool.eq_false_iff.mpr c5
  subst c5
  have H1 : ((Pl50c.f k).bind fun h1 => (some h1)) = some r := by rw [if_neg (show ¬ (false = true) by decide)] at H; exact H
  clear H
  have H := H1
  clear H1
  replace H := Option.bind_eq_some_iff.mp H
  obtain ⟨h1, r9, H⟩ := H
  replace H : (some h1) = some r := H
  have A8 := Aside0.mk r9
  clear r9
  obtain rfl := Option.some.inj H
  go_enter Try.func4, Try.ntmps4
  go_wp2_with (first | ((with_reducible refine gate_dst (N := 3) rfl ?_); refine box_event ?hg (N := 3) ?hd (cs := #[.int .i64 a0_0, .slice A0_1 l0_1.length c0_1, .slice A0_2 l0_2.length c0_2]) (t := 25) ?hr ?_; (case hd => rfl); (case hg => rfl); (case hr => first | (go_simp; done) | (go_simp; rfl)); intro a6 hg J4 hbox hb; have b0 := Aside0.mk (below_step (by repeat (first | (with_reducible first | exact HB.out | apply below_alloc | apply pw_below_drewN | apply below_drew1) | exact HB.out)) hb); have b1 := Aside0.mk (hbox); have a9 := Aside0.mk ((by rw [hg]; exact (below_size (by repeat (first | (with_reducible first | exact HB.out | apply below_alloc | apply pw_below_drewN | apply below_drew1) | exact HB.out))) : w.heap.size ≤ a6)); have b8 := Aside0.mk ((by rw [hg]; exact (below_size (by repeat (first | (with_reducible first | exact HB.out | apply below_alloc | apply pw_below_drewN | apply below_drew1) | exact HB.out))) : w.heap.size ≤ a6)); clear HB; have HB := b0; have a0 := b1; have z1 := a9; have a8 := b8; clear b0 b1 a9 b8; clear hb hbox hg) | ((with_reducible refine gate_dst (N := 4) rfl ?_); refine box_event ?hg (N := 4) ?hd (cs := #[.int .i64 a1_0, .slice A1_1 l1_1.length c1_1, .slice A1_2 l1_2.length c1_2]) (t := 25) ?hr ?_; (case hd => rfl); (case hg => rfl); (case hr => first | (go_simp; done) | (go_simp; rfl)); intro a7 hg m5 hbox hb; have b0 := Aside0.mk (blk_below (g := a6) (o := .cells #[.int .i64 a0_0, .slice A0_1 l0_1.length c0_1, .slice A0_2 l0_2.length c0_2] 25 (0, 0)) (by (with_reducible repeat (first | refine blk_drewN ?_ _ | refine blk_drew ?_ | refine blk_alloc ?_ _)); exact a0.out) hb); have b1 := Aside0.mk (below_step (by repeat (first | (with_reducible first | exact HB.out | apply below_alloc | apply pw_below_drewN | apply below_drew1 | refine below_set ?_ a8.out) | exact HB.out)) hb); have a9 := Aside0.mk (hbox); have b8 := Aside0.mk ((by rw [hg]; exact (below_size (by repeat (first | (with_reducible first | exact HB.out | apply below_alloc | apply pw_below_drewN | apply below_drew1 | refine below_set ?_ a8.out) | exact HB.out))) : w.heap.size ≤ a7)); have d0 := Aside0.mk ((by rw [hg]; exact (below_size (by repeat (first | (with_reducible first | exact HB.out | apply below_alloc | apply pw_below_drewN | apply below_drew1 | refine below_set ?_ a8.out) | exact HB.out))) : w.heap.size ≤ a7)); have d1 := Aside0.mk ((by rw [hg]; exact Nat.ne_of_lt (blk_lt (g := a6) (o := .cells #[.int .i64 a0_0, .slice A0_1 l0_1.length c0_1, .slice A0_2 l0_2.length c0_2] 25 (0, 0)) (by (with_reducible repeat (first | refine blk_drewN ?_ _ | refine blk_drew ?_ | refine blk_alloc ?_ _)); exact a0.out)) : a6 ≠ a7)); have e9 := Aside0.mk ((by rw [hg]; exact Nat.ne_of_gt (blk_lt (g := a6) (o := .cells #[.int .i64 a0_0, .slice A0_1 l0_1.length c0_1, .slice A0_2 l0_2.length c0_2] 25 (0, 0)) (by (with_reducible repeat (first | refine blk_drewN ?_ _ | refine blk_drew ?_ | refine blk_alloc ?_ _)); exact a0.out)) : a7 ≠ a6)); clear a0; clear HB; have a0 := b0; have HB := b1; have a1 := a9; have z0 := b8; have b2 := d0; have e4 := d1; have e5 := e9; clear b0 b1 a9 b8 d0 d1 e9; clear hb hbox hg; have F8 := e4.out; have F0 := e5.out; have C7 : m5.cell? ⟨a6, 0, none⟩ = some (.int .i64 a0_0) := (blk_cell a0.out 0).trans rfl; have C3 : m5.cell? ⟨a6, 1, none⟩ = some (.slice A0_1 l0_1.length c0_1) := (blk_cell a0.out 1).trans rfl; have B4 : m5.cell? ⟨a6, 2, none⟩ = some (.slice A0_2 l0_2.length c0_2) := (blk_cell a0.out 2).trans rfl; have C4 := blk_frozen a0.out 0; have A2 := blk_frozen a0.out 1; have C8 := blk_frozen a0.out 2; have z9 : m5.cell? ⟨a7, 0, none⟩ = some (.int .i64 a1_0) := (blk_cell a1.out 0).trans rfl; have C1 : m5.cell? ⟨a7, 1, none⟩ = some (.slice A1_1 l1_1.length c1_1) := (blk_cell a1.out 1).trans rfl; have A3 : m5.cell? ⟨a7, 2, none⟩ = some (.slice A1_2 l1_2.length c1_2) := (blk_cell a1.out 2).trans rfl; have D0 := blk_frozen a1.out 0; have C6 := blk_frozen a1.out 1; have C2 := blk_frozen a1.out 2) | ((with_reducible refine gate_callee (f := 18) rfl ?_); refine goesL_ (some 13) rfl rfl Try.func18 (by kernel_rfl) rfl #[.agg #[.int .i64 a0_0, .slice A0_1 l0_1.length c0_1, .slice A0_2 l0_2.length c0_2], .agg #[.int .i64 a1_0, .slice A1_1 l1_1.length c1_1, .slice A1_2 l1_2.length c1_2]] rfl (by (try simp only [List.map_toArray, List.map_cons, List.map_nil]); first | done | rfl | (simp only [List.length_drop, List.length_take]; rfl)) ?_; (with_reducible refine (Pl50b.calls a0_0 _ _ l0_1 _ _ l0_2 a1_0 _ _ l1_1 _ _ l1_2 false _ ?f1 ?f2 ?f0 ?f3 ?g6 ?g2 ?f9 ?g0 A4.out).mono ?_); (case f1 => repeat (first | exact (Kd.C_below g4.out HB.out) | (with_reducible refine Kd.C_alloc ?_ _) | (with_reducible refine Kd.C_drewN ?_ _) | (with_reducible refine Kd.C_drew ?_))); (case f2 => exact f8.out); (case f0 => repeat (first | exact (Kd.C_below g3.out HB.out) | (with_reducible refine Kd.C_alloc ?_ _) | (with_reducible refine Kd.C_drewN ?_ _) | (with_reducible refine Kd.C_drew ?_))); (case f3 => exact g5.out); (case g6 => repeat (first | exact (Kd.C_below h0.out HB.out) | (with_reducible refine Kd.C_alloc ?_ _) | (with_reducible refine Kd.C_drewN ?_ _) | (with_reducible refine Kd.C_drew ?_))); (case g2 => exact g9.out); (case f9 => repeat (first | exact (Kd.C_below g8.out HB.out) | (with_reducible refine Kd.C_alloc ?_ _) | (with_reducible refine Kd.C_drewN ?_ _) | (with_reducible refine Kd.C_drew ?_))); (case g0 => exact g7.out); rintro e I9 ⟨rfl, hb⟩; refine ⟨_, rfl, ?_⟩; have b0 := Aside0.mk (blk_below (g := a6) (o := .cells #[.int .i64 a0_0, .slice A0_1 l0_1.length c0_1, .slice A0_2 l0_2.length c0_2] 25 (0, 0)) (by (with_reducible repeat (first | refine blk_drewN ?_ _ | refine blk_drew ?_ | refine blk_alloc ?_ _)); exact a0.out) hb); have b1 := Aside0.mk (blk_below (g := a7) (o := .cells #[.int .i64 a1_0, .slice A1_1 l1_1.length c1_1, .slice A1_2 l1_2.length c1_2] 25 (0, 0)) (by (with_reducible repeat (first | refine blk_drewN ?_ _ | refine blk_drew ?_ | refine blk_alloc ?_ _)); exact a1.out) hb); have a9 := Aside0.mk (below_step (by repeat (first | (with_reducible first | exact HB.out | apply below_alloc | apply pw_below_drewN | apply below_drew1 | refine below_set ?_ a8.out | refine below_set ?_ b2.out) | exact HB.out)) hb); clear a0; clear a1; clear HB; have a0 := b0; have a1 := b1; have HB := a9; clear b0 b1 a9; (try clear hb); (try clear f7); (try clear hk); (try clear hi)) | ((with_reducible refine gate_callee (f := 19) rfl ?_); refine goesL_ (some 15) rfl rfl Try.func19 (by kernel_rfl) rfl #[] rfl (by (try simp only [List.map_toArray, List.map_cons, List.map_nil]); first | done | rfl | (simp only [List.length_drop, List.length_take]; rfl)) ?_; (with_reducible refine (Pl50c.calls k  h1 _ A8.out hr_).mono ?_); rintro e J2 ⟨rfl, hb⟩; refine ⟨_, rfl, ?_⟩; have b0 := Aside0.mk (blk_below (g := a6) (o := .cells #[.int .i64 a0_0, .slice A0_1 l0_1.length c0_1, .slice A0_2 l0_2.length c0_2] 25 (0, 0)) (by (with_reducible repeat (first | refine blk_drewN ?_ _ | refine blk_drew ?_ | refine blk_alloc ?_ _)); exact a0.out) hb); have b1 := Aside0.mk (blk_below (g := a7) (o := .cells #[.int .i64 a1_0, .slice A1_1 l1_1.length c1_1, .slice A1_2 l1_2.length c1_2] 25 (0, 0)) (by (with_reducible repeat (first | refine blk_drewN ?_ _ | refine blk_drew ?_ | refine blk_alloc ?_ _)); exact a1.out) hb); have a9 := Aside0.mk (below_step (by repeat (first | (with_reducible first | exact HB.out | apply below_alloc | apply pw_below_drewN | apply below_drew1 | refine below_set ?_ a8.out | refine below_set ?_ b2.out) | exact HB.out)) hb); clear a0; clear a1; clear HB; have a0 := b0; have a1 := b1; have HB := a9; clear b0 b1 a9; (try clear hb); (try clear f7); (try clear hk); (try clear hi)))
  go_ret
  exact ⟨by first | rfl | (simp [errW_none, errW_some] <;> rfl) | (simp [*, errW_none, errW_some] <;> rfl), by repeat (first | (with_reducible first | exact HB.out | apply below_alloc | apply pw_below_drewN | apply below_drew1 | refine below_set ?_ a8.out | refine below_set ?_ b2.out) | exact HB.out)⟩
end Go.Proofs.Ythaaockbapbooaa.Pr
set_option linter.unusedVariables false
set_option linter.unusedSimpArgs false
namespace Go.Proofs.Ythaaockbapbooaa.H
open Go.RowKit Go.Proofs.Ythaaockbapbooaa.Pr Go.Proofs.YthaaockbapbooaaW.PrintWords Go.Proofs.Ythaaockbapbooaa.Sem
theorem texts_ev (ls : List ByteArray) (hl : ls.length ≤ 1000000) : Ev (fun k => Pr01a.f k ls ls) true := by
 have key : ∀ d i : Nat, i + d = ls.length → Ev (fun k => Pr01a.l0 k ls ls (i : Int)) true := by
  intro d
  induction d with
  | zero => intro i h; exact Ev.step (fun k => Pr01a.l0.eq_2 ..) (Ev.neg (by omega) (Ev.now _))
  | succ d ih =>
   intro i h
   refine Ev.step (fun k => Pr01a.l0.eq_2 ..) (Ev.pos (by omega) (Ev.pos (by omega) (Ev.pos (by omega) (Ev.pos rfl ?_))))
   rw [w1n (by omega)]
   exact ih (i + 1) (by omega)
 exact Ev.pos rfl (key ls.length 0 (by omega))
theorem same26_refl (n : Int) (ls : List ByteArray) (xs : List Ed) (h1 : ls.length ≤ 1000000) (hl : xs.length ≤ 1000000) : Ev (fun k => Pr26b.f k n ls xs n ls xs) true := by
 have key : ∀ d i : Nat, i + d = xs.length → Ev (fun k => Pr26b.l0 k (i : Int) n ls xs n ls xs) true := by
  intro d
  induction d with
  | zero => intro i h; exact Ev.step (fun k => Pr26b.l0.eq_2 ..) (Ev.neg (by omega) (Ev.now _))
  | succ d ih =>
   intro i h
   refine Ev.step (fun k => Pr26b.l0.eq_2 ..) (Ev.pos (by omega) (Ev.pos (by omega) (Ev.pos (by omega) (Ev.neg (by simp) ?_))))
   rw [w1n (by omega)]
   exact ih (i + 1) (by omega)
 exact Ev.pos rfl (Ev.bind (texts_ev ls h1) (Ev.pos rfl (Ev.step (fun k => Pr26b.j0.eq_2 ..) (Ev.neg (by simp) (key xs.length 0 (by omega))))))
end Go.Proofs.Ythaaockbapbooaa.H
set_option linter.unusedVariables false
set_option linter.unusedSimpArgs false
namespace Go.Proofs.Ythaaockbapbooaa.H
open Go.RowKit Go.Proofs.Ythaaockbapbooaa.Pr Go.Proofs.YthaaockbapbooaaW.PrintWords Go.Proofs.Ythaaockbapbooaa.Sem
theorem awake50 : Ev (fun k => Pl50c.f k) true := Ev.of Pl50c.mono (k := 20) (by kernel_rfl)
theorem same0 : Ev (fun k => Pr26b.f k 0 [] [] 0 [] []) true := same26_refl 0 [] [] (by simp) (by simp)
theorem mul_le {n m : Int} (h1 : 1 ≤ n ∧ n ≤ 255) (h2 : 1 ≤ m ∧ m ≤ 255) : 1 ≤ n * m ∧ n * m ≤ 65025 := by
 constructor
 ·have := Int.mul_le_mul h1.1 h2.1 (by omega) (by omega); omega
 ·have := Int.mul_le_mul h1.2 h2.2 (by omega) (by omega); omega
end Go.Proofs.Ythaaockbapbooaa.H
set_option linter.unusedVariables false
set_option linter.unusedSimpArgs false
namespace Go.Proofs.Ythaaockbapbooaa.PL
theorem rind {α : Type} {P : List α → Prop} (h0 : P []) (h1 : ∀ l a, P l → P (l ++ [a])) (l : List α) : P l := by
 have : ∀ m : List α, P m.reverse := by
  intro m
  induction m with
  | nil => exact h0
  | cons a r ih => rw [List.reverse_cons]; exact h1 _ _ ih
 have := this l.reverse
 rwa [List.reverse_reverse] at this
section
variable {κ : Type} [DecidableEq κ]
end
section
variable {κ τ : Type} [DecidableEq κ] [DecidableEq τ]
end
section
variable {κ : Type} [DecidableEq κ]
theorem take_snoc' {α : Type} {l : List α} {m : Nat} (h : m < l.length) : l.take (m + 1) = l.take m ++ [l[m]] := by
 rw [List.take_add_one, List.getElem?_eq_getElem h]; rfl
end
end Go.Proofs.Ythaaockbapbooaa.PL
set_option linter.unusedVariables false
set_option linter.unusedSimpArgs false
namespace Go.Proofs.Ythaaockbapbooaa.H
open Go.RowKit Go.Proofs.Ythaaockbapbooaa.Pr Go.Proofs.YthaaockbapbooaaW.PrintWords Go.Proofs.Ythaaockbapbooaa.Sem Go.Proofs.Ythaaockbapbooaa.PL
theorem toList_eq {a b : ByteArray} : a.toList = b.toList ↔ a = b := by
 constructor
 ·intro h
  exact ByteArray.ext (Array.toList_inj.1 (by simpa [ByteArray.toList_eq] using h))
 ·intro h; rw [h]
instance : LawfulBEq ByteArray where
  eq_of_beq {a b} h := by
    have h2 : a.data = b.data := eq_of_beq (show (a.data == b.data) = true from h)
    exact ByteArray.ext h2
  rfl {a} := show (a.data == a.data) = true from beq_self_eq_true _
def plc (ls : List ByteArray) (s : ByteArray) : Int := if s ∈ ls then (ls.idxOf s : Int) else -1
theorem rdS (ls : List ByteArray) {i : Nat} (hi : i < ls.length) : rdOf ByteArray.empty ls (i : Int) = ls[i] := by
 unfold rdOf
 rw [Int.toNat_natCast, getD_get hi]
theorem idxOf_beforeB : ∀ (l : List ByteArray) (k : ByteArray) (j : Nat) (h : j < l.length), j < l.idxOf k → l[j] ≠ k
 | [], _, _, h, _ => by simp at h
 | a :: r, k, j, h, hj => by
  rw [List.idxOf_cons] at hj
  by_cases q : a = k
  ·subst q; simp at hj
  ·rw [show (a == k) = false by simpa using q] at hj
   cases j with
   | zero => simpa using q
   | succ j => simp only [cond_false] at hj; rw [List.getElem_cons_succ]; exact idxOf_beforeB r k j (by simpa using h) (by omega)
theorem plc_at {ls : List ByteArray} {s : ByteArray} {i : Nat} (hi : i < ls.length) (h : ls[i] = s) (hb : ∀ j (hj : j < ls.length), j < i → ls[j] ≠ s) : plc ls s = (i : Int) := by
 unfold plc
 rw [if_pos (h ▸ List.getElem_mem hi)]
 congr 1
 have h1 := List.idxOf_lt_length_of_mem (h ▸ List.getElem_mem hi : s ∈ ls)
 have h2 := List.getElem_idxOf h1
 rcases Nat.lt_trichotomy (ls.idxOf s) i with q | q | q
 ·exact absurd h2 (hb _ h1 q)
 ·exact q
 ·exact absurd h (idxOf_beforeB ls s i hi q)
theorem plc_no {ls : List ByteArray} {s : ByteArray} (hb : ∀ j (hj : j < ls.length), ls[j] ≠ s) : plc ls s = -1 := by
 unfold plc
 rw [if_neg fun h => ?_]
 obtain ⟨j, hj, e⟩ := List.getElem_of_mem h
 exact hb j hj e
theorem plc_nonneg {ls : List ByteArray} {s : ByteArray} : 0 ≤ plc ls s ↔ s ∈ ls := by
 unfold plc
 split
 ·rename_i h
  exact ⟨fun _ => h, fun _ => by omega⟩
 ·rename_i h
  exact ⟨fun q => by omega, fun q => absurd q h⟩
theorem index_ev (ls : List ByteArray) (s : ByteArray) (hl : ls.length ≤ 1000000) : Ev (fun k => Pxa.f k ls s) (plc ls s) := by
 have key : ∀ d i : Nat, i + d = ls.length → (∀ j (hj : j < ls.length), j < i → ls[j] ≠ s) → Ev (fun k => Pxa.l0 k ls s (ls.length : Int) (i : Int)) (plc ls s) := by
  intro d
  induction d with
  | zero =>
   intro i h hb
   rw [plc_no fun j hj => hb j hj (by omega)]
   exact Ev.step (fun k => Pxa.l0.eq_2 ..) (Ev.neg (by omega) (Ev.now _))
  | succ d ih =>
   intro i h hb
   have hi : i < ls.length := by omega
   refine Ev.step (fun k => Pxa.l0.eq_2 ..) (Ev.pos (by omega) (Ev.pos (by omega) (Ev.pos (by omega) ?_)))
   rw [rdS ls hi]
   by_cases q : ls[i] = s
   ·rw [plc_at hi q hb]
    exact Ev.pos (toList_eq.2 q.symm) (Ev.now _)
   ·refine Ev.neg (fun h => q (toList_eq.1 h).symm) ?_
    rw [w1n (by omega)]
    refine ih (i + 1) (by omega) fun j hj hji => ?_
    rcases Nat.lt_succ_iff_lt_or_eq.1 hji with h | rfl
    ·exact hb j hj h
    ·exact q
 exact key ls.length 0 (by omega) fun j hj h => by omega
theorem nplace_ev (ls : List ByteArray) (s : ByteArray) (hl : ls.length ≤ 1000000) : Ev (fun k => Pxe.f k ls s) (plc ls s) := Ev.last (index_ev ls s hl)
theorem rplace_ev (ls : List ByteArray) (s : ByteArray) (hl : ls.length ≤ 1000000) : Ev (fun k => Pr02b.f k ls s) (plc ls s) := by
 have key : ∀ d i : Nat, i + d = ls.length → (∀ j (hj : j < ls.length), j < i → ls[j] ≠ s) → Ev (fun k => Pr02b.l0 k ls s (i : Int)) (plc ls s) := by
  intro d
  induction d with
  | zero =>
   intro i h hb
   rw [plc_no fun j hj => hb j hj (by omega)]
   exact Ev.step (fun k => Pr02b.l0.eq_2 ..) (Ev.neg (by omega) (Ev.now _))
  | succ d ih =>
   intro i h hb
   have hi : i < ls.length := by omega
   refine Ev.step (fun k => Pr02b.l0.eq_2 ..) (Ev.pos (by omega) (Ev.pos (by omega) ?_))
   rw [rdS ls hi]
   by_cases q : ls[i] = s
   ·rw [plc_at hi q hb]
    exact Ev.pos (toList_eq.2 q) (Ev.now _)
   ·refine Ev.neg (fun h => q (toList_eq.1 h)) ?_
    rw [w1n (by omega)]
    refine ih (i + 1) (by omega) fun j hj hji => ?_
    rcases Nat.lt_succ_iff_lt_or_eq.1 hji with h | rfl
    ·exact hb j hj h
    ·exact q
 exact key ls.length 0 (by omega) fun j hj h => by omega
def hasB (es : List Ed) (f l t : Int) : Bool := es.any fun e => e.f0 == f && (e.f1 == l && e.f2 == t)
theorem hasB_iff (es : List Ed) (f l t : Int) : hasB es f l t = true ↔ (⟨f, l, t⟩ : Ed) ∈ es := by
 unfold hasB
 rw [List.any_eq_true]
 constructor
 ·rintro ⟨e, he, h⟩
  simp only [Bool.and_eq_true, beq_iff_eq] at h
  obtain ⟨rfl, rfl, rfl⟩ := h
  exact he
 ·intro h
  exact ⟨_, h, by simp⟩
theorem rdE (es : List Ed) {i : Nat} (hi : i < es.length) : rd_T51 es (i : Int) = es[i] := by
 rw [rd51 es i, getD_get hi]
theorem has_ev (n : Int) (ls : List ByteArray) (es : List Ed) (f l t : Int) (hl : es.length ≤ 1000000) : Ev (fun k => Pr26c.f k n ls es f l t) (hasB es f l t) := by
 have key : ∀ d i : Nat, i + d = es.length → Ev (fun k => Pr26c.l0 k f l t (i : Int) n ls es) (hasB (es.drop i) f l t) := by
  intro d
  induction d with
  | zero =>
   intro i h
   rw [List.drop_of_length_le (by omega)]
   exact Ev.step (fun k => Pr26c.l0.eq_2 ..) (Ev.neg (by omega) (Ev.now _))
  | succ d ih =>
   intro i h
   have hi : i < es.length := by omega
   refine Ev.step (fun k => Pr26c.l0.eq_2 ..) (Ev.pos (by omega) (Ev.pos (by omega) ?_))
   rw [rdE es hi, List.drop_eq_getElem_cons hi, hasB, List.any_cons]
   cases q : (es[i].f0 == f && (es[i].f1 == l && es[i].f2 == t)) with
   | true => exact Ev.pos rfl (Ev.now _)
   | false =>
    refine Ev.neg (by simp) ?_
    rw [w1n (by omega)]
    exact ih (i + 1) (by omega)
 exact key es.length 0 (by omega)
theorem bless {a b : ByteArray} : (Op.bytesLess a.toList b.toList = true) ↔ slt a b := by
 rw [bytesLess_lt, decide_eq_true_eq]
 unfold slt
 rw [ByteArray.toList_eq, ByteArray.toList_eq]
theorem uniS_snoc (l : List ByteArray) (s : ByteArray) : uniS (l ++ [s]) = insG (lt := slt) s (uniS l) := by simp [uniS, uniG, List.foldl_append]
theorem uniS_len (l : List ByteArray) : (uniS l).length ≤ l.length := by
 induction l using rind with
 | h0 => simp [uniS, uniG]
 | h1 l a ih =>
  rw [uniS_snoc]
  have : ∀ o : List ByteArray, (insG (lt := slt) a o).length ≤ o.length + 1 := by
   intro o
   induction o with
   | nil => simp [insG]
   | cons x r ih =>
    unfold insG
    split
    ·simp
    ·split
     ·simp; omega
     ·simp
  have := this (uniS l)
  simp; omega
theorem runion_in {k : Nat} {x0 x1 o : List ByteArray} {i t : Nat} {s : ByteArray} (ht : t ≤ o.length) (hl : o.length ≤ 1000000) (R : List ByteArray) (Q : Nat → Option (List ByteArray)) (hQ : ∀ k, Q k = Pr02a.l0 k x0 x1 (o.take t ++ s :: o.drop t) (wrap64 ((i : Int) + 1)))
  (hE : Ev Q R) (hb : ∀ j, j < t → (hj : j < o.length) → slt o[j] s) (hn : (hj : t < o.length) → ¬ slt o[t] s) : ∀ d u : Nat, u + d = t → Ev (fun k => Pr02a.l1 k x0 x1 o (i : Int) s (u : Int)) R := by
 intro d
 induction d with
 | zero =>
  intro u h
  obtain rfl : u = t := by omega
  have hfin : Ev (fun k => Pr02a.l0 k x0 x1 ((([] ++ o.take u) ++ [s]) ++ ([] ++ o.drop u)) (wrap64 ((i : Int) + 1))) R := by
   refine Ev.congr (fun k => ?_) hE
   rw [hQ]
   simp
  have l1 : (([] : List ByteArray).length + (o.drop (u : Int).toNat).length) < 8796093022208 := by simp; omega
  have l2 : (([] : List ByteArray).length + (o.take (u : Int).toNat).length) < 8796093022208 := by simp; omega
  have l3 : (([] : List ByteArray) ++ o.take (u : Int).toNat).length < 8796093022208 := by simp; omega
  have l4 : ((([] : List ByteArray) ++ o.take (u : Int).toNat) ++ [s]).length + (([] : List ByteArray) ++ o.drop (u : Int).toNat).length < 8796093022208 := by simp; omega
  by_cases hu : u < o.length
  ·refine Ev.step (fun k => Pr02a.l1.eq_2 ..) (Ev.pos (by omega) (Ev.pos (by omega) (Ev.neg (by rw [rdS o hu, bless]; exact hn hu) ?_)))
   exact Ev.bindS rfl (Ev.pos (by omega) (Ev.bindS rfl (Ev.pos l1 (Ev.bindS rfl (Ev.bindS rfl (Ev.bindS rfl (Ev.pos l2 (Ev.bindS rfl (Ev.pos l3 (Ev.bindS rfl (Ev.pos l4 hfin)))))))))))
  ·refine Ev.step (fun k => Pr02a.l1.eq_2 ..) (Ev.neg (by omega) ?_)
   exact Ev.bindS rfl (Ev.pos (by omega) (Ev.pos (by omega) (Ev.bindS rfl (Ev.pos l1 (Ev.bindS rfl (Ev.bindS rfl (Ev.bindS rfl (Ev.pos l2 (Ev.bindS rfl (Ev.pos l3 (Ev.bindS rfl (Ev.pos l4 hfin))))))))))))
 | succ d ih =>
  intro u h
  have hu : u < o.length := by omega
  refine Ev.step (fun k => Pr02a.l1.eq_2 ..) (Ev.pos (by omega) (Ev.pos (by omega) (Ev.pos (by rw [rdS o hu, bless]; exact hb u (by omega) hu) ?_)))
  rw [w1n (by omega)]
  exact ih (u + 1) (by omega)
theorem runion_ev (xs ys : List ByteArray) (h1 : xs.length ≤ 100000) (h2 : ys.length ≤ 100000) : Ev (fun k => Pr02a.f k xs ys) (uniS (xs ++ ys)) := by
 have key : ∀ d i : Nat, i + d = (xs ++ ys).length → Ev (fun k => Pr02a.l0 k xs ys (uniS ((xs ++ ys).take i)) (i : Int)) (uniS (xs ++ ys)) := by
  intro d
  induction d with
  | zero =>
   intro i h
   rw [List.take_of_length_le (by omega)]
   rw [List.length_append] at h
   exact Ev.step (fun k => Pr02a.l0.eq_2 ..) (Ev.neg (by rw [wid (by omega) (by omega)]; omega) (Ev.now _))
  | succ d ih =>
   intro i h
   have hl : (xs ++ ys).length = xs.length + ys.length := List.length_append ..
   have hi : i < (xs ++ ys).length := by omega
   have ih' := ih (i + 1) (by omega)
   rw [take_snoc' hi, uniS_snoc] at ih'
   have hol := uniS_len ((xs ++ ys).take i)
   rw [List.length_take] at hol
   have hos := uniS_sorted ((xs ++ ys).take i)
   generalize uniS ((xs ++ ys).take i) = o at ih' hol hos ⊢
   obtain ⟨s, hs⟩ : ∃ s, s = (xs ++ ys)[i] := ⟨_, rfl⟩
   rw [← hs] at ih'
   have a0 : Ev (fun k => Pr02a.j1 k xs ys o (i : Int) s) (uniS (xs ++ ys)) := by
    refine Ev.step (fun k => Pr02a.j1.eq_2 ..) (Ev.bind (rplace_ev o s (by omega)) ?_)
    by_cases q : s ∈ o
    ·refine Ev.pos (plc_nonneg.2 q) ?_
     rw [w1n (by omega)]
     rwa [insG_in slt_irr slt_tr slt_tri hos q] at ih'
    ·refine Ev.neg (fun h => q (plc_nonneg.1 h)) ?_
     obtain ⟨t, ht, hb, hn⟩ : ∃ t, t ≤ o.length ∧ (∀ j, j < t → (hj : j < o.length) → slt o[j] s) ∧ ((hj : t < o.length) → ¬ slt o[t] s) := by
      have : ∀ m, m ≤ o.length → (∀ j, j < o.length - m → (hj : j < o.length) → slt o[j] s) → ∃ t, t ≤ o.length ∧ (∀ j, j < t → (hj : j < o.length) → slt o[j] s) ∧ ((hj : t < o.length) → ¬ slt o[t] s) := by
       intro m
       induction m with
       | zero => intro _ h; exact ⟨o.length, Nat.le_refl _, fun j hj h' => h j (by omega) h', fun h' => absurd h' (Nat.lt_irrefl _)⟩
       | succ m ihm =>
        intro hm h
        by_cases hq : slt (o[o.length - (m + 1)]'(by omega)) s
        ·refine ihm (by omega) fun j hj h' => ?_
         rcases Nat.lt_or_ge j (o.length - (m + 1)) with g | g
         ·exact h j g h'
         ·obtain rfl : j = o.length - (m + 1) := by omega
          exact hq
        ·exact ⟨o.length - (m + 1), by omega, fun j hj h' => h j hj h', fun _ => hq⟩
      exact this o.length (Nat.le_refl _) fun j hj _ => by omega
     have hins : insG (lt := slt) s o = o.take t ++ s :: o.drop t := by
      refine insG_at slt_irr slt_tr slt_tri hos ht (fun a ha => ?_) (fun a ha => ?_)
      ·obtain ⟨j, hj, rfl⟩ := List.getElem_of_mem ha
       rw [List.length_take] at hj
       rw [List.getElem_take]
       exact hb j (by omega) (by omega)
      ·obtain ⟨j, hj, rfl⟩ := List.getElem_of_mem ha
       rw [List.length_drop] at hj
       rw [List.getElem_drop]
       have h0 : slt s o[t] := by
        have n1 := hn (by omega)
        rcases Classical.em (slt s o[t]) with g | g
        ·exact g
        ·exact absurd (slt_tri _ _ g n1 ▸ List.getElem_mem _) q
       rcases Nat.eq_zero_or_pos j with rfl | g
       ·simpa using h0
       ·exact slt_tr _ _ _ h0 (List.pairwise_iff_getElem.1 hos t (t + j) (by omega) (by omega) (by omega))
     rw [hins] at ih'
     exact runion_in (k := 0) ht (by omega) _ (fun k => Pr02a.l0 k xs ys (o.take t ++ s :: o.drop t) (((i + 1 : Nat) : Nat) : Int)) (fun k => by rw [w1n (by omega)]) ih' hb hn t 0 (by omega)
   refine Ev.step (fun k => Pr02a.l0.eq_2 ..) (Ev.pos (by rw [wid (by omega) (by omega)]; omega) ?_)
   by_cases hx : i < xs.length
   ·have e : rdOf ByteArray.empty xs (i : Int) = s := by rw [rdS xs hx, hs, List.getElem_append_left hx]
    refine Ev.pos (by omega) (Ev.pos (by omega) ?_)
    rw [e]
    exact a0
   ·have e : rdOf ByteArray.empty ys (wrap64 ((i : Int) - (xs.length : Int))) = s := by
     rw [wid (by omega) (by omega), show (i : Int) - (xs.length : Int) = ((i - xs.length : Nat) : Int) by omega, rdS ys (by omega), hs, List.getElem_append_right (by omega)]
    refine Ev.neg (by omega) (Ev.pos (by rw [wid (by omega) (by omega)]; omega) (Ev.pos (by rw [wid (by omega) (by omega)]; omega) ?_))
    rw [e]
    exact a0
 exact key (xs ++ ys).length 0 (by omega)
end Go.Proofs.Ythaaockbapbooaa.H
set_option linter.unusedVariables false
set_option linter.unusedSimpArgs false
namespace Go.Proofs.Ythaaockbapbooaa.H
open Go.RowKit Go.Proofs.Ythaaockbapbooaa.Pr Go.Proofs.YthaaockbapbooaaW.PrintWords Go.Proofs.Ythaaockbapbooaa.Sem Go.Proofs.Ythaaockbapbooaa.PL
theorem ed_eta (e : Ed) : (⟨e.f0, e.f1, e.f2⟩ : Ed) = e := rfl
theorem by_ev (n : Int) (ls : List ByteArray) (es : List Ed) (s : ByteArray) (h1 : ls.length ≤ 1000000) (h2 : es.length ≤ 1000000) : Ev (fun k => Pxg.f k n ls es s) (es.filter (fun e => decide (e.f1 = plc ls s)), decide (plc ls s ≥ 0)) := by
 have key : ∀ d i : Nat, i + d = es.length → ∀ acc : List Ed, acc.length ≤ i → Ev (fun k => Pxg.l0 k (plc ls s) acc es (es.length : Int) (i : Int)) (acc ++ (es.drop i).filter (fun e => decide (e.f1 = plc ls s)), decide (plc ls s ≥ 0)) := by
  intro d
  induction d with
  | zero =>
   intro i h acc ha
   rw [List.drop_of_length_le (by omega)]
   simp only [List.filter_nil, List.append_nil]
   exact Ev.step (fun k => Pxg.l0.eq_2 ..) (Ev.neg (by omega) (Ev.now _))
  | succ d ih =>
   intro i h acc ha
   have hi : i < es.length := by omega
   refine Ev.step (fun k => Pxg.l0.eq_2 ..) (Ev.pos (by omega) (Ev.pos (by omega) (Ev.pos (by omega) ?_)))
   rw [rdE es hi, List.drop_eq_getElem_cons hi]
   by_cases q : es[i].f1 = plc ls s
   ·refine Ev.pos q (Ev.pos (by omega) ?_)
    rw [w1n (by omega), List.filter_cons_of_pos (by simpa using q), ed_eta]
    have := ih (i + 1) (by omega) (acc ++ [es[i]]) (by simp; omega)
    simpa using this
   ·refine Ev.neg q ?_
    rw [w1n (by omega), List.filter_cons_of_neg (by simpa using q)]
    exact ih (i + 1) (by omega) acc (by omega)
 exact Ev.bind (nplace_ev ls s h1) (by simpa using key es.length 0 (by omega) [] (by simp))
def stillL (n : Int) : List Ed := (List.range n.toNat).map fun i : Nat => ⟨(i : Int), 0, (i : Int)⟩
theorem still_ev (n : Int) (h0 : 0 ≤ n) (h1 : n ≤ 1000000) : Ev (fun k => Pxb.f k n) (stillL n) := by
 have key : ∀ d i : Nat, (i : Int) + d = n → Ev (fun k => Pxb.l0 k ((List.range i).map fun i : Nat => (⟨(i : Int), 0, (i : Int)⟩ : Ed)) n (i : Int)) (stillL n) := by
  intro d
  induction d with
  | zero =>
   intro i h
   have : n.toNat = i := by omega
   unfold stillL
   rw [this]
   exact Ev.step (fun k => Pxb.l0.eq_2 ..) (Ev.neg (by omega) (Ev.now _))
  | succ d ih =>
   intro i h
   refine Ev.step (fun k => Pxb.l0.eq_2 ..) (Ev.pos (by omega) (Ev.pos (by simp; omega) ?_))
   rw [w1n (by omega)]
   have := ih (i + 1) (by omega)
   rw [List.range_succ, List.map_append] at this
   exact this
 exact key n.toNat 0 (by omega)
def actX (n : Int) (ls : List ByteArray) (es : List Ed) (s : ByteArray) : List Ed := if plc ls s ≥ 0 then es.filter (fun e => decide (e.f1 = plc ls s)) else stillL n
theorem both_ev {n1 n2 : Int} {ls1 ls2 : List ByteArray} {es1 es2 : List Ed} (s : ByteArray) (h1 : ls1.length ≤ 1000000) (h2 : es1.length ≤ 1000000) (h3 : ls2.length ≤ 1000000) (h4 : es2.length ≤ 1000000) (a1 : 0 ≤ n1 ∧ n1 ≤ 1000000) (a2 : 0 ≤ n2 ∧ n2 ≤ 1000000) :
  Ev (fun k => Pxd.f k n1 ls1 es1 n2 ls2 es2 s) (actX n1 ls1 es1 s, actX n2 ls2 es2 s) := by
 refine Ev.bind (by_ev n1 ls1 es1 s h1 h2) (Ev.bind (by_ev n2 ls2 es2 s h3 h4) ?_)
 unfold actX
 by_cases q1 : plc ls1 s ≥ 0
 ·rw [if_pos q1, decide_eq_true q1]
  refine Ev.pos rfl ?_
  by_cases q2 : plc ls2 s ≥ 0
  ·rw [if_pos q2, decide_eq_true q2]
   exact Ev.pos rfl (Ev.now _)
  ·rw [if_neg q2, decide_eq_false q2]
   exact Ev.neg (by simp) (Ev.bind (still_ev n2 a2.1 a2.2) (Ev.now _))
 ·rw [if_neg q1, decide_eq_false q1]
  refine Ev.neg (by simp) (Ev.bind (still_ev n1 a1.1 a1.2) ?_)
  by_cases q2 : plc ls2 s ≥ 0
  ·rw [if_pos q2, decide_eq_true q2]
   exact Ev.pos rfl (Ev.now _)
  ·rw [if_neg q2, decide_eq_false q2]
   exact Ev.neg (by simp) (Ev.bind (still_ev n2 a2.1 a2.2) (Ev.now _))
def mkE (n2 l : Int) (e f : Ed) : Ed := ⟨wrap64 (wrap64 (e.f0 * n2) + f.f0), l, wrap64 (wrap64 (e.f2 * n2) + f.f2)⟩
section
variable {n1 n2 : Int} {ls1 ls2 U V : List ByteArray} {es1 es2 : List Ed} {N u : Int} {R : Int × List ByteArray × List Ed × Int}
theorem l2_ev {l x48 xl x73 : Int} {X Y : List Ed} {e : Ed} (hY : Y.length ≤ 1000000) : ∀ d j : Nat, j + d = Y.length → ∀ acc : List Ed, acc.length + d ≤ 1000000 →
  Ev (fun k => Pxh.l1 k l Y U u x48 X xl (wrap64 (x73 + 1)) n1 ls1 es1 n2 ls2 es2 N V (acc ++ (Y.drop j).map (mkE n2 l e))) R →
  Ev (fun k => Pxh.l2 k l Y U u x48 X xl x73 Y (Y.length : Int) (j : Int) n1 ls1 es1 n2 ls2 es2 N V acc e.f0 e.f1 e.f2) R := by
 intro d
 induction d with
 | zero =>
  intro j h acc ha hc
  rw [List.drop_of_length_le (by omega)] at hc
  simp only [List.map_nil, List.append_nil] at hc
  exact Ev.step (fun k => Pxh.l2.eq_2 ..) (Ev.neg (by omega) hc)
 | succ d ih =>
  intro j h acc ha hc
  have hj : j < Y.length := by omega
  refine Ev.step (fun k => Pxh.l2.eq_2 ..) (Ev.pos (by omega) (Ev.pos (by omega) (Ev.pos (by omega) (Ev.pos (by omega) ?_))))
  rw [rdE Y hj, w1n (by omega)]
  rw [List.drop_eq_getElem_cons hj, List.map_cons] at hc
  refine ih (j + 1) (by omega) (acc ++ [mkE n2 l e Y[j]]) (by simp; omega) ?_
  rw [List.append_assoc]
  exact hc
theorem l1_ev {l x48 : Int} {X Y : List Ed} (hX : X.length ≤ 1000000) (hY : Y.length ≤ 1000000) : ∀ d i : Nat, i + d = X.length → ∀ acc : List Ed, acc.length + d * Y.length ≤ 1000000 →
  Ev (fun k => Pxh.l0 k U u (wrap64 (x48 + 1)) n1 ls1 es1 n2 ls2 es2 N V (acc ++ (X.drop i).flatMap (fun e => Y.map (mkE n2 l e)))) R →
  Ev (fun k => Pxh.l1 k l Y U u x48 X (X.length : Int) (i : Int) n1 ls1 es1 n2 ls2 es2 N V acc) R := by
 intro d
 induction d with
 | zero =>
  intro i h acc ha hc
  rw [List.drop_of_length_le (by omega)] at hc
  simp only [List.flatMap_nil, List.append_nil] at hc
  exact Ev.step (fun k => Pxh.l1.eq_2 ..) (Ev.neg (by omega) hc)
 | succ d ih =>
  intro i h acc ha hc
  have hi : i < X.length := by omega
  rw [Nat.succ_mul] at ha
  refine Ev.step (fun k => Pxh.l1.eq_2 ..) (Ev.pos (by omega) (Ev.pos (by omega) (Ev.pos (by omega) ?_)))
  rw [rdE X hi]
  refine l2_ev hY Y.length 0 (by omega) acc (by omega) ?_
  rw [w1n (by omega), List.drop_zero]
  rw [List.drop_eq_getElem_cons hi, List.flatMap_cons] at hc
  refine ih (i + 1) (by omega) _ (by rw [List.length_append, List.length_map]; omega) ?_
  rw [List.append_assoc]
  exact hc
def prodE (n1 : Int) (ls1 : List ByteArray) (es1 : List Ed) (n2 : Int) (ls2 : List ByteArray) (es2 : List Ed) (l : Nat) (s : ByteArray) : List Ed := (actX n1 ls1 es1 s).flatMap fun e => (actX n2 ls2 es2 s).map (mkE n2 (l : Int) e)
def prodL (n1 : Int) (ls1 : List ByteArray) (es1 : List Ed) (n2 : Int) (ls2 : List ByteArray) (es2 : List Ed) : Nat → List ByteArray → List Ed
 | _, [] => []
 | l, s :: r => prodE n1 ls1 es1 n2 ls2 es2 l s ++ prodL n1 ls1 es1 n2 ls2 es2 (l + 1) r
theorem actX_len {n : Int} {ls : List ByteArray} {es : List Ed} (s : ByteArray) (hn : n ≤ 200) (he : es.length ≤ 200) : (actX n ls es s).length ≤ 200 := by
 unfold actX
 split
 ·exact Nat.le_trans (List.length_filter_le _ _) he
 ·unfold stillL; simp; omega
theorem fmap_len {X Y : List Ed} (g : Ed → Ed → Ed) : (X.flatMap fun e => Y.map (g e)).length = X.length * Y.length := by
 induction X with
 | nil => simp
 | cons x r ih => rw [List.flatMap_cons, List.length_append, List.length_map, ih, List.length_cons, Nat.succ_mul]; omega
theorem l0_ev (a1 : 0 ≤ n1 ∧ n1 ≤ 200) (a2 : 0 ≤ n2 ∧ n2 ≤ 200) (h1 : ls1.length ≤ 1000000) (h2 : es1.length ≤ 200) (h3 : ls2.length ≤ 1000000) (h4 : es2.length ≤ 200) (hU : U.length ≤ 20) : ∀ d l : Nat, l + d = U.length → ∀ acc : List Ed, acc.length + d * 40000 ≤ 1000000 →
  Pxj.f N V (acc ++ prodL n1 ls1 es1 n2 ls2 es2 l (U.drop l)) = some R →
  Ev (fun k => Pxh.l0 k U (U.length : Int) (l : Int) n1 ls1 es1 n2 ls2 es2 N V acc) R := by
 intro d
 induction d with
 | zero =>
  intro l h acc ha hc
  rw [List.drop_of_length_le (by omega)] at hc
  rw [show prodL n1 ls1 es1 n2 ls2 es2 l [] = [] from rfl, List.append_nil] at hc
  exact Ev.step (fun k => Pxh.l0.eq_2 ..) (Ev.neg (by omega) (Ev.bindS hc (Ev.now _)))
 | succ d ih =>
  intro l h acc ha hc
  have hl : l < U.length := by omega
  have hx := actX_len (ls := ls1) U[l] a1.2 h2
  have hy := actX_len (ls := ls2) U[l] a2.2 h4
  have hxy : (actX n1 ls1 es1 U[l]).length * (actX n2 ls2 es2 U[l]).length ≤ 40000 := Nat.mul_le_mul hx hy
  refine Ev.step (fun k => Pxh.l0.eq_2 ..) (Ev.pos (by omega) (Ev.pos (by omega) (Ev.pos (by omega) ?_)))
  rw [rdS U hl]
  refine Ev.bind (both_ev U[l] h1 (by omega) h3 (by omega) (by omega) (by omega)) ?_
  have hq : ((actX n1 ls1 es1 U[l]).length : Int) * ((actX n2 ls2 es2 U[l]).length : Int) = (((actX n1 ls1 es1 U[l]).length * (actX n2 ls2 es2 U[l]).length : Nat) : Int) := (Int.natCast_mul _ _).symm
  refine Ev.neg (by
   show ¬ wrap64 ((acc.length : Int) + wrap64 (((actX n1 ls1 es1 U[l]).length : Int) * ((actX n2 ls2 es2 U[l]).length : Int))) > 1000000
   rw [hq, show wrap64 (((actX n1 ls1 es1 U[l]).length * (actX n2 ls2 es2 U[l]).length : Nat) : Int) = (((actX n1 ls1 es1 U[l]).length * (actX n2 ls2 es2 U[l]).length : Nat) : Int) from wid (by omega) (by omega), wid (by omega) (by omega)]
   omega) ?_
  refine l1_ev (X := actX n1 ls1 es1 U[l]) (Y := actX n2 ls2 es2 U[l]) (Nat.le_trans hx (by omega)) (Nat.le_trans hy (by omega)) _ 0 (Nat.zero_add _) acc (by omega) ?_
  rw [w1n (by omega), List.drop_zero]
  rw [List.drop_eq_getElem_cons hl, prodL, ← List.append_assoc] at hc
  exact ih (l + 1) (by omega) _ (by rw [List.length_append, fmap_len]; omega) hc
end
theorem product_ev {n1 n2 : Int} {ls1 ls2 : List ByteArray} {es1 es2 : List Ed} (m1 : mayR n1 ls1 es1 = true) (m2 : mayR n2 ls2 es2 = true) (a1 : n1 ≤ 6) (a2 : n2 ≤ 6) (h1 : ls1.length ≤ 6) (h2 : es1.length ≤ 200) (h3 : ls2.length ≤ 6) (h4 : es2.length ≤ 200) {R : Int × List ByteArray × List Ed × Int}
  (hR : Pxj.f (n1 * n2) (uniS (ls1 ++ ls2)) (prodL n1 ls1 es1 n2 ls2 es2 0 (uniS (ls1 ++ ls2))) = some R) : Ev (fun k => Pxh.f k n1 ls1 es1 n2 ls2 es2) R := by
 have b1 := lt_n m1
 have b2 := lt_n m2
 have hmul : 1 ≤ n1 * n2 ∧ n1 * n2 ≤ 65025 := mul_le ⟨b1.1, by omega⟩ ⟨b2.1, by omega⟩
 have h36 : n1 * n2 ≤ 36 := by have := Int.mul_le_mul a1 a2 (by omega) (show (0 : Int) ≤ 6 by omega); omega
 have hw : wrap64 (n1 * n2) = n1 * n2 := wid (by omega) (by omega)
 have hU : (uniS (ls1 ++ ls2)).length ≤ 12 := Nat.le_trans (uniS_len _) (by rw [List.length_append]; omega)
 have hu : Pxf.f ls1 ls2 = some (uniS (ls1 ++ ls2)) := by unfold Pxf.f; rw [if_pos (by omega)]
 have c1 : Pxi.f n1 ls1 es1 = some 0 := by unfold Pxi.f; rw [m1]; rfl
 have c2 : Pxi.f n2 ls2 es2 = some 0 := by unfold Pxi.f; rw [m2]; rfl
 refine Ev.bindS c1 (Ev.pos rfl (Ev.bindS c2 (Ev.step (fun k => Pxh.j0.eq_2 ..) (Ev.neg (by decide) (Ev.bindS hu (Ev.neg (by rw [hw]; omega) (Ev.step (fun k => Pxh.j1.eq_2 ..) (Ev.neg (by simp; omega) ?_))))))))
 rw [hw]
 exact l0_ev (by omega) (by omega) (by omega) h2 (by omega) h4 (by omega) _ 0 (Nat.zero_add _) [] (by simp; omega) (by rw [List.drop_zero, List.nil_append]; exact hR)
theorem product_bad {n1 n2 : Int} {ls1 ls2 : List ByteArray} {es1 es2 : List Ed} (h : mayR n1 ls1 es1 = false ∨ mayR n2 ls2 es2 = false) : Ev (fun k => Pxh.f k n1 ls1 es1 n2 ls2 es2) (0, [], [], 1) := by
 cases m1 : mayR n1 ls1 es1 with
 | false =>
  have c1 : Pxi.f n1 ls1 es1 = some 1 := by unfold Pxi.f; rw [m1]; rfl
  exact Ev.bindS c1 (Ev.neg (by decide) (Ev.step (fun k => Pxh.j0.eq_2 ..) (Ev.pos rfl (Ev.now _))))
 | true =>
  have m2 : mayR n2 ls2 es2 = false := by
   rcases h with h | h
   ·rw [m1] at h; cases h
   ·exact h
  have c1 : Pxi.f n1 ls1 es1 = some 0 := by unfold Pxi.f; rw [m1]; rfl
  have c2 : Pxi.f n2 ls2 es2 = some 1 := by unfold Pxi.f; rw [m2]; rfl
  exact Ev.bindS c1 (Ev.pos rfl (Ev.bindS c2 (Ev.step (fun k => Pxh.j0.eq_2 ..) (Ev.pos rfl (Ev.now _)))))
end Go.Proofs.Ythaaockbapbooaa.H
set_option linter.unusedVariables false
set_option linter.unusedSimpArgs false
namespace Go.Proofs.Ythaaockbapbooaa.H
open Go.RowKit Go.Proofs.Ythaaockbapbooaa.Pr Go.Proofs.YthaaockbapbooaaW.PrintWords Go.Proofs.Ythaaockbapbooaa.Sem Go.Proofs.Ythaaockbapbooaa.PL
theorem may_of {n : Int} {ls : List ByteArray} {es : List Ed} (h1 : 1 ≤ n ∧ n ≤ 2048) (h2 : ls.length ≤ 64) (h3 : ls.Pairwise slt) (h4 : ∀ s ∈ ls, s.size ≤ 200) (h5 : es.length ≤ 1000000) (h6 : es.Pairwise elt) (h7 : ∀ e ∈ es, (0 ≤ e.f0 ∧ e.f0 < n) ∧ (0 ≤ e.f2 ∧ e.f2 < n) ∧ 0 ≤ e.f1 ∧ e.f1 < (ls.length : Int)) : mayR n ls es = true := by
 unfold mayR
 simp only [Bool.and_eq_true, decide_eq_true_eq, List.all_eq_true, List.mem_range]
 refine ⟨h1.1, h1.2, h2, h5, fun k hk => ?_, fun k hk => ?_⟩
 ·unfold labAt tooLong
  simp only [Bool.and_eq_true, Bool.not_eq_true', decide_eq_false_iff_not, Bool.or_eq_true, decide_eq_true_eq]
  refine ⟨?_, ?_⟩
  ·rw [getD_get hk]
   have := h4 _ (List.getElem_mem hk)
   omega
  ·rcases Nat.eq_zero_or_pos k with q | q
   ·exact .inl q
   ·right
    rw [getD_get hk, getD_get (show k - 1 < ls.length by omega), bytesLess_lt, decide_eq_true_eq, ByteArray.toList_eq, ByteArray.toList_eq]
    exact List.pairwise_iff_getElem.1 h3 (k - 1) k (by omega) hk (by omega)
 ·unfold okAt'
  simp only [Bool.and_eq_true, decide_eq_true_eq, Bool.or_eq_true]
  have hm := h7 _ (List.getElem_mem hk)
  rw [getD_get hk]
  refine ⟨hm.1, hm.2.1, hm.2.2.1, hm.2.2.2, ?_⟩
  rcases Nat.eq_zero_or_pos k with q | q
  ·exact .inl q
  ·right
   rw [getD_get (show k - 1 < es.length by omega)]
   exact List.pairwise_iff_getElem.1 h6 (k - 1) k (by omega) hk (by omega)
theorem may_lab {n : Int} {ls : List ByteArray} {es : List Ed} (h : mayR n ls es = true) : ls.length ≤ 64 ∧ ∀ s ∈ ls, s.size ≤ 200 := by
 unfold mayR at h
 simp only [Bool.and_eq_true, decide_eq_true_eq, List.all_eq_true, List.mem_range] at h
 refine ⟨h.2.2.1, fun s hs => ?_⟩
 obtain ⟨k, hk, rfl⟩ := List.getElem_of_mem hs
 have := h.2.2.2.2.1 k hk
 unfold labAt tooLong at this
 simp only [Bool.and_eq_true, Bool.not_eq_true', decide_eq_false_iff_not] at this
 have := this.1
 rw [getD_get hk] at this
 omega
theorem may_edge {n : Int} {ls : List ByteArray} {es : List Ed} (h : mayR n ls es = true) : ∀ e ∈ es, (0 ≤ e.f0 ∧ e.f0 < n) ∧ (0 ≤ e.f2 ∧ e.f2 < n) ∧ 0 ≤ e.f1 ∧ e.f1 < (ls.length : Int) := fun e he => by
 obtain ⟨k, hk, rfl⟩ := List.getElem_of_mem he
 have := lt_ok h hk
 unfold okAt' at this
 simp only [Bool.and_eq_true, decide_eq_true_eq] at this
 rw [getD_get hk] at this
 exact ⟨this.1, this.2.1, this.2.2.1, this.2.2.2.1⟩
end Go.Proofs.Ythaaockbapbooaa.H
set_option linter.unusedVariables false
set_option linter.unusedSimpArgs false
namespace Go.Proofs.Ythaaockbapbooaa.H
open Go.RowKit Go.Proofs.Ythaaockbapbooaa.Pr Go.Proofs.YthaaockbapbooaaW.PrintWords Go.Proofs.Ythaaockbapbooaa.Sem Go.Proofs.YthaaockbapbooaaW.PrintLast
theorem sortE_sorted (es : List Ed) : (sortE es).Pairwise elt := (fold_ins es [] List.Pairwise.nil).1
theorem sortE_mem (es : List Ed) (x : Ed) : x ∈ sortE es ↔ x ∈ es := by
 have := (fold_ins es [] List.Pairwise.nil).2 x
 rw [show sortE es = es.foldl (fun o e => insE e o) [] from rfl, this]
 simp
end Go.Proofs.Ythaaockbapbooaa.H
set_option linter.unusedVariables false
set_option linter.unusedSimpArgs false
namespace Go.Proofs.Ythaaockbapbooaa.H
open Go.RowKit Go.Proofs.Ythaaockbapbooaa.Pr Go.Proofs.YthaaockbapbooaaW.PrintWords Go.Proofs.Ythaaockbapbooaa.Sem Go.Proofs.Ythaaockbapbooaa.PL
def runL (g : Nat → List Ed) : Nat → Nat → List Ed
 | 0, _ => []
 | d + 1, i => g i ++ runL g d (i + 1)
theorem runL_mem (g : Nat → List Ed) (e : Ed) : ∀ d i, e ∈ runL g d i ↔ ∃ j, i ≤ j ∧ j < i + d ∧ e ∈ g j
 | 0, i => by simp [runL]; omega
 | d + 1, i => by
  rw [runL, List.mem_append, runL_mem g e d (i + 1)]
  constructor
  ·rintro (h | ⟨j, h1, h2, h3⟩)
   ·exact ⟨i, by omega, by omega, h⟩
   ·exact ⟨j, by omega, by omega, h3⟩
  ·rintro ⟨j, h1, h2, h3⟩
   rcases Nat.lt_or_ge i j with q | q
   ·exact .inr ⟨j, by omega, by omega, h3⟩
   ·obtain rfl : j = i := by omega
    exact .inl h3
theorem runL_sorted (g : Nat → List Ed) (h1 : ∀ j, (g j).Pairwise elt) (h2 : ∀ i j, i < j → ∀ a ∈ g i, ∀ b ∈ g j, elt a b) : ∀ d i, (runL g d i).Pairwise elt
 | 0, i => List.Pairwise.nil
 | d + 1, i => by
  rw [runL, List.pairwise_append]
  refine ⟨h1 i, runL_sorted g h1 h2 d (i + 1), fun a ha b hb => ?_⟩
  obtain ⟨j, q1, q2, q3⟩ := (runL_mem g b d (i + 1)).1 hb
  exact h2 i j (by omega) a ha b q3
theorem runL_len (g : Nat → List Ed) (m : Nat) (h : ∀ j, (g j).length ≤ m) : ∀ d i, (runL g d i).length ≤ d * m
 | 0, i => by simp [runL]
 | d + 1, i => by
  have := h i
  have := runL_len g m h d (i + 1)
  rw [runL, List.length_append, Nat.succ_mul]
  omega
def leadB (ls : List ByteArray) (es : List Ed) (s : ByteArray) (f t : Int) : Bool := if plc ls s < 0 then f == t else hasB es f (plc ls s) t
theorem leads_ev (n : Int) (ls : List ByteArray) (es : List Ed) (s : ByteArray) (f t : Int) (h1 : ls.length ≤ 1000000) (h2 : es.length ≤ 1000000) : Ev (fun k => Pr50a.f k n ls es s f t) (leadB ls es s f t) := by
 unfold leadB
 refine Ev.bind (rplace_ev ls s h1) ?_
 by_cases q : plc ls s < 0
 ·rw [if_pos q]
  exact Ev.pos q (Ev.now _)
 ·rw [if_neg q]
  exact Ev.neg q (Ev.last (has_ev n ls es f (plc ls s) t h2))
theorem actX_lead {n : Int} {ls : List ByteArray} {es : List Ed} (s : ByteArray) {f t : Int} (hf : 0 ≤ f ∧ f < n) : leadB ls es s f t = true ↔ ∃ a ∈ actX n ls es s, a.f0 = f ∧ a.f2 = t := by
 unfold leadB actX
 by_cases q : plc ls s < 0
 ·rw [if_pos q, if_neg (by omega)]
  unfold stillL
  constructor
  ·intro h
   obtain rfl : f = t := by simpa using h
   exact ⟨_, List.mem_map.2 ⟨f.toNat, List.mem_range.2 (by omega), rfl⟩, by show ((f.toNat : Nat) : Int) = f; omega, by show ((f.toNat : Nat) : Int) = f; omega⟩
  ·rintro ⟨a, ha, rfl, rfl⟩
   obtain ⟨i, hi, rfl⟩ := List.mem_map.1 ha
   simp
 ·rw [if_neg q, if_pos (by omega), hasB_iff]
  constructor
  ·intro h
   exact ⟨_, List.mem_filter.2 ⟨h, by simp⟩, rfl, rfl⟩
  ·rintro ⟨a, ha, rfl, rfl⟩
   obtain ⟨h1, h2⟩ := List.mem_filter.1 ha
   have h3 : a.f1 = plc ls s := by simpa using h2
   rw [← h3]
   exact h1
theorem actX_in {n : Int} {ls : List ByteArray} {es : List Ed} (m : mayR n ls es = true) (s : ByteArray) : ∀ a ∈ actX n ls es s, (0 ≤ a.f0 ∧ a.f0 < n) ∧ (0 ≤ a.f2 ∧ a.f2 < n) := by
 have hn := lt_n m
 intro a ha
 unfold actX at ha
 split at ha
 ·have := may_edge m a (List.mem_filter.1 ha).1
  exact ⟨this.1, this.2.1⟩
 ·obtain ⟨i, hi, rfl⟩ := List.mem_map.1 ha
  have := List.mem_range.1 hi
  exact ⟨⟨by show (0 : Int) ≤ (i : Int); omega, by show (i : Int) < n; omega⟩, ⟨by show (0 : Int) ≤ (i : Int); omega, by show (i : Int) < n; omega⟩⟩
section
variable (n1 n2 : Int) (ls1 ls2 U : List ByteArray) (es1 es2 : List Ed) (N : Nat)
def refC (f : Nat) (s : ByteArray) (t : Nat) : Bool := leadB ls1 es1 s (Int.tdiv (f : Int) n2) (Int.tdiv (t : Int) n2) && leadB ls2 es2 s (Int.tmod (f : Int) n2) (Int.tmod (t : Int) n2)
def refT (f l : Nat) (s : ByteArray) (t : Nat) : List Ed := if refC n2 ls1 ls2 es1 es2 f s t then [⟨(f : Int), (l : Int), (t : Int)⟩] else []
def refL (f l : Nat) : List Ed := runL (refT n2 ls1 ls2 es1 es2 f l (U.getD l ByteArray.empty)) N 0
def refF (f : Nat) : List Ed := runL (refL n2 ls1 ls2 U es1 es2 N f) U.length 0
def refE : List Ed := runL (refF n2 ls1 ls2 U es1 es2 N) N 0
end
section
variable {n1 n2 : Int} {ls1 ls2 U : List ByteArray} {es1 es2 : List Ed} {N : Nat} {R : Int × List ByteArray × List Ed}
theorem tdiv_in {f : Nat} (hn : 1 ≤ n2) (hf : f ≤ 100) : wrap64 (Int.tdiv (f : Int) n2) = Int.tdiv (f : Int) n2 := by
 have h0 : 0 ≤ Int.tdiv (f : Int) n2 := Int.tdiv_nonneg (by omega) (by omega)
 have h1 : Int.tdiv (f : Int) n2 ≤ (f : Int) := Int.tdiv_le_self _ (by omega)
 exact wid (by omega) (by omega)
theorem r2_ev (hn : 1 ≤ n2) (hN : N ≤ 36) (h1 : ls1.length ≤ 1000000) (h2 : es1.length ≤ 1000000) (h3 : ls2.length ≤ 1000000) (h4 : es2.length ≤ 1000000) {f l : Nat} {s : ByteArray} (hf : f ≤ 36) : ∀ d t : Nat, t + d = N → ∀ acc : List Ed, acc.length + d ≤ 1000000 →
  Ev (fun k => Pr50b.l1 k (f : Int) (wrap64 ((l : Int) + 1)) n1 ls1 es1 n2 ls2 es2 (N : Int) U (acc ++ runL (refT n2 ls1 ls2 es1 es2 f l s) d t)) R →
  Ev (fun k => Pr50b.l2 k (f : Int) (l : Int) s (t : Int) n1 ls1 es1 n2 ls2 es2 (N : Int) U acc) R := by
 intro d
 induction d with
 | zero =>
  intro t h acc ha hc
  rw [runL, List.append_nil] at hc
  exact Ev.step (fun k => Pr50b.l2.eq_2 ..) (Ev.neg (by omega) hc)
 | succ d ih =>
  intro t h acc ha hc
  have e1 := leads_ev n1 ls1 es1 s (Int.tdiv (f : Int) n2) (Int.tdiv (t : Int) n2) h1 h2
  have e2 := leads_ev n2 ls2 es2 s (Int.tmod (f : Int) n2) (Int.tmod (t : Int) n2) h3 h4
  refine Ev.step (fun k => Pr50b.l2.eq_2 ..) (Ev.pos (by omega) (Ev.neg (by omega) ?_))
  rw [tdiv_in hn (by omega), tdiv_in hn (by omega)]
  refine Ev.bind e1 ?_
  rw [runL, ← List.append_assoc] at hc
  have hr : refT n2 ls1 ls2 es1 es2 f l s t = if (leadB ls1 es1 s (Int.tdiv (f : Int) n2) (Int.tdiv (t : Int) n2) && leadB ls2 es2 s (Int.tmod (f : Int) n2) (Int.tmod (t : Int) n2)) then [⟨(f : Int), (l : Int), (t : Int)⟩] else [] := rfl
  rw [hr] at hc
  cases q1 : leadB ls1 es1 s (Int.tdiv (f : Int) n2) (Int.tdiv (t : Int) n2) with
  | false =>
   rw [q1] at hc
   refine Ev.neg (by simp) ?_
   rw [w1n (by omega)]
   exact ih (t + 1) (by omega) acc (by omega) (by simpa using hc)
  | true =>
   rw [q1] at hc
   refine Ev.pos rfl (Ev.bind e2 ?_)
   cases q2 : leadB ls2 es2 s (Int.tmod (f : Int) n2) (Int.tmod (t : Int) n2) with
   | false =>
    rw [q2] at hc
    refine Ev.neg (by simp) ?_
    rw [w1n (by omega)]
    exact ih (t + 1) (by omega) acc (by omega) (by simpa using hc)
   | true =>
    rw [q2] at hc
    refine Ev.pos rfl (Ev.pos (by omega) ?_)
    rw [w1n (by omega)]
    exact ih (t + 1) (by omega) _ (by simp; omega) (by simpa using hc)
theorem refT_len (f l : Nat) (s : ByteArray) (t : Nat) : (refT n2 ls1 ls2 es1 es2 f l s t).length ≤ 1 := by
 unfold refT
 split <;> simp
theorem refL_len (f l : Nat) : (refL n2 ls1 ls2 U es1 es2 N f l).length ≤ N := by
 have := runL_len (refT n2 ls1 ls2 es1 es2 f l (U.getD l ByteArray.empty)) 1 (refT_len f l _) N 0
 unfold refL
 omega
theorem refF_len (f : Nat) : (refF n2 ls1 ls2 U es1 es2 N f).length ≤ U.length * N := runL_len _ N (refL_len f) _ 0
theorem r1_ev (hn : 1 ≤ n2) (hN : N ≤ 36) (h1 : ls1.length ≤ 1000000) (h2 : es1.length ≤ 1000000) (h3 : ls2.length ≤ 1000000) (h4 : es2.length ≤ 1000000) (hU : U.length ≤ 20) {f : Nat} (hf : f ≤ 36) : ∀ d l : Nat, l + d = U.length → ∀ acc : List Ed, acc.length + d * 36 ≤ 1000000 →
  Ev (fun k => Pr50b.l0 k (wrap64 ((f : Int) + 1)) n1 ls1 es1 n2 ls2 es2 (N : Int) U (acc ++ runL (refL n2 ls1 ls2 U es1 es2 N f) d l)) R →
  Ev (fun k => Pr50b.l1 k (f : Int) (l : Int) n1 ls1 es1 n2 ls2 es2 (N : Int) U acc) R := by
 intro d
 induction d with
 | zero =>
  intro l h acc ha hc
  rw [runL, List.append_nil] at hc
  exact Ev.step (fun k => Pr50b.l1.eq_2 ..) (Ev.neg (by omega) hc)
 | succ d ih =>
  intro l h acc ha hc
  have hl : l < U.length := by omega
  have hlen := refL_len (n2 := n2) (ls1 := ls1) (ls2 := ls2) (U := U) (es1 := es1) (es2 := es2) (N := N) f l
  rw [runL, ← List.append_assoc] at hc
  refine Ev.step (fun k => Pr50b.l1.eq_2 ..) (Ev.pos (by omega) (Ev.pos (by omega) ?_))
  have e : rdOf ByteArray.empty U (l : Int) = U.getD l ByteArray.empty := by rw [rdS U hl, getD_get hl]
  rw [e]
  refine r2_ev hn hN h1 h2 h3 h4 hf N 0 (by omega) acc (by omega) ?_
  rw [w1n (by omega)]
  exact ih (l + 1) (by omega) _ (by
   rw [List.length_append]
   have : (runL (refT n2 ls1 ls2 es1 es2 f l (U.getD l ByteArray.empty)) N 0).length ≤ N := hlen
   omega) hc
theorem r0_ev (hn : 1 ≤ n2) (hN : N ≤ 36) (h1 : ls1.length ≤ 1000000) (h2 : es1.length ≤ 1000000) (h3 : ls2.length ≤ 1000000) (h4 : es2.length ≤ 1000000) (hU : U.length ≤ 20) : ∀ d f : Nat, f + d = N → ∀ acc : List Ed, acc.length + d * 720 ≤ 1000000 →
  Ev (fun k => Pr50b.l0 k (f : Int) n1 ls1 es1 n2 ls2 es2 (N : Int) U acc) ((N : Int), U, acc ++ runL (refF n2 ls1 ls2 U es1 es2 N) d f) := by
 intro d
 induction d with
 | zero =>
  intro f h acc ha
  rw [runL, List.append_nil]
  exact Ev.step (fun k => Pr50b.l0.eq_2 ..) (Ev.neg (by omega) (Ev.now _))
 | succ d ih =>
  intro f h acc ha
  have hlen := refF_len (n2 := n2) (ls1 := ls1) (ls2 := ls2) (U := U) (es1 := es1) (es2 := es2) (N := N) f
  have hm : U.length * N ≤ 20 * 36 := Nat.mul_le_mul hU hN
  rw [runL, ← List.append_assoc]
  refine Ev.step (fun k => Pr50b.l0.eq_2 ..) (Ev.pos (by omega) ?_)
  refine r1_ev hn hN h1 h2 h3 h4 hU (by omega) U.length 0 (by omega) acc (by omega) ?_
  rw [w1n (by omega)]
  exact ih (f + 1) (by omega) _ (by
   rw [List.length_append]
   have : (runL (refL n2 ls1 ls2 U es1 es2 N f) U.length 0).length ≤ U.length * N := hlen
   omega)
theorem refE_len (hN : N ≤ 36) (hU : U.length ≤ 20) : (refE n2 ls1 ls2 U es1 es2 N).length ≤ 100000 := by
 have h1 := runL_len (refF n2 ls1 ls2 U es1 es2 N) (U.length * N) (refF_len) N 0
 have hm : U.length * N ≤ 20 * 36 := Nat.mul_le_mul hU hN
 have := Nat.mul_le_mul hN hm
 unfold refE
 omega
theorem refT_mem {e : Ed} {f l : Nat} {s : ByteArray} {t : Nat} : e ∈ refT n2 ls1 ls2 es1 es2 f l s t ↔ e = ⟨(f : Int), (l : Int), (t : Int)⟩ ∧ refC n2 ls1 ls2 es1 es2 f s t = true := by
 unfold refT
 split
 ·rename_i h; simp [h]
 ·rename_i h; simp [h]
theorem refL_mem {e : Ed} {f l : Nat} : e ∈ refL n2 ls1 ls2 U es1 es2 N f l ↔ ∃ t, t < N ∧ e = ⟨(f : Int), (l : Int), (t : Int)⟩ ∧ refC n2 ls1 ls2 es1 es2 f (U.getD l ByteArray.empty) t = true := by
 unfold refL
 rw [runL_mem]
 constructor
 ·rintro ⟨j, _, h2, h3⟩; exact ⟨j, by omega, refT_mem.1 h3⟩
 ·rintro ⟨j, h2, h3⟩; exact ⟨j, by omega, by omega, refT_mem.2 h3⟩
theorem refF_mem {e : Ed} {f : Nat} : e ∈ refF n2 ls1 ls2 U es1 es2 N f ↔ ∃ l, l < U.length ∧ ∃ t, t < N ∧ e = ⟨(f : Int), (l : Int), (t : Int)⟩ ∧ refC n2 ls1 ls2 es1 es2 f (U.getD l ByteArray.empty) t = true := by
 unfold refF
 rw [runL_mem]
 constructor
 ·rintro ⟨j, _, h2, h3⟩; exact ⟨j, by omega, refL_mem.1 h3⟩
 ·rintro ⟨j, h2, h3⟩; exact ⟨j, by omega, by omega, refL_mem.2 h3⟩
theorem refE_mem {e : Ed} : e ∈ refE n2 ls1 ls2 U es1 es2 N ↔ ∃ f, f < N ∧ ∃ l, l < U.length ∧ ∃ t, t < N ∧ e = ⟨(f : Int), (l : Int), (t : Int)⟩ ∧ refC n2 ls1 ls2 es1 es2 f (U.getD l ByteArray.empty) t = true := by
 unfold refE
 rw [runL_mem]
 constructor
 ·rintro ⟨j, _, h2, h3⟩; exact ⟨j, by omega, refF_mem.1 h3⟩
 ·rintro ⟨j, h2, h3⟩; exact ⟨j, by omega, by omega, refF_mem.2 h3⟩
theorem refE_sorted : (refE n2 ls1 ls2 U es1 es2 N).Pairwise elt := by
 refine runL_sorted _ (fun f => runL_sorted _ (fun l => runL_sorted _ (fun t => ?_) (fun i j hij a ha b hb => ?_) _ _) (fun i j hij a ha b hb => ?_) _ _) (fun i j hij a ha b hb => ?_) _ _
 ·unfold refT
  split
  ·exact List.pairwise_singleton _ _
  ·exact List.Pairwise.nil
 ·obtain ⟨rfl, _⟩ := refT_mem.1 ha
  obtain ⟨rfl, _⟩ := refT_mem.1 hb
  unfold elt
  show (f : Int) < (f : Int) ∨ (f : Int) = (f : Int) ∧ ((l : Int) < (l : Int) ∨ (l : Int) = (l : Int) ∧ (i : Int) < (j : Int))
  omega
 ·obtain ⟨t, _, rfl, _⟩ := refL_mem.1 ha
  obtain ⟨u, _, rfl, _⟩ := refL_mem.1 hb
  unfold elt
  show (f : Int) < (f : Int) ∨ (f : Int) = (f : Int) ∧ ((i : Int) < (j : Int) ∨ (i : Int) = (j : Int) ∧ (t : Int) < (u : Int))
  omega
 ·obtain ⟨l, _, t, _, rfl, _⟩ := refF_mem.1 ha
  obtain ⟨m, _, u, _, rfl, _⟩ := refF_mem.1 hb
  unfold elt
  show (i : Int) < (j : Int) ∨ (i : Int) = (j : Int) ∧ ((l : Int) < (m : Int) ∨ (l : Int) = (m : Int) ∧ (t : Int) < (u : Int))
  omega
end
theorem prodL_mem {n1 n2 : Int} {ls1 ls2 : List ByteArray} {es1 es2 : List Ed} {e : Ed} : ∀ (V : List ByteArray) (l : Nat), e ∈ prodL n1 ls1 es1 n2 ls2 es2 l V ↔ ∃ i, i < V.length ∧ e ∈ prodE n1 ls1 es1 n2 ls2 es2 (l + i) (V.getD i ByteArray.empty)
 | [], l => by simp [prodL]
 | s :: r, l => by
  rw [prodL, List.mem_append, prodL_mem r (l + 1)]
  constructor
  ·rintro (h | ⟨i, h1, h2⟩)
   ·exact ⟨0, by simp, by simpa using h⟩
   ·exact ⟨i + 1, by simpa using h1, by rw [List.getD_cons_succ, show l + (i + 1) = l + 1 + i by omega]; exact h2⟩
  ·rintro ⟨i, h1, h2⟩
   cases i with
   | zero => exact .inl (by simpa using h2)
   | succ i => exact .inr ⟨i, by simpa using h1, by rw [List.getD_cons_succ, show l + (i + 1) = l + 1 + i by omega] at h2; exact h2⟩
theorem prodE_mem {n1 n2 : Int} {ls1 ls2 : List ByteArray} {es1 es2 : List Ed} {e : Ed} {l : Nat} {s : ByteArray} : e ∈ prodE n1 ls1 es1 n2 ls2 es2 l s ↔ ∃ a ∈ actX n1 ls1 es1 s, ∃ b ∈ actX n2 ls2 es2 s, mkE n2 (l : Int) a b = e := by
 unfold prodE
 rw [List.mem_flatMap]
 constructor
 ·rintro ⟨a, ha, h⟩
  obtain ⟨b, hb, rfl⟩ := List.mem_map.1 h
  exact ⟨a, ha, b, hb, rfl⟩
 ·rintro ⟨a, ha, b, hb, rfl⟩
  exact ⟨a, ha, List.mem_map.2 ⟨b, hb, rfl⟩⟩
theorem node_in {n1 n2 a b : Int} (ha : 0 ≤ a ∧ a < n1) (hb : 0 ≤ b ∧ b < n2) : 0 ≤ a * n2 + b ∧ a * n2 + b < n1 * n2 := by
 have h1 : 0 ≤ a * n2 := Int.mul_nonneg ha.1 (by omega)
 have h2 : (a + 1) * n2 ≤ n1 * n2 := Int.mul_le_mul_of_nonneg_right (by omega) (by omega)
 rw [Int.add_mul, Int.one_mul] at h2
 omega
theorem node_div {n2 a b : Int} (ha : 0 ≤ a) (hb : 0 ≤ b ∧ b < n2) : Int.tdiv (a * n2 + b) n2 = a ∧ Int.tmod (a * n2 + b) n2 = b := by
 have h1 : 0 ≤ a * n2 := Int.mul_nonneg ha (by omega)
 rw [Int.tdiv_eq_ediv_of_nonneg (by omega), Int.tmod_eq_emod_of_nonneg (by omega)]
 constructor
 ·rw [Int.add_comm, Int.add_mul_ediv_right _ _ (by omega), Int.ediv_eq_zero_of_lt hb.1 hb.2, Int.zero_add]
 ·rw [Int.add_comm, Int.add_mul_emod_self_right, Int.emod_eq_of_lt hb.1 hb.2]
theorem node_of {n1 n2 m : Int} (h2 : 1 ≤ n2) (hm : 0 ≤ m ∧ m < n1 * n2) : (0 ≤ Int.tdiv m n2 ∧ Int.tdiv m n2 < n1) ∧ (0 ≤ Int.tmod m n2 ∧ Int.tmod m n2 < n2) ∧ Int.tdiv m n2 * n2 + Int.tmod m n2 = m := by
 rw [Int.tdiv_eq_ediv_of_nonneg hm.1, Int.tmod_eq_emod_of_nonneg hm.1]
 refine ⟨⟨Int.ediv_nonneg hm.1 (by omega), Int.ediv_lt_of_lt_mul (by omega) hm.2⟩, ⟨Int.emod_nonneg _ (by omega), Int.emod_lt_of_pos _ (by omega)⟩, ?_⟩
 rw [Int.mul_comm]
 exact Int.mul_ediv_add_emod m n2
theorem refE_prod {n1 n2 : Int} {ls1 ls2 : List ByteArray} {es1 es2 : List Ed} {N : Nat} (U : List ByteArray) (m1 : mayR n1 ls1 es1 = true) (m2 : mayR n2 ls2 es2 = true) (a1 : n1 ≤ 6) (a2 : n2 ≤ 6) (hN : (N : Int) = n1 * n2) : sortE (prodL n1 ls1 es1 n2 ls2 es2 0 U) = refE n2 ls1 ls2 U es1 es2 N := by
 have b1 := lt_n m1
 have b2 := lt_n m2
 have hmul : 1 ≤ n1 * n2 ∧ n1 * n2 ≤ 65025 := mul_le ⟨b1.1, by omega⟩ ⟨b2.1, by omega⟩
 have hmk : ∀ (l : Nat) (a b : Ed), ((0 ≤ a.f0 ∧ a.f0 < n1) ∧ (0 ≤ a.f2 ∧ a.f2 < n1)) → ((0 ≤ b.f0 ∧ b.f0 < n2) ∧ (0 ≤ b.f2 ∧ b.f2 < n2)) → mkE n2 (l : Int) a b = ⟨a.f0 * n2 + b.f0, (l : Int), a.f2 * n2 + b.f2⟩ := by
  intro l a b ha hb
  have q1 := node_in ha.1 hb.1
  have q2 := node_in ha.2 hb.2
  have q3 : 0 ≤ a.f0 * n2 := Int.mul_nonneg ha.1.1 (by omega)
  have q4 : 0 ≤ a.f2 * n2 := Int.mul_nonneg ha.2.1 (by omega)
  unfold mkE
  rw [wid (i := a.f0 * n2) (by omega) (by omega), wid (i := a.f2 * n2) (by omega) (by omega), wid (by omega) (by omega), wid (by omega) (by omega)]
 refine strict_unique _ _ (sortE_sorted _) refE_sorted fun e => ?_
 rw [sortE_mem, prodL_mem, refE_mem]
 constructor
 ·rintro ⟨l, hl, h⟩
  obtain ⟨a, ha, b, hb, rfl⟩ := prodE_mem.1 h
  have ia := actX_in m1 _ a ha
  have ib := actX_in m2 _ b hb
  rw [hmk _ a b ia ib, Nat.zero_add]
  have q1 := node_in ia.1 ib.1
  have q2 := node_in ia.2 ib.2
  obtain ⟨f, hf⟩ : ∃ f : Nat, (f : Int) = a.f0 * n2 + b.f0 := ⟨(a.f0 * n2 + b.f0).toNat, by omega⟩
  obtain ⟨t, ht⟩ : ∃ t : Nat, (t : Int) = a.f2 * n2 + b.f2 := ⟨(a.f2 * n2 + b.f2).toNat, by omega⟩
  refine ⟨f, by omega, l, hl, t, by omega, by rw [hf, ht], ?_⟩
  unfold refC
  have df := node_div (a := a.f0) (b := b.f0) ia.1.1 ib.1
  have dt := node_div (a := a.f2) (b := b.f2) ia.2.1 ib.2
  rw [hf, ht, df.1, df.2, dt.1, dt.2, (actX_lead _ ia.1).2 ⟨a, ha, rfl, rfl⟩, (actX_lead _ ib.1).2 ⟨b, hb, rfl, rfl⟩]
  rfl
 ·rintro ⟨f, hf, l, hl, t, ht, rfl, h⟩
  unfold refC at h
  rw [Bool.and_eq_true] at h
  have nf := node_of (n1 := n1) (n2 := n2) (m := (f : Int)) b2.1 (by omega)
  have nt := node_of (n1 := n1) (n2 := n2) (m := (t : Int)) b2.1 (by omega)
  obtain ⟨a, ha, e1, e2⟩ := (actX_lead _ nf.1).1 h.1
  obtain ⟨b, hb, e3, e4⟩ := (actX_lead _ nf.2.1).1 h.2
  refine ⟨l, hl, prodE_mem.2 ⟨a, ha, b, hb, ?_⟩⟩
  rw [hmk _ a b (actX_in m1 _ a ha) (actX_in m2 _ b hb), e1, e2, e3, e4, nf.2.2, nt.2.2, Nat.zero_add]
theorem small50 {a0_0 : Int} {l0_1 : List ByteArray} {l0_2 : List Ed} {a1_0 : Int} {l1_1 : List ByteArray} {l1_2 : List Ed} (h : Pl50b.f a0_0 l0_1 l0_2 a1_0 l1_1 l1_2 = some true) : (SmallL a0_0 l0_1 l0_2 ∧ SmallL a1_0 l1_1 l1_2) ∧ ((a0_0 ≤ 6 ∨ 2048 < a0_0) ∧ (a1_0 ≤ 6 ∨ 2048 < a1_0)) ∧ (l0_1.length ≤ 6 ∧ l1_1.length ≤ 6) := by
 unfold Pl50b.f at h
 have h := Option.some.inj h
 simp only [Bool.and_eq_true, Bool.or_eq_true, decide_eq_true_eq] at h
 exact ⟨⟨lightB_small h.1, lightB_small h.2.1⟩, ⟨h.2.2.1, h.2.2.2.1⟩, ⟨by omega, by omega⟩⟩
theorem may_prod {n1 n2 : Int} {ls1 ls2 : List ByteArray} {es1 es2 : List Ed} {N : Nat} (m1 : mayR n1 ls1 es1 = true) (m2 : mayR n2 ls2 es2 = true) (a1 : n1 ≤ 6) (a2 : n2 ≤ 6) (hN : (N : Int) = n1 * n2) (h1 : ls1.length ≤ 6) (h3 : ls2.length ≤ 6) : mayR (n1 * n2) (uniS (ls1 ++ ls2)) (refE n2 ls1 ls2 (uniS (ls1 ++ ls2)) es1 es2 N) = true := by
 have b1 := lt_n m1
 have b2 := lt_n m2
 have hmul : 1 ≤ n1 * n2 ∧ n1 * n2 ≤ 65025 := mul_le ⟨b1.1, by omega⟩ ⟨b2.1, by omega⟩
 have h36 : n1 * n2 ≤ 36 := by have := Int.mul_le_mul a1 a2 (by omega) (show (0 : Int) ≤ 6 by omega); omega
 have hU : (uniS (ls1 ++ ls2)).length ≤ 12 := Nat.le_trans (uniS_len _) (by rw [List.length_append]; omega)
 refine may_of ⟨hmul.1, by omega⟩ (by omega) (uniS_sorted _) (fun s hs => ?_) (Nat.le_trans (refE_len (by omega) (by omega)) (by omega)) refE_sorted (fun e he => ?_)
 ·rcases List.mem_append.1 ((uniS_mem _ s).1 hs) with h | h
  ·exact (may_lab m1).2 s h
  ·exact (may_lab m2).2 s h
 ·obtain ⟨f, hf, l, hl, t, ht, rfl, _⟩ := refE_mem.1 he
  refine ⟨⟨?_, ?_⟩, ⟨?_, ?_⟩, ?_, ?_⟩
  ·show (0 : Int) ≤ (f : Int); omega
  ·show (f : Int) < n1 * n2; omega
  ·show (0 : Int) ≤ (t : Int); omega
  ·show (t : Int) < n1 * n2; omega
  ·show (0 : Int) ≤ (l : Int); omega
  ·show (l : Int) < _; omega
theorem productOf_true (n1 : Int) (ls1 : List ByteArray) (es1 : List Ed) (n2 : Int) (ls2 : List ByteArray) (es2 : List Ed) (m : Int) : Ev (fun k => Pl50a.f k n1 ls1 es1 n2 ls2 es2 m) true := by
 obtain ⟨b, hb⟩ : ∃ b, Pl50b.f n1 ls1 es1 n2 ls2 es2 = some b := ⟨_, rfl⟩
 refine Ev.bindS hb ?_
 cases b with
 | false => exact Ev.neg (by simp) (Ev.last awake50)
 | true =>
  obtain ⟨⟨s1, s2⟩, ⟨q1, q2⟩, h1, h3⟩ := small50 hb
  refine Ev.pos rfl ?_
  have a0 : Pr26d.f n1 ls1 es1 = some (mayR n1 ls1 es1) := rfl
  have a3 : Pr26d.f n2 ls2 es2 = some (mayR n2 ls2 es2) := rfl
  by_cases hm : mayR n1 ls1 es1 = true ∧ mayR n2 ls2 es2 = true
  ·obtain ⟨m1, m2⟩ := hm
   have b1 := lt_n m1
   have b2 := lt_n m2
   have a1 : n1 ≤ 6 := by omega
   have a2 : n2 ≤ 6 := by omega
   have hmul : 1 ≤ n1 * n2 ∧ n1 * n2 ≤ 65025 := mul_le ⟨b1.1, by omega⟩ ⟨b2.1, by omega⟩
   have a4 : n1 * n2 ≤ 36 := by have := Int.mul_le_mul a1 a2 (by omega) (show (0 : Int) ≤ 6 by omega); omega
   obtain ⟨N, hN⟩ : ∃ N : Nat, (N : Int) = n1 * n2 := ⟨(n1 * n2).toNat, by omega⟩
   have hU : (uniS (ls1 ++ ls2)).length ≤ 12 := Nat.le_trans (uniS_len _) (by rw [List.length_append]; omega)
   have hw : wrap64 (n1 * n2) = n1 * n2 := wid (by omega) (by omega)
   have hmp := may_prod m1 m2 a1 a2 hN h1 h3
   have hsort := refE_prod (uniS (ls1 ++ ls2)) m1 m2 a1 a2 hN
   have hlen : (prodL n1 ls1 es1 n2 ls2 es2 0 (uniS (ls1 ++ ls2))).length ≤ 1000000 := by
    have key : ∀ (V : List ByteArray) (l : Nat), (prodL n1 ls1 es1 n2 ls2 es2 l V).length ≤ V.length * 40000 := by
     intro V
     induction V with
     | nil => intro l; simp [prodL]
     | cons s r ih =>
      intro l
      have := ih (l + 1)
      have hxy : (actX n1 ls1 es1 s).length * (actX n2 ls2 es2 s).length ≤ 40000 := Nat.mul_le_mul (actX_len (ls := ls1) s (by omega) s1.2.1) (actX_len (ls := ls2) s (by omega) s2.2.1)
      rw [prodL, List.length_append, prodE, fmap_len, List.length_cons, Nat.succ_mul]
      omega
    have := key (uniS (ls1 ++ ls2)) 0
    omega
   have hs : Pxj.f (n1 * n2) (uniS (ls1 ++ ls2)) (prodL n1 ls1 es1 n2 ls2 es2 0 (uniS (ls1 ++ ls2))) = some (n1 * n2, uniS (ls1 ++ ls2), refE n2 ls1 ls2 (uniS (ls1 ++ ls2)) es1 es2 N, 0) := by
    unfold Pxj.f
    rw [if_pos ⟨hlen, by omega⟩, hsort, if_pos hmp]
   have href : Ev (fun k => Pr50b.f k n1 ls1 es1 n2 ls2 es2) (n1 * n2, uniS (ls1 ++ ls2), refE n2 ls1 ls2 (uniS (ls1 ++ ls2)) es1 es2 N) := by
    refine Ev.bind (runion_ev ls1 ls2 (by omega) (by omega)) ?_
    rw [hw, ← hN]
    exact r0_ev b2.1 (by omega) (by omega) (by have := s1.2.1; omega) (by omega) (by have := s2.2.1; omega) (by omega) N 0 (by omega) [] (by simp; omega)
   have hsame := same26_refl (n1 * n2) (uniS (ls1 ++ ls2)) (refE n2 ls1 ls2 (uniS (ls1 ++ ls2)) es1 es2 N) (by omega) (Nat.le_trans (refE_len (by omega) (by omega)) (by omega))
   refine Ev.bind (product_ev m1 m2 a1 a2 h1 s1.2.1 h3 s2.2.1 hs) ?_
   by_cases hr : 0 ≤ m ∧ m < n1 * n2
   ·have hp : Pxc.f n1 ls1 es1 n2 ls2 es2 m = some (Int.tdiv m n2, Int.tmod m n2) := by unfold Pxc.f; rw [if_pos ⟨m1, m2, hr⟩]
    have nd := node_of (n1 := n1) b2.1 hr
    have nn : 0 ≤ Int.tdiv m n2 * n2 := Int.mul_nonneg nd.1.1 (by omega)
    refine Ev.bindS hp (Ev.bindS a0 (Ev.pos m1 (Ev.bindS a3 (Ev.step (fun k => Pl50a.j0.eq_2 ..) (Ev.neg (by rw [m2]; simp) (Ev.bind href (Ev.bind hsame (Ev.pos rfl (Ev.step (fun k => Pl50a.j1.eq_2 ..) (Ev.neg (by simp) (Ev.neg (by omega) (Ev.step (fun k => Pl50a.j2.eq_2 ..) (Ev.neg (by rw [hw]; simp; omega) ?_)))))))))))))
    refine Ev.pos (by rw [wid (i := Int.tdiv m n2 * n2) (by omega) (by omega), wid (by omega) (by omega)]; exact nd.2.2) (Ev.pos nd.1.1 (Ev.pos nd.2.1.1 (Ev.pos nd.2.1.2 (Ev.last awake50))))
   ·have hp : Pxc.f n1 ls1 es1 n2 ls2 es2 m = some (-1, -1) := by unfold Pxc.f; rw [if_neg fun h => hr h.2.2]
    refine Ev.bindS hp (Ev.bindS a0 (Ev.pos m1 (Ev.bindS a3 (Ev.step (fun k => Pl50a.j0.eq_2 ..) (Ev.neg (by rw [m2]; simp) (Ev.bind href (Ev.bind hsame (Ev.pos rfl (Ev.step (fun k => Pl50a.j1.eq_2 ..) (Ev.neg (by simp) ?_))))))))))
    by_cases h0 : m < 0
    ·exact Ev.pos h0 (Ev.step (fun k => Pl50a.j2.eq_2 ..) (Ev.pos rfl (Ev.pos rfl (Ev.pos rfl (Ev.last awake50)))))
    ·exact Ev.neg h0 (Ev.step (fun k => Pl50a.j2.eq_2 ..) (Ev.pos (by rw [hw]; simp; omega) (Ev.pos rfl (Ev.pos rfl (Ev.last awake50)))))
  ·have hp : Pxc.f n1 ls1 es1 n2 ls2 es2 m = some (-1, -1) := by unfold Pxc.f; rw [if_neg fun h => hm ⟨h.1, h.2.1⟩]
   have hbad : mayR n1 ls1 es1 = false ∨ mayR n2 ls2 es2 = false := by
    cases h1 : mayR n1 ls1 es1 <;> cases h2 : mayR n2 ls2 es2 <;> simp_all
   refine Ev.bind (product_bad hbad) (Ev.bindS hp (Ev.bindS a0 ?_))
   have hj : Ev (fun k => Pl50a.j0 k m 1 (-1) (-1) true n1 ls1 es1 n2 ls2 es2 0 [] []) true := Ev.step (fun k => Pl50a.j0.eq_2 ..) (Ev.pos rfl (Ev.bind same0 (Ev.pos rfl (Ev.pos rfl (Ev.pos rfl (Ev.pos rfl (Ev.last awake50)))))))
   cases q : mayR n1 ls1 es1 with
   | false => exact Ev.neg (by simp) hj
   | true =>
    have m2 : mayR n2 ls2 es2 = false := by rcases hbad with h | h; rw [q] at h; cases h; exact h
    refine Ev.pos rfl (Ev.bindS a3 ?_)
    rw [m2]
    exact hj
end Go.Proofs.Ythaaockbapbooaa.H
set_option linter.unusedVariables false
set_option linter.unusedSimpArgs false
namespace Go.Proofs.Ythaaockbapbooaa.productOf
open Go.ChangeShapes Go.WideShapes Go.ChangeAt Go.RowKit Go.Proofs.Ythaaockbapbooaa.Pr Go.Proofs.YthaaockbapbooaaW.PrintWords Go.Proofs.Ythaaockbapbooaa.H
theorem own : ownKnob Try.prog.godebug = none := by kernel_rfl
set_option maxRecDepth 100000 in
theorem lifted (os : Os) (started : os.Started) (H : Type) (enc : TypeId × Value → H) :
  ReturnsInHanded {} Try.checked os 4 .any (Rows.productOfSpec.pre6 enc Try.prog Try.f4 Rows.productOfRow.domain false) (Rows.productOfSpec.post enc Try.prog Try.f4 false true false false) := by
 refine returnsInHanded_of_change_sized (C := Try.checked) own started (by kernel_rfl) Try.func4
  (ChangeSpec.witness6 (enc := enc) (C := Try.checked) false ⟨#[], #[.agg #[.int .i64 0, .slice none 0 0, .slice none 0 0], .agg #[.int .i64 0, .slice none 0 0, .slice none 0 0], .int .i64 0], []⟩ 8 (by kernel_rfl) (by kernel_rfl) (by kernel_rfl) (by kernel_rfl)) ?_
 intro W base args ds gs before hval0 hW hcnd hsz0 _
 have hval : ∀ (j : Nat) t v, Try.f4.params[j]? = some t → args[j]? = some v → Value.okWide Try.prog W .any base t v := hval0
 have hW' := hW
 obtain ⟨p, q, hA0, hV, rfl, hfz, hnd⟩ := hW
 have hA : DataW.TrodAll enc Try.prog W 0 (fun _ => true) true Try.f4.params.toList args.toList ds p := hA0
 rw [Try.params4] at hA hval
 obtain ⟨v0, vs0, d0, ds0, p0, q0, hargs, rfl, rfl, h0, r0⟩ := trodAll_cons hA
 obtain ⟨v1, vs1, d1, ds1, p1, q1, rfl, rfl, rfl, h1, r1⟩ := trodAll_cons r0
 obtain ⟨v2, vs2, d2, ds2, p2, q2, rfl, rfl, rfl, h2, r2⟩ := trodAll_cons r1
 obtain ⟨rfl, rfl, rfl⟩ := trodAll_nil r2
 obtain rfl : args = #[v0, v1, v2] := by cases args; simp_all
 obtain ⟨rfl, rfl⟩ := trodVars_none hV
 have k0 := h0
 have lt0 : ∀ x ∈ p0, x.block < W.heap.size := by obtain ⟨m, hm⟩ := k0; exact DataW.trod_lt m _ _ _ hm
 obtain ⟨n0, ls0, es0, A0, B0, c0, e0, rfl, wf0, rl0, cl0, re0, ce0⟩ := open_lts2 (hval 0 25 v0 rfl rfl) h0
 have k1 := h1
 have lt1 : ∀ x ∈ p1, x.block < W.heap.size := by obtain ⟨m, hm⟩ := k1; exact DataW.trod_lt m _ _ _ hm
 obtain ⟨n1, ls1, es1, A1, B1, c1, e1, rfl, wf1, rl1, cl1, re1, ce1⟩ := open_lts2 (hval 1 25 v1 rfl rfl) h1
 have k2 := h2
 have lt2 : ∀ x ∈ p2, x.block < W.heap.size := by obtain ⟨m, hm⟩ := k2; exact DataW.trod_lt m _ _ _ hm
 obtain ⟨x2, rfl, rfl, rfl, wf2⟩ := open_int Try.underlying3 (hval 2 3 v2 rfl rfl) h2
 clear hA0 hval0 hsz0
 obtain ⟨k, hk⟩ := (productOf_true n0 ls0 es0 n1 ls1 es1 x2).rounds
 refine (Pr.Pl50a.calls (k := k) (r := true) (w := W) (hr0_1 := rl0) (hc0_1 := cl0) (hr0_2 := re0) (hc0_2 := ce0) (hr1_1 := rl1) (hc1_1 := cl1) (hr1_2 := re1) (hc1_2 := ce1) (h := hk) (hr_ := ⟨rfl⟩)).mono fun e W' ⟨he, bel⟩ => ?_
 subst he
 exact ⟨_, rfl, _, _, _, [], _, [], hW', trodAll_mk1 (shut_bool Try.underlying4 _), (trodAll_cons_mk (Below.trod laid_out (by kernel_rfl) (of_decide_eq_true (by kernel_rfl)) k0 bel lt0) (trodAll_cons_mk (Below.trod laid_out (by kernel_rfl) (of_decide_eq_true (by kernel_rfl)) k1 bel lt1) (trodAll_cons_mk (Below.trod laid_out (by kernel_rfl) (of_decide_eq_true (by kernel_rfl)) k2 bel lt2) trodAll_mk0))), rfl, bel.frame _, fun h => by cases h⟩
theorem over : Rows.productOfRow.holds Try.pinned (OpenSpec.ofChange Rows.productOfSpec) :=
 OpenClaim.holds_of_wide 4 Try.f4 rfl rfl rfl rfl rfl rfl rfl ⟨rfl, rfl, rfl, rfl, rfl⟩ rfl rfl rfl rfl rfl (by kernel_rfl) Try.func4 (by kernel_rfl)
  (of_decide_eq_true (by kernel_rfl)) (by unfold Func.isWrapper; first | (rw [if_pos (by decide +kernel)]; kernel_rfl) | (rw [if_neg (by decide +kernel)]; exact ⟨rfl, rfl⟩))
  (fun os started H enc _ => lifted os started H enc)
theorem proved : Rows.ProductOfSaid := over
#print axioms proved
end Go.Proofs.Ythaaockbapbooaa.productOf
namespace Go.Proofs.Ythaaockbapbooaa
theorem productOf_holds : Rows.ProductOfSaid := productOf.proved
end Go.Proofs.Ythaaockbapbooaa
