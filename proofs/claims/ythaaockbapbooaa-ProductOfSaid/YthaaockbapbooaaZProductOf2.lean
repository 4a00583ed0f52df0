/-
  Parts of the proof of ProductOf (joined by wip/tools/bundle.py), part 2: plain words and walks of the functions that the law reaches.
-/
import Derived.Test.YthaaockbapbooaaZProductOf1
namespace Go.Proofs.Ythaaockbapbooaa.Pr
open Go.RowKit Go.Proofs.YthaaockbapbooaaW.PrintWords Go.Proofs.YthaaockbapbooaaW.PrintLast Go.Proofs.YthaaockbapbooaaW.PrintMore
attribute [local go_sem] max2_int min2_int max_two min_two max_three min_three max_four min_four
set_option linter.unusedVariables false
set_option linter.unusedSimpArgs false
def Pr01a.l0 : Nat → List ByteArray → List ByteArray → Int → Option (Bool)
 | 0, _, _, _ => none
 | k + 1, x0, x1, x5 => if x5 < (x0.length : Int) then (if 0 ≤ x5 then (if x5 < (x1.length : Int) then (if (rdOf ByteArray.empty x0 x5).toList = (rdOf ByteArray.empty x1 x5).toList then (Pr01a.l0 k x0 x1 (wrap64 (x5 + 1))) else (some false)) else (none)) else (none)) else (some true)
def Pr01a.f (k : Nat) (l0 : List ByteArray) (l1 : List ByteArray) : Option (Bool) := if (l0.length : Int) = (l1.length : Int) then (Pr01a.l0 k l0 l1 0) else (some false)
theorem Pr01a.mono_l : ∀ k, (∀ y0 y1 y2, LeO (Pr01a.l0 k y0 y1 y2) (Pr01a.l0 (k + 1) y0 y1 y2))
 | 0 => fun _ _ _ r h => by simp [Pr01a.l0] at h
 | k + 1 => by
  have ih0 := Pr01a.mono_l k
  ·intro y0 y1 y2
   unfold Pr01a.l0
   repeat' first
   | (with_reducible exact ih0 _ _ _)
   | (with_reducible exact LeO.refl _)
   | (with_reducible exact LeO.none _)
   | (with_reducible refine LeO.ite ?_ ?_)
   | (with_reducible refine LeO.bind ?_ (fun _ => ?_))
   | exact ih0 _ _ _
   | exact LeO.none _
   | refine LeO.ite ?_ ?_
   | refine LeO.bind ?_ (fun _ => ?_)
theorem Pr01a.mono : ∀ a0 a1 k, LeO (Pr01a.f k a0 a1) (Pr01a.f (k + 1) a0 a1) := by
 intro a0 a1 k
 have ih0 := Pr01a.mono_l k
 unfold Pr01a.f
 repeat' first
   | (with_reducible exact ih0 _ _ _)
   | (with_reducible exact LeO.refl _)
   | (with_reducible exact LeO.none _)
   | (with_reducible refine LeO.ite ?_ ?_)
   | (with_reducible refine LeO.bind ?_ (fun _ => ?_))
   | exact ih0 _ _ _
   | exact LeO.none _
   | refine LeO.ite ?_ ?_
   | refine LeO.bind ?_ (fun _ => ?_)
set_option maxHeartbeats 8000000 in
set_option maxRecDepth 100000 in
theorem Pr01a.calls (k : Nat) (A0 : Option Addr) (c0 : Nat) (l0 : List ByteArray) (A1 : Option Addr) (c1 : Nat) (l1 : List ByteArray) (r : Bool) (w : World) (hr0 : Kd.C Kd.string w A0 l0.length l0) (hc0 : l0.length ≤ c0) (hr1 : Kd.C Kd.string w A1 l1.length l1) (hc1 : l1.length ≤ c1) (h : Pr01a.f k l0 l1 = some r) :
  Calls Try.prog 36 #[.slice A0 l0.length c0, .slice A1 l1.length c1] w fun e w' => e = .returned (.bool r) ∧ Drawn0 w w' := by
 have b2 := Aside0.mk hr0
 have b5 := Aside0.mk hc0
 clear hr0 hc0
 have b1 := Aside0.mk hr1
 have b4 := Aside0.mk hc1
 clear hr1 hc1
 have H : (if (l0.length : Int) = (l1.length : Int) then (Pr01a.l0 k l0 l1 0) else (some false)) = some r := h
 clear h
 by_cases c3 : (l0.length : Int) = (l1.length : Int)
 ·rw [if_pos c3] at H
  have c3b0 : ((l0.length : Int) == (l1.length : Int)) = true := beq_iff_eq.mpr c3
  have c3b1 : ((l0.length : Int) != (l1.length : Int)) = false := bne_eq_false_iff_eq.mpr c3
  have c3b2 : (l0.length == l1.length) = true := by first | simpa using c3 | (simp at c3 ⊢; omega)
  clear c3
  have H' := Aside0.mk H
  clear H
  go_enter Try.func36, Try.ntmps36
  go_wp2
  repeat (go_quiet (fail); try go_wp2)
  go_loopg [5] k (fun kq v5 w' => ∃ (a0 : Int), v5 = .int .i64 a0 ∧ Aside0 (Pr01a.l0 kq l0 l1 a0 = some r) ∧ Aside0 (kq ≤ k) ∧ Drawn0 w w')
  case atStart => exact ⟨(0), (by first | rfl | (simp; done) | (simp [*]; done)), H', ⟨Nat.le_refl _⟩, by repeat (first | exact Drawn0.refl _ | apply Drawn0.step)⟩
  case round =>
   clear H'
   try clear c1
   try clear p2
   try clear c3
   try clear c3b0
   try clear c3b1
   try clear c3b2
   obtain ⟨a0, rfl, HA, b3, ⟨m1, rfl⟩⟩ := hrel
   cases gk with
   | zero => exact absurd HA.out (by simp [Pr01a.l0])
   | succ k1 =>
    have H := HA.out
    clear HA
    simp only [Pr01a.l0] at H
    by_cases c4 : a0 < (l0.length : Int)
    ·rw [if_pos c4] at H
     have c4b0 : decide (a0 < (l0.length : Int)) = true := decide_eq_true c4
     clear c4
     by_cases c5 : 0 ≤ a0
     ·rw [if_pos c5] at H
      have c5b0 : decide (0 ≤ a0) = true := decide_eq_true c5
      clear c5
      by_cases c6 : a0 < (l1.length : Int)
      ·rw [if_pos c6] at H
       have c6b0 : decide (a0 < (l1.length : Int)) = true := decide_eq_true c6
       clear c6
       by_cases c7 : (rdOf ByteArray.empty l0 a0).toList = (rdOf ByteArray.empty l1 a0).toList
       ·rw [if_pos c7] at H
        have c7b0 : ((rdOf ByteArray.empty l0 a0).toList == (rdOf ByteArray.empty l1 a0).toList) = true := beq_iff_eq.mpr c7
        have c7b1 : ((rdOf ByteArray.empty l0 a0).toList != (rdOf ByteArray.empty l1 a0).toList) = false := bne_eq_false_iff_eq.mpr c7
        clear c7
        have H' := Aside0.mk H
        clear H
        have a1 : 0 ≤ (a0 : Int) := of_decide_eq_true (by first | (with_reducible assumption) | assumption)
        have a3 : a0 < (l0.length : Int) := of_decide_eq_true (by first | (with_reducible assumption) | assumption)
        obtain ⟨b0, a6, a7⟩ := Kd.at_string b2.out a0 a1 a3
        cases a6
        replace a1 := eq_true a1
        replace a3 := eq_true a3
        have a2 : 0 ≤ (a0 : Int) := of_decide_eq_true (by first | (with_reducible assumption) | assumption)
        have a4 : a0 < (l1.length : Int) := of_decide_eq_true (by first | (with_reducible assumption) | assumption)
        obtain ⟨a9, a5, a8⟩ := Kd.at_string b1.out a0 a2 a4
        cases a5
        replace a2 := eq_true a2
        replace a4 := eq_true a4
        go_wp2
        repeat (go_quiet (fail); try go_wp2)
        go_roundg k1
        case measure => have := b3.out; omega
        case rel => exact ⟨(wrap64 (a0 + 1)), (by first | rfl | (simp; done) | (simp [*]; done)), H', ⟨by have := b3.out; omega⟩, by repeat (first | exact Drawn0.refl _ | apply Drawn0.step)⟩
       ·rw [if_neg c7] at H
        have c7b0 : ((rdOf ByteArray.empty l0 a0).toList == (rdOf ByteArray.empty l1 a0).toList) = false := beq_eq_false_iff_ne.mpr c7
        have c7b1 : ((rdOf ByteArray.empty l0 a0).toList != (rdOf ByteArray.empty l1 a0).toList) = true := bne_iff_ne.mpr c7
        obtain rfl := Option.some.inj H
        have a1 : 0 ≤ (a0 : Int) := of_decide_eq_true (by first | (with_reducible assumption) | assumption)
        have a3 : a0 < (l0.length : Int) := of_decide_eq_true (by first | (with_reducible assumption) | assumption)
        obtain ⟨b0, a6, a7⟩ := Kd.at_string b2.out a0 a1 a3
        cases a6
        replace a1 := eq_true a1
        replace a3 := eq_true a3
        have a2 : 0 ≤ (a0 : Int) := of_decide_eq_true (by first | (with_reducible assumption) | assumption)
        have a4 : a0 < (l1.length : Int) := of_decide_eq_true (by first | (with_reducible assumption) | assumption)
        obtain ⟨a9, a5, a8⟩ := Kd.at_string b1.out a0 a2 a4
        cases a5
        replace a2 := eq_true a2
        replace a4 := eq_true a4
        go_wp2
        repeat (go_quiet (fail); try go_wp2)
        go_ret
        exact ⟨by first | rfl | (simp; done) | (simp [*]; done), by repeat (first | exact Drawn0.refl _ | apply Drawn0.step)⟩
      ·rw [if_neg c6] at H
       exact absurd H (by simp)
     ·rw [if_neg c5] at H
      exact absurd H (by simp)
    ·rw [if_neg c4] at H
     have c4b0 : decide (a0 < (l0.length : Int)) = false := decide_eq_false c4
     clear c4
     obtain rfl := Option.some.inj H
     go_wp2
     repeat (go_quiet (fail); try go_wp2)
     go_ret
     exact ⟨by first | rfl | (simp; done) | (simp [*]; done), by repeat (first | exact Drawn0.refl _ | apply Drawn0.step)⟩
 ·rw [if_neg c3] at H
  have c3b0 : ((l0.length : Int) == (l1.length : Int)) = false := beq_eq_false_iff_ne.mpr c3
  have c3b1 : ((l0.length : Int) != (l1.length : Int)) = true := bne_iff_ne.mpr c3
  have c3b2 : (l0.length == l1.length) = false := by first | simpa using c3 | (simp at c3 ⊢; omega)
  obtain rfl := Option.some.inj H
  go_enter Try.func36, Try.ntmps36
  go_wp2
  repeat (go_quiet (fail); try go_wp2)
  go_ret
  exact ⟨by first | rfl | (simp; done) | (simp [*]; done), by repeat (first | exact Drawn0.refl _ | apply Drawn0.step)⟩
attribute [local go_sem high] eqA51
mutual
def Pr26b.j0 : Nat → Bool → Int → List ByteArray → List (S51) → Int → List ByteArray → List (S51) → Option (Bool)
 | 0, _, _, _, _, _, _, _ => none
 | k + 1, x27, x104000, x104001, x104002, x105000, x105001, x105002 => if x27 = true then (some false) else (Pr26b.l0 k 0 x104000 x104001 x104002 x105000 x105001 x105002)
def Pr26b.l0 : Nat → Int → Int → List ByteArray → List (S51) → Int → List ByteArray → List (S51) → Option (Bool)
 | 0, _, _, _, _, _, _, _ => none
 | k + 1, x5, x104000, x104001, x104002, x105000, x105001, x105002 => if x5 < (x104002.length : Int) then (if 0 ≤ x5 then (if x5 < (x105002.length : Int) then (if (!(((rd_T51 x104002 x5).f0) == ((rd_T51 x105002 x5).f0)) || (!(((rd_T51 x104002 x5).f1) == ((rd_T51 x105002 x5).f1)) || (!(((rd_T51 x104002 x5).f2) == ((rd_T51 x105002 x5).f2))))) = true then (some false) else (Pr26b.l0 k (wrap64 (x5 + 1)) x104000 x104001 x104002 x105000 x105001 x105002)) else (none)) else (none)) else (some true)
end
def Pr26b.f (k : Nat) (a0_0 : Int) (l0_1 : List ByteArray) (l0_2 : List (S51)) (a1_0 : Int) (l1_1 : List ByteArray) (l1_2 : List (S51)) : Option (Bool) := if a0_0 = a1_0 then ((Pr01a.f k l0_1 l1_1).bind fun t105 => (if t105 = true then (Pr26b.j0 k ((l0_2.length : Int) != (l1_2.length : Int)) a0_0 l0_1 l0_2 a1_0 l1_1 l1_2) else (Pr26b.j0 k true a0_0 l0_1 l0_2 a1_0 l1_1 l1_2))) else (Pr26b.j0 k true a0_0 l0_1 l0_2 a1_0 l1_1 l1_2)
theorem Pr26b.mono_l : ∀ k, (∀ y0 y1 y2 y3 y4 y5 y6, LeO (Pr26b.j0 k y0 y1 y2 y3 y4 y5 y6) (Pr26b.j0 (k + 1) y0 y1 y2 y3 y4 y5 y6)) ∧ (∀ y0 y1 y2 y3 y4 y5 y6, LeO (Pr26b.l0 k y0 y1 y2 y3 y4 y5 y6) (Pr26b.l0 (k + 1) y0 y1 y2 y3 y4 y5 y6))
 | 0 => ⟨fun _ _ _ _ _ _ _ r h => by simp [Pr26b.j0] at h, fun _ _ _ _ _ _ _ r h => by simp [Pr26b.l0] at h⟩
 | k + 1 => by
  obtain ⟨ih0, ih1⟩ := Pr26b.mono_l k
  refine ⟨?_, ?_⟩
  ·intro y0 y1 y2 y3 y4 y5 y6
   unfold Pr26b.j0
   repeat' first
   | (with_reducible exact ih0 _ _ _ _ _ _ _)
   | (with_reducible exact ih1 _ _ _ _ _ _ _)
   | (with_reducible exact Pr01a.mono _ _ _)
   | (with_reducible exact LeO.refl _)
   | (with_reducible exact LeO.none _)
   | (with_reducible refine LeO.ite ?_ ?_)
   | (with_reducible refine LeO.bind ?_ (fun _ => ?_))
   | exact ih0 _ _ _ _ _ _ _
   | exact ih1 _ _ _ _ _ _ _
   | exact Pr01a.mono _ _ _
   | exact LeO.none _
   | refine LeO.ite ?_ ?_
   | refine LeO.bind ?_ (fun _ => ?_)
  ·intro y0 y1 y2 y3 y4 y5 y6
   unfold Pr26b.l0
   repeat' first
   | (with_reducible exact ih0 _ _ _ _ _ _ _)
   | (with_reducible exact ih1 _ _ _ _ _ _ _)
   | (with_reducible exact Pr01a.mono _ _ _)
   | (with_reducible exact LeO.refl _)
   | (with_reducible exact LeO.none _)
   | (with_reducible refine LeO.ite ?_ ?_)
   | (with_reducible refine LeO.bind ?_ (fun _ => ?_))
   | exact ih0 _ _ _ _ _ _ _
   | exact ih1 _ _ _ _ _ _ _
   | exact Pr01a.mono _ _ _
   | exact LeO.none _
   | refine LeO.ite ?_ ?_
   | refine LeO.bind ?_ (fun _ => ?_)
theorem Pr26b.mono : ∀ a0 a1 a2 a3 a4 a5 k, LeO (Pr26b.f k a0 a1 a2 a3 a4 a5) (Pr26b.f (k + 1) a0 a1 a2 a3 a4 a5) := by
 intro a0 a1 a2 a3 a4 a5 k
 obtain ⟨ih0, ih1⟩ := Pr26b.mono_l k
 unfold Pr26b.f
 repeat' first
   | (with_reducible exact ih0 _ _ _ _ _ _ _)
   | (with_reducible exact ih1 _ _ _ _ _ _ _)
   | (with_reducible exact Pr01a.mono _ _ _)
   | (with_reducible exact LeO.refl _)
   | (with_reducible exact LeO.none _)
   | (with_reducible refine LeO.ite ?_ ?_)
   | (with_reducible refine LeO.bind ?_ (fun _ => ?_))
   | exact ih0 _ _ _ _ _ _ _
   | exact ih1 _ _ _ _ _ _ _
   | exact Pr01a.mono _ _ _
   | exact LeO.none _
   | refine LeO.ite ?_ ?_
   | refine LeO.bind ?_ (fun _ => ?_)
set_option maxHeartbeats 8000000 in
set_option maxRecDepth 100000 in
theorem Pr26b.calls (k : Nat) (a0_0 : Int) (A0_1 : Option Addr) (c0_1 : Nat) (l0_1 : List ByteArray) (A0_2 : Option Addr) (c0_2 : Nat) (l0_2 : List (S51)) (a1_0 : Int) (A1_1 : Option Addr) (c1_1 : Nat) (l1_1 : List ByteArray) (A1_2 : Option Addr) (c1_2 : Nat) (l1_2 : List (S51)) (r : Bool) (w : World) (hr0_1 : Kd.C Kd.string w A0_1 l0_1.length l0_1) (hc0_1 : l0_1.length ≤ c0_1) (hr0_2 : Kd.C k51 w A0_2 l0_2.length l0_2) (hc0_2 : l0_2.length ≤ c0_2) (hr1_1 : Kd.C Kd.string w A1_1 l1_1.length l1_1) (hc1_1 : l1_1.length ≤ c1_1) (hr1_2 : Kd.C k51 w A1_2 l1_2.length l1_2) (hc1_2 : l1_2.length ≤ c1_2) (h : Pr26b.f k a0_0 l0_1 l0_2 a1_0 l1_1 l1_2 = some r) :
  Calls Try.prog 16 #[.agg #[.int .i64 a0_0, .slice A0_1 l0_1.length c0_1, .slice A0_2 l0_2.length c0_2], .agg #[.int .i64 a1_0, .slice A1_1 l1_1.length c1_1, .slice A1_2 l1_2.length c1_2]] w fun e w' => e = .returned (.bool r) ∧ Below w.heap.size w w' := by
 have p6 := Try.underlying25
 have p7 := Try.underlying51
 have d0 := Aside0.mk hr0_1
 have d2 := Aside0.mk hc0_1
 clear hr0_1 hc0_1
 have j4 := Aside0.mk hr0_2
 have o9 := Aside0.mk hc0_2
 clear hr0_2 hc0_2
 have d1 := Aside0.mk hr1_1
 have b9 := Aside0.mk hc1_1
 clear hr1_1 hc1_1
 have j6 := Aside0.mk hr1_2
 have p1 := Aside0.mk hc1_2
 clear hr1_2 hc1_2
 have HB := Aside0.mk (Below.refl w.heap.size w)
 have H : (if a0_0 = a1_0 then ((Pr01a.f k l0_1 l1_1).bind fun i6 => (if i6 = true then (Pr26b.j0 k ((l0_2.length : Int) != (l1_2.length : Int)) a0_0 l0_1 l0_2 a1_0 l1_1 l1_2) else (Pr26b.j0 k true a0_0 l0_1 l0_2 a1_0 l1_1 l1_2))) else (Pr26b.j0 k true a0_0 l0_1 l0_2 a1_0 l1_1 l1_2)) = some r := h
 clear h
 have j9 := Aside0.mk H
 clear H
 go_enter Try.func16, Try.ntmps16
 go_upto_region 1 with (first | ((with_reducible refine gate_dst (N := 2) rfl ?_); (try (refine gate_guard (by rfl) ?_; dsimp only)); refine box_event ?hg (N := 2) ?hd (cs := #[.int .i64 a0_0, .slice A0_1 l0_1.length c0_1, .slice A0_2 l0_2.length c0_2]) (t := 25) ?hr ?_; (case hd => rfl); (case hg => rfl); (case hr => first | (go_simp; done) | (go_simp; rfl)); intro a1 hg w4 hbox hb; have b6 := Aside0.mk (below_step (by repeat (first | (with_reducible first | exact HB.out | apply below_alloc | apply pw_below_drewN | apply below_drew1) | exact HB.out)) hb); have b8 := Aside0.mk (hbox); have b5 := Aside0.mk ((by rw [hg]; exact (below_size (by repeat (first | (with_reducible first | exact HB.out | apply below_alloc | apply pw_below_drewN | apply below_drew1) | exact HB.out))) : w.heap.size ≤ a1)); have b7 := Aside0.mk ((by rw [hg]; exact (below_size (by repeat (first | (with_reducible first | exact HB.out | apply below_alloc | apply pw_below_drewN | apply below_drew1) | exact HB.out))) : w.heap.size ≤ a1)); clear HB; have HB := b6; have a0 := b8; have j8 := b5; have a5 := b7; clear b6 b8 b5 b7; clear hb hbox hg) | ((with_reducible refine gate_dst (N := 3) rfl ?_); (try (refine gate_guard (by rfl) ?_; dsimp only)); refine box_event ?hg (N := 3) ?hd (cs := #[.int .i64 a1_0, .slice A1_1 l1_1.length c1_1, .slice A1_2 l1_2.length c1_2]) (t := 25) ?hr ?_; (case hd => rfl); (case hg => rfl); (case hr => first | (go_simp; done) | (go_simp; rfl)); intro a4 hg w5 hbox hb; have b6 := Aside0.mk (blk_below (g := a1) (o := .cells #[.int .i64 a0_0, .slice A0_1 l0_1.length c0_1, .slice A0_2 l0_2.length c0_2] 25 (0, 0)) (by (with_reducible repeat (first | refine blk_drewN ?_ _ | refine blk_drew ?_ | refine blk_alloc ?_ _)); exact a0.out) hb); have b8 := Aside0.mk (below_step (by repeat (first | (with_reducible first | exact HB.out | apply below_alloc | apply pw_below_drewN | apply below_drew1 | refine below_set ?_ a5.out) | exact HB.out)) hb); have b5 := Aside0.mk (hbox); have b7 := Aside0.mk ((by rw [hg]; exact (below_size (by repeat (first | (with_reducible first | exact HB.out | apply below_alloc | apply pw_below_drewN | apply below_drew1 | refine below_set ?_ a5.out) | exact HB.out))) : w.heap.size ≤ a4)); have e3 := Aside0.mk ((by rw [hg]; exact (below_size (by repeat (first | (with_reducible first | exact HB.out | apply below_alloc | apply pw_below_drewN | apply below_drew1 | refine below_set ?_ a5.out) | exact HB.out))) : w.heap.size ≤ a4)); have e1 := Aside0.mk ((by rw [hg]; exact Nat.ne_of_lt (blk_lt (g := a1) (o := .cells #[.int .i64 a0_0, .slice A0_1 l0_1.length c0_1, .slice A0_2 l0_2.length c0_2] 25 (0, 0)) (by (with_reducible repeat (first | refine blk_drewN ?_ _ | refine blk_drew ?_ | refine blk_alloc ?_ _)); exact a0.out)) : a1 ≠ a4)); have e2 := Aside0.mk ((by rw [hg]; exact Nat.ne_of_gt (blk_lt (g := a1) (o := .cells #[.int .i64 a0_0, .slice A0_1 l0_1.length c0_1, .slice A0_2 l0_2.length c0_2] 25 (0, 0)) (by (with_reducible repeat (first | refine blk_drewN ?_ _ | refine blk_drew ?_ | refine blk_alloc ?_ _)); exact a0.out)) : a4 ≠ a1)); clear a0; clear HB; have a0 := b6; have HB := b8; have a2 := b5; have j7 := b7; have b4 := e3; have a6 := e1; have a7 := e2; clear b6 b8 b5 b7 e3 e1 e2; clear hb hbox hg))
 repeat (go_quiet (first | ((with_reducible refine gate_dst (N := 2) rfl ?_); (try (refine gate_guard (by rfl) ?_; dsimp only)); refine box_event ?hg (N := 2) ?hd (cs := #[.int .i64 a0_0, .slice A0_1 l0_1.length c0_1, .slice A0_2 l0_2.length c0_2]) (t := 25) ?hr ?_; (case hd => rfl); (case hg => rfl); (case hr => first | (go_simp; done) | (go_simp; rfl)); intro a1 hg w4 hbox hb; have b6 := Aside0.mk (below_step (by repeat (first | (with_reducible first | exact HB.out | apply below_alloc | apply pw_below_drewN | apply below_drew1) | exact HB.out)) hb); have b8 := Aside0.mk (hbox); have b5 := Aside0.mk ((by rw [hg]; exact (below_size (by repeat (first | (with_reducible first | exact HB.out | apply below_alloc | apply pw_below_drewN | apply below_drew1) | exact HB.out))) : w.heap.size ≤ a1)); have b7 := Aside0.mk ((by rw [hg]; exact (below_size (by repeat (first | (with_reducible first | exact HB.out | apply below_alloc | apply pw_below_drewN | apply below_drew1) | exact HB.out))) : w.heap.size ≤ a1)); clear HB; have HB := b6; have a0 := b8; have j8 := b5; have a5 := b7; clear b6 b8 b5 b7; clear hb hbox hg) | ((with_reducible refine gate_dst (N := 3) rfl ?_); (try (refine gate_guard (by rfl) ?_; dsimp only)); refine box_event ?hg (N := 3) ?hd (cs := #[.int .i64 a1_0, .slice A1_1 l1_1.length c1_1, .slice A1_2 l1_2.length c1_2]) (t := 25) ?hr ?_; (case hd => rfl); (case hg => rfl); (case hr => first | (go_simp; done) | (go_simp; rfl)); intro a4 hg w5 hbox hb; have b6 := Aside0.mk (blk_below (g := a1) (o := .cells #[.int .i64 a0_0, .slice A0_1 l0_1.length c0_1, .slice A0_2 l0_2.length c0_2] 25 (0, 0)) (by (with_reducible repeat (first | refine blk_drewN ?_ _ | refine blk_drew ?_ | refine blk_alloc ?_ _)); exact a0.out) hb); have b8 := Aside0.mk (below_step (by repeat (first | (with_reducible first | exact HB.out | apply below_alloc | apply pw_below_drewN | apply below_drew1 | refine below_set ?_ a5.out) | exact HB.out)) hb); have b5 := Aside0.mk (hbox); have b7 := Aside0.mk ((by rw [hg]; exact (below_size (by repeat (first | (with_reducible first | exact HB.out | apply below_alloc | apply pw_below_drewN | apply below_drew1 | refine below_set ?_ a5.out) | exact HB.out))) : w.heap.size ≤ a4)); have e3 := Aside0.mk ((by rw [hg]; exact (below_size (by repeat (first | (with_reducible first | exact HB.out | apply below_alloc | apply pw_below_drewN | apply below_drew1 | refine below_set ?_ a5.out) | exact HB.out))) : w.heap.size ≤ a4)); have e1 := Aside0.mk ((by rw [hg]; exact Nat.ne_of_lt (blk_lt (g := a1) (o := .cells #[.int .i64 a0_0, .slice A0_1 l0_1.length c0_1, .slice A0_2 l0_2.length c0_2] 25 (0, 0)) (by (with_reducible repeat (first | refine blk_drewN ?_ _ | refine blk_drew ?_ | refine blk_alloc ?_ _)); exact a0.out)) : a1 ≠ a4)); have e2 := Aside0.mk ((by rw [hg]; exact Nat.ne_of_gt (blk_lt (g := a1) (o := .cells #[.int .i64 a0_0, .slice A0_1 l0_1.length c0_1, .slice A0_2 l0_2.length c0_2] 25 (0, 0)) (by (with_reducible repeat (first | refine blk_drewN ?_ _ | refine blk_drew ?_ | refine blk_alloc ?_ _)); exact a0.out)) : a4 ≠ a1)); clear a0; clear HB; have a0 := b6; have HB := b8; have a2 := b5; have j7 := b7; have b4 := e3; have a6 := e1; have a7 := e2; clear b6 b8 b5 b7 e3 e1 e2; clear hb hbox hg)); go_upto_region 1 with (first | ((with_reducible refine gate_dst (N := 2) rfl ?_); (try (refine gate_guard (by rfl) ?_; dsimp only)); refine box_event ?hg (N := 2) ?hd (cs := #[.int .i64 a0_0, .slice A0_1 l0_1.length c0_1, .slice A0_2 l0_2.length c0_2]) (t := 25) ?hr ?_; (case hd => rfl); (case hg => rfl); (case hr => first | (go_simp; done) | (go_simp; rfl)); intro a1 hg w4 hbox hb; have b6 := Aside0.mk (below_step (by repeat (first | (with_reducible first | exact HB.out | apply below_alloc | apply pw_below_drewN | apply below_drew1) | exact HB.out)) hb); have b8 := Aside0.mk (hbox); have b5 := Aside0.mk ((by rw [hg]; exact (below_size (by repeat (first | (with_reducible first | exact HB.out | apply below_alloc | apply pw_below_drewN | apply below_drew1) | exact HB.out))) : w.heap.size ≤ a1)); have b7 := Aside0.mk ((by rw [hg]; exact (below_size (by repeat (first | (with_reducible first | exact HB.out | apply below_alloc | apply pw_below_drewN | apply below_drew1) | exact HB.out))) : w.heap.size ≤ a1)); clear HB; have HB := b6; have a0 := b8; have j8 := b5; have a5 := b7; clear b6 b8 b5 b7; clear hb hbox hg) | ((with_reducible refine gate_dst (N := 3) rfl ?_); (try (refine gate_guard (by rfl) ?_; dsimp only)); refine box_event ?hg (N := 3) ?hd (cs := #[.int .i64 a1_0, .slice A1_1 l1_1.length c1_1, .slice A1_2 l1_2.length c1_2]) (t := 25) ?hr ?_; (case hd => rfl); (case hg => rfl); (case hr => first | (go_simp; done) | (go_simp; rfl)); intro a4 hg w5 hbox hb; have b6 := Aside0.mk (blk_below (g := a1) (o := .cells #[.int .i64 a0_0, .slice A0_1 l0_1.length c0_1, .slice A0_2 l0_2.length c0_2] 25 (0, 0)) (by (with_reducible repeat (first | refine blk_drewN ?_ _ | refine blk_drew ?_ | refine blk_alloc ?_ _)); exact a0.out) hb); have b8 := Aside0.mk (below_step (by repeat (first | (with_reducible first | exact HB.out | apply below_alloc | apply pw_below_drewN | apply below_drew1 | refine below_set ?_ a5.out) | exact HB.out)) hb); have b5 := Aside0.mk (hbox); have b7 := Aside0.mk ((by rw [hg]; exact (below_size (by repeat (first | (with_reducible first | exact HB.out | apply below_alloc | apply pw_below_drewN | apply below_drew1 | refine below_set ?_ a5.out) | exact HB.out))) : w.heap.size ≤ a4)); have e3 := Aside0.mk ((by rw [hg]; exact (below_size (by repeat (first | (with_reducible first | exact HB.out | apply below_alloc | apply pw_below_drewN | apply below_drew1 | refine below_set ?_ a5.out) | exact HB.out))) : w.heap.size ≤ a4)); have e1 := Aside0.mk ((by rw [hg]; exact Nat.ne_of_lt (blk_lt (g := a1) (o := .cells #[.int .i64 a0_0, .slice A0_1 l0_1.length c0_1, .slice A0_2 l0_2.length c0_2] 25 (0, 0)) (by (with_reducible repeat (first | refine blk_drewN ?_ _ | refine blk_drew ?_ | refine blk_alloc ?_ _)); exact a0.out)) : a1 ≠ a4)); have e2 := Aside0.mk ((by rw [hg]; exact Nat.ne_of_gt (blk_lt (g := a1) (o := .cells #[.int .i64 a0_0, .slice A0_1 l0_1.length c0_1, .slice A0_2 l0_2.length c0_2] 25 (0, 0)) (by (with_reducible repeat (first | refine blk_drewN ?_ _ | refine blk_drew ?_ | refine blk_alloc ?_ _)); exact a0.out)) : a4 ≠ a1)); clear a0; clear HB; have a0 := b6; have HB := b8; have a2 := b5; have j7 := b7; have b4 := e3; have a6 := e1; have a7 := e2; clear b6 b8 b5 b7 e3 e1 e2; clear hb hbox hg)))
 (try simp only [Act.put, List.setIfInBounds_toArray, List.set_cons_zero, List.set_cons_succ])
 go_cut [27] (fun n9 wc => ∃ (kq : Nat) (e4 : Bool), n9 = .bool e4 ∧ Aside0 (Pr26b.j0 kq e4 a0_0 l0_1 l0_2 a1_0 l1_1 l1_2 = some r) ∧ Aside0 (kq ≤ k) ∧ Aside0 (wc.heap[a1]? = some (.cells #[.int .i64 a0_0, (.slice A0_1 l0_1.length c0_1), (.slice A0_2 l0_2.length c0_2)] 25 (0, 0))) ∧ Aside0 (wc.heap[a4]? = some (.cells #[.int .i64 a1_0, (.slice A1_1 l1_1.length c1_1), (.slice A1_2 l1_2.length c1_2)] 25 (0, 0))) ∧ Aside0 (Below w.heap.size w wc))
 case first =>
  have H := j9.out
  clear j9
  by_cases c6 : a0_0 = a1_0
  ·rw [if_pos c6] at H
   have c6b0 : (a0_0 == a1_0) = true := beq_iff_eq.mpr c6
   have c6b1 : (a0_0 != a1_0) = false := bne_eq_false_iff_eq.mpr c6
   clear c6
   (first | rw [c6b0] | (simp only [i64_w, i32_w]; rw [c6b0]) | skip)
   replace H := Option.bind_eq_some_iff.mp H
   obtain ⟨i6, k5, H⟩ := H
   replace H : (if i6 = true then (Pr26b.j0 k ((l0_2.length : Int) != (l1_2.length : Int)) a0_0 l0_1 l0_2 a1_0 l1_1 l1_2) else (Pr26b.j0 k true a0_0 l0_1 l0_2 a1_0 l1_1 l1_2)) = some r := H
   have A7 := Aside0.mk k5
   clear k5
   by_cases c8 : i6 = true
   ·subst c8
    have H1 : (Pr26b.j0 k ((l0_2.length : Int) != (l1_2.length : Int)) a0_0 l0_1 l0_2 a1_0 l1_1 l1_2) = some r := by rw [if_pos rfl] at H; exact H
    clear H
    have H := H1
    clear H1
    have H' := Aside0.mk H
    clear H
    have p8 := a6.out
    have p9 := a7.out
    have g0 : w5.cell? ⟨a1, 0, none⟩ = some (.int .i64 a0_0) := (blk_cell a0.out 0).trans rfl
    have i3 : w5.cell? ⟨a1, 1, none⟩ = some (.slice A0_1 l0_1.length c0_1) := (blk_cell a0.out 1).trans rfl
    have g8 : w5.cell? ⟨a1, 2, none⟩ = some (.slice A0_2 l0_2.length c0_2) := (blk_cell a0.out 2).trans rfl
    have e7 := blk_frozen a0.out 0
    have f5 := blk_frozen a0.out 1
    have i2 := blk_frozen a0.out 2
    have f4 : w5.cell? ⟨a4, 0, none⟩ = some (.int .i64 a1_0) := (blk_cell a2.out 0).trans rfl
    have e9 : w5.cell? ⟨a4, 1, none⟩ = some (.slice A1_1 l1_1.length c1_1) := (blk_cell a2.out 1).trans rfl
    have g9 : w5.cell? ⟨a4, 2, none⟩ = some (.slice A1_2 l1_2.length c1_2) := (blk_cell a2.out 2).trans rfl
    have g7 := blk_frozen a2.out 0
    have g1 := blk_frozen a2.out 1
    have e8 := blk_frozen a2.out 2
    go_wp2_with (first | (go_at_call 36; (with_reducible refine (Pr01a.calls k _ _ l0_1 _ _ l1_1 true _ ?d9 ?d7 ?d8 ?e0 A7.out).mono ?_); (case d9 => repeat (first | exact (Kd.C_below d0.out HB.out) | (with_reducible refine Kd.C_alloc ?_ _) | (with_reducible refine Kd.C_drewN ?_ _) | (with_reducible refine Kd.C_drew ?_))); (case d7 => exact d2.out); (case d8 => repeat (first | exact (Kd.C_below d1.out HB.out) | (with_reducible refine Kd.C_alloc ?_ _) | (with_reducible refine Kd.C_drewN ?_ _) | (with_reducible refine Kd.C_drew ?_))); (case e0 => exact b9.out); rintro e w' ⟨rfl, ⟨nd, rfl⟩⟩; (try first | exact ⟨rfl, _, World.drewN_drewN _ _ _⟩ | exact ⟨rfl, _, Eq.trans (World.drewN_drewN _ _ _) (congrArg (World.drewN _) (Nat.add_assoc _ _ _))⟩)))
    repeat (go_quiet (first | (go_at_call 36; (with_reducible refine (Pr01a.calls k _ _ l0_1 _ _ l1_1 true _ ?d9 ?d7 ?d8 ?e0 A7.out).mono ?_); (case d9 => repeat (first | exact (Kd.C_below d0.out HB.out) | (with_reducible refine Kd.C_alloc ?_ _) | (with_reducible refine Kd.C_drewN ?_ _) | (with_reducible refine Kd.C_drew ?_))); (case d7 => exact d2.out); (case d8 => repeat (first | exact (Kd.C_below d1.out HB.out) | (with_reducible refine Kd.C_alloc ?_ _) | (with_reducible refine Kd.C_drewN ?_ _) | (with_reducible refine Kd.C_drew ?_))); (case e0 => exact b9.out); rintro e w' ⟨rfl, ⟨nd, rfl⟩⟩; (try first | exact ⟨rfl, _, World.drewN_drewN _ _ _⟩ | exact ⟨rfl, _, Eq.trans (World.drewN_drewN _ _ _) (congrArg (World.drewN _) (Nat.add_assoc _ _ _))⟩))); try go_wp2_with (first | (go_at_call 36; (with_reducible refine (Pr01a.calls k _ _ l0_1 _ _ l1_1 true _ ?d9 ?d7 ?d8 ?e0 A7.out).mono ?_); (case d9 => repeat (first | exact (Kd.C_below d0.out HB.out) | (with_reducible refine Kd.C_alloc ?_ _) | (with_reducible refine Kd.C_drewN ?_ _) | (with_reducible refine Kd.C_drew ?_))); (case d7 => exact d2.out); (case d8 => repeat (first | exact (Kd.C_below d1.out HB.out) | (with_reducible refine Kd.C_alloc ?_ _) | (with_reducible refine Kd.C_drewN ?_ _) | (with_reducible refine Kd.C_drew ?_))); (case e0 => exact b9.out); rintro e w' ⟨rfl, ⟨nd, rfl⟩⟩; (try first | exact ⟨rfl, _, World.drewN_drewN _ _ _⟩ | exact ⟨rfl, _, Eq.trans (World.drewN_drewN _ _ _) (congrArg (World.drewN _) (Nat.add_assoc _ _ _))⟩))))
    go_meet
    case rel => exact ⟨_, (((l0_2.length : Int) != (l1_2.length : Int))), (by first | rfl | (simp; done) | (simp [*]; done)), H', ⟨by first | omega | exact Nat.le_refl _⟩, ⟨by (with_reducible repeat (first | refine blk_drewN ?_ _ | refine blk_drew ?_ | refine blk_alloc ?_ _)); exact a0.out⟩, ⟨by (with_reducible repeat (first | refine blk_drewN ?_ _ | refine blk_drew ?_ | refine blk_alloc ?_ _)); exact a2.out⟩, ⟨by repeat (first | (with_reducible first | exact HB.out | apply below_alloc | apply pw_below_drewN | apply below_drew1 | refine below_set ?_ a5.out | refine below_set ?_ b4.out) | exact HB.out)⟩⟩
   ·replace c8 := Bool.eq_false_iff.mpr c8
    subst c8
    have H1 : (Pr26b.j0 k true a0_0 l0_1 l0_2 a1_0 l1_1 l1_2) = some r := by rw [if_neg (show ¬ (false = true) by decide)] at H; exact H
    clear H
    have H := H1
    clear H1
    have H' := Aside0.mk H
    clear H
    have o4 := a6.out
    have o7 := a7.out
    have g5 : w5.cell? ⟨a1, 0, none⟩ = some (.int .i64 a0_0) := (blk_cell a0.out 0).trans rfl
    have g6 : w5.cell? ⟨a1, 1, none⟩ = some (.slice A0_1 l0_1.length c0_1) := (blk_cell a0.out 1).trans rfl
    have h3 : w5.cell? ⟨a1, 2, none⟩ = some (.slice A0_2 l0_2.length c0_2) := (blk_cell a0.out 2).trans rfl
    have i5 := blk_frozen a0.out 0
    have h7 := blk_frozen a0.out 1
    have h2 := blk_frozen a0.out 2
    have h8 : w5.cell? ⟨a4, 0, none⟩ = some (.int .i64 a1_0) := (blk_cell a2.out 0).trans rfl
    have f6 : w5.cell? ⟨a4, 1, none⟩ = some (.slice A1_1 l1_1.length c1_1) := (blk_cell a2.out 1).trans rfl
    have g2 : w5.cell? ⟨a4, 2, none⟩ = some (.slice A1_2 l1_2.length c1_2) := (blk_cell a2.out 2).trans rfl
    have f8 := blk_frozen a2.out 0
    have e5 := blk_frozen a2.out 1
    have h5 := blk_frozen a2.out 2
    go_wp2_with (first | (go_at_call 36; (with_reducible refine (Pr01a.calls k _ _ l0_1 _ _ l1_1 false _ ?d9 ?d7 ?d8 ?e0 A7.out).mono ?_); (case d9 => repeat (first | exact (Kd.C_below d0.out HB.out) | (with_reducible refine Kd.C_alloc ?_ _) | (with_reducible refine Kd.C_drewN ?_ _) | (with_reducible refine Kd.C_drew ?_))); (case d7 => exact d2.out); (case d8 => repeat (first | exact (Kd.C_below d1.out HB.out) | (with_reducible refine Kd.C_alloc ?_ _) | (with_reducible refine Kd.C_drewN ?_ _) | (with_reducible refine Kd.C_drew ?_))); (case e0 => exact b9.out); rintro e w' ⟨rfl, ⟨nd, rfl⟩⟩; (try first | exact ⟨rfl, _, World.drewN_drewN _ _ _⟩ | exact ⟨rfl, _, Eq.trans (World.drewN_drewN _ _ _) (congrArg (World.drewN _) (Nat.add_assoc _ _ _))⟩)))
    repeat (go_quiet (first | (go_at_call 36; (with_reducible refine (Pr01a.calls k _ _ l0_1 _ _ l1_1 false _ ?d9 ?d7 ?d8 ?e0 A7.out).mono ?_); (case d9 => repeat (first | exact (Kd.C_below d0.out HB.out) | (with_reducible refine Kd.C_alloc ?_ _) | (with_reducible refine Kd.C_drewN ?_ _) | (with_reducible refine Kd.C_drew ?_))); (case d7 => exact d2.out); (case d8 => repeat (first | exact (Kd.C_below d1.out HB.out) | (with_reducible refine Kd.C_alloc ?_ _) | (with_reducible refine Kd.C_drewN ?_ _) | (with_reducible refine Kd.C_drew ?_))); (case e0 => exact b9.out); rintro e w' ⟨rfl, ⟨nd, rfl⟩⟩; (try first | exact ⟨rfl, _, World.drewN_drewN _ _ _⟩ | exact ⟨rfl, _, Eq.trans (World.drewN_drewN _ _ _) (congrArg (World.drewN _) (Nat.add_assoc _ _ _))⟩))); try go_wp2_with (first | (go_at_call 36; (with_reducible refine (Pr01a.calls k _ _ l0_1 _ _ l1_1 false _ ?d9 ?d7 ?d8 ?e0 A7.out).mono ?_); (case d9 => repeat (first | exact (Kd.C_below d0.out HB.out) | (with_reducible refine Kd.C_alloc ?_ _) | (with_reducible refine Kd.C_drewN ?_ _) | (with_reducible refine Kd.C_drew ?_))); (case d7 => exact d2.out); (case d8 => repeat (first | exact (Kd.C_below d1.out HB.out) | (with_reducible refine Kd.C_alloc ?_ _) | (with_reducible refine Kd.C_drewN ?_ _) | (with_reducible refine Kd.C_drew ?_))); (case e0 => exact b9.out); rintro e w' ⟨rfl, ⟨nd, rfl⟩⟩; (try first | exact ⟨rfl, _, World.drewN_drewN _ _ _⟩ | exact ⟨rfl, _, Eq.trans (World.drewN_drewN _ _ _) (congrArg (World.drewN _) (Nat.add_assoc _ _ _))⟩))))
    go_meet
    case rel => exact ⟨_, (true), (by first | rfl | (simp; done) | (simp [*]; done)), H', ⟨by first | omega | exact Nat.le_refl _⟩, ⟨by (with_reducible repeat (first | refine blk_drewN ?_ _ | refine blk_drew ?_ | refine blk_alloc ?_ _)); exact a0.out⟩, ⟨by (with_reducible repeat (first | refine blk_drewN ?_ _ | refine blk_drew ?_ | refine blk_alloc ?_ _)); exact a2.out⟩, ⟨by repeat (first | (with_reducible first | exact HB.out | apply below_alloc | apply pw_below_drewN | apply below_drew1 | refine below_set ?_ a5.out | refine below_set ?_ b4.out) | exact HB.out)⟩⟩
  ·rw [if_neg c6] at H
   have c6b0 : (a0_0 == a1_0) = false := beq_eq_false_iff_ne.mpr c6
   have c6b1 : (a0_0 != a1_0) = true := bne_iff_ne.mpr c6
   (first | rw [c6b0] | (simp only [i64_w, i32_w]; rw [c6b0]) | skip)
   have H' := Aside0.mk H
   clear H
   have o8 := a6.out
   have p5 := a7.out
   have i4 : w5.cell? ⟨a1, 0, none⟩ = some (.int .i64 a0_0) := (blk_cell a0.out 0).trans rfl
   have h6 : w5.cell? ⟨a1, 1, none⟩ = some (.slice A0_1 l0_1.length c0_1) := (blk_cell a0.out 1).trans rfl
   have e6 : w5.cell? ⟨a1, 2, none⟩ = some (.slice A0_2 l0_2.length c0_2) := (blk_cell a0.out 2).trans rfl
   have h4 := blk_frozen a0.out 0
   have f3 := blk_frozen a0.out 1
   have f7 := blk_frozen a0.out 2
   have i1 : w5.cell? ⟨a4, 0, none⟩ = some (.int .i64 a1_0) := (blk_cell a2.out 0).trans rfl
   have g3 : w5.cell? ⟨a4, 1, none⟩ = some (.slice A1_1 l1_1.length c1_1) := (blk_cell a2.out 1).trans rfl
   have g4 : w5.cell? ⟨a4, 2, none⟩ = some (.slice A1_2 l1_2.length c1_2) := (blk_cell a2.out 2).trans rfl
   have h0 := blk_frozen a2.out 0
   have h9 := blk_frozen a2.out 1
   have h1 := blk_frozen a2.out 2
   go_wp2
   repeat (go_quiet (fail); try go_wp2)
   go_meet
   case rel => exact ⟨_, (true), (by first | rfl | (simp; done) | (simp [*]; done)), H', ⟨by first | omega | exact Nat.le_refl _⟩, ⟨by (with_reducible repeat (first | refine blk_drewN ?_ _ | refine blk_drew ?_ | refine blk_alloc ?_ _)); exact a0.out⟩, ⟨by (with_reducible repeat (first | refine blk_drewN ?_ _ | refine blk_drew ?_ | refine blk_alloc ?_ _)); exact a2.out⟩, ⟨by repeat (first | (with_reducible first | exact HB.out | apply below_alloc | apply pw_below_drewN | apply below_drew1 | refine below_set ?_ a5.out | refine below_set ?_ b4.out) | exact HB.out)⟩⟩
 case rest =>
  clear j9
  try clear c1
  try clear p2
  try clear c6
  try clear c6b0
  try clear c6b1
  try clear c8
  try clear c9
  try clear o0
  try clear o2
  try clear o1
  try clear g0
  try clear i3
  try clear g8
  try clear f4
  try clear e9
  try clear g9
  try clear g5
  try clear g6
  try clear h3
  try clear h8
  try clear f6
  try clear g2
  try clear i4
  try clear h6
  try clear e6
  try clear i1
  try clear g3
  try clear g4
  try clear e7
  try clear f5
  try clear i2
  try clear g7
  try clear g1
  try clear e8
  try clear i5
  try clear h7
  try clear h2
  try clear f8
  try clear e5
  try clear h5
  try clear h4
  try clear f3
  try clear f7
  try clear h0
  try clear h9
  try clear h1
  obtain ⟨kq, e4, rfl, HA, k4, a0, a2, HB⟩ := hcut
  cases kq with
  | zero => exact absurd HA.out (by simp [Pr26b.j0])
  | succ kj2 =>
   have H := HA.out
   clear HA
   simp only [Pr26b.j0] at H
   by_cases i7 : e4 = true
   ·subst i7
    have H1 : (some false) = some r := by rw [if_pos rfl] at H; exact H
    clear H
    have H := H1
    clear H1
    obtain rfl := Option.some.inj H
    go_wp2
    repeat (go_quiet (fail); try go_wp2)
    go_ret
    exact ⟨by first | rfl | (simp [errW_none, errW_some] <;> rfl) | (simp [*, errW_none, errW_some] <;> rfl), by repeat (first | (with_reducible first | exact HB.out | apply below_alloc | apply pw_below_drewN | apply below_drew1 | refine below_set ?_ a5.out | refine below_set ?_ b4.out) | exact HB.out)⟩
   ·replace i7 := Bool.eq_false_iff.mpr i7
    subst i7
    have H1 : (Pr26b.l0 kj2 0 a0_0 l0_1 l0_2 a1_0 l1_1 l1_2) = some r := by rw [if_neg (show ¬ (false = true) by decide)] at H; exact H
    clear H
    have H := H1
    clear H1
    have H' := Aside0.mk H
    clear H
    go_wp2
    repeat (go_quiet (fail); try go_wp2)
    go_loopg [5] kj2 (fun kq v5 w' => ∃ (a3 : Int), v5 = .int .i64 a3 ∧ Aside0 (Pr26b.l0 kq a3 a0_0 l0_1 l0_2 a1_0 l1_1 l1_2 = some r) ∧ Aside0 (kq ≤ kj2) ∧ Aside0 (w'.heap[a1]? = some (.cells #[.int .i64 a0_0, (.slice A0_1 l0_1.length c0_1), (.slice A0_2 l0_2.length c0_2)] 25 (0, 0))) ∧ Aside0 (w'.heap[a4]? = some (.cells #[.int .i64 a1_0, (.slice A1_1 l1_1.length c1_1), (.slice A1_2 l1_2.length c1_2)] 25 (0, 0))) ∧ Aside0 (Below w.heap.size w w'))
    case atStart => exact ⟨(0), (by first | rfl | (simp; done) | (simp [*]; done)), H', ⟨Nat.le_refl _⟩, ⟨by (with_reducible repeat (first | refine blk_drewN ?_ _ | refine blk_drew ?_ | refine blk_alloc ?_ _)); exact a0.out⟩, ⟨by (with_reducible repeat (first | refine blk_drewN ?_ _ | refine blk_drew ?_ | refine blk_alloc ?_ _)); exact a2.out⟩, ⟨by repeat (first | (with_reducible first | exact HB.out | apply below_alloc | apply pw_below_drewN | apply below_drew1 | refine below_set ?_ a5.out | refine below_set ?_ b4.out) | exact HB.out)⟩⟩
    case round =>
     clear H'
     try clear c1
     try clear p2
     try clear c6
     try clear c6b0
     try clear c6b1
     try clear c8
     try clear c9
     try clear o0
     try clear o2
     try clear o1
     try clear i7
     try clear g0
     try clear i3
     try clear g8
     try clear f4
     try clear e9
     try clear g9
     try clear g5
     try clear g6
     try clear h3
     try clear h8
     try clear f6
     try clear g2
     try clear i4
     try clear h6
     try clear e6
     try clear i1
     try clear g3
     try clear g4
     try clear e7
     try clear f5
     try clear i2
     try clear g7
     try clear g1
     try clear e8
     try clear i5
     try clear h7
     try clear h2
     try clear f8
     try clear e5
     try clear h5
     try clear h4
     try clear f3
     try clear f7
     try clear h0
     try clear h9
     try clear h1
     try clear p2
     obtain ⟨a3, rfl, HA, k3, a0, a2, HB⟩ := hrel
     cases gk with
     | zero => exact absurd HA.out (by simp [Pr26b.l0])
     | succ k2 =>
      have H := HA.out
      clear HA
      simp only [Pr26b.l0] at H
      by_cases f9 : a3 < (l0_2.length : Int)
      ·rw [if_pos f9] at H
       have c19b0 : decide (a3 < (l0_2.length : Int)) = true := decide_eq_true f9
       clear f9
       by_cases j5 : 0 ≤ a3
       ·rw [if_pos j5] at H
        have c20b0 : decide (0 ≤ a3) = true := decide_eq_true j5
        clear j5
        by_cases j3 : a3 < (l1_2.length : Int)
        ·rw [if_pos j3] at H
         have c21b0 : decide (a3 < (l1_2.length : Int)) = true := decide_eq_true j3
         clear j3
         by_cases i0 : (!(((rd_T51 l0_2 a3).f0) == ((rd_T51 l1_2 a3).f0)) || (!(((rd_T51 l0_2 a3).f1) == ((rd_T51 l1_2 a3).f1)) || (!(((rd_T51 l0_2 a3).f2) == ((rd_T51 l1_2 a3).f2))))) = true
         ·rw [if_pos i0] at H
          have c22b0 : (!(((rd_T51 l0_2 a3).f0) == ((rd_T51 l1_2 a3).f0)) || (!(((rd_T51 l0_2 a3).f1) == ((rd_T51 l1_2 a3).f1)) || (!(((rd_T51 l0_2 a3).f2) == ((rd_T51 l1_2 a3).f2))))) = true := i0
          clear i0
          obtain rfl := Option.some.inj H
          have o3 := a6.out
          have p4 := a7.out
          have n3 : wr.cell? ⟨a1, 0, none⟩ = some (.int .i64 a0_0) := (blk_cell a0.out 0).trans rfl
          have m3 : wr.cell? ⟨a1, 1, none⟩ = some (.slice A0_1 l0_1.length c0_1) := (blk_cell a0.out 1).trans rfl
          have l8 : wr.cell? ⟨a1, 2, none⟩ = some (.slice A0_2 l0_2.length c0_2) := (blk_cell a0.out 2).trans rfl
          have m0 := blk_frozen a0.out 0
          have l5 := blk_frozen a0.out 1
          have n7 := blk_frozen a0.out 2
          have d3 : 0 ≤ (a3 : Int) := of_decide_eq_true (by first | (with_reducible assumption) | assumption)
          have d4 : a3 < (l0_2.length : Int) := of_decide_eq_true (by first | (with_reducible assumption) | assumption)
          obtain ⟨k0, i9, b0, a8, b3⟩ := at_T51 j4.out a3 d3 d4
          cases i9
          replace b0 := (HB.out.cell (World.block_lt_of_cell? w _ b0)).trans b0
          replace a8 := (HB.out.cell (World.block_lt_of_cell? w _ a8)).trans a8
          replace b3 := (HB.out.cell (World.block_lt_of_cell? w _ b3)).trans b3
          replace d3 := eq_true d3
          replace d4 := eq_true d4
          have n6 : wr.cell? ⟨a4, 0, none⟩ = some (.int .i64 a1_0) := (blk_cell a2.out 0).trans rfl
          have n0 : wr.cell? ⟨a4, 1, none⟩ = some (.slice A1_1 l1_1.length c1_1) := (blk_cell a2.out 1).trans rfl
          have n8 : wr.cell? ⟨a4, 2, none⟩ = some (.slice A1_2 l1_2.length c1_2) := (blk_cell a2.out 2).trans rfl
          have l7 := blk_frozen a2.out 0
          have k7 := blk_frozen a2.out 1
          have k6 := blk_frozen a2.out 2
          have d6 : 0 ≤ (a3 : Int) := of_decide_eq_true (by first | (with_reducible assumption) | assumption)
          have d5 : a3 < (l1_2.length : Int) := of_decide_eq_true (by first | (with_reducible assumption) | assumption)
          obtain ⟨k1, i8, b2, b1, a9⟩ := at_T51 j6.out a3 d6 d5
          cases i8
          replace b2 := (HB.out.cell (World.block_lt_of_cell? w _ b2)).trans b2
          replace b1 := (HB.out.cell (World.block_lt_of_cell? w _ b1)).trans b1
          replace a9 := (HB.out.cell (World.block_lt_of_cell? w _ a9)).trans a9
          replace d6 := eq_true d6
          replace d5 := eq_true d5
          go_wp2
          repeat (go_quiet (fail); try go_wp2)
          go_ret
          exact ⟨by first | rfl | (simp [errW_none, errW_some] <;> rfl) | (simp [*, errW_none, errW_some] <;> rfl), by repeat (first | (with_reducible first | exact HB.out | apply below_alloc | apply pw_below_drewN | apply below_drew1 | refine below_set ?_ a5.out | refine below_set ?_ b4.out) | exact HB.out)⟩
         ·rw [if_neg i0] at H
          have c22b0 : (!(((rd_T51 l0_2 a3).f0) == ((rd_T51 l1_2 a3).f0)) || (!(((rd_T51 l0_2 a3).f1) == ((rd_T51 l1_2 a3).f1)) || (!(((rd_T51 l0_2 a3).f2) == ((rd_T51 l1_2 a3).f2))))) = false := by simpa using i0
          clear i0
          have H' := Aside0.mk H
          clear H
          have p0 := a6.out
          have o5 := a7.out
          have m7 : wr.cell? ⟨a1, 0, none⟩ = some (.int .i64 a0_0) := (blk_cell a0.out 0).trans rfl
          have l9 : wr.cell? ⟨a1, 1, none⟩ = some (.slice A0_1 l0_1.length c0_1) := (blk_cell a0.out 1).trans rfl
          have n2 : wr.cell? ⟨a1, 2, none⟩ = some (.slice A0_2 l0_2.length c0_2) := (blk_cell a0.out 2).trans rfl
          have k9 := blk_frozen a0.out 0
          have m9 := blk_frozen a0.out 1
          have m4 := blk_frozen a0.out 2
          have d3 : 0 ≤ (a3 : Int) := of_decide_eq_true (by first | (with_reducible assumption) | assumption)
          have d4 : a3 < (l0_2.length : Int) := of_decide_eq_true (by first | (with_reducible assumption) | assumption)
          obtain ⟨k0, i9, b0, a8, b3⟩ := at_T51 j4.out a3 d3 d4
          cases i9
          replace b0 := (HB.out.cell (World.block_lt_of_cell? w _ b0)).trans b0
          replace a8 := (HB.out.cell (World.block_lt_of_cell? w _ a8)).trans a8
          replace b3 := (HB.out.cell (World.block_lt_of_cell? w _ b3)).trans b3
          replace d3 := eq_true d3
          replace d4 := eq_true d4
          have m2 : wr.cell? ⟨a4, 0, none⟩ = some (.int .i64 a1_0) := (blk_cell a2.out 0).trans rfl
          have m1 : wr.cell? ⟨a4, 1, none⟩ = some (.slice A1_1 l1_1.length c1_1) := (blk_cell a2.out 1).trans rfl
          have n4 : wr.cell? ⟨a4, 2, none⟩ = some (.slice A1_2 l1_2.length c1_2) := (blk_cell a2.out 2).trans rfl
          have l6 := blk_frozen a2.out 0
          have l4 := blk_frozen a2.out 1
          have m6 := blk_frozen a2.out 2
          have d6 : 0 ≤ (a3 : Int) := of_decide_eq_true (by first | (with_reducible assumption) | assumption)
          have d5 : a3 < (l1_2.length : Int) := of_decide_eq_true (by first | (with_reducible assumption) | assumption)
          obtain ⟨k1, i8, b2, b1, a9⟩ := at_T51 j6.out a3 d6 d5
          cases i8
          replace b2 := (HB.out.cell (World.block_lt_of_cell? w _ b2)).trans b2
          replace b1 := (HB.out.cell (World.block_lt_of_cell? w _ b1)).trans b1
          replace a9 := (HB.out.cell (World.block_lt_of_cell? w _ a9)).trans a9
          replace d6 := eq_true d6
          replace d5 := eq_true d5
          go_wp2
          repeat (go_quiet (fail); try go_wp2)
          go_roundg k2
          case measure => have := k4.out; have := k3.out; omega
          case rel => exact ⟨(wrap64 (a3 + 1)), (by first | rfl | (simp; done) | (simp [*]; done)), H', ⟨by have := k4.out; have := k3.out; omega⟩, ⟨by (with_reducible repeat (first | refine blk_drewN ?_ _ | refine blk_drew ?_ | refine blk_alloc ?_ _)); exact a0.out⟩, ⟨by (with_reducible repeat (first | refine blk_drewN ?_ _ | refine blk_drew ?_ | refine blk_alloc ?_ _)); exact a2.out⟩, ⟨by repeat (first | (with_reducible first | exact HB.out | apply below_alloc | apply pw_below_drewN | apply below_drew1 | refine below_set ?_ a5.out | refine below_set ?_ b4.out) | exact HB.out)⟩⟩
        ·rw [if_neg j3] at H
         exact absurd H (by simp)
       ·rw [if_neg j5] at H
        exact absurd H (by simp)
      ·rw [if_neg f9] at H
       have c19b0 : decide (a3 < (l0_2.length : Int)) = false := decide_eq_false f9
       clear f9
       obtain rfl := Option.some.inj H
       have p3 := a6.out
       have o6 := a7.out
       have m5 : wr.cell? ⟨a1, 0, none⟩ = some (.int .i64 a0_0) := (blk_cell a0.out 0).trans rfl
       have m8 : wr.cell? ⟨a1, 1, none⟩ = some (.slice A0_1 l0_1.length c0_1) := (blk_cell a0.out 1).trans rfl
       have l3 : wr.cell? ⟨a1, 2, none⟩ = some (.slice A0_2 l0_2.length c0_2) := (blk_cell a0.out 2).trans rfl
       have n1 := blk_frozen a0.out 0
       have k8 := blk_frozen a0.out 1
       have n5 := blk_frozen a0.out 2
       go_wp2
       repeat (go_quiet (fail); try go_wp2)
       go_ret
       exact ⟨by first | rfl | (simp [errW_none, errW_some] <;> rfl) | (simp [*, errW_none, errW_some] <;> rfl), by repeat (first | (with_reducible first | exact HB.out | apply below_alloc | apply pw_below_drewN | apply below_drew1 | refine below_set ?_ a5.out | refine below_set ?_ b4.out) | exact HB.out)⟩
mutual
def Pr26a.l0 : Nat → Int → Int → List ByteArray → List (S51) → Option (Bool)
 | 0, _, _, _, _ => none
 | k + 1, x3, x109000, x109001, x109002 => if x3 < (x109001.length : Int) then (Pr26a.j1 k x3 (decide (x3 < 70)) x109000 x109001 x109002) else (Pr26a.j1 k x3 false x109000 x109001 x109002)
def Pr26a.j1 : Nat → Int → Bool → Int → List ByteArray → List (S51) → Option (Bool)
 | 0, _, _, _, _, _ => none
 | k + 1, x3, x12, x109000, x109001, x109002 => if x12 = true then (if 0 ≤ x3 then (if x3 < (x109001.length : Int) then (if ((rdOf ByteArray.empty x109001 x3).size : Int) > 300 then (some false) else (Pr26a.l0 k (wrap64 (x3 + 1)) x109000 x109001 x109002)) else (none)) else (none)) else (if (x109001.length : Int) < 70 then (if (x109002.length : Int) ≤ 200 then (if x109000 ≤ 60 then (some true) else (some (decide (x109000 > 2048)))) else (some false)) else (some false))
end
def Pr26a.f (k : Nat) (a0_0 : Int) (l0_1 : List ByteArray) (l0_2 : List (S51)) : Option (Bool) := Pr26a.l0 k 0 a0_0 l0_1 l0_2
theorem Pr26a.mono_l : ∀ k, (∀ y0 y1 y2 y3, LeO (Pr26a.l0 k y0 y1 y2 y3) (Pr26a.l0 (k + 1) y0 y1 y2 y3)) ∧ (∀ y0 y1 y2 y3 y4, LeO (Pr26a.j1 k y0 y1 y2 y3 y4) (Pr26a.j1 (k + 1) y0 y1 y2 y3 y4))
 | 0 => ⟨fun _ _ _ _ r h => by simp [Pr26a.l0] at h, fun _ _ _ _ _ r h => by simp [Pr26a.j1] at h⟩
 | k + 1 => by
  obtain ⟨ih0, ih1⟩ := Pr26a.mono_l k
  refine ⟨?_, ?_⟩
  ·intro y0 y1 y2 y3
   unfold Pr26a.l0
   repeat' first
   | (with_reducible exact ih0 _ _ _ _)
   | (with_reducible exact ih1 _ _ _ _ _)
   | (with_reducible exact LeO.refl _)
   | (with_reducible exact LeO.none _)
   | (with_reducible refine LeO.ite ?_ ?_)
   | (with_reducible refine LeO.bind ?_ (fun _ => ?_))
   | exact ih0 _ _ _ _
   | exact ih1 _ _ _ _ _
   | exact LeO.none _
   | refine LeO.ite ?_ ?_
   | refine LeO.bind ?_ (fun _ => ?_)
  ·intro y0 y1 y2 y3 y4
   unfold Pr26a.j1
   repeat' first
   | (with_reducible exact ih0 _ _ _ _)
   | (with_reducible exact ih1 _ _ _ _ _)
   | (with_reducible exact LeO.refl _)
   | (with_reducible exact LeO.none _)
   | (with_reducible refine LeO.ite ?_ ?_)
   | (with_reducible refine LeO.bind ?_ (fun _ => ?_))
   | exact ih0 _ _ _ _
   | exact ih1 _ _ _ _ _
   | exact LeO.none _
   | refine LeO.ite ?_ ?_
   | refine LeO.bind ?_ (fun _ => ?_)
theorem Pr26a.mono : ∀ a0 a1 a2 k, LeO (Pr26a.f k a0 a1 a2) (Pr26a.f (k + 1) a0 a1 a2) := by
 intro a0 a1 a2 k
 obtain ⟨ih0, ih1⟩ := Pr26a.mono_l k
 unfold Pr26a.f
 repeat' first
   | (with_reducible exact ih0 _ _ _ _)
   | (with_reducible exact ih1 _ _ _ _ _)
   | (with_reducible exact LeO.refl _)
   | (with_reducible exact LeO.none _)
   | (with_reducible refine LeO.ite ?_ ?_)
   | (with_reducible refine LeO.bind ?_ (fun _ => ?_))
   | exact ih0 _ _ _ _
   | exact ih1 _ _ _ _ _
   | exact LeO.none _
   | refine LeO.ite ?_ ?_
   | refine LeO.bind ?_ (fun _ => ?_)
set_option maxHeartbeats 8000000 in
set_option maxRecDepth 100000 in
theorem Pr26a.calls (k : Nat) (a0_0 : Int) (A0_1 : Option Addr) (c0_1 : Nat) (l0_1 : List ByteArray) (A0_2 : Option Addr) (c0_2 : Nat) (l0_2 : List (S51)) (r : Bool) (w : World) (hr0_1 : Kd.C Kd.string w A0_1 l0_1.length l0_1) (hc0_1 : l0_1.length ≤ c0_1) (hr0_2 : Kd.C k51 w A0_2 l0_2.length l0_2) (hc0_2 : l0_2.length ≤ c0_2) (h : Pr26a.f k a0_0 l0_1 l0_2 = some r) :
  Calls Try.prog 23 #[.agg #[.int .i64 a0_0, .slice A0_1 l0_1.length c0_1, .slice A0_2 l0_2.length c0_2]] w fun e w' => e = .returned (.bool r) ∧ Below w.heap.size w w' := by
 have i4 := Try.underlying25
 have b3 := Aside0.mk hr0_1
 have i1 := Aside0.mk hc0_1
 clear hr0_1 hc0_1
 have i2 := Aside0.mk hr0_2
 have i3 := Aside0.mk hc0_2
 clear hr0_2 hc0_2
 have HB := Aside0.mk (Below.refl w.heap.size w)
 have H : (Pr26a.l0 k 0 a0_0 l0_1 l0_2) = some r := h
 clear h
 have H' := Aside0.mk H
 clear H
 go_enter Try.func23, Try.ntmps23
 go_wp2_with (first | ((with_reducible refine gate_dst (N := 1) rfl ?_); (try (refine gate_guard (by rfl) ?_; dsimp only)); refine box_event ?hg (N := 1) ?hd (cs := #[.int .i64 a0_0, .slice A0_1 l0_1.length c0_1, .slice A0_2 l0_2.length c0_2]) (t := 25) ?hr ?_; (case hd => rfl); (case hg => rfl); (case hr => first | (go_simp; done) | (go_simp; rfl)); intro a1 hg w2 hbox hb; have e0 := Aside0.mk (below_step (by repeat (first | (with_reducible first | exact HB.out | apply below_alloc | apply pw_below_drewN | apply below_drew1) | exact HB.out)) hb); have e1 := Aside0.mk (hbox); have d8 := Aside0.mk ((by rw [hg]; exact (below_size (by repeat (first | (with_reducible first | exact HB.out | apply below_alloc | apply pw_below_drewN | apply below_drew1) | exact HB.out))) : w.heap.size ≤ a1)); have e2 := Aside0.mk ((by rw [hg]; exact (below_size (by repeat (first | (with_reducible first | exact HB.out | apply below_alloc | apply pw_below_drewN | apply below_drew1) | exact HB.out))) : w.heap.size ≤ a1)); clear HB; have HB := e0; have a0 := e1; have i0 := d8; have a4 := e2; clear e0 e1 d8 e2; clear hb hbox hg))
 go_loopg [3] k (fun kq v3 w' => ∃ (a2 : Int), v3 = .int .i64 a2 ∧ Aside0 (Pr26a.l0 kq a2 a0_0 l0_1 l0_2 = some r) ∧ Aside0 (kq ≤ k) ∧ Aside0 (w'.heap[a1]? = some (.cells #[.int .i64 a0_0, (.slice A0_1 l0_1.length c0_1), (.slice A0_2 l0_2.length c0_2)] 25 (0, 0))) ∧ Aside0 (Below w.heap.size w w'))
 case atStart => exact ⟨(0), (by first | rfl | (simp; done) | (simp [*]; done)), H', ⟨Nat.le_refl _⟩, ⟨by (with_reducible repeat (first | refine blk_drewN ?_ _ | refine blk_drew ?_ | refine blk_alloc ?_ _)); exact a0.out⟩, ⟨by repeat (first | (with_reducible first | exact HB.out | apply below_alloc | apply pw_below_drewN | apply below_drew1 | refine below_set ?_ a4.out) | exact HB.out)⟩⟩
 case round =>
  clear H'
  try clear c2
  try clear p2
  obtain ⟨a2, rfl, HA, b2, a0, HB⟩ := hrel
  cases gk with
  | zero => exact absurd HA.out (by simp [Pr26a.l0])
  | succ k1 =>
   have H := HA.out
   clear HA
   simp only [Pr26a.l0] at H
   have b8 := Aside0.mk H
   clear H
   go_upto_region 2 with (fail)
   go_cut [12] (fun h9 wc => ∃ (kq : Nat) (a7 : Bool), h9 = .bool a7 ∧ Aside0 (Pr26a.j1 kq a2 a7 a0_0 l0_1 l0_2 = some r) ∧ Aside0 (kq ≤ k1) ∧ Aside0 (wc.heap[a1]? = some (.cells #[.int .i64 a0_0, (.slice A0_1 l0_1.length c0_1), (.slice A0_2 l0_2.length c0_2)] 25 (0, 0))) ∧ Aside0 (Below w.heap.size w wc))
   case first =>
    have H := b8.out
    clear b8
    by_cases c4 : a2 < (l0_1.length : Int)
    ·rw [if_pos c4] at H
     have c4b0 : decide (a2 < (l0_1.length : Int)) = true := decide_eq_true c4
     clear c4
     (first | rw [c4b0] | (simp only [i64_w, i32_w]; rw [c4b0]) | skip)
     have H' := Aside0.mk H
     clear H
     have d1 : wr.cell? ⟨a1, 0, none⟩ = some (.int .i64 a0_0) := (blk_cell a0.out 0).trans rfl
     have b9 : wr.cell? ⟨a1, 1, none⟩ = some (.slice A0_1 l0_1.length c0_1) := (blk_cell a0.out 1).trans rfl
     have d0 : wr.cell? ⟨a1, 2, none⟩ = some (.slice A0_2 l0_2.length c0_2) := (blk_cell a0.out 2).trans rfl
     have b5 := blk_frozen a0.out 0
     have b4 := blk_frozen a0.out 1
     have d4 := blk_frozen a0.out 2
     go_wp2
     go_meet
     case rel => exact ⟨_, (decide (a2 < 70)), (by first | rfl | (simp; done) | (simp [*]; done)), H', ⟨by have := b2.out; first | omega | exact Nat.le_refl _⟩, ⟨by (with_reducible repeat (first | refine blk_drewN ?_ _ | refine blk_drew ?_ | refine blk_alloc ?_ _)); exact a0.out⟩, ⟨by repeat (first | (with_reducible first | exact HB.out | apply below_alloc | apply pw_below_drewN | apply below_drew1 | refine below_set ?_ a4.out) | exact HB.out)⟩⟩
    ·rw [if_neg c4] at H
     have c4b0 : decide (a2 < (l0_1.length : Int)) = false := decide_eq_false c4
     clear c4
     (first | rw [c4b0] | (simp only [i64_w, i32_w]; rw [c4b0]) | skip)
     have H' := Aside0.mk H
     clear H
     have b6 : wr.cell? ⟨a1, 0, none⟩ = some (.int .i64 a0_0) := (blk_cell a0.out 0).trans rfl
     have d3 : wr.cell? ⟨a1, 1, none⟩ = some (.slice A0_1 l0_1.length c0_1) := (blk_cell a0.out 1).trans rfl
     have d5 : wr.cell? ⟨a1, 2, none⟩ = some (.slice A0_2 l0_2.length c0_2) := (blk_cell a0.out 2).trans rfl
     have d2 := blk_frozen a0.out 0
     have b7 := blk_frozen a0.out 1
     have d6 := blk_frozen a0.out 2
     go_wp2
     go_meet
     case rel => exact ⟨_, (false), (by first | rfl | (simp; done) | (simp [*]; done)), H', ⟨by have := b2.out; first | omega | exact Nat.le_refl _⟩, ⟨by (with_reducible repeat (first | refine blk_drewN ?_ _ | refine blk_drew ?_ | refine blk_alloc ?_ _)); exact a0.out⟩, ⟨by repeat (first | (with_reducible first | exact HB.out | apply below_alloc | apply pw_below_drewN | apply below_drew1 | refine below_set ?_ a4.out) | exact HB.out)⟩⟩
   case rest =>
    clear b8
    try clear c2
    try clear p2
    try clear c4
    try clear c4b0
    try clear d1
    try clear b9
    try clear d0
    try clear b6
    try clear d3
    try clear d5
    try clear b5
    try clear b4
    try clear d4
    try clear d2
    try clear b7
    try clear d6
    try clear p2
    obtain ⟨kq, a7, rfl, HA, d9, a0, HB⟩ := hcut
    cases kq with
    | zero => exact absurd HA.out (by simp [Pr26a.j1])
    | succ kj2 =>
     have H := HA.out
     clear HA
     simp only [Pr26a.j1] at H
     by_cases c7 : a7 = true
     ·subst c7
      have H1 : (if 0 ≤ a2 then (if a2 < (l0_1.length : Int) then (if ((rdOf ByteArray.empty l0_1 a2).size : Int) > 300 then (some false) else (Pr26a.l0 kj2 (wrap64 (a2 + 1)) a0_0 l0_1 l0_2)) else (none)) else (none)) = some r := by rw [if_pos rfl] at H; exact H
      clear H
      have H := H1
      clear H1
      by_cases c8 : 0 ≤ a2
      ·rw [if_pos c8] at H
       have c8b0 : decide (0 ≤ a2) = true := decide_eq_true c8
       clear c8
       by_cases c9 : a2 < (l0_1.length : Int)
       ·rw [if_pos c9] at H
        have c9b0 : decide (a2 < (l0_1.length : Int)) = true := decide_eq_true c9
        clear c9
        by_cases c10 : ((rdOf ByteArray.empty l0_1 a2).size : Int) > 300
        ·rw [if_pos c10] at H
         have c10b0 : decide (300 < ((rdOf ByteArray.empty l0_1 a2).size : Int)) = true := decide_eq_true c10
         have c10b1 : decide (300 < (rdOf ByteArray.empty l0_1 a2).size) = true := decide_eq_true (by omega)
         clear c10
         obtain rfl := Option.some.inj H
         have h3 : wc.cell? ⟨a1, 0, none⟩ = some (.int .i64 a0_0) := (blk_cell a0.out 0).trans rfl
         have g9 : wc.cell? ⟨a1, 1, none⟩ = some (.slice A0_1 l0_1.length c0_1) := (blk_cell a0.out 1).trans rfl
         have g3 : wc.cell? ⟨a1, 2, none⟩ = some (.slice A0_2 l0_2.length c0_2) := (blk_cell a0.out 2).trans rfl
         have f3 := blk_frozen a0.out 0
         have f6 := blk_frozen a0.out 1
         have f5 := blk_frozen a0.out 2
         have a6 : 0 ≤ (a2 : Int) := of_decide_eq_true (by first | (with_reducible assumption) | assumption)
         have a5 : a2 < (l0_1.length : Int) := of_decide_eq_true (by first | (with_reducible assumption) | assumption)
         obtain ⟨d7, b1, a3⟩ := Kd.at_string b3.out a2 a6 a5
         cases b1
         replace a3 := (HB.out.cell (World.block_lt_of_cell? w _ a3)).trans a3
         replace a6 := eq_true a6
         replace a5 := eq_true a5
         go_wp2
         go_ret
         exact ⟨by first | rfl | (simp [errW_none, errW_some] <;> rfl) | (simp [*, errW_none, errW_some] <;> rfl), by repeat (first | (with_reducible first | exact HB.out | apply below_alloc | apply pw_below_drewN | apply below_drew1 | refine below_set ?_ a4.out) | exact HB.out)⟩
        ·rw [if_neg c10] at H
         have c10b0 : decide (300 < ((rdOf ByteArray.empty l0_1 a2).size : Int)) = false := decide_eq_false c10
         have c10b1 : decide (300 < (rdOf ByteArray.empty l0_1 a2).size) = false := decide_eq_false (by omega)
         clear c10
         have H' := Aside0.mk H
         clear H
         have g5 : wc.cell? ⟨a1, 0, none⟩ = some (.int .i64 a0_0) := (blk_cell a0.out 0).trans rfl
         have f4 : wc.cell? ⟨a1, 1, none⟩ = some (.slice A0_1 l0_1.length c0_1) := (blk_cell a0.out 1).trans rfl
         have g2 : wc.cell? ⟨a1, 2, none⟩ = some (.slice A0_2 l0_2.length c0_2) := (blk_cell a0.out 2).trans rfl
         have e5 := blk_frozen a0.out 0
         have h2 := blk_frozen a0.out 1
         have e6 := blk_frozen a0.out 2
         have a6 : 0 ≤ (a2 : Int) := of_decide_eq_true (by first | (with_reducible assumption) | assumption)
         have a5 : a2 < (l0_1.length : Int) := of_decide_eq_true (by first | (with_reducible assumption) | assumption)
         obtain ⟨d7, b1, a3⟩ := Kd.at_string b3.out a2 a6 a5
         cases b1
         replace a3 := (HB.out.cell (World.block_lt_of_cell? w _ a3)).trans a3
         replace a6 := eq_true a6
         replace a5 := eq_true a5
         go_wp2
         go_roundg kj2
         case measure => have := b2.out; have := d9.out; omega
         case rel => exact ⟨(wrap64 (a2 + 1)), (by first | rfl | (simp; done) | (simp [*]; done)), H', ⟨by have := b2.out; have := d9.out; omega⟩, ⟨by (with_reducible repeat (first | refine blk_drewN ?_ _ | refine blk_drew ?_ | refine blk_alloc ?_ _)); exact a0.out⟩, ⟨by repeat (first | (with_reducible first | exact HB.out | apply below_alloc | apply pw_below_drewN | apply below_drew1 | refine below_set ?_ a4.out) | exact HB.out)⟩⟩
       ·rw [if_neg c9] at H
        exact absurd H (by simp)
      ·rw [if_neg c8] at H
       exact absurd H (by simp)
     ·replace c7 := Bool.eq_false_iff.mpr c7
      subst c7
      have H1 : (if (l0_1.length : Int) < 70 then (if (l0_2.length : Int) ≤ 200 then (if a0_0 ≤ 60 then (some true) else (some (decide (a0_0 > 2048)))) else (some false)) else (some false)) = some r := by rw [if_neg (show ¬ (false = true) by decide)] at H; exact H
      clear H
      have H := H1
      clear H1
      by_cases a8 : (l0_1.length : Int) < 70
      ·rw [if_pos a8] at H
       have c13b0 : decide ((l0_1.length : Int) < 70) = true := decide_eq_true a8
       have c13b1 : decide (l0_1.length < 70) = true := decide_eq_true (by omega)
       clear a8
       by_cases a9 : (l0_2.length : Int) ≤ 200
       ·rw [if_pos a9] at H
        have c14b0 : decide ((l0_2.length : Int) ≤ 200) = true := decide_eq_true a9
        have c14b1 : decide (l0_2.length ≤ 200) = true := decide_eq_true (by omega)
        clear a9
        by_cases b0 : a0_0 ≤ 60
        ·rw [if_pos b0] at H
         have c15b0 : decide (a0_0 ≤ 60) = true := decide_eq_true b0
         clear b0
         obtain rfl := Option.some.inj H
         have h4 : wc.cell? ⟨a1, 0, none⟩ = some (.int .i64 a0_0) := (blk_cell a0.out 0).trans rfl
         have h6 : wc.cell? ⟨a1, 1, none⟩ = some (.slice A0_1 l0_1.length c0_1) := (blk_cell a0.out 1).trans rfl
         have f2 : wc.cell? ⟨a1, 2, none⟩ = some (.slice A0_2 l0_2.length c0_2) := (blk_cell a0.out 2).trans rfl
         have h5 := blk_frozen a0.out 0
         have h1 := blk_frozen a0.out 1
         have e4 := blk_frozen a0.out 2
         go_wp2
         go_ret
         exact ⟨by first | rfl | (simp [errW_none, errW_some] <;> rfl) | (simp [*, errW_none, errW_some] <;> rfl), by repeat (first | (with_reducible first | exact HB.out | apply below_alloc | apply pw_below_drewN | apply below_drew1 | refine below_set ?_ a4.out) | exact HB.out)⟩
        ·rw [if_neg b0] at H
         have c15b0 : decide (a0_0 ≤ 60) = false := decide_eq_false b0
         clear b0
         obtain rfl := Option.some.inj H
         have g6 : wc.cell? ⟨a1, 0, none⟩ = some (.int .i64 a0_0) := (blk_cell a0.out 0).trans rfl
         have f8 : wc.cell? ⟨a1, 1, none⟩ = some (.slice A0_1 l0_1.length c0_1) := (blk_cell a0.out 1).trans rfl
         have g4 : wc.cell? ⟨a1, 2, none⟩ = some (.slice A0_2 l0_2.length c0_2) := (blk_cell a0.out 2).trans rfl
         have g7 := blk_frozen a0.out 0
         have f7 := blk_frozen a0.out 1
         have h0 := blk_frozen a0.out 2
         go_wp2
         go_ret
         exact ⟨by first | rfl | (simp [errW_none, errW_some] <;> rfl) | (simp [*, errW_none, errW_some] <;> rfl), by repeat (first | (with_reducible first | exact HB.out | apply below_alloc | apply pw_below_drewN | apply below_drew1 | refine below_set ?_ a4.out) | exact HB.out)⟩
       ·rw [if_neg a9] at H
        have c14b0 : decide ((l0_2.length : Int) ≤ 200) = false := decide_eq_false a9
        have c14b1 : decide (l0_2.length ≤ 200) = false := decide_eq_false (by omega)
        clear a9
        obtain rfl := Option.some.inj H
        have h7 : wc.cell? ⟨a1, 0, none⟩ = some (.int .i64 a0_0) := (blk_cell a0.out 0).trans rfl
        have e7 : wc.cell? ⟨a1, 1, none⟩ = some (.slice A0_1 l0_1.length c0_1) := (blk_cell a0.out 1).trans rfl
        have f9 : wc.cell? ⟨a1, 2, none⟩ = some (.slice A0_2 l0_2.length c0_2) := (blk_cell a0.out 2).trans rfl
        have g0 := blk_frozen a0.out 0
        have g1 := blk_frozen a0.out 1
        have e3 := blk_frozen a0.out 2
        go_wp2
        go_ret
        exact ⟨by first | rfl | (simp [errW_none, errW_some] <;> rfl) | (simp [*, errW_none, errW_some] <;> rfl), by repeat (first | (with_reducible first | exact HB.out | apply below_alloc | apply pw_below_drewN | apply below_drew1 | refine below_set ?_ a4.out) | exact HB.out)⟩
      ·rw [if_neg a8] at H
       have c13b0 : decide ((l0_1.length : Int) < 70) = false := decide_eq_false a8
       have c13b1 : decide (l0_1.length < 70) = false := decide_eq_false (by omega)
       clear a8
       obtain rfl := Option.some.inj H
       have e8 : wc.cell? ⟨a1, 0, none⟩ = some (.int .i64 a0_0) := (blk_cell a0.out 0).trans rfl
       have h8 : wc.cell? ⟨a1, 1, none⟩ = some (.slice A0_1 l0_1.length c0_1) := (blk_cell a0.out 1).trans rfl
       have e9 : wc.cell? ⟨a1, 2, none⟩ = some (.slice A0_2 l0_2.length c0_2) := (blk_cell a0.out 2).trans rfl
       have g8 := blk_frozen a0.out 0
       have f0 := blk_frozen a0.out 1
       have f1 := blk_frozen a0.out 2
       go_wp2
       go_ret
       exact ⟨by first | rfl | (simp [errW_none, errW_some] <;> rfl) | (simp [*, errW_none, errW_some] <;> rfl), by repeat (first | (with_reducible first | exact HB.out | apply below_alloc | apply pw_below_drewN | apply below_drew1 | refine below_set ?_ a4.out) | exact HB.out)⟩
end Go.Proofs.Ythaaockbapbooaa.Pr
set_option linter.unusedVariables false
set_option linter.unusedSimpArgs false
namespace Go.Proofs.Ythaaockbapbooaa.H
open Go.RowKit Go.Proofs.Ythaaockbapbooaa.Pr Go.Proofs.YthaaockbapbooaaW.PrintWords Go.Proofs.Ythaaockbapbooaa.Sem
def SmallL (n : Int) (ls : List ByteArray) (es : List Ed) : Prop := (n ≤ 60 ∨ 2048 < n) ∧ es.length ≤ 200 ∧ ls.length < 70
theorem light26_end (n : Int) (ls : List ByteArray) (es : List Ed) (i : Int) : ∃ b, Ev (fun k => Pr26a.j1 k i false n ls es) b ∧ (b = true → SmallL n ls es) := by
 by_cases h1 : (ls.length : Int) < 70
 ·by_cases h2 : (es.length : Int) ≤ 200
  ·by_cases h3 : n ≤ 60
   ·exact ⟨true, Ev.step (fun k => Pr26a.j1.eq_2 ..) (Ev.neg (by simp) (Ev.pos h1 (Ev.pos h2 (Ev.pos h3 (Ev.now _))))), fun _ => ⟨.inl h3, by omega, by omega⟩⟩
   ·exact ⟨decide (n > 2048), Ev.step (fun k => Pr26a.j1.eq_2 ..) (Ev.neg (by simp) (Ev.pos h1 (Ev.pos h2 (Ev.neg h3 (Ev.now _))))), fun h => ⟨.inr (of_decide_eq_true h), by omega, by omega⟩⟩
  ·exact ⟨false, Ev.step (fun k => Pr26a.j1.eq_2 ..) (Ev.neg (by simp) (Ev.pos h1 (Ev.neg h2 (Ev.now _)))), fun h => by cases h⟩
 ·exact ⟨false, Ev.step (fun k => Pr26a.j1.eq_2 ..) (Ev.neg (by simp) (Ev.neg h1 (Ev.now _))), fun h => by cases h⟩
theorem light26_ev (n : Int) (ls : List ByteArray) (es : List Ed) : ∀ d i : Nat, i + d = 70 → ∃ b, Ev (fun k => Pr26a.l0 k (i : Int) n ls es) b ∧ (b = true → SmallL n ls es)
 | 0, i, h => by
  obtain ⟨b, e, hb⟩ := light26_end n ls es (i : Int)
  refine ⟨b, Ev.step (fun k => Pr26a.l0.eq_2 ..) ?_, hb⟩
  rw [decide_eq_false (show ¬ (i : Int) < 70 by omega)]
  simp only [ite_self]
  exact e
 | d + 1, i, h => by
  by_cases hl : (i : Int) < (ls.length : Int)
  ·by_cases hs : ((rdOf ByteArray.empty ls (i : Int)).size : Int) > 300
   ·refine ⟨false, Ev.step (fun k => Pr26a.l0.eq_2 ..) (Ev.pos hl ?_), fun h => by cases h⟩
    rw [decide_eq_true (show (i : Int) < 70 by omega)]
    exact Ev.step (fun k => Pr26a.j1.eq_2 ..) (Ev.pos rfl (Ev.pos (by omega) (Ev.pos hl (Ev.pos hs (Ev.now _)))))
   ·obtain ⟨b, e, hb⟩ := light26_ev n ls es d (i + 1) (by omega)
    refine ⟨b, Ev.step (fun k => Pr26a.l0.eq_2 ..) (Ev.pos hl ?_), hb⟩
    rw [decide_eq_true (show (i : Int) < 70 by omega)]
    refine Ev.step (fun k => Pr26a.j1.eq_2 ..) (Ev.pos rfl (Ev.pos (by omega) (Ev.pos hl (Ev.neg hs ?_))))
    rw [w1n (by omega)]
    exact e
  ·obtain ⟨b, e, hb⟩ := light26_end n ls es (i : Int)
   exact ⟨b, Ev.step (fun k => Pr26a.l0.eq_2 ..) (Ev.neg hl e), hb⟩
theorem light_ev (n : Int) (ls : List ByteArray) (es : List Ed) : ∃ b, Ev (fun k => Pr26a.f k n ls es) b ∧ (b = true → SmallL n ls es) := light26_ev n ls es 70 0 rfl
end Go.Proofs.Ythaaockbapbooaa.H
set_option linter.unusedVariables false
set_option linter.unusedSimpArgs false
namespace Go.Proofs.Ythaaockbapbooaa.PL
section
variable {α : Type} {lt : α → α → Prop}
theorem uniqueG (ir : ∀ a, ¬ lt a a) (tr : ∀ a b c, lt a b → lt b c → lt a c) : ∀ (a b : List α), a.Pairwise lt → b.Pairwise lt → (∀ x, x ∈ a ↔ x ∈ b) → a = b
 | [], [], _, _, _ => rfl
 | [], y :: r, _, _, h => by have := (h y).2 (List.mem_cons_self ..); cases this
 | x :: r, [], _, _, h => by have := (h x).1 (List.mem_cons_self ..); cases this
 | x :: r, y :: s, ha, hb, h => by
  have ha' := List.pairwise_cons.1 ha
  have hb' := List.pairwise_cons.1 hb
  have e : x = y := by
   rcases List.mem_cons.1 ((h x).1 (List.mem_cons_self ..)) with q | q
   ·exact q
   ·rcases List.mem_cons.1 ((h y).2 (List.mem_cons_self ..)) with q2 | q2
    ·exact q2.symm
    ·exact absurd (tr _ _ _ (hb'.1 x q) (ha'.1 y q2)) (ir y)
  subst e
  rw [uniqueG ir tr r s ha'.2 hb'.2 fun z => ?_]
  have hz := h z
  constructor
  ·intro q
   rcases List.mem_cons.1 (hz.1 (List.mem_cons_of_mem _ q)) with rfl | q2
   ·exact absurd (ha'.1 _ q) (ir _)
   ·exact q2
  ·intro q
   rcases List.mem_cons.1 (hz.2 (List.mem_cons_of_mem _ q)) with rfl | q2
   ·exact absurd (hb'.1 _ q) (ir _)
   ·exact q2
def insG [DecidableRel lt] (s : α) : List α → List α
 | [] => [s]
 | x :: r => if lt s x then s :: x :: r else if lt x s then x :: insG s r else x :: r
def uniG [DecidableRel lt] (l : List α) : List α := l.foldl (fun o s => insG (lt := lt) s o) []
variable [DecidableRel lt]
theorem insG_mem (tri : ∀ a b, ¬ lt a b → ¬ lt b a → a = b) (e x : α) : ∀ l, x ∈ insG (lt := lt) e l ↔ x = e ∨ x ∈ l
 | [] => by simp [insG]
 | y :: r => by
  unfold insG
  split
  ·simp
  ·rename_i h1
   split
   ·rw [List.mem_cons, insG_mem tri e x r, List.mem_cons]
    constructor
    ·rintro (h | h | h)
     ·exact .inr (.inl h)
     ·exact .inl h
     ·exact .inr (.inr h)
    ·rintro (h | h | h)
     ·exact .inr (.inl h)
     ·exact .inl h
     ·exact .inr (.inr h)
   ·rename_i h2
    obtain rfl := tri _ _ h1 h2
    simp
theorem insG_sorted (tr : ∀ a b c, lt a b → lt b c → lt a c) (tri : ∀ a b, ¬ lt a b → ¬ lt b a → a = b) (e : α) : ∀ l, l.Pairwise lt → (insG (lt := lt) e l).Pairwise lt
 | [], _ => by simp [insG]
 | y :: r, h => by
  have h' := List.pairwise_cons.1 h
  unfold insG
  split
  ·rename_i q
   refine List.pairwise_cons.2 ⟨fun x hx => ?_, h⟩
   rcases List.mem_cons.1 hx with rfl | hx
   ·exact q
   ·exact tr _ _ _ q (h'.1 x hx)
  ·split
   ·rename_i q
    refine List.pairwise_cons.2 ⟨fun x hx => ?_, insG_sorted tr tri e r h'.2⟩
    rcases (insG_mem tri e x r).1 hx with rfl | hx
    ·exact q
    ·exact h'.1 x hx
   ·exact h
theorem uniG_fold (tr : ∀ a b c, lt a b → lt b c → lt a c) (tri : ∀ a b, ¬ lt a b → ¬ lt b a → a = b) : ∀ (es o : List α), o.Pairwise lt → (es.foldl (fun o s => insG (lt := lt) s o) o).Pairwise lt ∧ ∀ x, x ∈ es.foldl (fun o s => insG (lt := lt) s o) o ↔ x ∈ es ∨ x ∈ o
 | [], o, h => ⟨h, fun x => by simp⟩
 | e :: r, o, h => by
  have ih := uniG_fold tr tri r (insG (lt := lt) e o) (insG_sorted tr tri e o h)
  refine ⟨ih.1, fun x => ?_⟩
  rw [List.foldl_cons, ih.2 x, insG_mem tri, List.mem_cons]
  constructor
  ·rintro (h | h | h)
   ·exact .inl (.inr h)
   ·exact .inl (.inl h)
   ·exact .inr h
  ·rintro ((h | h) | h)
   ·exact .inr (.inl h)
   ·exact .inl h
   ·exact .inr (.inr h)
theorem uniG_sorted (tr : ∀ a b c, lt a b → lt b c → lt a c) (tri : ∀ a b, ¬ lt a b → ¬ lt b a → a = b) (l : List α) : (uniG (lt := lt) l).Pairwise lt := (uniG_fold tr tri l [] List.Pairwise.nil).1
theorem uniG_mem (tr : ∀ a b c, lt a b → lt b c → lt a c) (tri : ∀ a b, ¬ lt a b → ¬ lt b a → a = b) (l : List α) (x : α) : x ∈ uniG (lt := lt) l ↔ x ∈ l := by
 have := (uniG_fold tr tri l [] List.Pairwise.nil).2 x
 rw [show uniG (lt := lt) l = l.foldl (fun o s => insG (lt := lt) s o) [] from rfl, this]
 simp
theorem insG_at (ir : ∀ a, ¬ lt a a) (tr : ∀ a b c, lt a b → lt b c → lt a c) (tri : ∀ a b, ¬ lt a b → ¬ lt b a → a = b) {e : α} {o : List α} (ho : o.Pairwise lt) {t : Nat} (ht : t ≤ o.length) (h1 : ∀ a ∈ o.take t, lt a e) (h2 : ∀ a ∈ o.drop t, lt e a) : insG (lt := lt) e o = o.take t ++ e :: o.drop t := by
 refine uniqueG ir tr _ _ (insG_sorted tr tri e o ho) ?_ fun x => ?_
 ·refine List.pairwise_append.2 ⟨ho.sublist (List.take_sublist _ _), List.pairwise_cons.2 ⟨h2, ho.sublist (List.drop_sublist _ _)⟩, fun a ha b hb => ?_⟩
  rcases List.mem_cons.1 hb with rfl | hb
  ·exact h1 a ha
  ·exact tr _ _ _ (h1 a ha) (h2 b hb)
 ·rw [insG_mem tri, List.mem_append, List.mem_cons]
  constructor
  ·rintro (h | h)
   ·exact .inr (.inl h)
   ·rw [← List.take_append_drop t o, List.mem_append] at h
    rcases h with h | h
    ·exact .inl h
    ·exact .inr (.inr h)
  ·rintro (h | h | h)
   ·exact .inr (List.mem_of_mem_take h)
   ·exact .inl h
   ·exact .inr (List.mem_of_mem_drop h)
theorem insG_in (ir : ∀ a, ¬ lt a a) (tr : ∀ a b c, lt a b → lt b c → lt a c) (tri : ∀ a b, ¬ lt a b → ¬ lt b a → a = b) {e : α} {o : List α} (ho : o.Pairwise lt) (he : e ∈ o) : insG (lt := lt) e o = o :=
 uniqueG ir tr _ _ (insG_sorted tr tri e o ho) ho fun x => by
  rw [insG_mem tri]
  constructor
  ·rintro (rfl | h)
   ·exact he
   ·exact h
  ·exact .inr
end
section
variable {α : Type} [DecidableEq α]
def ddG : List α → List α
 | [] => []
 | [a] => [a]
 | a :: b :: r => if a = b then ddG (b :: r) else a :: ddG (b :: r)
theorem ddG_mem (x : α) : ∀ l, x ∈ ddG l ↔ x ∈ l
 | [] => by simp [ddG]
 | [a] => by simp [ddG]
 | a :: b :: r => by
  have ih := ddG_mem x (b :: r)
  unfold ddG
  split
  ·rename_i h
   subst h
   rw [ih]
   simp
  ·rw [List.mem_cons, ih, List.mem_cons (a := x) (b := a)]
theorem ddG_strict {lt : α → α → Prop} (tr : ∀ a b c, lt a b → lt b c → lt a c) : ∀ l : List α, l.Pairwise (fun a b => a = b ∨ lt a b) → (ddG l).Pairwise lt
 | [], _ => by simp [ddG]
 | [a], _ => by simp [ddG]
 | a :: b :: r, h => by
  have h' := List.pairwise_cons.1 h
  have ih := ddG_strict tr (b :: r) h'.2
  unfold ddG
  split
  ·exact ih
  ·rename_i q
   refine List.pairwise_cons.2 ⟨fun x hx => ?_, ih⟩
   have hab : lt a b := by
    rcases h'.1 b (List.mem_cons_self ..) with e | e
    ·exact absurd e q
    ·exact e
   rcases List.mem_cons.1 ((ddG_mem x (b :: r)).1 hx) with rfl | hx
   ·exact hab
   ·rcases (List.pairwise_cons.1 h'.2).1 x hx with e | e
    ·rw [← e]; exact hab
    ·exact tr _ _ _ hab e
theorem ddG_snoc : ∀ (l : List α) (b a : α), ddG (l ++ [b, a]) = if b = a then ddG (l ++ [b]) else ddG (l ++ [b]) ++ [a]
 | [], b, a => by
  show ddG [b, a] = _
  unfold ddG
  by_cases q : b = a
  ·rw [if_pos q, if_pos q, q]; rfl
  ·rw [if_neg q, if_neg q]; rfl
 | [x], b, a => by
  have ih := ddG_snoc [] b a
  show ddG (x :: b :: [a]) = _
  show _ = if b = a then ddG (x :: b :: []) else ddG (x :: b :: []) ++ [a]
  unfold ddG
  rw [show ddG [b, a] = _ from ih]
  split
  ·split <;> rfl
  ·split <;> rfl
 | x :: y :: r, b, a => by
  have ih := ddG_snoc (y :: r) b a
  show ddG (x :: y :: (r ++ [b, a])) = _
  show _ = if b = a then ddG (x :: y :: (r ++ [b])) else ddG (x :: y :: (r ++ [b])) ++ [a]
  unfold ddG
  rw [show ddG (y :: (r ++ [b, a])) = _ from ih]
  split
  ·rfl
  ·split <;> rfl
end
end Go.Proofs.Ythaaockbapbooaa.PL
set_option linter.unusedVariables false
set_option linter.unusedSimpArgs false
namespace Go.Proofs.Ythaaockbapbooaa.H
open Go.RowKit Go.Proofs.Ythaaockbapbooaa.Pr Go.Proofs.YthaaockbapbooaaW.PrintWords Go.Proofs.Ythaaockbapbooaa.Sem Go.Proofs.Ythaaockbapbooaa.PL
theorem compact_ddG {α : Type} [Inhabited α] [DecidableEq α] (es : List α) : Lib.compact es = ddG es := by
 have : ∀ m, m ≤ es.length → Lib.compactUpTo es.toArray m = ddG (es.take m) := by
  intro m
  induction m with
  | zero => intro _; simp [Lib.compactUpTo, ddG]
  | succ m ih =>
   intro h
   have hm : m < es.length := by omega
   have e0 : es.toArray[m]! = es[m] := by rw [getElem!_pos es.toArray m (by simpa using hm)]; simp
   rw [Lib.compactUpTo_succ, ih (by omega), e0]
   rw [List.take_add_one, List.getElem?_eq_getElem hm]
   cases m with
   | zero => simp [Lib.keeps, ddG]
   | succ m =>
    have hm' : m < es.length := by omega
    have e1 : es.toArray[m]! = es[m] := by rw [getElem!_pos es.toArray m (by simpa using hm')]; simp
    have ek : Lib.keeps es.toArray (m + 1) = decide (es[m] ≠ es[m + 1]) := by
     unfold Lib.keeps
     rw [e0, show m + 1 - 1 = m from rfl, e1]
     rw [decide_eq_decide]
     constructor
     ·rintro (h | h)
      ·omega
      ·exact fun q => h q.symm
     ·exact fun h => .inr fun q => h q.symm
    rw [ek, List.take_add_one, List.getElem?_eq_getElem hm']
    simp only [Option.toList_some, List.append_assoc, List.cons_append, List.nil_append]
    rw [ddG_snoc]
    by_cases q : es[m] = es[m + 1]
    ·simp [q]
    ·simp [q]
 unfold Lib.compact
 rw [this _ (Nat.le_refl _), List.take_length]
def slt (a b : ByteArray) : Prop := a.data.toList < b.data.toList
instance : DecidableRel slt := fun a b => by unfold slt; infer_instance
theorem slt_irr (a : ByteArray) : ¬ slt a a := List.lt_irrefl _
theorem slt_tr (a b c : ByteArray) (h1 : slt a b) (h2 : slt b c) : slt a c := List.lt_trans h1 h2
theorem slt_tri (a b : ByteArray) (h1 : ¬ slt a b) (h2 : ¬ slt b a) : a = b := by
 have : a.data.toList = b.data.toList := List.le_antisymm (show a.data.toList ≤ b.data.toList from h2) h1
 exact ByteArray.ext (Array.toList_inj.1 this)
def uniS (l : List ByteArray) : List ByteArray := uniG (lt := slt) l
theorem uniS_sorted (l : List ByteArray) : (uniS l).Pairwise slt := uniG_sorted slt_tr slt_tri l
theorem uniS_mem (l : List ByteArray) (x : ByteArray) : x ∈ uniS l ↔ x ∈ l := uniG_mem slt_tr slt_tri l x
theorem unionS_uni (xs ys : List ByteArray) : unionS xs ys = uniS (xs ++ ys) := by
 have e : unionS xs ys = (ddG (((xs ++ ys).map fun s => s.data.toList).mergeSort fun x y => decide (x ≤ y))).map fun l => (⟨l.toArray⟩ : ByteArray) := by
  unfold unionS cmpt srt
  rw [← compact_ddG]
  congr 2
  rw [List.map_map]
  simp [Function.comp_def]
 rw [e]
 have hp := List.pairwise_mergeSort (le := fun x y : List UInt8 => decide (x ≤ y)) (fun a b c h1 h2 => by
  simp only [decide_eq_true_eq] at h1 h2 ⊢
  exact List.le_trans h1 h2) (fun a b => by
  simp only [Bool.or_eq_true, decide_eq_true_eq]
  exact List.le_total a b) ((xs ++ ys).map fun s => s.data.toList)
 have hs := ddG_strict (lt := fun x y : List UInt8 => x < y) (fun a b c => List.lt_trans) _ (hp.imp (fun {a b} h => by
  simp only [decide_eq_true_eq] at h
  rcases List.le_iff_lt_or_eq.1 h with q | q
  ·exact .inr q
  ·exact .inl q))
 refine uniqueG slt_irr slt_tr _ _ ?_ (uniS_sorted _) fun x => ?_
 ·rw [List.pairwise_map]
  exact hs.imp (fun {a b} h => by show (⟨a.toArray⟩ : ByteArray).data.toList < (⟨b.toArray⟩ : ByteArray).data.toList; simpa using h)
 ·rw [uniS_mem, List.mem_map]
  constructor
  ·rintro ⟨l, hl, rfl⟩
   rw [ddG_mem, (List.mergeSort_perm _ _).mem_iff, List.mem_map] at hl
   obtain ⟨s, hs, rfl⟩ := hl
   simpa using hs
  ·intro hx
   refine ⟨x.data.toList, ?_, by simp⟩
   rw [ddG_mem, (List.mergeSort_perm _ _).mem_iff, List.mem_map]
   exact ⟨x, hx, rfl⟩
end Go.Proofs.Ythaaockbapbooaa.H
set_option linter.unusedVariables false
set_option linter.unusedSimpArgs false
namespace Go.Proofs.Ythaaockbapbooaa.Pr
open Go.RowKit Go.Proofs.Ythaaockbapbooaa.H Go.Proofs.YthaaockbapbooaaW.PrintWords Go.Proofs.YthaaockbapbooaaW.PrintLast Go.Proofs.YthaaockbapbooaaW.PrintMore
def Pxf.f (l0 : List ByteArray) (l1 : List ByteArray) : Option (List ByteArray) := if l0.length + l1.length < 1000000000000 then some (H.uniS (l0 ++ l1)) else none
theorem Pxf.calls (A0 : Option Addr) (c0 : Nat) (l0 : List ByteArray) (A1 : Option Addr) (c1 : Nat) (l1 : List ByteArray) (r : List ByteArray) (w : World) (hr0 : Kd.C Kd.string w A0 l0.length l0) (hc0 : l0.length ≤ c0) (hr1 : Kd.C Kd.string w A1 l1.length l1) (hc1 : l1.length ≤ c1) (h : Pxf.f l0 l1 = some r) :
  Calls Try.prog 46 #[.slice A0 l0.length c0, .slice A1 l1.length c1] w fun e w' => ∃ v0_ : Value, e = .returned (v0_) ∧ Kd.R Kd.string 9 w' w.heap.size (fun _ => True) v0_ r ∧ Below w.heap.size w w' := by
 unfold Pxf.f at h
 split at h
 ·rename_i hn
  simp only [Option.some.injEq] at h
  subst h
  rw [← H.unionS_uni]
  exact H.union_any l0 l1 A0 A1 c0 c1 w hr0 hr1 hn
 ·cases h
noncomputable def lightB (n : Int) (ls : List ByteArray) (es : List S51) : Bool := Classical.choose (light_ev n ls es)
theorem lightB_ev (n : Int) (ls : List ByteArray) (es : List S51) : Ev (fun k => Pr26a.f k n ls es) (lightB n ls es) := (Classical.choose_spec (light_ev n ls es)).1
theorem lightB_small {n : Int} {ls : List ByteArray} {es : List S51} (h : lightB n ls es = true) : SmallL n ls es := (Classical.choose_spec (light_ev n ls es)).2 h
noncomputable def Pl50b.f (a0_0 : Int) (l0_1 : List ByteArray) (l0_2 : List S51) (a1_0 : Int) (l1_1 : List ByteArray) (l1_2 : List S51) : Option Bool :=
 some (lightB a0_0 l0_1 l0_2 && (lightB a1_0 l1_1 l1_2 && ((decide (a0_0 ≤ 6) || decide (2048 < a0_0)) && ((decide (a1_0 ≤ 6) || decide (2048 < a1_0)) && (decide ((l0_1.length : Int) ≤ 6) && decide ((l1_1.length : Int) ≤ 6))))))
theorem three_ (n : Int) : (decide (n ≤ 6) = true ∧ decide (2048 < n) = false) ∨ (decide (n ≤ 6) = false ∧ decide (2048 < n) = true) ∨ (decide (n ≤ 6) = false ∧ decide (2048 < n) = false) := by
 by_cases h1 : n ≤ 6
 ·exact .inl ⟨decide_eq_true h1, decide_eq_false (by omega)⟩
 ·by_cases h2 : 2048 < n
  ·exact .inr (.inl ⟨decide_eq_false h1, decide_eq_true h2⟩)
  ·exact .inr (.inr ⟨decide_eq_false h1, decide_eq_false h2⟩)
set_option maxHeartbeats 8000000 in
set_option maxRecDepth 100000 in
theorem Pl50b.calls (a0_0 : Int) (A0_1 : Option Addr) (c0_1 : Nat) (l0_1 : List ByteArray) (A0_2 : Option Addr) (c0_2 : Nat) (l0_2 : List S51) (a1_0 : Int) (A1_1 : Option Addr) (c1_1 : Nat) (l1_1 : List ByteArray) (A1_2 : Option Addr) (c1_2 : Nat) (l1_2 : List S51) (r : Bool) (w : World) (hr0_1 : Kd.C Kd.string w A0_1 l0_1.length l0_1) (hc0_1 : l0_1.length ≤ c0_1) (hr0_2 : Kd.C k51 w A0_2 l0_2.length l0_2) (hc0_2 : l0_2.length ≤ c0_2) (hr1_1 : Kd.C Kd.string w A1_1 l1_1.length l1_1) (hc1_1 : l1_1.length ≤ c1_1) (hr1_2 : Kd.C k51 w A1_2 l1_2.length l1_2) (hc1_2 : l1_2.length ≤ c1_2) (h : Pl50b.f a0_0 l0_1 l0_2 a1_0 l1_1 l1_2 = some r) :
  Calls Try.prog 18 #[.agg #[.int .i64 a0_0, .slice A0_1 l0_1.length c0_1, .slice A0_2 l0_2.length c0_2], .agg #[.int .i64 a1_0, .slice A1_1 l1_1.length c1_1, .slice A1_2 l1_2.length c1_2]] w fun e w' => e = .returned (.bool r) ∧ Below w.heap.size w w' := by
 unfold Pl50b.f at h
 obtain ⟨k1, h1⟩ := (lightB_ev a0_0 l0_1 l0_2).rounds
 obtain ⟨k2, h2⟩ := (lightB_ev a1_0 l1_1 l1_2).rounds
 obtain ⟨p, hp⟩ : ∃ p, p = lightB a0_0 l0_1 l0_2 := ⟨_, rfl⟩
 obtain ⟨q, hq⟩ : ∃ q, q = lightB a1_0 l1_1 l1_2 := ⟨_, rfl⟩
 rw [← hp] at h1 h
 rw [← hq] at h2 h
 have HB := Aside0.mk (Below.refl w.heap.size w)
 have H1 := Aside0.mk h1
 have H2 := Aside0.mk h2
 have HR := Aside0.mk (Option.some.inj h)
 have G1 := Aside0.mk (And.intro hr0_1 hr0_2)
 have G2 := Aside0.mk (And.intro hr1_1 hr1_2)
 have C1 := Aside0.mk (And.intro hc0_1 hc0_2)
 have C2 := Aside0.mk (And.intro hc1_1 hc1_2)
 clear h1 h2 h hp hq hr0_1 hr0_2 hr1_1 hr1_2 hc0_1 hc0_2 hc1_1 hc1_2
 go_enter Try.func18, Try.ntmps18
 go_wp2_with fail
 refine (Pr26a.calls k1 a0_0 _ _ l0_1 _ _ l0_2 p _ (Kd.C_below G1.out.1 (below_alloc (below_alloc HB.out _) _)) C1.out.1 (Kd.C_below G1.out.2 (below_alloc (below_alloc HB.out _) _)) C1.out.2 H1.out).mono ?_
 rintro e w1 ⟨rfl, hB⟩
 have HB1 := Aside0.mk (below_then (below_alloc (below_alloc HB.out _) _) (below_alloc (below_alloc HB.out _) _).size hB)
 have HX := Aside0.mk (show BoxL w1 w.heap.size a0_0 (.slice A0_1 l0_1.length c0_1) (.slice A0_2 l0_2.length c0_2) from blk_below (blk_alloc (blk_new w _) _) hB)
 have HY := Aside0.mk (show BoxL w1 (w.heap.size + 1) a1_0 (.slice A1_1 l1_1.length c1_1) (.slice A1_2 l1_2.length c1_2) from blk_below (by have := blk_new (w.alloc (.cells #[.int .i64 a0_0, .slice A0_1 l0_1.length c0_1, .slice A0_2 l0_2.length c0_2] 25)) (.cells #[.int .i64 a1_0, .slice A1_1 l1_1.length c1_1, .slice A1_2 l1_2.length c1_2] 25); simpa using this) hB)
 clear hB
 cases p with
 | false =>
  go_wp2
  go_ret
  exact ⟨by rw [← HR.out]; rfl, HB1.out⟩
 | true =>
  have y0 := HY.out.c0
  have y1 := HY.out.c1
  have y2 := HY.out.c2
  go_wp2_with fail
  clear y0 y1 y2
  refine (Pr26a.calls k2 a1_0 _ _ l1_1 _ _ l1_2 q _ (Kd.C_below G2.out.1 HB1.out) C2.out.1 (Kd.C_below G2.out.2 HB1.out) C2.out.2 H2.out).mono ?_
  rintro e w2 ⟨rfl, hB⟩
  have HB2 := Aside0.mk (below_then HB1.out HB1.out.size hB)
  have x0 := (HX.out.below hB).c0
  have x1 := (HX.out.below hB).c1
  have y0 := (HY.out.below hB).c0
  have y1 := (HY.out.below hB).c1
  clear hB
  cases q with
  | false =>
   go_wp2
   go_ret
   exact ⟨by rw [← HR.out]; rfl, HB2.out⟩
  | true =>
   rcases three_ a0_0 with ⟨d1, d2⟩ | ⟨d1, d2⟩ | ⟨d1, d2⟩
   case inr.inr =>
    go_wp2
    go_ret
    exact ⟨by rw [← HR.out, d1, d2]; rfl, HB2.out⟩
   all_goals
    rcases three_ a1_0 with ⟨d3, d4⟩ | ⟨d3, d4⟩ | ⟨d3, d4⟩
    all_goals
     rcases Bool.eq_false_or_eq_true (decide ((l0_1.length : Int) ≤ 6)) with d5 | d5
     all_goals
      rcases Bool.eq_false_or_eq_true (decide ((l1_1.length : Int) ≤ 6)) with d6 | d6
      all_goals
       go_wp2
       go_ret
       exact ⟨by rw [← HR.out, d1, d2, d3, d4, d5, d6]; rfl, HB2.out⟩
def Pxc.f (a0_0 : Int) (l0_1 : List ByteArray) (l0_2 : List S51) (a1_0 : Int) (l1_1 : List ByteArray) (l1_2 : List S51) (a2 : Int) : Option (Int × Int) :=
 some (if mayR a0_0 l0_1 l0_2 = true ∧ mayR a1_0 l1_1 l1_2 = true ∧ 0 ≤ a2 ∧ a2 < a0_0 * a1_0 then (Int.tdiv a2 a1_0, Int.tmod a2 a1_0) else (-1, -1))
set_option maxHeartbeats 8000000 in
set_option maxRecDepth 100000 in
theorem Pxc.calls (a0_0 : Int) (A0_1 : Option Addr) (c0_1 : Nat) (l0_1 : List ByteArray) (A0_2 : Option Addr) (c0_2 : Nat) (l0_2 : List S51) (a1_0 : Int) (A1_1 : Option Addr) (c1_1 : Nat) (l1_1 : List ByteArray) (A1_2 : Option Addr) (c1_2 : Nat) (l1_2 : List S51) (a2 : Int) (r1 : Int) (r2 : Int) (w : World) (hr0_1 : Kd.C Kd.string w A0_1 l0_1.length l0_1) (hc0_1 : l0_1.length ≤ c0_1) (hr0_2 : Kd.C k51 w A0_2 l0_2.length l0_2) (hc0_2 : l0_2.length ≤ c0_2) (hr1_1 : Kd.C Kd.string w A1_1 l1_1.length l1_1) (hc1_1 : l1_1.length ≤ c1_1) (hr1_2 : Kd.C k51 w A1_2 l1_2.length l1_2) (hc1_2 : l1_2.length ≤ c1_2) (h : Pxc.f a0_0 l0_1 l0_2 a1_0 l1_1 l1_2 a2 = some (r1, r2)) :
  Calls Try.prog 21 #[.agg #[.int .i64 a0_0, .slice A0_1 l0_1.length c0_1, .slice A0_2 l0_2.length c0_2], .agg #[.int .i64 a1_0, .slice A1_1 l1_1.length c1_1, .slice A1_2 l1_2.length c1_2], .int .i64 a2] w fun e w' => e = .returned (.tuple #[.int .i64 r1, .int .i64 r2]) ∧ Below w.heap.size w w' := by
 unfold Pxc.f at h
 have hR := Option.some.inj h
 have HB := Aside0.mk (Below.refl w.heap.size w)
 have G1 := Aside0.mk (And.intro hr0_1 hr0_2)
 have G2 := Aside0.mk (And.intro hr1_1 hr1_2)
 clear h hr0_1 hr0_2 hr1_1 hr1_2 hc0_1 hc0_2 hc1_1 hc1_2
 obtain ⟨p, hp⟩ : ∃ p, p = mayR a0_0 l0_1 l0_2 := ⟨_, rfl⟩
 obtain ⟨q, hq⟩ : ∃ q, q = mayR a1_0 l1_1 l1_2 := ⟨_, rfl⟩
 have HP := Aside0.mk hp
 have HQ := Aside0.mk hq
 rw [← hp, ← hq] at hR
 clear hp hq
 go_enter Try.func21, Try.ntmps21
 go_wp2_with fail
 have hck := check_any a0_0 l0_1 l0_2 A0_1 A0_2 c0_1 c0_2 _ (Kd.C_below G1.out.1 (below_alloc (below_alloc HB.out (.cells #[.int .i64 a0_0, .slice A0_1 l0_1.length c0_1, .slice A0_2 l0_2.length c0_2] 25)) (.cells #[.int .i64 a1_0, .slice A1_1 l1_1.length c1_1, .slice A1_2 l1_2.length c1_2] 25))) (Kd.C_below G1.out.2 (below_alloc (below_alloc HB.out _) _))
 rw [may_same, ← HP.out] at hck
 refine hck.mono ?_
 clear hck
 rintro e w1 ⟨rfl, hB⟩
 have a0 := Aside0.mk (below_then (below_alloc (below_alloc HB.out _) _) (below_alloc (below_alloc HB.out _) _).size hB)
 have HX := Aside0.mk (show BoxL w1 w.heap.size a0_0 (.slice A0_1 l0_1.length c0_1) (.slice A0_2 l0_2.length c0_2) from blk_below (blk_alloc (blk_new w _) _) hB)
 have HY := Aside0.mk (show BoxL w1 (w.heap.size + 1) a1_0 (.slice A1_1 l1_1.length c1_1) (.slice A1_2 l1_2.length c1_2) from blk_below (by have := blk_new (w.alloc (.cells #[.int .i64 a0_0, .slice A0_1 l0_1.length c0_1, .slice A0_2 l0_2.length c0_2] 25)) (.cells #[.int .i64 a1_0, .slice A1_1 l1_1.length c1_1, .slice A1_2 l1_2.length c1_2] 25); simpa using this) hB)
 clear hB
 cases p with
 | false =>
  rw [if_neg (by simp)] at hR
  simp only [Prod.mk.injEq] at hR
  obtain ⟨rfl, rfl⟩ := hR
  go_wp2
  go_ret2
  exact ⟨rfl, a0.out⟩
 | true =>
  have y0 := HY.out.c0
  have y1 := HY.out.c1
  have y2 := HY.out.c2
  go_wp2_with fail
  clear y0 y1 y2
  have hck := check_any a1_0 l1_1 l1_2 A1_1 A1_2 c1_1 c1_2 w1 (Kd.C_below G2.out.1 a0.out) (Kd.C_below G2.out.2 a0.out)
  rw [may_same, ← HQ.out] at hck
  refine hck.mono ?_
  clear hck
  rintro e w2 ⟨rfl, hB⟩
  have a4 := Aside0.mk (below_then a0.out a0.out.size hB)
  have x0 := (HX.out.below hB).c0
  have y0 := (HY.out.below hB).c0
  clear hB
  cases q with
  | false =>
   rw [if_neg (by simp)] at hR
   simp only [Prod.mk.injEq] at hR
   obtain ⟨rfl, rfl⟩ := hR
   go_wp2
   go_ret2
   exact ⟨rfl, a4.out⟩
  | true =>
   have a3 := lt_n HP.out.symm
   have a1 := lt_n HQ.out.symm
   have a5 : 0 ≤ a0_0 * a1_0 := Int.mul_nonneg (by omega) (by omega)
   have a6 : a0_0 * a1_0 ≤ 2048 * 2048 := Int.le_trans (Int.mul_le_mul_of_nonneg_right a3.2 (by omega)) (Int.mul_le_mul_of_nonneg_left a1.2 (by omega))
   have hw : IntKind.i64.wrap (a0_0 * a1_0) = a0_0 * a1_0 := by rw [IntKind.wrap_i64]; omega
   by_cases h0 : 0 ≤ a2
   ·have d0 : decide (a2 < 0) = false := decide_eq_false (by omega)
    by_cases h1 : a2 < a0_0 * a1_0
    ·rw [if_pos (by simp [h0, h1])] at hR
     simp only [Prod.mk.injEq] at hR
     obtain ⟨rfl, rfl⟩ := hR
     have d1 : decide (a0_0 * a1_0 ≤ a2) = false := decide_eq_false (by omega)
     have z0 : ¬ a1_0 = 0 := by omega
     have a8 := Int.tdiv_nonneg h0 (show 0 ≤ a1_0 by omega)
     have a7 : Int.tdiv a2 a1_0 ≤ a2 := by rw [Int.tdiv_eq_ediv_of_nonneg h0]; exact Int.ediv_le_self _ h0
     have hwd : IntKind.i64.wrap (Int.tdiv a2 a1_0) = Int.tdiv a2 a1_0 := by rw [IntKind.wrap_i64]; omega
     clear a5 a6 a3 a1 h0 h1 a8 a7
     go_wp2_with fail
     go_quiet (fail)
     go_wp2
     go_ret2
     exact ⟨rfl, pw_below_drewN a4.out _⟩
    ·rw [if_neg (by simp [h0, h1])] at hR
     simp only [Prod.mk.injEq] at hR
     obtain ⟨rfl, rfl⟩ := hR
     have d1 : decide (a0_0 * a1_0 ≤ a2) = true := decide_eq_true (by omega)
     clear a5 a6 a3 a1 h0 h1
     go_wp2
     go_ret2
     exact ⟨rfl, a4.out⟩
   ·rw [if_neg (by simp [h0])] at hR
    simp only [Prod.mk.injEq] at hR
    obtain ⟨rfl, rfl⟩ := hR
    have d0 : decide (a2 < 0) = true := decide_eq_true (by omega)
    clear a5 a6 a3 a1 h0
    go_wp2
    go_ret2
    exact ⟨rfl, a4.out⟩
end Go.Proofs.Ythaaockbapbooaa.Pr
namespace Go.Proofs.Ythaaockbapbooaa.Pr
open Go.RowKit Go.Proofs.YthaaockbapbooaaW.PrintWords Go.Proofs.YthaaockbapbooaaW.PrintLast Go.Proofs.YthaaockbapbooaaW.PrintMore
attribute [local go_sem] max2_int min2_int max_two min_two max_three min_three max_four min_four
set_option linter.unusedVariables false
set_option linter.unusedSimpArgs false
mutual
def Pxh.j0 : Nat → Bool → Int → List ByteArray → List (S51) → Int → List ByteArray → List (S51) → Option (Int × List ByteArray × (List (S51)) × Int)
 | 0, _, _, _, _, _, _, _ => none
 | k + 1, x22, x133000, x133001, x133002, x134000, x134001, x134002 => if x22 = true then (some (0, ([] : List ByteArray), ([] : List (S51)), 1)) else ((Pxf.f x133001 x134001).bind fun t137 => (if (wrap64 (x133000 * x134000)) > 2048 then (Pxh.j1 k true x133000 x133001 x133002 x134000 x134001 x134002 (wrap64 (x133000 * x134000)) t137) else (Pxh.j1 k (decide ((t137.length : Int) > 64)) x133000 x133001 x133002 x134000 x134001 x134002 (wrap64 (x133000 * x134000)) t137)))
def Pxh.j1 : Nat → Bool → Int → List ByteArray → List (S51) → Int → List ByteArray → List (S51) → Int → List ByteArray → Option (Int × List ByteArray × (List (S51)) × Int)
 | 0, _, _, _, _, _, _, _, _, _ => none
 | k + 1, x43, x133000, x133001, x133002, x134000, x134001, x134002, x141000, x141001 => if x43 = true then (some (0, ([] : List ByteArray), ([] : List (S51)), 8)) else (Pxh.l0 k x141001 (x141001.length : Int) 0 x133000 x133001 x133002 x134000 x134001 x134002 x141000 x141001 ([] : List (S51)))
def Pxh.l0 : Nat → List ByteArray → Int → Int → Int → List ByteArray → List (S51) → Int → List ByteArray → List (S51) → Int → List ByteArray → List (S51) → Option (Int × List ByteArray × (List (S51)) × Int)
 | 0, _, _, _, _, _, _, _, _, _, _, _, _ => none
 | k + 1, x46, x47, x48, x133000, x133001, x133002, x134000, x134001, x134002, x141000, x141001, x141002 => if x48 < x47 then (if 0 ≤ x48 then (if x48 < (x46.length : Int) then ((Pxd.f k x133000 x133001 x133002 x134000 x134001 x134002 (rdOf ByteArray.empty x46 x48)).bind fun bt150 => (if (wrap64 ((x141002.length : Int) + (wrap64 ((bt150.1.length : Int) * (bt150.2.length : Int))))) > 1000000 then (some (0, ([] : List ByteArray), ([] : List (S51)), 8)) else (Pxh.l1 k x48 bt150.2 x46 x47 x48 bt150.1 (bt150.1.length : Int) 0 x133000 x133001 x133002 x134000 x134001 x134002 x141000 x141001 x141002))) else (none)) else (none)) else ((Pxj.f x141000 x141001 x141002).bind fun bt141 => (some (bt141.1, bt141.2.1, bt141.2.2.1, bt141.2.2.2)))
def Pxh.l1 : Nat → Int → List (S51) → List ByteArray → Int → Int → List (S51) → Int → Int → Int → List ByteArray → List (S51) → Int → List ByteArray → List (S51) → Int → List ByteArray → List (S51) → Option (Int × List ByteArray × (List (S51)) × Int)
 | 0, _, _, _, _, _, _, _, _, _, _, _, _, _, _, _, _, _ => none
 | k + 1, x7, x10, x46, x47, x48, x71, x72, x73, x133000, x133001, x133002, x134000, x134001, x134002, x141000, x141001, x141002 => if x73 < x72 then (if 0 ≤ x73 then (if x73 < (x71.length : Int) then (Pxh.l2 k x7 x10 x46 x47 x48 x71 x72 x73 x10 (x10.length : Int) 0 x133000 x133001 x133002 x134000 x134001 x134002 x141000 x141001 x141002 ((rd_T51 x71 x73).f0) ((rd_T51 x71 x73).f1) ((rd_T51 x71 x73).f2)) else (none)) else (none)) else (Pxh.l0 k x46 x47 (wrap64 (x48 + 1)) x133000 x133001 x133002 x134000 x134001 x134002 x141000 x141001 x141002)
def Pxh.l2 : Nat → Int → List (S51) → List ByteArray → Int → Int → List (S51) → Int → Int → List (S51) → Int → Int → Int → List ByteArray → List (S51) → Int → List ByteArray → List (S51) → Int → List ByteArray → List (S51) → Int → Int → Int → Option (Int × List ByteArray × (List (S51)) × Int)
 | 0, _, _, _, _, _, _, _, _, _, _, _, _, _, _, _, _, _, _, _, _, _, _, _ => none
 | k + 1, x7, x10, x46, x47, x48, x71, x72, x73, x77, x78, x79, x133000, x133001, x133002, x134000, x134001, x134002, x141000, x141001, x141002, x158000, x158001, x158002 => if x79 < x78 then (if 0 ≤ x79 then (if x79 < (x77.length : Int) then (if x141002.length < 5864062014805 then (Pxh.l2 k x7 x10 x46 x47 x48 x71 x72 x73 x77 x78 (wrap64 (x79 + 1)) x133000 x133001 x133002 x134000 x134001 x134002 x141000 x141001 (x141002 ++ [(⟨wrap64 ((wrap64 (x158000 * x134000)) + ((rd_T51 x77 x79).f0)), x7, wrap64 ((wrap64 (x158002 * x134000)) + ((rd_T51 x77 x79).f2))⟩ : S51)]) x158000 x158001 x158002) else (none)) else (none)) else (none)) else (Pxh.l1 k x7 x10 x46 x47 x48 x71 x72 (wrap64 (x73 + 1)) x133000 x133001 x133002 x134000 x134001 x134002 x141000 x141001 x141002)
end
def Pxh.f (k : Nat) (a0_0 : Int) (l0_1 : List ByteArray) (l0_2 : List (S51)) (a1_0 : Int) (l1_1 : List ByteArray) (l1_2 : List (S51)) : Option (Int × List ByteArray × (List (S51)) × Int) := (Pxi.f a0_0 l0_1 l0_2).bind fun t135 => (if t135 = 0 then ((Pxi.f a1_0 l1_1 l1_2).bind fun t136 => (Pxh.j0 k (t136 != 0) a0_0 l0_1 l0_2 a1_0 l1_1 l1_2)) else (Pxh.j0 k true a0_0 l0_1 l0_2 a1_0 l1_1 l1_2))
theorem Pxh.mono_l : ∀ k, (∀ y0 y1 y2 y3 y4 y5 y6, LeO (Pxh.j0 k y0 y1 y2 y3 y4 y5 y6) (Pxh.j0 (k + 1) y0 y1 y2 y3 y4 y5 y6)) ∧ (∀ y0 y1 y2 y3 y4 y5 y6 y7 y8, LeO (Pxh.j1 k y0 y1 y2 y3 y4 y5 y6 y7 y8) (Pxh.j1 (k + 1) y0 y1 y2 y3 y4 y5 y6 y7 y8)) ∧ (∀ y0 y1 y2 y3 y4 y5 y6 y7 y8 y9 y10 y11, LeO (Pxh.l0 k y0 y1 y2 y3 y4 y5 y6 y7 y8 y9 y10 y11) (Pxh.l0 (k + 1) y0 y1 y2 y3 y4 y5 y6 y7 y8 y9 y10 y11)) ∧ (∀ y0 y1 y2 y3 y4 y5 y6 y7 y8 y9 y10 y11 y12 y13 y14 y15 y16, LeO (Pxh.l1 k y0 y1 y2 y3 y4 y5 y6 y7 y8 y9 y10 y11 y12 y13 y14 y15 y16) (Pxh.l1 (k + 1) y0 y1 y2 y3 y4 y5 y6 y7 y8 y9 y10 y11 y12 y13 y14 y15 y16)) ∧ (∀ y0 y1 y2 y3 y4 y5 y6 y7 y8 y9 y10 y11 y12 y13 y14 y15 y16 y17 y18 y19 y20 y21 y22, LeO (Pxh.l2 k y0 y1 y2 y3 y4 y5 y6 y7 y8 y9 y10 y11 y12 y13 y14 y15 y16 y17 y18 y19 y20 y21 y22) (Pxh.l2 (k + 1) y0 y1 y2 y3 y4 y5 y6 y7 y8 y9 y10 y11 y12 y13 y14 y15 y16 y17 y18 y19 y20 y21 y22))
 | 0 => ⟨fun _ _ _ _ _ _ _ r h => by simp [Pxh.j0] at h, fun _ _ _ _ _ _ _ _ _ r h => by simp [Pxh.j1] at h, fun _ _ _ _ _ _ _ _ _ _ _ _ r h => by simp [Pxh.l0] at h, fun _ _ _ _ _ _ _ _ _ _ _ _ _ _ _ _ _ r h => by simp [Pxh.l1] at h, fun _ _ _ _ _ _ _ _ _ _ _ _ _ _ _ _ _ _ _ _ _ _ _ r h => by simp [Pxh.l2] at h⟩
 | k + 1 => by
  obtain ⟨ih0, ih1, ih2, ih3, ih4⟩ := Pxh.mono_l k
  refine ⟨?_, ?_, ?_, ?_, ?_⟩
  ·intro y0 y1 y2 y3 y4 y5 y6
   unfold Pxh.j0
   repeat' first
   | (with_reducible exact ih0 _ _ _ _ _ _ _)
   | (with_reducible exact ih1 _ _ _ _ _ _ _ _ _)
   | (with_reducible exact ih2 _ _ _ _ _ _ _ _ _ _ _ _)
   | (with_reducible exact ih3 _ _ _ _ _ _ _ _ _ _ _ _ _ _ _ _ _)
   | (with_reducible exact ih4 _ _ _ _ _ _ _ _ _ _ _ _ _ _ _ _ _ _ _ _ _ _ _)
   | (with_reducible exact Pxd.mono _ _ _ _ _ _ _ _)
   | (with_reducible exact LeO.refl _)
   | (with_reducible exact LeO.none _)
   | (with_reducible refine LeO.ite ?_ ?_)
   | (with_reducible refine LeO.bind ?_ (fun _ => ?_))
   | exact ih0 _ _ _ _ _ _ _
   | exact ih1 _ _ _ _ _ _ _ _ _
   | exact ih2 _ _ _ _ _ _ _ _ _ _ _ _
   | exact ih3 _ _ _ _ _ _ _ _ _ _ _ _ _ _ _ _ _
   | exact ih4 _ _ _ _ _ _ _ _ _ _ _ _ _ _ _ _ _ _ _ _ _ _ _
   | exact Pxd.mono _ _ _ _ _ _ _ _
   | exact LeO.none _
   | refine LeO.ite ?_ ?_
   | refine LeO.bind ?_ (fun _ => ?_)
  ·intro y0 y1 y2 y3 y4 y5 y6 y7 y8
   unfold Pxh.j1
   repeat' first
   | (with_reducible exact ih0 _ _ _ _ _ _ _)
   | (with_reducible exact ih1 _ _ _ _ _ _ _ _ _)
   | (with_reducible exact ih2 _ _ _ _ _ _ _ _ _ _ _ _)
   | (with_reducible exact ih3 _ _ _ _ _ _ _ _ _ _ _ _ _ _ _ _ _)
   | (with_reducible exact ih4 _ _ _ _ _ _ _ _ _ _ _ _ _ _ _ _ _ _ _ _ _ _ _)
   | (with_reducible exact Pxd.mono _ _ _ _ _ _ _ _)
   | (with_reducible exact LeO.refl _)
   | (with_reducible exact LeO.none _)
   | (with_reducible refine LeO.ite ?_ ?_)
   | (with_reducible refine LeO.bind ?_ (fun _ => ?_))
   | exact ih0 _ _ _ _ _ _ _
   | exact ih1 _ _ _ _ _ _ _ _ _
   | exact ih2 _ _ _ _ _ _ _ _ _ _ _ _
   | exact ih3 _ _ _ _ _ _ _ _ _ _ _ _ _ _ _ _ _
   | exact ih4 _ _ _ _ _ _ _ _ _ _ _ _ _ _ _ _ _ _ _ _ _ _ _
   | exact Pxd.mono _ _ _ _ _ _ _ _
   | exact LeO.none _
   | refine LeO.ite ?_ ?_
   | refine LeO.bind ?_ (fun _ => ?_)
  ·intro y0 y1 y2 y3 y4 y5 y6 y7 y8 y9 y10 y11
   unfold Pxh.l0
   repeat' first
   | (with_reducible exact ih0 _ _ _ _ _ _ _)
   | (with_reducible exact ih1 _ _ _ _ _ _ _ _ _)
   | (with_reducible exact ih2 _ _ _ _ _ _ _ _ _ _ _ _)
   | (with_reducible exact ih3 _ _ _ _ _ _ _ _ _ _ _ _ _ _ _ _ _)
   | (with_reducible exact ih4 _ _ _ _ _ _ _ _ _ _ _ _ _ _ _ _ _ _ _ _ _ _ _)
   | (with_reducible exact Pxd.mono _ _ _ _ _ _ _ _)
   | (with_reducible exact LeO.refl _)
   | (with_reducible exact LeO.none _)
   | (with_reducible refine LeO.ite ?_ ?_)
   | (with_reducible refine LeO.bind ?_ (fun _ => ?_))
   | exact ih0 _ _ _ _ _ _ _
   | exact ih1 _ _ _ _ _ _ _ _ _
   | exact ih2 _ _ _ _ _ _ _ _ _ _ _ _
   | exact ih3 _ _ _ _ _ _ _ _ _ _ _ _ _ _ _ _ _
   | exact ih4 _ _ _ _ _ _ _ _ _ _ _ _ _ _ _ _ _ _ _ _ _ _ _
   | exact Pxd.mono _ _ _ _ _ _ _ _
   | exact LeO.none _
   | refine LeO.ite ?_ ?_
   | refine LeO.bind ?_ (fun _ => ?_)
  ·intro y0 y1 y2 y3 y4 y5 y6 y7 y8 y9 y10 y11 y12 y13 y14 y15 y16
   unfold Pxh.l1
   repeat' first
   | (with_reducible exact ih0 _ _ _ _ _ _ _)
   | (with_reducible exact ih1 _ _ _ _ _ _ _ _ _)
   | (with_reducible exact ih2 _ _ _ _ _ _ _ _ _ _ _ _)
   | (with_reducible exact ih3 _ _ _ _ _ _ _ _ _ _ _ _ _ _ _ _ _)
   | (with_reducible exact ih4 _ _ _ _ _ _ _ _ _ _ _ _ _ _ _ _ _ _ _ _ _ _ _)
   | (with_reducible exact Pxd.mono _ _ _ _ _ _ _ _)
   | (with_reducible exact LeO.refl _)
   | (with_reducible exact LeO.none _)
   | (with_reducible refine LeO.ite ?_ ?_)
   | (with_reducible refine LeO.bind ?_ (fun _ => ?_))
   | exact ih0 _ _ _ _ _ _ _
   | exact ih1 _ _ _ _ _ _ _ _ _
   | exact ih2 _ _ _ _ _ _ _ _ _ _ _ _
   | exact ih3 _ _ _ _ _ _ _ _ _ _ _ _ _ _ _ _ _
   | exact ih4 _ _ _ _ _ _ _ _ _ _ _ _ _ _ _ _ _ _ _ _ _ _ _
   | exact Pxd.mono _ _ _ _ _ _ _ _
   | exact LeO.none _
   | refine LeO.ite ?_ ?_
   | refine LeO.bind ?_ (fun _ => ?_)
  ·intro y0 y1 y2 y3 y4 y5 y6 y7 y8 y9 y10 y11 y12 y13 y14 y15 y16 y17 y18 y19 y20 y21 y22
   unfold Pxh.l2
   repeat' first
   | (with_reducible exact ih0 _ _ _ _ _ _ _)
   | (with_reducible exact ih1 _ _ _ _ _ _ _ _ _)
   | (with_reducible exact ih2 _ _ _ _ _ _ _ _ _ _ _ _)
   | (with_reducible exact ih3 _ _ _ _ _ _ _ _ _ _ _ _ _ _ _ _ _)
   | (with_reducible exact ih4 _ _ _ _ _ _ _ _ _ _ _ _ _ _ _ _ _ _ _ _ _ _ _)
   | (with_reducible exact Pxd.mono _ _ _ _ _ _ _ _)
   | (with_reducible exact LeO.refl _)
   | (with_reducible exact LeO.none _)
   | (with_reducible refine LeO.ite ?_ ?_)
   | (with_reducible refine LeO.bind ?_ (fun _ => ?_))
   | exact ih0 _ _ _ _ _ _ _
   | exact ih1 _ _ _ _ _ _ _ _ _
   | exact ih2 _ _ _ _ _ _ _ _ _ _ _ _
   | exact ih3 _ _ _ _ _ _ _ _ _ _ _ _ _ _ _ _ _
   | exact ih4 _ _ _ _ _ _ _ _ _ _ _ _ _ _ _ _ _ _ _ _ _ _ _
   | exact Pxd.mono _ _ _ _ _ _ _ _
   | exact LeO.none _
   | refine LeO.ite ?_ ?_
   | refine LeO.bind ?_ (fun _ => ?_)
theorem Pxh.mono : ∀ a0 a1 a2 a3 a4 a5 k, LeO (Pxh.f k a0 a1 a2 a3 a4 a5) (Pxh.f (k + 1) a0 a1 a2 a3 a4 a5) := by
 intro a0 a1 a2 a3 a4 a5 k
 obtain ⟨ih0, ih1, ih2, ih3, ih4⟩ := Pxh.mono_l k
 unfold Pxh.f
 repeat' first
   | (with_reducible exact ih0 _ _ _ _ _ _ _)
   | (with_reducible exact ih1 _ _ _ _ _ _ _ _ _)
   | (with_reducible exact ih2 _ _ _ _ _ _ _ _ _ _ _ _)
   | (with_reducible exact ih3 _ _ _ _ _ _ _ _ _ _ _ _ _ _ _ _ _)
   | (with_reducible exact ih4 _ _ _ _ _ _ _ _ _ _ _ _ _ _ _ _ _ _ _ _ _ _ _)
   | (with_reducible exact Pxd.mono _ _ _ _ _ _ _ _)
   | (with_reducible exact LeO.refl _)
   | (with_reducible exact LeO.none _)
   | (with_reducible refine LeO.ite ?_ ?_)
   | (with_reducible refine LeO.bind ?_ (fun _ => ?_))
   | exact ih0 _ _ _ _ _ _ _
   | exact ih1 _ _ _ _ _ _ _ _ _
   | exact ih2 _ _ _ _ _ _ _ _ _ _ _ _
   | exact ih3 _ _ _ _ _ _ _ _ _ _ _ _ _ _ _ _ _
   | exact ih4 _ _ _ _ _ _ _ _ _ _ _ _ _ _ _ _ _ _ _ _ _ _ _
   | exact Pxd.mono _ _ _ _ _ _ _ _
   | exact LeO.none _
   | refine LeO.ite ?_ ?_
   | refine LeO.bind ?_ (fun _ => ?_)
def Pxh.T3 : Bool × List (List Nat × List Nat) := (true, [([], []), ([0], [0]), ([], []), ([2], [2]), ([1, 3], [1, 3]), ([], []), ([5], [5]), ([], []), ([7], [7]), ([6, 8], [6, 8]), ([4, 9], [4, 9]), ([], []), ([11, 10, 9, 0, 1, 2, 3, 4, 5, 6, 7, 8, 9, 10, 11], [10, 11])])
def Pxh.B3 : List Nat := [0, 1, 0, 4, 15, 0, 32, 0, 128, 480, 1023, 0, 4095]
theorem Pxh.tab3 : rtab .any (opsOf Try.f20 3) = Pxh.T3 := by kernel_rfl
theorem Pxh.bits3 : waitsOk Pxh.T3.2 Pxh.B3 = true := by kernel_rfl
set_option maxHeartbeats 8000000 in
set_option maxRecDepth 100000 in
theorem Pxh.calls (k : Nat) (a0_0 : Int) (A0_1 : Option Addr) (c0_1 : Nat) (l0_1 : List ByteArray) (A0_2 : Option Addr) (c0_2 : Nat) (l0_2 : List (S51)) (a1_0 : Int) (A1_1 : Option Addr) (c1_1 : Nat) (l1_1 : List ByteArray) (A1_2 : Option Addr) (c1_2 : Nat) (l1_2 : List (S51)) (r1 : Int) (r2 : List ByteArray) (r3 : List (S51)) (r4 : Int) (w : World) (hr0_1 : Kd.C Kd.string w A0_1 l0_1.length l0_1) (hc0_1 : l0_1.length ≤ c0_1) (hr0_2 : Kd.C k51 w A0_2 l0_2.length l0_2) (hc0_2 : l0_2.length ≤ c0_2) (hr1_1 : Kd.C Kd.string w A1_1 l1_1.length l1_1) (hc1_1 : l1_1.length ≤ c1_1) (hr1_2 : Kd.C k51 w A1_2 l1_2.length l1_2) (hc1_2 : l1_2.length ≤ c1_2) (h : Pxh.f k a0_0 l0_1 l0_2 a1_0 l1_1 l1_2 = some (r1, r2, r3, r4)) :
  Calls Try.prog 20 #[.agg #[.int .i64 a0_0, .slice A0_1 l0_1.length c0_1, .slice A0_2 l0_2.length c0_2], .agg #[.int .i64 a1_0, .slice A1_1 l1_1.length c1_1, .slice A1_2 l1_2.length c1_2]] w fun e w' => ∃ v1_ v2_ : Value, e = .returned (.tuple #[.agg #[.int .i64 r1, v1_, v2_], .int .i64 r4]) ∧ Kd.R Kd.string 9 w' w.heap.size (fun _ => True) v1_ r2 ∧ Kd.R k51 51 w' w.heap.size (fun _ => True) v2_ r3 ∧ Below w.heap.size w w' := by
 have bZ := Try.underlying25
 have bO := Try.underlying51
 have o9 := Aside0.mk hr0_1
 have n6 := Aside0.mk hc0_1
 clear hr0_1 hc0_1
 have u1 := Aside0.mk hr0_2
 have u2 := Aside0.mk hc0_2
 clear hr0_2 hc0_2
 have p9 := Aside0.mk hr1_1
 have p8 := Aside0.mk hc1_1
 clear hr1_1 hc1_1
 have B6 := Aside0.mk hr1_2
 have B5 := Aside0.mk hc1_2
 clear hr1_2 hc1_2
 have HB := Aside0.mk (Below.refl w.heap.size w)
 have H : ((Pxi.f a0_0 l0_1 l0_2).bind fun j3 => (if j3 = 0 then ((Pxi.f a1_0 l1_1 l1_2).bind fun p7 => (Pxh.j0 k (p7 != 0) a0_0 l0_1 l0_2 a1_0 l1_1 l1_2)) else (Pxh.j0 k true a0_0 l0_1 l0_2 a1_0 l1_1 l1_2))) = some (r1, r2, r3, r4) := h
 clear h
 have H3 := Aside0.mk H
 clear H
 go_enter Try.func20, Try.ntmps20
 go_upto_region 1 with (first | ((with_reducible refine gate_dst (N := 2) rfl ?_); (try (refine gate_guard (by rfl) ?_; dsimp only)); refine box_event ?hg (N := 2) ?hd (cs := #[.int .i64 a0_0, .slice A0_1 l0_1.length c0_1, .slice A0_2 l0_2.length c0_2]) (t := 25) ?hr ?_; (case hd => rfl); (case hg => rfl); (case hr => first | (go_simp; done) | (go_simp; rfl)); intro a6 hg w4 hbox hb; have d8 := Aside0.mk (below_step (by repeat (first | (with_reducible first | exact HB.out | apply below_alloc | apply pw_below_drewN | apply below_drew1) | exact HB.out)) hb); have d9 := Aside0.mk (hbox); have d7 := Aside0.mk ((by rw [hg]; exact (below_size (by repeat (first | (with_reducible first | exact HB.out | apply below_alloc | apply pw_below_drewN | apply below_drew1) | exact HB.out))) : w.heap.size ≤ a6)); have e0 := Aside0.mk ((by rw [hg]; exact (below_size (by repeat (first | (with_reducible first | exact HB.out | apply below_alloc | apply pw_below_drewN | apply below_drew1) | exact HB.out))) : w.heap.size ≤ a6)); clear HB; have HB := d8; have a0 := d9; have aD := d7; have b9 := e0; clear d8 d9 d7 e0; clear hb hbox hg) | ((with_reducible refine gate_dst (N := 3) rfl ?_); (try (refine gate_guard (by rfl) ?_; dsimp only)); refine box_event ?hg (N := 3) ?hd (cs := #[.int .i64 a1_0, .slice A1_1 l1_1.length c1_1, .slice A1_2 l1_2.length c1_2]) (t := 25) ?hr ?_; (case hd => rfl); (case hg => rfl); (case hr => first | (go_simp; done) | (go_simp; rfl)); intro b0 hg w5 hbox hb; have d8 := Aside0.mk (blk_below (g := a6) (o := .cells #[.int .i64 a0_0, .slice A0_1 l0_1.length c0_1, .slice A0_2 l0_2.length c0_2] 25 (0, 0)) (by (with_reducible repeat (first | refine blk_drewN ?_ _ | refine blk_drew ?_ | refine blk_alloc ?_ _)); exact a0.out) hb); have d9 := Aside0.mk (below_step (by repeat (first | (with_reducible first | exact HB.out | apply below_alloc | apply pw_below_drewN | apply below_drew1 | refine below_set ?_ b9.out) | exact HB.out)) hb); have d7 := Aside0.mk (hbox); have e0 := Aside0.mk ((by rw [hg]; exact (below_size (by repeat (first | (with_reducible first | exact HB.out | apply below_alloc | apply pw_below_drewN | apply below_drew1 | refine below_set ?_ b9.out) | exact HB.out))) : w.heap.size ≤ b0)); have e8 := Aside0.mk ((by rw [hg]; exact (below_size (by repeat (first | (with_reducible first | exact HB.out | apply below_alloc | apply pw_below_drewN | apply below_drew1 | refine below_set ?_ b9.out) | exact HB.out))) : w.heap.size ≤ b0)); have f3 := Aside0.mk ((by rw [hg]; exact Nat.ne_of_lt (blk_lt (g := a6) (o := .cells #[.int .i64 a0_0, .slice A0_1 l0_1.length c0_1, .slice A0_2 l0_2.length c0_2] 25 (0, 0)) (by (with_reducible repeat (first | refine blk_drewN ?_ _ | refine blk_drew ?_ | refine blk_alloc ?_ _)); exact a0.out)) : a6 ≠ b0)); have f4 := Aside0.mk ((by rw [hg]; exact Nat.ne_of_gt (blk_lt (g := a6) (o := .cells #[.int .i64 a0_0, .slice A0_1 l0_1.length c0_1, .slice A0_2 l0_2.length c0_2] 25 (0, 0)) (by (with_reducible repeat (first | refine blk_drewN ?_ _ | refine blk_drew ?_ | refine blk_alloc ?_ _)); exact a0.out)) : b0 ≠ a6)); clear a0; clear HB; have a0 := d8; have HB := d9; have a1 := d7; have aH := e0; have d1 := e8; have i1 := f3; have i0 := f4; clear d8 d9 d7 e0 e8 f3 f4; clear hb hbox hg) | ((with_reducible refine gate_dst (N := 4) rfl ?_); (try (refine gate_guard (by rfl) ?_; dsimp only)); refine box_event ?hg (N := 4) ?hd (cs := #[.int .i64 0, .slice none 0 0, .slice none 0 0]) (t := 25) ?hr ?_; (case hd => rfl); (case hg => rfl); (case hr => first | (go_simp; done) | (go_simp; rfl)); intro b2 hg w6 hbox hb; have d8 := Aside0.mk (blk_below (g := a6) (o := .cells #[.int .i64 a0_0, .slice A0_1 l0_1.length c0_1, .slice A0_2 l0_2.length c0_2] 25 (0, 0)) (by (with_reducible repeat (first | refine blk_drewN ?_ _ | refine blk_drew ?_ | refine blk_alloc ?_ _)); exact a0.out) hb); have d9 := Aside0.mk (blk_below (g := b0) (o := .cells #[.int .i64 a1_0, .slice A1_1 l1_1.length c1_1, .slice A1_2 l1_2.length c1_2] 25 (0, 0)) (by (with_reducible repeat (first | refine blk_drewN ?_ _ | refine blk_drew ?_ | refine blk_alloc ?_ _)); exact a1.out) hb); have d7 := Aside0.mk (below_step (by repeat (first | (with_reducible first | exact HB.out | apply below_alloc | apply pw_below_drewN | apply below_drew1 | refine below_set ?_ b9.out | refine below_set ?_ d1.out) | exact HB.out)) hb); have e0 := Aside0.mk (hbox); have e8 := Aside0.mk ((by rw [hg]; exact (below_size (by repeat (first | (with_reducible first | exact HB.out | apply below_alloc | apply pw_below_drewN | apply below_drew1 | refine below_set ?_ b9.out | refine below_set ?_ d1.out) | exact HB.out))) : w.heap.size ≤ b2)); have f3 := Aside0.mk ((by rw [hg]; exact (below_size (by repeat (first | (with_reducible first | exact HB.out | apply below_alloc | apply pw_below_drewN | apply below_drew1 | refine below_set ?_ b9.out | refine below_set ?_ d1.out) | exact HB.out))) : w.heap.size ≤ b2)); have f4 := Aside0.mk ((by rw [hg]; exact Nat.ne_of_lt (blk_lt (g := a6) (o := .cells #[.int .i64 a0_0, .slice A0_1 l0_1.length c0_1, .slice A0_2 l0_2.length c0_2] 25 (0, 0)) (by (with_reducible repeat (first | refine blk_drewN ?_ _ | refine blk_drew ?_ | refine blk_alloc ?_ _)); exact a0.out)) : a6 ≠ b2)); have f7 := Aside0.mk ((by rw [hg]; exact Nat.ne_of_gt (blk_lt (g := a6) (o := .cells #[.int .i64 a0_0, .slice A0_1 l0_1.length c0_1, .slice A0_2 l0_2.length c0_2] 25 (0, 0)) (by (with_reducible repeat (first | refine blk_drewN ?_ _ | refine blk_drew ?_ | refine blk_alloc ?_ _)); exact a0.out)) : b2 ≠ a6)); have f6 := Aside0.mk ((by rw [hg]; exact Nat.ne_of_lt (blk_lt (g := b0) (o := .cells #[.int .i64 a1_0, .slice A1_1 l1_1.length c1_1, .slice A1_2 l1_2.length c1_2] 25 (0, 0)) (by (with_reducible repeat (first | refine blk_drewN ?_ _ | refine blk_drew ?_ | refine blk_alloc ?_ _)); exact a1.out)) : b0 ≠ b2)); have f5 := Aside0.mk ((by rw [hg]; exact Nat.ne_of_gt (blk_lt (g := b0) (o := .cells #[.int .i64 a1_0, .slice A1_1 l1_1.length c1_1, .slice A1_2 l1_2.length c1_2] 25 (0, 0)) (by (with_reducible repeat (first | refine blk_drewN ?_ _ | refine blk_drew ?_ | refine blk_alloc ?_ _)); exact a1.out)) : b2 ≠ b0)); clear a0; clear a1; clear HB; have a0 := d8; have a1 := d9; have HB := d7; have a4 := e0; have au := e8; have d2 := f3; have g3 := f4; have g6 := f7; have g4 := f6; have g1 := f5; clear d8 d9 d7 e0 e8 f3 f4 f7 f6 f5; clear hb hbox hg))
 (try simp only [Act.put, List.setIfInBounds_toArray, List.set_cons_zero, List.set_cons_succ])
 go_cut [22] (fun X8 wc => ∃ (kq : Nat) (u0 : Bool), X8 = .bool u0 ∧ Aside0 (Pxh.j0 kq u0 a0_0 l0_1 l0_2 a1_0 l1_1 l1_2 = some (r1, r2, r3, r4)) ∧ Aside0 (kq ≤ k) ∧ Aside0 (wc.heap[a6]? = some (.cells #[.int .i64 a0_0, (.slice A0_1 l0_1.length c0_1), (.slice A0_2 l0_2.length c0_2)] 25 (0, 0))) ∧ Aside0 (wc.heap[b0]? = some (.cells #[.int .i64 a1_0, (.slice A1_1 l1_1.length c1_1), (.slice A1_2 l1_2.length c1_2)] 25 (0, 0))) ∧ Aside0 (wc.heap[b2]? = some (.cells #[.int .i64 0, (.slice none 0 0), (.slice none 0 0)] 25 (0, 0))) ∧ Aside0 (Below w.heap.size w wc))
 case first =>
  have H := H3.out
  clear H3
  replace H := Option.bind_eq_some_iff.mp H
  obtain ⟨j3, M0, H⟩ := H
  replace H : (if j3 = 0 then ((Pxi.f a1_0 l1_1 l1_2).bind fun p7 => (Pxh.j0 k (p7 != 0) a0_0 l0_1 l0_2 a1_0 l1_1 l1_2)) else (Pxh.j0 k true a0_0 l0_1 l0_2 a1_0 l1_1 l1_2)) = some (r1, r2, r3, r4) := H
  have A7 := Aside0.mk M0
  clear M0
  by_cases c8 : j3 = 0
  ·rw [if_pos c8] at H
   have c8b0 : (j3 == 0) = true := beq_iff_eq.mpr c8
   have c8b1 : (j3 != 0) = false := bne_eq_false_iff_eq.mpr c8
   clear c8
   (first | rw [c8b0] | (simp only [i64_w, i32_w]; rw [c8b0]) | skip)
   replace H := Option.bind_eq_some_iff.mp H
   obtain ⟨p7, L7, H⟩ := H
   replace H : (Pxh.j0 k (p7 != 0) a0_0 l0_1 l0_2 a1_0 l1_1 l1_2) = some (r1, r2, r3, r4) := H
   have A9 := Aside0.mk L7
   clear L7
   have H' := Aside0.mk H
   clear H
   have aT := i1.out
   have an := i0.out
   have aA := g3.out
   have aE := g6.out
   have k1 : w6.cell? ⟨a6, 0, none⟩ = some (.int .i64 a0_0) := (blk_cell a0.out 0).trans rfl
   have l4 : w6.cell? ⟨a6, 1, none⟩ = some (.slice A0_1 l0_1.length c0_1) := (blk_cell a0.out 1).trans rfl
   have j8 : w6.cell? ⟨a6, 2, none⟩ = some (.slice A0_2 l0_2.length c0_2) := (blk_cell a0.out 2).trans rfl
   have j4 := blk_frozen a0.out 0
   have l7 := blk_frozen a0.out 1
   have k6 := blk_frozen a0.out 2
   go_wp2_with (first | ((with_reducible refine gate_callee (f := 27) rfl ?_); refine goesL_ (some 16) rfl rfl Try.func27 (by kernel_rfl) rfl #[.agg #[.int .i64 a0_0, .slice A0_1 l0_1.length c0_1, .slice A0_2 l0_2.length c0_2]] rfl (by (try simp only [List.map_toArray, List.map_cons, List.map_nil]); first | done | rfl | (simp only [List.length_drop, List.length_take]; rfl)) ?_; (with_reducible refine (Pxi.calls a0_0 _ _ l0_1 _ _ l0_2 j3 _ ?l9 ?m4 ?l8 ?m5 A7.out).mono ?_); (case l9 => repeat (first | exact (Kd.C_below o9.out HB.out) | (with_reducible refine Kd.C_alloc ?_ _) | (with_reducible refine Kd.C_drewN ?_ _) | (with_reducible refine Kd.C_drew ?_))); (case m4 => exact n6.out); (case l8 => repeat (first | exact (Kd.C_below u1.out HB.out) | (with_reducible refine Kd.C_alloc ?_ _) | (with_reducible refine Kd.C_drewN ?_ _) | (with_reducible refine Kd.C_drew ?_))); (case m5 => exact u2.out); rintro e G7 ⟨rfl, hb⟩; refine ⟨_, rfl, ?_⟩; have d8 := Aside0.mk (blk_below (g := a6) (o := .cells #[.int .i64 a0_0, .slice A0_1 l0_1.length c0_1, .slice A0_2 l0_2.length c0_2] 25 (0, 0)) (by (with_reducible repeat (first | refine blk_drewN ?_ _ | refine blk_drew ?_ | refine blk_alloc ?_ _)); exact a0.out) hb); have d9 := Aside0.mk (blk_below (g := b0) (o := .cells #[.int .i64 a1_0, .slice A1_1 l1_1.length c1_1, .slice A1_2 l1_2.length c1_2] 25 (0, 0)) (by (with_reducible repeat (first | refine blk_drewN ?_ _ | refine blk_drew ?_ | refine blk_alloc ?_ _)); exact a1.out) hb); have d7 := Aside0.mk (blk_below (g := b2) (o := .cells #[.int .i64 0, .slice none 0 0, .slice none 0 0] 25 (0, 0)) (by (with_reducible repeat (first | refine blk_drewN ?_ _ | refine blk_drew ?_ | refine blk_alloc ?_ _)); exact a4.out) hb); have e0 := Aside0.mk (below_step (by repeat (first | (with_reducible first | exact HB.out | apply below_alloc | apply pw_below_drewN | apply below_drew1 | refine below_set ?_ b9.out | refine below_set ?_ d1.out | refine below_set ?_ d2.out) | exact HB.out)) hb); clear a0; clear a1; clear a4; clear HB; have a0 := d8; have a1 := d9; have a4 := d7; have HB := e0; clear d8 d9 d7 e0; (try clear hb); (try clear v3); (try clear hk); (try clear hi); have bc := g4.out; have bo := g1.out; have j6 : G7.cell? ⟨b0, 0, none⟩ = some (.int .i64 a1_0) := (blk_cell a1.out 0).trans rfl; have k7 : G7.cell? ⟨b0, 1, none⟩ = some (.slice A1_1 l1_1.length c1_1) := (blk_cell a1.out 1).trans rfl; have k8 : G7.cell? ⟨b0, 2, none⟩ = some (.slice A1_2 l1_2.length c1_2) := (blk_cell a1.out 2).trans rfl; have l3 := blk_frozen a1.out 0; have l6 := blk_frozen a1.out 1; have k0 := blk_frozen a1.out 2) | (go_at_call 27; (with_reducible refine (Pxi.calls a1_0 _ _ l1_1 _ _ l1_2 p7 _ ?l9 ?m4 ?l8 ?m5 A9.out).mono ?_); (case l9 => repeat (first | exact (Kd.C_below p9.out HB.out) | (with_reducible refine Kd.C_alloc ?_ _) | (with_reducible refine Kd.C_drewN ?_ _) | (with_reducible refine Kd.C_drew ?_))); (case m4 => exact p8.out); (case l8 => repeat (first | exact (Kd.C_below B6.out HB.out) | (with_reducible refine Kd.C_alloc ?_ _) | (with_reducible refine Kd.C_drewN ?_ _) | (with_reducible refine Kd.C_drew ?_))); (case m5 => exact B5.out); rintro e ch ⟨rfl, hb⟩; have d8 := Aside0.mk (blk_below (g := a6) (o := .cells #[.int .i64 a0_0, .slice A0_1 l0_1.length c0_1, .slice A0_2 l0_2.length c0_2] 25 (0, 0)) (by (with_reducible repeat (first | refine blk_drewN ?_ _ | refine blk_drew ?_ | refine blk_alloc ?_ _)); exact a0.out) hb); have d9 := Aside0.mk (blk_below (g := b0) (o := .cells #[.int .i64 a1_0, .slice A1_1 l1_1.length c1_1, .slice A1_2 l1_2.length c1_2] 25 (0, 0)) (by (with_reducible repeat (first | refine blk_drewN ?_ _ | refine blk_drew ?_ | refine blk_alloc ?_ _)); exact a1.out) hb); have d7 := Aside0.mk (blk_below (g := b2) (o := .cells #[.int .i64 0, .slice none 0 0, .slice none 0 0] 25 (0, 0)) (by (with_reducible repeat (first | refine blk_drewN ?_ _ | refine blk_drew ?_ | refine blk_alloc ?_ _)); exact a4.out) hb); have e0 := Aside0.mk (below_step (by repeat (first | (with_reducible first | exact HB.out | apply below_alloc | apply pw_below_drewN | apply below_drew1 | refine below_set ?_ b9.out | refine below_set ?_ d1.out | refine below_set ?_ d2.out) | exact HB.out)) hb); clear a0; clear a1; clear a4; clear HB; have a0 := d8; have a1 := d9; have a4 := d7; have HB := e0; clear d8 d9 d7 e0; (try clear hb); (try clear v3); (try clear hk); (try clear hi)))
   go_meet
   case rel => exact ⟨_, ((p7 != 0)), (by first | rfl | (simp; done) | (simp [*]; done)), H', ⟨by first | omega | exact Nat.le_refl _⟩, ⟨by (with_reducible repeat (first | refine blk_drewN ?_ _ | refine blk_drew ?_ | refine blk_alloc ?_ _)); exact a0.out⟩, ⟨by (with_reducible repeat (first | refine blk_drewN ?_ _ | refine blk_drew ?_ | refine blk_alloc ?_ _)); exact a1.out⟩, ⟨by (with_reducible repeat (first | refine blk_drewN ?_ _ | refine blk_drew ?_ | refine blk_alloc ?_ _)); exact a4.out⟩, ⟨by repeat (first | (with_reducible first | exact HB.out | apply below_alloc | apply pw_below_drewN | apply below_drew1 | refine below_set ?_ b9.out | refine below_set ?_ d1.out | refine below_set ?_ d2.out) | exact HB.out)⟩⟩
  ·rw [if_neg c8] at H
   have c8b0 : (j3 == 0) = false := beq_eq_false_iff_ne.mpr c8
   have c8b1 : (j3 != 0) = true := bne_iff_ne.mpr c8
   (first | rw [c8b0] | (simp only [i64_w, i32_w]; rw [c8b0]) | skip)
   have H' := Aside0.mk H
   clear H
   have ay := i1.out
   have bk := i0.out
   have bu := g3.out
   have aN := g6.out
   have l5 : w6.cell? ⟨a6, 0, none⟩ = some (.int .i64 a0_0) := (blk_cell a0.out 0).trans rfl
   have j9 : w6.cell? ⟨a6, 1, none⟩ = some (.slice A0_1 l0_1.length c0_1) := (blk_cell a0.out 1).trans rfl
   have k9 : w6.cell? ⟨a6, 2, none⟩ = some (.slice A0_2 l0_2.length c0_2) := (blk_cell a0.out 2).trans rfl
   have k2 := blk_frozen a0.out 0
   have j5 := blk_frozen a0.out 1
   have j7 := blk_frozen a0.out 2
   go_wp2_with (first | ((with_reducible refine gate_callee (f := 27) rfl ?_); refine goesL_ (some 16) rfl rfl Try.func27 (by kernel_rfl) rfl #[.agg #[.int .i64 a0_0, .slice A0_1 l0_1.length c0_1, .slice A0_2 l0_2.length c0_2]] rfl (by (try simp only [List.map_toArray, List.map_cons, List.map_nil]); first | done | rfl | (simp only [List.length_drop, List.length_take]; rfl)) ?_; (with_reducible refine (Pxi.calls a0_0 _ _ l0_1 _ _ l0_2 j3 _ ?l9 ?m4 ?l8 ?m5 A7.out).mono ?_); (case l9 => repeat (first | exact (Kd.C_below o9.out HB.out) | (with_reducible refine Kd.C_alloc ?_ _) | (with_reducible refine Kd.C_drewN ?_ _) | (with_reducible refine Kd.C_drew ?_))); (case m4 => exact n6.out); (case l8 => repeat (first | exact (Kd.C_below u1.out HB.out) | (with_reducible refine Kd.C_alloc ?_ _) | (with_reducible refine Kd.C_drewN ?_ _) | (with_reducible refine Kd.C_drew ?_))); (case m5 => exact u2.out); rintro e cj ⟨rfl, hb⟩; refine ⟨_, rfl, ?_⟩; have d8 := Aside0.mk (blk_below (g := a6) (o := .cells #[.int .i64 a0_0, .slice A0_1 l0_1.length c0_1, .slice A0_2 l0_2.length c0_2] 25 (0, 0)) (by (with_reducible repeat (first | refine blk_drewN ?_ _ | refine blk_drew ?_ | refine blk_alloc ?_ _)); exact a0.out) hb); have d9 := Aside0.mk (blk_below (g := b0) (o := .cells #[.int .i64 a1_0, .slice A1_1 l1_1.length c1_1, .slice A1_2 l1_2.length c1_2] 25 (0, 0)) (by (with_reducible repeat (first | refine blk_drewN ?_ _ | refine blk_drew ?_ | refine blk_alloc ?_ _)); exact a1.out) hb); have d7 := Aside0.mk (blk_below (g := b2) (o := .cells #[.int .i64 0, .slice none 0 0, .slice none 0 0] 25 (0, 0)) (by (with_reducible repeat (first | refine blk_drewN ?_ _ | refine blk_drew ?_ | refine blk_alloc ?_ _)); exact a4.out) hb); have e0 := Aside0.mk (below_step (by repeat (first | (with_reducible first | exact HB.out | apply below_alloc | apply pw_below_drewN | apply below_drew1 | refine below_set ?_ b9.out | refine below_set ?_ d1.out | refine below_set ?_ d2.out) | exact HB.out)) hb); clear a0; clear a1; clear a4; clear HB; have a0 := d8; have a1 := d9; have a4 := d7; have HB := e0; clear d8 d9 d7 e0; (try clear hb); (try clear v3); (try clear hk); (try clear hi)))
   go_meet
   case rel => exact ⟨_, (true), (by first | rfl | (simp; done) | (simp [*]; done)), H', ⟨by first | omega | exact Nat.le_refl _⟩, ⟨by (with_reducible repeat (first | refine blk_drewN ?_ _ | refine blk_drew ?_ | refine blk_alloc ?_ _)); exact a0.out⟩, ⟨by (with_reducible repeat (first | refine blk_drewN ?_ _ | refine blk_drew ?_ | refine blk_alloc ?_ _)); exact a1.out⟩, ⟨by (with_reducible repeat (first | refine blk_drewN ?_ _ | refine blk_drew ?_ | refine blk_alloc ?_ _)); exact a4.out⟩, ⟨by repeat (first | (with_reducible first | exact HB.out | apply below_alloc | apply pw_below_drewN | apply below_drew1 | refine below_set ?_ b9.out | refine below_set ?_ d1.out | refine below_set ?_ d2.out) | exact HB.out)⟩⟩
 case rest =>
  clear H3
  try clear c1
  try clear c2
  try clear p2
  try clear c8
  try clear c8b0
  try clear c8b1
  try clear c10
  try clear E7
  try clear E9
  try clear E0
  try clear E2
  try clear E3
  try clear k1
  try clear l4
  try clear j8
  try clear j6
  try clear k7
  try clear k8
  try clear l5
  try clear j9
  try clear k9
  try clear j4
  try clear l7
  try clear k6
  try clear l3
  try clear l6
  try clear k0
  try clear k2
  try clear j5
  try clear j7
  obtain ⟨kq, u0, rfl, HA, t0, a0, a1, a4, HB⟩ := hcut
  cases kq with
  | zero => exact absurd HA.out (by simp [Pxh.j0])
  | succ kj2 =>
   have H := HA.out
   clear HA
   simp only [Pxh.j0] at H
   by_cases s8 : u0 = true
   ·subst s8
    have H1 : (some (0, ([] : List ByteArray), ([] : List (S51)), 1)) = some (r1, r2, r3, r4) := by rw [if_pos rfl] at H; exact H
    clear H
    have H := H1
    clear H1
    simp only [Option.some.injEq, Prod.mk.injEq] at H
    obtain ⟨rfl, rfl, rfl, rfl⟩ := H
    have bj := g6.out
    have aZ := g3.out
    have ac := g1.out
    have aQ := g4.out
    have n8 : wc.cell? ⟨b2, 0, none⟩ = some (.int .i64 0) := (blk_cell a4.out 0).trans rfl
    have o6 : wc.cell? ⟨b2, 1, none⟩ = some (.slice none 0 0) := (blk_cell a4.out 1).trans rfl
    have n5 : wc.cell? ⟨b2, 2, none⟩ = some (.slice none 0 0) := (blk_cell a4.out 2).trans rfl
    have p0 := blk_frozen a4.out 0
    have n3 := blk_frozen a4.out 1
    have n9 := blk_frozen a4.out 2
    go_wp2
    refine bodyPost_ret (results_ct rfl _ _ b2 25 #[.int .i64 0, .slice none 0 0, .slice none 0 0] (0, 0) _ rfl (by (with_reducible repeat (first | refine blk_drewN ?_ _ | refine blk_drew ?_ | refine blk_alloc ?_ _)); refine blk_put (cs := #[.int .i64 0, .slice none 0 0, .slice none 0 0]) ?_ 2 _ rfl; (with_reducible repeat (first | refine blk_drewN ?_ _ | refine blk_drew ?_ | refine blk_alloc ?_ _)); refine blk_put (cs := #[.int .i64 0, .slice none 0 0, .slice none 0 0]) ?_ 1 _ rfl; (with_reducible repeat (first | refine blk_drewN ?_ _ | refine blk_drew ?_ | refine blk_alloc ?_ _)); refine blk_put (cs := #[.int .i64 0, .slice none 0 0, .slice none 0 0]) ?_ 0 _ rfl; (with_reducible repeat (first | refine blk_drewN ?_ _ | refine blk_drew ?_ | refine blk_alloc ?_ _)); exact a4.out) Try.underlying25 rfl (by kernel_rfl)) rfl ?_
    exact ⟨_, _, by first | rfl | (simp [errW_none, errW_some] <;> rfl) | (simp [*, errW_none, errW_some] <;> rfl), by first | exact Kd.R_nil _ _ _ _ _ | exact Kd.N_nil _ _ _ _ _ | exact Kd.V_nil _ _ _ _ _ | exact Kd.Q_nil _ _ _ _ _ | exact Kd.S_nil _ _ _ _ _, by first | exact Kd.R_nil _ _ _ _ _ | exact Kd.N_nil _ _ _ _ _ | exact Kd.V_nil _ _ _ _ _ | exact Kd.Q_nil _ _ _ _ _ | exact Kd.S_nil _ _ _ _ _, by repeat (first | (with_reducible first | exact HB.out | apply below_alloc | apply pw_below_drewN | apply below_drew1 | refine below_set ?_ b9.out | refine below_set ?_ d1.out | refine below_set ?_ d2.out) | exact HB.out)⟩
   ·replace s8 := Bool.eq_false_iff.mpr s8
    subst s8
    have H1 : ((Pxf.f l0_1 l1_1).bind fun b3 => (if (wrap64 (a0_0 * a1_0)) > 2048 then (Pxh.j1 kj2 true a0_0 l0_1 l0_2 a1_0 l1_1 l1_2 (wrap64 (a0_0 * a1_0)) b3) else (Pxh.j1 kj2 (decide ((b3.length : Int) > 64)) a0_0 l0_1 l0_2 a1_0 l1_1 l1_2 (wrap64 (a0_0 * a1_0)) b3))) = some (r1, r2, r3, r4) := by rw [if_neg (show ¬ (false = true) by decide)] at H; exact H
    clear H
    have H := H1
    clear H1
    replace H := Option.bind_eq_some_iff.mp H
    obtain ⟨b3, I5, H⟩ := H
    replace H : (if (wrap64 (a0_0 * a1_0)) > 2048 then (Pxh.j1 kj2 true a0_0 l0_1 l0_2 a1_0 l1_1 l1_2 (wrap64 (a0_0 * a1_0)) b3) else (Pxh.j1 kj2 (decide ((b3.length : Int) > 64)) a0_0 l0_1 l0_2 a1_0 l1_1 l1_2 (wrap64 (a0_0 * a1_0)) b3)) = some (r1, r2, r3, r4) := H
    have L1 := Aside0.mk I5
    clear I5
    have D2 := Aside0.mk H
    clear H
    try go_wp2
    have d8 := Aside0.mk (blk_drew a0.out)
    have d9 := Aside0.mk (blk_drew a1.out)
    have d7 := Aside0.mk (blk_drew a4.out)
    have e0 := Aside0.mk (below_drew1 HB.out)
    clear a0
    clear a1
    clear a4
    clear HB
    have a0 := d8
    have a1 := d9
    have a4 := d7
    have HB := e0
    clear d8 d9 d7 e0
    refine start_ (n := 13) (S := fun w' => w'.cell? ⟨a6, 0, none⟩ = some (.int .i64 a0_0) ∧ w'.cell? ⟨a6, 1, none⟩ = some (.slice A0_1 l0_1.length c0_1) ∧ w'.cell? ⟨a6, 2, none⟩ = some (.slice A0_2 l0_2.length c0_2) ∧ w'.cell? ⟨b0, 0, none⟩ = some (.int .i64 a1_0) ∧ w'.cell? ⟨b0, 1, none⟩ = some (.slice A1_1 l1_1.length c1_1) ∧ w'.cell? ⟨b0, 2, none⟩ = some (.slice A1_2 l1_2.length c1_2)) (ds := []) #[false, false, false, false, false, false, false, false, false, false, false, false, false] (by kernel_rfl) rfl rfl ⟨(blk_cell a0.out 0).trans rfl, (blk_cell a0.out 1).trans rfl, (blk_cell a0.out 2).trans rfl, (blk_cell a1.out 0).trans rfl, (blk_cell a1.out 1).trans rfl, (blk_cell a1.out 2).trans rfl⟩ (fun hHeld => ?_); refine with_tabW Pxh.tab3 Pxh.bits3 (fun HT_ HW_ => ?_)
    generalize wc.drew = w27 at a0 a1 a4 HB hHeld ⊢
    refine pure_ (i := 0) (N := some 24) (v := ?_) (a' := ?_) #[true, false, false, false, false, false, false, false, false, false, false, false, false] rfl rfl (any_of HT_.out (by kernel_rfl)) (fun _ _ _ h => h) (Or.inl ⟨by rfl, ?_⟩) ?_ ?_
    rotate_left
    ·intro w'
     go_simp
     with_reducible rfl
    rotate_left
    ·simp only [Act.put, List.setIfInBounds_toArray, List.set_cons_zero, List.set_cons_succ, i64_w, i32_w]
     rfl
    refine pure_ (i := 2) (N := some 26) (v := ?_) (a' := ?_) #[true, false, true, false, false, false, false, false, false, false, false, false, false] rfl rfl (any_of HT_.out (by kernel_rfl)) (fun _ _ _ h => h) (Or.inl ⟨by rfl, ?_⟩) ?_ ?_
    rotate_left
    ·intro w'
     go_simp
     with_reducible rfl
    rotate_left
    ·simp only [Act.put, List.setIfInBounds_toArray, List.set_cons_zero, List.set_cons_succ, i64_w, i32_w]
     rfl
    refine pure_ (i := 5) (N := some 29) (v := ?_) (a' := ?_) #[true, false, true, false, false, true, false, false, false, false, false, false, false] rfl rfl (any_of HT_.out (by kernel_rfl)) (fun _ _ _ h => h) (Or.inl ⟨by rfl, ?_⟩) ?_ ?_
    rotate_left
    ·intro w'
     go_simp
     with_reducible rfl
    rotate_left
    ·simp only [Act.put, List.setIfInBounds_toArray, List.set_cons_zero, List.set_cons_succ, i64_w, i32_w]
     rfl
    refine pure_ (i := 7) (N := some 31) (v := ?_) (a' := ?_) #[true, false, true, false, false, true, false, true, false, false, false, false, false] rfl rfl (any_of HT_.out (by kernel_rfl)) (fun _ _ _ h => h) (Or.inl ⟨by rfl, ?_⟩) ?_ ?_
    rotate_left
    ·intro w'
     go_simp
     with_reducible rfl
    rotate_left
    ·simp only [Act.put, List.setIfInBounds_toArray, List.set_cons_zero, List.set_cons_succ, i64_w, i32_w]
     rfl
    refine take_ (i := 1) (N := some 25) (v := ?_) (a' := ?_) #[true, true, true, false, false, true, false, true, false, false, false, false, false] rfl rfl (take_ofW HT_.out HW_.out (by kernel_rfl)) (fun _ _ _ h => h) (Or.inl ⟨by rfl, ?_⟩) hHeld ?_ ?_
    rotate_left
    ·rintro w' ⟨s0, s1, s2, s3, s4, s5⟩
     go_simp
     with_reducible rfl
    rotate_left
    ·simp only [Act.put, List.setIfInBounds_toArray, List.set_cons_zero, List.set_cons_succ, i64_w, i32_w]
     rfl
    refine take_ (i := 3) (N := some 27) (v := ?_) (a' := ?_) #[true, true, true, true, false, true, false, true, false, false, false, false, false] rfl rfl (take_ofW HT_.out HW_.out (by kernel_rfl)) (fun _ _ _ h => h) (Or.inl ⟨by rfl, ?_⟩) hHeld ?_ ?_
    rotate_left
    ·rintro w' ⟨s0, s1, s2, s3, s4, s5⟩
     go_simp
     with_reducible rfl
    rotate_left
    ·simp only [Act.put, List.setIfInBounds_toArray, List.set_cons_zero, List.set_cons_succ, i64_w, i32_w]
     rfl
    refine pure_ (i := 4) (N := some 28) (v := ?_) (a' := ?_) #[true, true, true, true, true, true, false, true, false, false, false, false, false] rfl rfl (any_of HT_.out (by kernel_rfl)) (fun _ _ _ h => h) (Or.inl ⟨by rfl, ?_⟩) ?_ ?_
    rotate_left
    ·intro w'
     go_simp
     with_reducible rfl
    rotate_left
    ·simp only [Act.put, List.setIfInBounds_toArray, List.set_cons_zero, List.set_cons_succ, i64_w, i32_w]
     rfl
    refine take_ (i := 6) (N := some 30) (v := ?_) (a' := ?_) #[true, true, true, true, true, true, true, true, false, false, false, false, false] rfl rfl (take_ofW HT_.out HW_.out (by kernel_rfl)) (fun _ _ _ h => h) (Or.inl ⟨by rfl, ?_⟩) hHeld ?_ ?_
    rotate_left
    ·rintro w' ⟨s0, s1, s2, s3, s4, s5⟩
     go_simp
     with_reducible rfl
    rotate_left
    ·simp only [Act.put, List.setIfInBounds_toArray, List.set_cons_zero, List.set_cons_succ, i64_w, i32_w]
     rfl
    refine take_ (i := 8) (N := some 32) (v := ?_) (a' := ?_) #[true, true, true, true, true, true, true, true, true, false, false, false, false] rfl rfl (take_ofW HT_.out HW_.out (by kernel_rfl)) (fun _ _ _ h => h) (Or.inl ⟨by rfl, ?_⟩) hHeld ?_ ?_
    rotate_left
    ·rintro w' ⟨s0, s1, s2, s3, s4, s5⟩
     go_simp
     with_reducible rfl
    rotate_left
    ·simp only [Act.put, List.setIfInBounds_toArray, List.set_cons_zero, List.set_cons_succ, i64_w, i32_w]
     rfl
    refine join_ (σ := Value × Nat) 1 #[true, true, true, true, true, true, true, true, true, true, true, true, false] (fun s_ => [(33, s_.1), (6, .pointer (some ⟨s_.2, 0, none⟩)), (34, .agg #[.int .i64 (wrap64 (a0_0 * a1_0)), s_.1, .slice none 0 0])]) (fun s_ w' => (w'.cell? ⟨a6, 0, none⟩ = some (.int .i64 a0_0) ∧ w'.cell? ⟨a6, 1, none⟩ = some (.slice A0_1 l0_1.length c0_1) ∧ w'.cell? ⟨a6, 2, none⟩ = some (.slice A0_2 l0_2.length c0_2) ∧ w'.cell? ⟨b0, 0, none⟩ = some (.int .i64 a1_0) ∧ w'.cell? ⟨b0, 1, none⟩ = some (.slice A1_1 l1_1.length c1_1) ∧ w'.cell? ⟨b0, 2, none⟩ = some (.slice A1_2 l1_2.length c1_2)) ∧ (Kd.R Kd.string 9 w' w.heap.size (fun _ => True) s_.1 b3) ∧ (w'.heap[a6]? = some (.cells #[.int .i64 a0_0, .slice A0_1 l0_1.length c0_1, .slice A0_2 l0_2.length c0_2] 25 (0, 0))) ∧ (w'.heap[b0]? = some (.cells #[.int .i64 a1_0, .slice A1_1 l1_1.length c1_1, .slice A1_2 l1_2.length c1_2] 25 (0, 0))) ∧ (w'.heap[b2]? = some (.cells #[.int .i64 0, .slice none 0 0, .slice none 0 0] 25 (0, 0))) ∧ (w'.heap[s_.2]? = some (.cells #[.int .i64 0, .slice none 0 0, .slice none 0 0] 25 (0, 0))) ∧ (w.heap.size ≤ s_.2) ∧ (w.heap.size ≤ s_.2) ∧ (a6 ≠ s_.2) ∧ (s_.2 ≠ a6) ∧ (b0 ≠ s_.2) ∧ (s_.2 ≠ b0) ∧ (b2 ≠ s_.2) ∧ (s_.2 ≠ b2) ∧ (Below w.heap.size w w')) ?_ ?_
    rotate_left
    ·intro hCont
     refine two_ (i := 9) (j := 11) (Ni := some 33) (Nj := some 6) #[true, true, true, true, true, true, true, true, true, true, false, false, false] #[true, true, true, true, true, true, true, true, true, false, false, true, false] rfl rfl rfl rfl (two_of HT_.out (by kernel_rfl)) (by decide) (by decide) (fun K hK => ?_) (fun K hK => ?_)
     ·skip
      refine goes_ Try.func46 (by kernel_rfl) rfl #[.slice A0_1 l0_1.length c0_1, .slice A1_1 l1_1.length c1_1] (by rfl) rfl rfl (by (try simp only [List.map_toArray, List.map_cons, List.map_nil]); first | done | rfl | (simp only [List.length_drop, List.length_take]; rfl)) ?_
      with_reducible refine (Pxf.calls _ _ l0_1 _ _ l1_1 b3 _ ?l9 ?m4 ?l8 ?m5 L1.out).mono ?_
      (case l9 => repeat (first | exact (Kd.C_below o9.out HB.out) | (with_reducible refine Kd.C_alloc ?_ _) | (with_reducible refine Kd.C_drewN ?_ _) | (with_reducible refine Kd.C_drew ?_)))
      (case m4 => exact n6.out)
      (case l8 => repeat (first | exact (Kd.C_below p9.out HB.out) | (with_reducible refine Kd.C_alloc ?_ _) | (with_reducible refine Kd.C_drewN ?_ _) | (with_reducible refine Kd.C_drew ?_)))
      (case m5 => exact p8.out)
      rintro e W2 ⟨C9, rfl, h2, hb⟩
      refine ⟨_, rfl, ?_⟩
      have d8 := Aside0.mk (Kd.R_lower h2 (below_size (by repeat (first | (with_reducible first | exact HB.out | apply below_alloc | apply pw_below_drewN | apply below_drew1 | refine below_set ?_ b9.out | refine below_set ?_ d1.out | refine below_set ?_ d2.out) | exact HB.out))))
      have d9 := Aside0.mk (blk_below (g := a6) (o := .cells #[.int .i64 a0_0, .slice A0_1 l0_1.length c0_1, .slice A0_2 l0_2.length c0_2] 25 (0, 0)) (by (with_reducible repeat (first | refine blk_drewN ?_ _ | refine blk_drew ?_ | refine blk_alloc ?_ _)); exact a0.out) hb)
      have d7 := Aside0.mk (blk_below (g := b0) (o := .cells #[.int .i64 a1_0, .slice A1_1 l1_1.length c1_1, .slice A1_2 l1_2.length c1_2] 25 (0, 0)) (by (with_reducible repeat (first | refine blk_drewN ?_ _ | refine blk_drew ?_ | refine blk_alloc ?_ _)); exact a1.out) hb)
      have e0 := Aside0.mk (blk_below (g := b2) (o := .cells #[.int .i64 0, .slice none 0 0, .slice none 0 0] 25 (0, 0)) (by (with_reducible repeat (first | refine blk_drewN ?_ _ | refine blk_drew ?_ | refine blk_alloc ?_ _)); exact a4.out) hb)
      have e8 := Aside0.mk (below_step (by repeat (first | (with_reducible first | exact HB.out | apply below_alloc | apply pw_below_drewN | apply below_drew1 | refine below_set ?_ b9.out | refine below_set ?_ d1.out | refine below_set ?_ d2.out) | exact HB.out)) hb)
      clear a0
      clear a1
      clear a4
      clear HB
      have h1 := d8
      have a0 := d9
      have a1 := d7
      have a4 := e0
      have HB := e8
      clear d8 d9 d7 e0 e8
      (try clear hb)
      (try clear v3)
      (try clear hk)
      (try clear hi)
      (try clear h2)
      obtain ⟨R2, M7, G2⟩ := Kd.R_slice h1.out
      (first | subst G2 | (injection G2 with f1_ f2_ f3_; have f4_ := f1_.symm; have f5_ := f3_.symm; clear f1_ f2_ f3_; subst f4_; subst f5_))
      refine hK.out _ _ ⟨(blk_cell a0.out 0).trans rfl, (blk_cell a0.out 1).trans rfl, (blk_cell a0.out 2).trans rfl, (blk_cell a1.out 0).trans rfl, (blk_cell a1.out 1).trans rfl, (blk_cell a1.out 2).trans rfl⟩ (fun hHeld => ?_)
      clear hK K
      refine norm_ (a' := ?_) ?_ ?_
      rotate_left
      ·show Act.put _ (some 33) _ = _
       simp only [Act.put, List.setIfInBounds_toArray, List.set_cons_zero, List.set_cons_succ, i64_w, i32_w]
       rfl
      refine pure_ (i := 10) (N := some 34) (v := ?_) (a' := ?_) #[true, true, true, true, true, true, true, true, true, true, true, false, false] rfl rfl (any_of HT_.out (by kernel_rfl)) (fun _ _ _ h => h) (Or.inl ⟨by rfl, ?_⟩) ?_ ?_
      rotate_left
      ·intro w'
       go_simp
       with_reducible rfl
      rotate_left
      ·simp only [Act.put, List.setIfInBounds_toArray, List.set_cons_zero, List.set_cons_succ, i64_w, i32_w]
       rfl
      refine one_ (i := 11) (N := some 6) #[true, true, true, true, true, true, true, true, true, true, true, true, false] rfl rfl (one_of HT_.out (by kernel_rfl)) (by decide) (fun K hK => ?_)
      refine box_step ?hg (N := 6) ?hd (cs := #[.int .i64 0, .slice none 0 0, .slice none 0 0]) (t := 25) ?hr ?_; (case hd => rfl); (case hg => rfl); (case hr => first | (go_simp; done) | (go_simp; rfl))
      intro a2 hg cd hbox hb
      have d8 := Aside0.mk (Kd.R_below (by (with_reducible repeat (first | apply Kd.R_alloc | apply Kd.R_drewN | apply Kd.R_drew)); exact h1.out) hb)
      have d9 := Aside0.mk (blk_below (g := a6) (o := .cells #[.int .i64 a0_0, .slice A0_1 l0_1.length c0_1, .slice A0_2 l0_2.length c0_2] 25 (0, 0)) (by (with_reducible repeat (first | refine blk_drewN ?_ _ | refine blk_drew ?_ | refine blk_alloc ?_ _)); exact a0.out) hb)
      have d7 := Aside0.mk (blk_below (g := b0) (o := .cells #[.int .i64 a1_0, .slice A1_1 l1_1.length c1_1, .slice A1_2 l1_2.length c1_2] 25 (0, 0)) (by (with_reducible repeat (first | refine blk_drewN ?_ _ | refine blk_drew ?_ | refine blk_alloc ?_ _)); exact a1.out) hb)
      have e0 := Aside0.mk (blk_below (g := b2) (o := .cells #[.int .i64 0, .slice none 0 0, .slice none 0 0] 25 (0, 0)) (by (with_reducible repeat (first | refine blk_drewN ?_ _ | refine blk_drew ?_ | refine blk_alloc ?_ _)); exact a4.out) hb)
      have e8 := Aside0.mk (below_step (by repeat (first | (with_reducible first | exact HB.out | apply below_alloc | apply pw_below_drewN | apply below_drew1 | refine below_set ?_ b9.out | refine below_set ?_ d1.out | refine below_set ?_ d2.out) | exact HB.out)) hb)
      have f3 := Aside0.mk (hbox)
      have f4 := Aside0.mk ((by rw [hg]; exact (below_size (by repeat (first | (with_reducible first | exact HB.out | apply below_alloc | apply pw_below_drewN | apply below_drew1 | refine below_set ?_ b9.out | refine below_set ?_ d1.out | refine below_set ?_ d2.out) | exact HB.out))) : w.heap.size ≤ a2))
      have f7 := Aside0.mk ((by rw [hg]; exact (below_size (by repeat (first | (with_reducible first | exact HB.out | apply below_alloc | apply pw_below_drewN | apply below_drew1 | refine below_set ?_ b9.out | refine below_set ?_ d1.out | refine below_set ?_ d2.out) | exact HB.out))) : w.heap.size ≤ a2))
      have f6 := Aside0.mk ((by rw [hg]; exact Nat.ne_of_lt (blk_lt (g := a6) (o := .cells #[.int .i64 a0_0, .slice A0_1 l0_1.length c0_1, .slice A0_2 l0_2.length c0_2] 25 (0, 0)) (by (with_reducible repeat (first | refine blk_drewN ?_ _ | refine blk_drew ?_ | refine blk_alloc ?_ _)); exact a0.out)) : a6 ≠ a2))
      have f5 := Aside0.mk ((by rw [hg]; exact Nat.ne_of_gt (blk_lt (g := a6) (o := .cells #[.int .i64 a0_0, .slice A0_1 l0_1.length c0_1, .slice A0_2 l0_2.length c0_2] 25 (0, 0)) (by (with_reducible repeat (first | refine blk_drewN ?_ _ | refine blk_drew ?_ | refine blk_alloc ?_ _)); exact a0.out)) : a2 ≠ a6))
      have g0 := Aside0.mk ((by rw [hg]; exact Nat.ne_of_lt (blk_lt (g := b0) (o := .cells #[.int .i64 a1_0, .slice A1_1 l1_1.length c1_1, .slice A1_2 l1_2.length c1_2] 25 (0, 0)) (by (with_reducible repeat (first | refine blk_drewN ?_ _ | refine blk_drew ?_ | refine blk_alloc ?_ _)); exact a1.out)) : b0 ≠ a2))
      have g2 := Aside0.mk ((by rw [hg]; exact Nat.ne_of_gt (blk_lt (g := b0) (o := .cells #[.int .i64 a1_0, .slice A1_1 l1_1.length c1_1, .slice A1_2 l1_2.length c1_2] 25 (0, 0)) (by (with_reducible repeat (first | refine blk_drewN ?_ _ | refine blk_drew ?_ | refine blk_alloc ?_ _)); exact a1.out)) : a2 ≠ b0))
      have g8 := Aside0.mk ((by rw [hg]; exact Nat.ne_of_lt (blk_lt (g := b2) (o := .cells #[.int .i64 0, .slice none 0 0, .slice none 0 0] 25 (0, 0)) (by (with_reducible repeat (first | refine blk_drewN ?_ _ | refine blk_drew ?_ | refine blk_alloc ?_ _)); exact a4.out)) : b2 ≠ a2))
      have i3 := Aside0.mk ((by rw [hg]; exact Nat.ne_of_gt (blk_lt (g := b2) (o := .cells #[.int .i64 0, .slice none 0 0, .slice none 0 0] 25 (0, 0)) (by (with_reducible repeat (first | refine blk_drewN ?_ _ | refine blk_drew ?_ | refine blk_alloc ?_ _)); exact a4.out)) : a2 ≠ b2))
      clear h1
      clear a0
      clear a1
      clear a4
      clear HB
      have h1 := d8
      have a0 := d9
      have a1 := d7
      have a4 := e0
      have HB := e8
      have a3 := f3
      have t6 := f4
      have d4 := f7
      have b8 := f6
      have e6 := f5
      have b7 := g0
      have e5 := g2
      have d3 := g8
      have e2 := i3
      clear d8 d9 d7 e0 e8 f3 f4 f7 f6 f5 g0 g2 g8 i3
      clear hb hbox hg
      refine hK.out _ _ ⟨(blk_cell a0.out 0).trans rfl, (blk_cell a0.out 1).trans rfl, (blk_cell a0.out 2).trans rfl, (blk_cell a1.out 0).trans rfl, (blk_cell a1.out 1).trans rfl, (blk_cell a1.out 2).trans rfl⟩ (fun hHeld => ?_)
      clear hK K
      refine norm_ (a' := ?_) ?_ ?_
      rotate_left
      ·show Act.put _ (some 6) _ = _
       simp only [Act.put, List.setIfInBounds_toArray, List.set_cons_zero, List.set_cons_succ, i64_w, i32_w]
       rfl
      exact norm_ (by simp only [putAll, Act.put, List.setIfInBounds_toArray, List.set_cons_zero, List.set_cons_succ]) (hCont (.slice R2 b3.length M7, a2) _ ⟨hHeld, (by (with_reducible repeat (first | apply Kd.R_alloc | apply Kd.R_drewN | apply Kd.R_drew)); exact h1.out), (by (with_reducible repeat (first | refine blk_drewN ?_ _ | refine blk_drew ?_ | refine blk_alloc ?_ _)); exact a0.out), (by (with_reducible repeat (first | refine blk_drewN ?_ _ | refine blk_drew ?_ | refine blk_alloc ?_ _)); exact a1.out), (by (with_reducible repeat (first | refine blk_drewN ?_ _ | refine blk_drew ?_ | refine blk_alloc ?_ _)); exact a4.out), (by (with_reducible repeat (first | refine blk_drewN ?_ _ | refine blk_drew ?_ | refine blk_alloc ?_ _)); exact a3.out), t6.out, d4.out, b8.out, e6.out, b7.out, e5.out, d3.out, e2.out, (by repeat (first | (with_reducible first | exact HB.out | apply below_alloc | apply pw_below_drewN | apply below_drew1 | refine below_set ?_ b9.out | refine below_set ?_ d1.out | refine below_set ?_ d2.out | refine below_set ?_ d4.out) | exact HB.out))⟩)
     ·skip
      refine box_step ?hg (N := 6) ?hd (cs := #[.int .i64 0, .slice none 0 0, .slice none 0 0]) (t := 25) ?hr ?_; (case hd => rfl); (case hg => rfl); (case hr => first | (go_simp; done) | (go_simp; rfl))
      intro a2 hg W2 hbox hb
      have d8 := Aside0.mk (blk_below (g := a6) (o := .cells #[.int .i64 a0_0, .slice A0_1 l0_1.length c0_1, .slice A0_2 l0_2.length c0_2] 25 (0, 0)) (by (with_reducible repeat (first | refine blk_drewN ?_ _ | refine blk_drew ?_ | refine blk_alloc ?_ _)); exact a0.out) hb)
      have d9 := Aside0.mk (blk_below (g := b0) (o := .cells #[.int .i64 a1_0, .slice A1_1 l1_1.length c1_1, .slice A1_2 l1_2.length c1_2] 25 (0, 0)) (by (with_reducible repeat (first | refine blk_drewN ?_ _ | refine blk_drew ?_ | refine blk_alloc ?_ _)); exact a1.out) hb)
      have d7 := Aside0.mk (blk_below (g := b2) (o := .cells #[.int .i64 0, .slice none 0 0, .slice none 0 0] 25 (0, 0)) (by (with_reducible repeat (first | refine blk_drewN ?_ _ | refine blk_drew ?_ | refine blk_alloc ?_ _)); exact a4.out) hb)
      have e0 := Aside0.mk (below_step (by repeat (first | (with_reducible first | exact HB.out | apply below_alloc | apply pw_below_drewN | apply below_drew1 | refine below_set ?_ b9.out | refine below_set ?_ d1.out | refine below_set ?_ d2.out) | exact HB.out)) hb)
      have e8 := Aside0.mk (hbox)
      have f3 := Aside0.mk ((by rw [hg]; exact (below_size (by repeat (first | (with_reducible first | exact HB.out | apply below_alloc | apply pw_below_drewN | apply below_drew1 | refine below_set ?_ b9.out | refine below_set ?_ d1.out | refine below_set ?_ d2.out) | exact HB.out))) : w.heap.size ≤ a2))
      have f4 := Aside0.mk ((by rw [hg]; exact (below_size (by repeat (first | (with_reducible first | exact HB.out | apply below_alloc | apply pw_below_drewN | apply below_drew1 | refine below_set ?_ b9.out | refine below_set ?_ d1.out | refine below_set ?_ d2.out) | exact HB.out))) : w.heap.size ≤ a2))
      have f7 := Aside0.mk ((by rw [hg]; exact Nat.ne_of_lt (blk_lt (g := a6) (o := .cells #[.int .i64 a0_0, .slice A0_1 l0_1.length c0_1, .slice A0_2 l0_2.length c0_2] 25 (0, 0)) (by (with_reducible repeat (first | refine blk_drewN ?_ _ | refine blk_drew ?_ | refine blk_alloc ?_ _)); exact a0.out)) : a6 ≠ a2))
      have f6 := Aside0.mk ((by rw [hg]; exact Nat.ne_of_gt (blk_lt (g := a6) (o := .cells #[.int .i64 a0_0, .slice A0_1 l0_1.length c0_1, .slice A0_2 l0_2.length c0_2] 25 (0, 0)) (by (with_reducible repeat (first | refine blk_drewN ?_ _ | refine blk_drew ?_ | refine blk_alloc ?_ _)); exact a0.out)) : a2 ≠ a6))
      have f5 := Aside0.mk ((by rw [hg]; exact Nat.ne_of_lt (blk_lt (g := b0) (o := .cells #[.int .i64 a1_0, .slice A1_1 l1_1.length c1_1, .slice A1_2 l1_2.length c1_2] 25 (0, 0)) (by (with_reducible repeat (first | refine blk_drewN ?_ _ | refine blk_drew ?_ | refine blk_alloc ?_ _)); exact a1.out)) : b0 ≠ a2))
      have g0 := Aside0.mk ((by rw [hg]; exact Nat.ne_of_gt (blk_lt (g := b0) (o := .cells #[.int .i64 a1_0, .slice A1_1 l1_1.length c1_1, .slice A1_2 l1_2.length c1_2] 25 (0, 0)) (by (with_reducible repeat (first | refine blk_drewN ?_ _ | refine blk_drew ?_ | refine blk_alloc ?_ _)); exact a1.out)) : a2 ≠ b0))
      have g2 := Aside0.mk ((by rw [hg]; exact Nat.ne_of_lt (blk_lt (g := b2) (o := .cells #[.int .i64 0, .slice none 0 0, .slice none 0 0] 25 (0, 0)) (by (with_reducible repeat (first | refine blk_drewN ?_ _ | refine blk_drew ?_ | refine blk_alloc ?_ _)); exact a4.out)) : b2 ≠ a2))
      have g8 := Aside0.mk ((by rw [hg]; exact Nat.ne_of_gt (blk_lt (g := b2) (o := .cells #[.int .i64 0, .slice none 0 0, .slice none 0 0] 25 (0, 0)) (by (with_reducible repeat (first | refine blk_drewN ?_ _ | refine blk_drew ?_ | refine blk_alloc ?_ _)); exact a4.out)) : a2 ≠ b2))
      clear a0
      clear a1
      clear a4
      clear HB
      have a0 := d8
      have a1 := d9
      have a4 := d7
      have HB := e0
      have a3 := e8
      have t6 := f3
      have d4 := f4
      have b8 := f7
      have e6 := f6
      have b7 := f5
      have e5 := g0
      have d3 := g2
      have e2 := g8
      clear d8 d9 d7 e0 e8 f3 f4 f7 f6 f5 g0 g2 g8
      clear hb hbox hg
      refine hK.out _ _ ⟨(blk_cell a0.out 0).trans rfl, (blk_cell a0.out 1).trans rfl, (blk_cell a0.out 2).trans rfl, (blk_cell a1.out 0).trans rfl, (blk_cell a1.out 1).trans rfl, (blk_cell a1.out 2).trans rfl⟩ (fun hHeld => ?_)
      clear hK K
      refine norm_ (a' := ?_) ?_ ?_
      rotate_left
      ·show Act.put _ (some 6) _ = _
       simp only [Act.put, List.setIfInBounds_toArray, List.set_cons_zero, List.set_cons_succ, i64_w, i32_w]
       rfl
      refine one_ (i := 9) (N := some 33) #[true, true, true, true, true, true, true, true, true, true, false, true, false] rfl rfl (one_of HT_.out (by kernel_rfl)) (by decide) (fun K hK => ?_)
      refine goes_ Try.func46 (by kernel_rfl) rfl #[.slice A0_1 l0_1.length c0_1, .slice A1_1 l1_1.length c1_1] (by rfl) rfl rfl (by (try simp only [List.map_toArray, List.map_cons, List.map_nil]); first | done | rfl | (simp only [List.length_drop, List.length_take]; rfl)) ?_
      with_reducible refine (Pxf.calls _ _ l0_1 _ _ l1_1 b3 _ ?l9 ?m4 ?l8 ?m5 L1.out).mono ?_
      (case l9 => repeat (first | exact (Kd.C_below o9.out HB.out) | (with_reducible refine Kd.C_alloc ?_ _) | (with_reducible refine Kd.C_drewN ?_ _) | (with_reducible refine Kd.C_drew ?_)))
      (case m4 => exact n6.out)
      (case l8 => repeat (first | exact (Kd.C_below p9.out HB.out) | (with_reducible refine Kd.C_alloc ?_ _) | (with_reducible refine Kd.C_drewN ?_ _) | (with_reducible refine Kd.C_drew ?_)))
      (case m5 => exact p8.out)
      rintro e cc ⟨C9, rfl, h2, hb⟩
      refine ⟨_, rfl, ?_⟩
      have d8 := Aside0.mk (Kd.R_lower h2 (below_size (by repeat (first | (with_reducible first | exact HB.out | apply below_alloc | apply pw_below_drewN | apply below_drew1 | refine below_set ?_ b9.out | refine below_set ?_ d1.out | refine below_set ?_ d2.out | refine below_set ?_ d4.out) | exact HB.out))))
      have d9 := Aside0.mk (blk_below (g := a6) (o := .cells #[.int .i64 a0_0, .slice A0_1 l0_1.length c0_1, .slice A0_2 l0_2.length c0_2] 25 (0, 0)) (by (with_reducible repeat (first | refine blk_drewN ?_ _ | refine blk_drew ?_ | refine blk_alloc ?_ _)); exact a0.out) hb)
      have d7 := Aside0.mk (blk_below (g := b0) (o := .cells #[.int .i64 a1_0, .slice A1_1 l1_1.length c1_1, .slice A1_2 l1_2.length c1_2] 25 (0, 0)) (by (with_reducible repeat (first | refine blk_drewN ?_ _ | refine blk_drew ?_ | refine blk_alloc ?_ _)); exact a1.out) hb)
      have e0 := Aside0.mk (blk_below (g := b2) (o := .cells #[.int .i64 0, .slice none 0 0, .slice none 0 0] 25 (0, 0)) (by (with_reducible repeat (first | refine blk_drewN ?_ _ | refine blk_drew ?_ | refine blk_alloc ?_ _)); exact a4.out) hb)
      have e8 := Aside0.mk (blk_below (g := a2) (o := .cells #[.int .i64 0, .slice none 0 0, .slice none 0 0] 25 (0, 0)) (by (with_reducible repeat (first | refine blk_drewN ?_ _ | refine blk_drew ?_ | refine blk_alloc ?_ _)); exact a3.out) hb)
      have f3 := Aside0.mk (below_step (by repeat (first | (with_reducible first | exact HB.out | apply below_alloc | apply pw_below_drewN | apply below_drew1 | refine below_set ?_ b9.out | refine below_set ?_ d1.out | refine below_set ?_ d2.out | refine below_set ?_ d4.out) | exact HB.out)) hb)
      clear a0
      clear a1
      clear a4
      clear a3
      clear HB
      have h1 := d8
      have a0 := d9
      have a1 := d7
      have a4 := e0
      have a3 := e8
      have HB := f3
      clear d8 d9 d7 e0 e8 f3
      (try clear hb)
      (try clear v3)
      (try clear hk)
      (try clear hi)
      (try clear h2)
      obtain ⟨P9, Q8, I3⟩ := Kd.R_slice h1.out
      (first | subst I3 | (injection I3 with f1_ f2_ f3_; have f4_ := f1_.symm; have f5_ := f3_.symm; clear f1_ f2_ f3_; subst f4_; subst f5_))
      refine hK.out _ _ ⟨(blk_cell a0.out 0).trans rfl, (blk_cell a0.out 1).trans rfl, (blk_cell a0.out 2).trans rfl, (blk_cell a1.out 0).trans rfl, (blk_cell a1.out 1).trans rfl, (blk_cell a1.out 2).trans rfl⟩ (fun hHeld => ?_)
      clear hK K
      refine norm_ (a' := ?_) ?_ ?_
      rotate_left
      ·show Act.put _ (some 33) _ = _
       simp only [Act.put, List.setIfInBounds_toArray, List.set_cons_zero, List.set_cons_succ, i64_w, i32_w]
       rfl
      refine pure_ (i := 10) (N := some 34) (v := ?_) (a' := ?_) #[true, true, true, true, true, true, true, true, true, true, true, true, false] rfl rfl (any_of HT_.out (by kernel_rfl)) (fun _ _ _ h => h) (Or.inl ⟨by rfl, ?_⟩) ?_ ?_
      rotate_left
      ·intro w'
       go_simp
       with_reducible rfl
      rotate_left
      ·simp only [Act.put, List.setIfInBounds_toArray, List.set_cons_zero, List.set_cons_succ, i64_w, i32_w]
       rfl
      exact norm_ (by simp only [putAll, Act.put, List.setIfInBounds_toArray, List.set_cons_zero, List.set_cons_succ]) (hCont (.slice P9 b3.length Q8, a2) _ ⟨hHeld, (by (with_reducible repeat (first | apply Kd.R_alloc | apply Kd.R_drewN | apply Kd.R_drew)); exact h1.out), (by (with_reducible repeat (first | refine blk_drewN ?_ _ | refine blk_drew ?_ | refine blk_alloc ?_ _)); exact a0.out), (by (with_reducible repeat (first | refine blk_drewN ?_ _ | refine blk_drew ?_ | refine blk_alloc ?_ _)); exact a1.out), (by (with_reducible repeat (first | refine blk_drewN ?_ _ | refine blk_drew ?_ | refine blk_alloc ?_ _)); exact a4.out), (by (with_reducible repeat (first | refine blk_drewN ?_ _ | refine blk_drew ?_ | refine blk_alloc ?_ _)); exact a3.out), t6.out, d4.out, b8.out, e6.out, b7.out, e5.out, d3.out, e2.out, (by repeat (first | (with_reducible first | exact HB.out | apply below_alloc | apply pw_below_drewN | apply below_drew1 | refine below_set ?_ b9.out | refine below_set ?_ d1.out | refine below_set ?_ d2.out | refine below_set ?_ d4.out) | exact HB.out))⟩)
    rintro ⟨C9, a2⟩ g9 ⟨hS_, K4, L0, L8, L5, K5, K2, L6, J9, L2, K1, I6, H9, H7, I1⟩
    have d8 : Aside0 (Kd.R Kd.string 9 g9 w.heap.size (fun _ => True) C9 b3) := ⟨K4⟩
    have d9 : Aside0 (g9.heap[a6]? = some (.cells #[.int .i64 a0_0, .slice A0_1 l0_1.length c0_1, .slice A0_2 l0_2.length c0_2] 25 (0, 0))) := ⟨L0⟩
    have d7 : Aside0 (g9.heap[b0]? = some (.cells #[.int .i64 a1_0, .slice A1_1 l1_1.length c1_1, .slice A1_2 l1_2.length c1_2] 25 (0, 0))) := ⟨L8⟩
    have e0 : Aside0 (g9.heap[b2]? = some (.cells #[.int .i64 0, .slice none 0 0, .slice none 0 0] 25 (0, 0))) := ⟨L5⟩
    have e8 : Aside0 (g9.heap[a2]? = some (.cells #[.int .i64 0, .slice none 0 0, .slice none 0 0] 25 (0, 0))) := ⟨K5⟩
    have f3 : Aside0 (w.heap.size ≤ a2) := ⟨K2⟩
    have f4 : Aside0 (w.heap.size ≤ a2) := ⟨L6⟩
    have f7 : Aside0 (a6 ≠ a2) := ⟨J9⟩
    have f6 : Aside0 (a2 ≠ a6) := ⟨L2⟩
    have f5 : Aside0 (b0 ≠ a2) := ⟨K1⟩
    have g0 : Aside0 (a2 ≠ b0) := ⟨I6⟩
    have g2 : Aside0 (b2 ≠ a2) := ⟨H9⟩
    have g8 : Aside0 (a2 ≠ b2) := ⟨H7⟩
    have i3 : Aside0 (Below w.heap.size w g9) := ⟨I1⟩
    clear a0
    clear a1
    clear a4
    clear HB
    clear K4 L0 L8 L5 K5 K2 L6 J9 L2 K1 I6 H9 H7 I1
    have h1 := d8
    have a0 := d9
    have a1 := d7
    have a4 := e0
    have a3 := e8
    have t6 := f3
    have d4 := f4
    have b8 := f7
    have e6 := f6
    have b7 := f5
    have e5 := g0
    have d3 := g2
    have e2 := g8
    have HB := i3
    clear d8 d9 d7 e0 e8 f3 f4 f7 f6 f5 g0 g2 g8 i3
    have hHeld : g9.cell? ⟨a6, 0, none⟩ = some (.int .i64 a0_0) ∧ g9.cell? ⟨a6, 1, none⟩ = some (.slice A0_1 l0_1.length c0_1) ∧ g9.cell? ⟨a6, 2, none⟩ = some (.slice A0_2 l0_2.length c0_2) ∧ g9.cell? ⟨b0, 0, none⟩ = some (.int .i64 a1_0) ∧ g9.cell? ⟨b0, 1, none⟩ = some (.slice A1_1 l1_1.length c1_1) ∧ g9.cell? ⟨b0, 2, none⟩ = some (.slice A1_2 l1_2.length c1_2) := hS_
    obtain ⟨h3, e3, H0⟩ := Kd.R_slice h1.out
    (first | subst H0 | (injection H0 with f1_ f2_ f3_; have f4_ := f1_.symm; have f5_ := f3_.symm; clear f1_ f2_ f3_; subst f4_; subst f5_))
    refine norm_ (a' := ?_) ?_ ?_
    rotate_left
    ·simp only [putAll, Act.put, List.setIfInBounds_toArray, List.set_cons_zero, List.set_cons_succ]
     rfl
    refine one_ (i := 12) (N := none) #[true, true, true, true, true, true, true, true, true, true, true, true, true] rfl rfl (one_of HT_.out (by kernel_rfl)) (by decide) (fun K hK => ?_)
    have bX : g9.cell? ⟨a2, 0, none⟩ = some (.int .i64 0) := (blk_cell a3.out 0).trans rfl
    have aj := blk_frozen a3.out 0
    have T0 := b8.out
    have S5 := b7.out
    have U0 := d3.out
    have S7 := e6.out
    have S2 := e5.out
    have T9 := e2.out
    have bV : g9.cell? ⟨a2, 1, none⟩ = some (.slice none 0 0) := (blk_cell a3.out 1).trans rfl
    have aW := blk_frozen a3.out 1
    have U3 := b8.out
    have U1 := b7.out
    have U2 := d3.out
    have S8 := e6.out
    have T4 := e5.out
    have S9 := e2.out
    have bU : g9.cell? ⟨a2, 2, none⟩ = some (.slice none 0 0) := (blk_cell a3.out 2).trans rfl
    have aJ := blk_frozen a3.out 2
    have T6 := b8.out
    have T2 := b7.out
    have S6 := d3.out
    have T5 := e6.out
    have U4 := e5.out
    have S3 := e2.out
    refine skip_ (w1 := ?_) (by rfl) rfl ?_ ?_
    rotate_left
    ·go_simp
     rfl
    refine hK.out _ _ ⟨((cell_far (p := ⟨a2, _, none⟩) b8.out _).trans (((cell_far (p := ⟨a2, _, none⟩) b8.out _).trans (((cell_far (p := ⟨a2, _, none⟩) b8.out _).trans (hHeld.1)))))), ((cell_far (p := ⟨a2, _, none⟩) b8.out _).trans (((cell_far (p := ⟨a2, _, none⟩) b8.out _).trans (((cell_far (p := ⟨a2, _, none⟩) b8.out _).trans (hHeld.2.1)))))), ((cell_far (p := ⟨a2, _, none⟩) b8.out _).trans (((cell_far (p := ⟨a2, _, none⟩) b8.out _).trans (((cell_far (p := ⟨a2, _, none⟩) b8.out _).trans (hHeld.2.2.1)))))), ((cell_far (p := ⟨a2, _, none⟩) b7.out _).trans (((cell_far (p := ⟨a2, _, none⟩) b7.out _).trans (((cell_far (p := ⟨a2, _, none⟩) b7.out _).trans (hHeld.2.2.2.1)))))), ((cell_far (p := ⟨a2, _, none⟩) b7.out _).trans (((cell_far (p := ⟨a2, _, none⟩) b7.out _).trans (((cell_far (p := ⟨a2, _, none⟩) b7.out _).trans (hHeld.2.2.2.2.1)))))), ((cell_far (p := ⟨a2, _, none⟩) b7.out _).trans (((cell_far (p := ⟨a2, _, none⟩) b7.out _).trans (((cell_far (p := ⟨a2, _, none⟩) b7.out _).trans (hHeld.2.2.2.2.2))))))⟩ (fun hHeld => ?_)
    clear hK K
    refine done_ (done_of HT_.out (by kernel_rfl)) ?_
    go_upto_region 4 with (fail)
    go_cut [43] (fun Y4 wc => ∃ (kq : Nat) (q2 : Bool), Y4 = .bool q2 ∧ Aside0 (Pxh.j1 kq q2 a0_0 l0_1 l0_2 a1_0 l1_1 l1_2 (wrap64 (a0_0 * a1_0)) b3 = some (r1, r2, r3, r4)) ∧ Aside0 (kq ≤ kj2) ∧ Aside0 (Kd.R Kd.string 9 wc w.heap.size (fun _ => True) (.slice h3 b3.length e3) b3) ∧ Aside0 (wc.heap[a6]? = some (.cells #[.int .i64 a0_0, (.slice A0_1 l0_1.length c0_1), (.slice A0_2 l0_2.length c0_2)] 25 (0, 0))) ∧ Aside0 (wc.heap[b0]? = some (.cells #[.int .i64 a1_0, (.slice A1_1 l1_1.length c1_1), (.slice A1_2 l1_2.length c1_2)] 25 (0, 0))) ∧ Aside0 (wc.heap[b2]? = some (.cells #[.int .i64 0, (.slice none 0 0), (.slice none 0 0)] 25 (0, 0))) ∧ Aside0 (wc.heap[a2]? = some (.cells #[.int .i64 (wrap64 (a0_0 * a1_0)), (.slice h3 b3.length e3), (.slice none 0 0)] 25 (0, 0))) ∧ Aside0 (Below w.heap.size w wc))
    case first =>
     have H := D2.out
     clear D2
     by_cases p4 : (wrap64 (a0_0 * a1_0)) > 2048
     ·rw [if_pos p4] at H
      have c36b0 : decide (2048 < (wrap64 (a0_0 * a1_0))) = true := decide_eq_true p4
      clear p4
      (first | rw [c36b0] | (simp only [i64_w, i32_w]; rw [c36b0]) | skip)
      have H' := Aside0.mk H
      clear H
      have bp := e6.out
      have bi := b8.out
      have bA := e5.out
      have bd := b7.out
      have bB := e2.out
      have bf := d3.out
      have o5 : g9.cell? ⟨a2, 0, none⟩ = some (.int .i64 0) := (blk_cell a3.out 0).trans rfl
      have o8 : g9.cell? ⟨a2, 1, none⟩ = some (.slice none 0 0) := (blk_cell a3.out 1).trans rfl
      have o2 : g9.cell? ⟨a2, 2, none⟩ = some (.slice none 0 0) := (blk_cell a3.out 2).trans rfl
      have o7 := blk_frozen a3.out 0
      have n7 := blk_frozen a3.out 1
      have n2 := blk_frozen a3.out 2
      go_wp2
      go_meet
      case rel => exact ⟨_, (true), (by first | rfl | (simp; done) | (simp [*]; done)), H', ⟨by have := t0.out; first | omega | exact Nat.le_refl _⟩, ⟨by (with_reducible repeat (first | apply Kd.R_alloc | apply Kd.R_drewN | apply Kd.R_drew)); exact Kd.R_mono (Kd.R_far (p := ⟨a2, 2, none⟩) (Kd.R_far (p := ⟨a2, 1, none⟩) (Kd.R_far (p := ⟨a2, 0, none⟩) (Kd.R_types h1.out a3.out (by decide)) (fun _ hk => hk.2) (.int .i64 (wrap64 (a0_0 * a1_0)))) (fun _ hk => hk.2) (.slice h3 b3.length e3)) (fun _ hk => hk.2) (.slice none 0 0)) (fun _ hk => trivial)⟩, ⟨by (with_reducible repeat (first | refine blk_drewN ?_ _ | refine blk_drew ?_ | refine blk_alloc ?_ _)); refine blk_far ?_ b8.out _; (with_reducible repeat (first | refine blk_drewN ?_ _ | refine blk_drew ?_ | refine blk_alloc ?_ _)); refine blk_far ?_ b8.out _; (with_reducible repeat (first | refine blk_drewN ?_ _ | refine blk_drew ?_ | refine blk_alloc ?_ _)); refine blk_far ?_ b8.out _; (with_reducible repeat (first | refine blk_drewN ?_ _ | refine blk_drew ?_ | refine blk_alloc ?_ _)); exact a0.out⟩, ⟨by (with_reducible repeat (first | refine blk_drewN ?_ _ | refine blk_drew ?_ | refine blk_alloc ?_ _)); refine blk_far ?_ b7.out _; (with_reducible repeat (first | refine blk_drewN ?_ _ | refine blk_drew ?_ | refine blk_alloc ?_ _)); refine blk_far ?_ b7.out _; (with_reducible repeat (first | refine blk_drewN ?_ _ | refine blk_drew ?_ | refine blk_alloc ?_ _)); refine blk_far ?_ b7.out _; (with_reducible repeat (first | refine blk_drewN ?_ _ | refine blk_drew ?_ | refine blk_alloc ?_ _)); exact a1.out⟩, ⟨by (with_reducible repeat (first | refine blk_drewN ?_ _ | refine blk_drew ?_ | refine blk_alloc ?_ _)); refine blk_far ?_ d3.out _; (with_reducible repeat (first | refine blk_drewN ?_ _ | refine blk_drew ?_ | refine blk_alloc ?_ _)); refine blk_far ?_ d3.out _; (with_reducible repeat (first | refine blk_drewN ?_ _ | refine blk_drew ?_ | refine blk_alloc ?_ _)); refine blk_far ?_ d3.out _; (with_reducible repeat (first | refine blk_drewN ?_ _ | refine blk_drew ?_ | refine blk_alloc ?_ _)); exact a4.out⟩, ⟨by (with_reducible repeat (first | refine blk_drewN ?_ _ | refine blk_drew ?_ | refine blk_alloc ?_ _)); refine blk_put (cs := #[.int .i64 (wrap64 (a0_0 * a1_0)), .slice h3 b3.length e3, .slice none 0 0]) ?_ 2 _ rfl; (with_reducible repeat (first | refine blk_drewN ?_ _ | refine blk_drew ?_ | refine blk_alloc ?_ _)); refine blk_put (cs := #[.int .i64 (wrap64 (a0_0 * a1_0)), .slice none 0 0, .slice none 0 0]) ?_ 1 _ rfl; (with_reducible repeat (first | refine blk_drewN ?_ _ | refine blk_drew ?_ | refine blk_alloc ?_ _)); refine blk_put (cs := #[.int .i64 0, .slice none 0 0, .slice none 0 0]) ?_ 0 _ rfl; (with_reducible repeat (first | refine blk_drewN ?_ _ | refine blk_drew ?_ | refine blk_alloc ?_ _)); exact a3.out⟩, ⟨by repeat (first | (with_reducible first | exact HB.out | apply below_alloc | apply pw_below_drewN | apply below_drew1 | refine below_set ?_ b9.out | refine below_set ?_ d1.out | refine below_set ?_ d2.out | refine below_set ?_ d4.out) | exact HB.out)⟩⟩
     ·rw [if_neg p4] at H
      have c36b0 : decide (2048 < (wrap64 (a0_0 * a1_0))) = false := decide_eq_false p4
      clear p4
      (first | rw [c36b0] | (simp only [i64_w, i32_w]; rw [c36b0]) | skip)
      have H' := Aside0.mk H
      clear H
      have bg := e6.out
      have bE := b8.out
      have af := e5.out
      have bJ := b7.out
      have ar := e2.out
      have bv := d3.out
      have o3 : g9.cell? ⟨a2, 0, none⟩ = some (.int .i64 0) := (blk_cell a3.out 0).trans rfl
      have n4 : g9.cell? ⟨a2, 1, none⟩ = some (.slice none 0 0) := (blk_cell a3.out 1).trans rfl
      have p3 : g9.cell? ⟨a2, 2, none⟩ = some (.slice none 0 0) := (blk_cell a3.out 2).trans rfl
      have o4 := blk_frozen a3.out 0
      have o0 := blk_frozen a3.out 1
      have o1 := blk_frozen a3.out 2
      go_wp2
      go_meet
      case rel => exact ⟨_, (decide ((b3.length : Int) > 64)), (by first | rfl | (simp; done) | (simp [*]; done)), H', ⟨by have := t0.out; first | omega | exact Nat.le_refl _⟩, ⟨by (with_reducible repeat (first | apply Kd.R_alloc | apply Kd.R_drewN | apply Kd.R_drew)); exact Kd.R_mono (Kd.R_far (p := ⟨a2, 2, none⟩) (Kd.R_far (p := ⟨a2, 1, none⟩) (Kd.R_far (p := ⟨a2, 0, none⟩) (Kd.R_types h1.out a3.out (by decide)) (fun _ hk => hk.2) (.int .i64 (wrap64 (a0_0 * a1_0)))) (fun _ hk => hk.2) (.slice h3 b3.length e3)) (fun _ hk => hk.2) (.slice none 0 0)) (fun _ hk => trivial)⟩, ⟨by (with_reducible repeat (first | refine blk_drewN ?_ _ | refine blk_drew ?_ | refine blk_alloc ?_ _)); refine blk_far ?_ b8.out _; (with_reducible repeat (first | refine blk_drewN ?_ _ | refine blk_drew ?_ | refine blk_alloc ?_ _)); refine blk_far ?_ b8.out _; (with_reducible repeat (first | refine blk_drewN ?_ _ | refine blk_drew ?_ | refine blk_alloc ?_ _)); refine blk_far ?_ b8.out _; (with_reducible repeat (first | refine blk_drewN ?_ _ | refine blk_drew ?_ | refine blk_alloc ?_ _)); exact a0.out⟩, ⟨by (with_reducible repeat (first | refine blk_drewN ?_ _ | refine blk_drew ?_ | refine blk_alloc ?_ _)); refine blk_far ?_ b7.out _; (with_reducible repeat (first | refine blk_drewN ?_ _ | refine blk_drew ?_ | refine blk_alloc ?_ _)); refine blk_far ?_ b7.out _; (with_reducible repeat (first | refine blk_drewN ?_ _ | refine blk_drew ?_ | refine blk_alloc ?_ _)); refine blk_far ?_ b7.out _; (with_reducible repeat (first | refine blk_drewN ?_ _ | refine blk_drew ?_ | refine blk_alloc ?_ _)); exact a1.out⟩, ⟨by (with_reducible repeat (first | refine blk_drewN ?_ _ | refine blk_drew ?_ | refine blk_alloc ?_ _)); refine blk_far ?_ d3.out _; (with_reducible repeat (first | refine blk_drewN ?_ _ | refine blk_drew ?_ | refine blk_alloc ?_ _)); refine blk_far ?_ d3.out _; (with_reducible repeat (first | refine blk_drewN ?_ _ | refine blk_drew ?_ | refine blk_alloc ?_ _)); refine blk_far ?_ d3.out _; (with_reducible repeat (first | refine blk_drewN ?_ _ | refine blk_drew ?_ | refine blk_alloc ?_ _)); exact a4.out⟩, ⟨by (with_reducible repeat (first | refine blk_drewN ?_ _ | refine blk_drew ?_ | refine blk_alloc ?_ _)); refine blk_put (cs := #[.int .i64 (wrap64 (a0_0 * a1_0)), .slice h3 b3.length e3, .slice none 0 0]) ?_ 2 _ rfl; (with_reducible repeat (first | refine blk_drewN ?_ _ | refine blk_drew ?_ | refine blk_alloc ?_ _)); refine blk_put (cs := #[.int .i64 (wrap64 (a0_0 * a1_0)), .slice none 0 0, .slice none 0 0]) ?_ 1 _ rfl; (with_reducible repeat (first | refine blk_drewN ?_ _ | refine blk_drew ?_ | refine blk_alloc ?_ _)); refine blk_put (cs := #[.int .i64 0, .slice none 0 0, .slice none 0 0]) ?_ 0 _ rfl; (with_reducible repeat (first | refine blk_drewN ?_ _ | refine blk_drew ?_ | refine blk_alloc ?_ _)); exact a3.out⟩, ⟨by repeat (first | (with_reducible first | exact HB.out | apply below_alloc | apply pw_below_drewN | apply below_drew1 | refine below_set ?_ b9.out | refine below_set ?_ d1.out | refine below_set ?_ d2.out | refine below_set ?_ d4.out) | exact HB.out)⟩⟩
    case rest =>
     clear D2
     try clear c1
     try clear c2
     try clear p2
     try clear c3
     try clear c4
     try clear p6
     try clear c8
     try clear c8b0
     try clear c8b1
     try clear c10
     try clear E7
     try clear E9
     try clear E0
     try clear E2
     try clear E3
     try clear s8
     try clear I7
     try clear H4
     try clear G0
     try clear p4
     try clear c36b0
     try clear H2
     try clear H8
     try clear G4
     try clear G6
     try clear G5
     try clear H5
     try clear k1
     try clear l4
     try clear j8
     try clear j6
     try clear k7
     try clear k8
     try clear l5
     try clear j9
     try clear k9
     try clear n8
     try clear o6
     try clear n5
     try clear o5
     try clear o8
     try clear o2
     try clear o3
     try clear n4
     try clear p3
     try clear j4
     try clear l7
     try clear k6
     try clear l3
     try clear l6
     try clear k0
     try clear k2
     try clear j5
     try clear j7
     try clear p0
     try clear n3
     try clear n9
     try clear o7
     try clear n7
     try clear n2
     try clear o4
     try clear o0
     try clear o1
     try clear p2
     obtain ⟨kq, q2, rfl, HA, s7, b6, a0, a1, a4, a3, HB⟩ := hcut
     cases kq with
     | zero => exact absurd HA.out (by simp [Pxh.j1])
     | succ kj25 =>
      have H := HA.out
      clear HA
      simp only [Pxh.j1] at H
      by_cases v0 : q2 = true
      ·subst v0
       have H1 : (some (0, ([] : List ByteArray), ([] : List (S51)), 8)) = some (r1, r2, r3, r4) := by rw [if_pos rfl] at H; exact H
       clear H
       have H := H1
       clear H1
       simp only [Option.some.injEq, Prod.mk.injEq] at H
       obtain ⟨rfl, rfl, rfl, rfl⟩ := H
       have bm := g6.out
       have aI := g3.out
       have aK := g1.out
       have bK := g4.out
       have bl := d3.out
       have bw := e2.out
       have r7 : wc.cell? ⟨b2, 0, none⟩ = some (.int .i64 0) := (blk_cell a4.out 0).trans rfl
       have q5 : wc.cell? ⟨b2, 1, none⟩ = some (.slice none 0 0) := (blk_cell a4.out 1).trans rfl
       have q7 : wc.cell? ⟨b2, 2, none⟩ = some (.slice none 0 0) := (blk_cell a4.out 2).trans rfl
       have q8 := blk_frozen a4.out 0
       have q4 := blk_frozen a4.out 1
       have r6 := blk_frozen a4.out 2
       go_wp2
       refine bodyPost_ret (results_ct rfl _ _ b2 25 #[.int .i64 0, .slice none 0 0, .slice none 0 0] (0, 0) _ rfl (by (with_reducible repeat (first | refine blk_drewN ?_ _ | refine blk_drew ?_ | refine blk_alloc ?_ _)); refine blk_put (cs := #[.int .i64 0, .slice none 0 0, .slice none 0 0]) ?_ 2 _ rfl; (with_reducible repeat (first | refine blk_drewN ?_ _ | refine blk_drew ?_ | refine blk_alloc ?_ _)); refine blk_put (cs := #[.int .i64 0, .slice none 0 0, .slice none 0 0]) ?_ 1 _ rfl; (with_reducible repeat (first | refine blk_drewN ?_ _ | refine blk_drew ?_ | refine blk_alloc ?_ _)); refine blk_put (cs := #[.int .i64 0, .slice none 0 0, .slice none 0 0]) ?_ 0 _ rfl; (with_reducible repeat (first | refine blk_drewN ?_ _ | refine blk_drew ?_ | refine blk_alloc ?_ _)); exact a4.out) Try.underlying25 rfl (by kernel_rfl)) rfl ?_
       exact ⟨_, _, by first | rfl | (simp [errW_none, errW_some] <;> rfl) | (simp [*, errW_none, errW_some] <;> rfl), by first | exact Kd.R_nil _ _ _ _ _ | exact Kd.N_nil _ _ _ _ _ | exact Kd.V_nil _ _ _ _ _ | exact Kd.Q_nil _ _ _ _ _ | exact Kd.S_nil _ _ _ _ _, by first | exact Kd.R_nil _ _ _ _ _ | exact Kd.N_nil _ _ _ _ _ | exact Kd.V_nil _ _ _ _ _ | exact Kd.Q_nil _ _ _ _ _ | exact Kd.S_nil _ _ _ _ _, by repeat (first | (with_reducible first | exact HB.out | apply below_alloc | apply pw_below_drewN | apply below_drew1 | refine below_set ?_ b9.out | refine below_set ?_ d1.out | refine below_set ?_ d2.out | refine below_set ?_ d4.out) | exact HB.out)⟩
      ·replace v0 := Bool.eq_false_iff.mpr v0
       subst v0
       have H1 : (Pxh.l0 kj25 b3 (b3.length : Int) 0 a0_0 l0_1 l0_2 a1_0 l1_1 l1_2 (wrap64 (a0_0 * a1_0)) b3 ([] : List (S51))) = some (r1, r2, r3, r4) := by rw [if_neg (show ¬ (false = true) by decide)] at H; exact H
       clear H
       have H := H1
       clear H1
       have H' := Aside0.mk H
       clear H
       have aV := e6.out
       have aY := b8.out
       have bx := e5.out
       have bL := b7.out
       have bb := e2.out
       have ae := d3.out
       have q6 : wc.cell? ⟨a2, 0, none⟩ = some (.int .i64 (wrap64 (a0_0 * a1_0))) := (blk_cell a3.out 0).trans rfl
       have q3 : wc.cell? ⟨a2, 1, none⟩ = some (.slice h3 b3.length e3) := (blk_cell a3.out 1).trans rfl
       have q9 : wc.cell? ⟨a2, 2, none⟩ = some (.slice none 0 0) := (blk_cell a3.out 2).trans rfl
       have r9 := blk_frozen a3.out 0
       have r5 := blk_frozen a3.out 1
       have r8 := blk_frozen a3.out 2
       go_wp2
       go_loopg [48] kj25 (fun kq W3 w' => ∃ (d6 : Int) (d5 : Int) (e7 : List (S51)) (d0 : Value), W3 = .int .i64 d6 ∧ Aside0 (Pxh.l0 kq b3 (b3.length : Int) d6 a0_0 l0_1 l0_2 a1_0 l1_1 l1_2 (wrap64 (a0_0 * a1_0)) b3 e7 = some (r1, r2, r3, r4)) ∧ Aside0 (kq ≤ kj25) ∧ Aside0 (Kd.R Kd.string 9 w' w.heap.size (fun _ => True) (.slice h3 b3.length e3) b3) ∧ Aside0 (Kd.R Kd.string 9 w' w.heap.size (fun _ => True) (.slice h3 b3.length e3) b3) ∧ Aside0 (Kd.R k51 51 w' w.heap.size (fun _ => True) d0 e7) ∧ Aside0 (w'.heap[a6]? = some (.cells #[.int .i64 a0_0, (.slice A0_1 l0_1.length c0_1), (.slice A0_2 l0_2.length c0_2)] 25 (0, 0))) ∧ Aside0 (w'.heap[b0]? = some (.cells #[.int .i64 a1_0, (.slice A1_1 l1_1.length c1_1), (.slice A1_2 l1_2.length c1_2)] 25 (0, 0))) ∧ Aside0 (w'.heap[b2]? = some (.cells #[.int .i64 d5, (.slice none 0 0), (.slice none 0 0)] 25 (0, 0))) ∧ Aside0 (w'.heap[a2]? = some (.cells #[.int .i64 (wrap64 (a0_0 * a1_0)), (.slice h3 b3.length e3), d0] 25 (0, 0))) ∧ Aside0 (Below w.heap.size w w'))
       case atStart => exact ⟨(0), (0), (([] : List (S51))), (.slice none 0 0), (by first | rfl | (simp; done) | (simp [*]; done)), H', ⟨Nat.le_refl _⟩, ⟨by (with_reducible repeat (first | apply Kd.R_alloc | apply Kd.R_drewN | apply Kd.R_drew)); exact b6.out⟩, ⟨by (with_reducible repeat (first | apply Kd.R_alloc | apply Kd.R_drewN | apply Kd.R_drew)); exact b6.out⟩, ⟨by first | exact Kd.R_nil _ _ _ _ _ | exact Kd.N_nil _ _ _ _ _ | exact Kd.V_nil _ _ _ _ _ | exact Kd.Q_nil _ _ _ _ _ | exact Kd.S_nil _ _ _ _ _⟩, ⟨by (with_reducible repeat (first | refine blk_drewN ?_ _ | refine blk_drew ?_ | refine blk_alloc ?_ _)); exact a0.out⟩, ⟨by (with_reducible repeat (first | refine blk_drewN ?_ _ | refine blk_drew ?_ | refine blk_alloc ?_ _)); exact a1.out⟩, ⟨by (with_reducible repeat (first | refine blk_drewN ?_ _ | refine blk_drew ?_ | refine blk_alloc ?_ _)); exact a4.out⟩, ⟨by (with_reducible repeat (first | refine blk_drewN ?_ _ | refine blk_drew ?_ | refine blk_alloc ?_ _)); exact a3.out⟩, ⟨by repeat (first | (with_reducible first | exact HB.out | apply below_alloc | apply pw_below_drewN | apply below_drew1 | refine below_set ?_ b9.out | refine below_set ?_ d1.out | refine below_set ?_ d2.out | refine below_set ?_ d4.out) | exact HB.out)⟩⟩
       case round =>
        clear H'
        try clear c1
        try clear c2
        try clear p2
        try clear c3
        try clear c4
        try clear c5
        try clear p6
        try clear c8
        try clear c8b0
        try clear c8b1
        try clear c10
        try clear E7
        try clear E9
        try clear E0
        try clear E2
        try clear E3
        try clear s8
        try clear I7
        try clear H4
        try clear G0
        try clear p4
        try clear c36b0
        try clear H2
        try clear H8
        try clear G4
        try clear G6
        try clear G5
        try clear H5
        try clear v0
        try clear K0
        try clear K9
        try clear L3
        try clear L4
        try clear K8
        try clear K7
        try clear k1
        try clear l4
        try clear j8
        try clear j6
        try clear k7
        try clear k8
        try clear l5
        try clear j9
        try clear k9
        try clear n8
        try clear o6
        try clear n5
        try clear o5
        try clear o8
        try clear o2
        try clear o3
        try clear n4
        try clear p3
        try clear r7
        try clear q5
        try clear q7
        try clear q6
        try clear q3
        try clear q9
        try clear j4
        try clear l7
        try clear k6
        try clear l3
        try clear l6
        try clear k0
        try clear k2
        try clear j5
        try clear j7
        try clear p0
        try clear n3
        try clear n9
        try clear o7
        try clear n7
        try clear n2
        try clear o4
        try clear o0
        try clear o1
        try clear q8
        try clear q4
        try clear r6
        try clear r9
        try clear r5
        try clear r8
        try clear p2
        try clear p6
        obtain ⟨d6, d5, e7, d0, rfl, HA, x1, e1, b6, a5, a0, a1, a4, a3, HB⟩ := hrel
        cases gk with
        | zero => exact absurd HA.out (by simp [Pxh.l0])
        | succ k3 =>
         have H := HA.out
         clear HA
         simp only [Pxh.l0] at H
         by_cases t3 : d6 < (b3.length : Int)
         ·rw [if_pos t3] at H
          have c54b0 : decide (d6 < (b3.length : Int)) = true := decide_eq_true t3
          clear t3
          by_cases y2 : 0 ≤ d6
          ·rw [if_pos y2] at H
           have c55b0 : decide (0 ≤ d6) = true := decide_eq_true y2
           clear y2
           by_cases v5 : d6 < (b3.length : Int)
           ·rw [if_pos v5] at H
            have c56b0 : decide (d6 < (b3.length : Int)) = true := decide_eq_true v5
            clear v5
            replace H := Option.bind_eq_some_iff.mp H
            obtain ⟨⟨a9, a8⟩, G3, H⟩ := H
            replace H : (if (wrap64 ((e7.length : Int) + (wrap64 ((a9.length : Int) * (a8.length : Int))))) > 1000000 then (some (0, ([] : List ByteArray), ([] : List (S51)), 8)) else (Pxh.l1 k3 d6 a8 b3 (b3.length : Int) d6 a9 (a9.length : Int) 0 a0_0 l0_1 l0_2 a1_0 l1_1 l1_2 (wrap64 (a0_0 * a1_0)) b3 e7)) = some (r1, r2, r3, r4) := H
            have L9 := Aside0.mk G3
            clear G3
            by_cases t1 : (wrap64 ((e7.length : Int) + (wrap64 ((a9.length : Int) * (a8.length : Int))))) > 1000000
            ·rw [if_pos t1] at H
             have c58b0 : decide (1000000 < (wrap64 ((e7.length : Int) + (wrap64 ((a9.length : Int) * (a8.length : Int)))))) = true := decide_eq_true t1
             clear t1
             simp only [Option.some.injEq, Prod.mk.injEq] at H
             obtain ⟨rfl, rfl, rfl, rfl⟩ := H
             have m6 : 0 ≤ (d6 : Int) := of_decide_eq_true (by first | (with_reducible assumption) | assumption)
             have m2 : d6 < (b3.length : Int) := of_decide_eq_true (by first | (with_reducible assumption) | assumption)
             obtain ⟨e9, C7, s6⟩ := Kd.at_string (Kd.R_reads' e1.out).2.2 d6 m6 m2
             cases C7
             replace m6 := eq_true m6
             replace m2 := eq_true m2
             have al := i1.out
             have bz := i0.out
             have bD := g3.out
             have aR := g6.out
             have ba := b8.out
             have bH := e6.out
             have w9 : wr.cell? ⟨a6, 0, none⟩ = some (.int .i64 a0_0) := (blk_cell a0.out 0).trans rfl
             have A2 : wr.cell? ⟨a6, 1, none⟩ = some (.slice A0_1 l0_1.length c0_1) := (blk_cell a0.out 1).trans rfl
             have A1 : wr.cell? ⟨a6, 2, none⟩ = some (.slice A0_2 l0_2.length c0_2) := (blk_cell a0.out 2).trans rfl
             have A3 := blk_frozen a0.out 0
             have v6 := blk_frozen a0.out 1
             have A4 := blk_frozen a0.out 2
             have aw := g4.out
             have bF := g1.out
             have bG := b7.out
             have am := e5.out
             have w2 : wr.cell? ⟨b0, 0, none⟩ = some (.int .i64 a1_0) := (blk_cell a1.out 0).trans rfl
             have w8 : wr.cell? ⟨b0, 1, none⟩ = some (.slice A1_1 l1_1.length c1_1) := (blk_cell a1.out 1).trans rfl
             have x4 : wr.cell? ⟨b0, 2, none⟩ = some (.slice A1_2 l1_2.length c1_2) := (blk_cell a1.out 2).trans rfl
             have x2 := blk_frozen a1.out 0
             have y9 := blk_frozen a1.out 1
             have z0 := blk_frozen a1.out 2
             go_wp2_with (first | ((with_reducible refine gate_callee (f := 47) rfl ?_); refine goesL_ (some 57) rfl rfl Try.func47 (by kernel_rfl) rfl #[.agg #[.int .i64 a0_0, .slice A0_1 l0_1.length c0_1, .slice A0_2 l0_2.length c0_2], .agg #[.int .i64 a1_0, .slice A1_1 l1_1.length c1_1, .slice A1_2 l1_2.length c1_2], .string (rdOf ByteArray.empty b3 d6)] rfl (by (try simp only [List.map_toArray, List.map_cons, List.map_nil]); first | done | rfl | (simp only [List.length_drop, List.length_take]; rfl)) ?_; (with_reducible refine (Pxd.calls k3 a0_0 _ _ l0_1 _ _ l0_2 a1_0 _ _ l1_1 _ _ l1_2 (rdOf ByteArray.empty b3 d6) a9 a8 _ ?l9 ?m4 ?l8 ?m5 ?J7 ?J4 ?I8 ?I9 L9.out).mono ?_); (case l9 => repeat (first | exact (Kd.C_below o9.out HB.out) | (with_reducible refine Kd.C_alloc ?_ _) | (with_reducible refine Kd.C_drewN ?_ _) | (with_reducible refine Kd.C_drew ?_))); (case m4 => exact n6.out); (case l8 => repeat (first | exact (Kd.C_below u1.out HB.out) | (with_reducible refine Kd.C_alloc ?_ _) | (with_reducible refine Kd.C_drewN ?_ _) | (with_reducible refine Kd.C_drew ?_))); (case m5 => exact u2.out); (case J7 => repeat (first | exact (Kd.C_below p9.out HB.out) | (with_reducible refine Kd.C_alloc ?_ _) | (with_reducible refine Kd.C_drewN ?_ _) | (with_reducible refine Kd.C_drew ?_))); (case J4 => exact p8.out); (case I8 => repeat (first | exact (Kd.C_below B6.out HB.out) | (with_reducible refine Kd.C_alloc ?_ _) | (with_reducible refine Kd.C_drewN ?_ _) | (with_reducible refine Kd.C_drew ?_))); (case I9 => exact B5.out); rintro e z4 ⟨Q9, Q0, rfl, h2, n1, hb⟩; refine ⟨_, rfl, ?_⟩; have d8 := Aside0.mk (Kd.R_below (by (with_reducible repeat (first | apply Kd.R_alloc | apply Kd.R_drewN | apply Kd.R_drew)); exact e1.out) hb); have d9 := Aside0.mk (Kd.R_below (by (with_reducible repeat (first | apply Kd.R_alloc | apply Kd.R_drewN | apply Kd.R_drew)); exact b6.out) hb); have d7 := Aside0.mk (Kd.R_mono (Kd.R_told (Kd.R_told (Kd.R_old (by (with_reducible repeat (first | apply Kd.R_alloc | apply Kd.R_drewN | apply Kd.R_drew)); exact a5.out) hb) (Kd.R_base h2)) (Kd.R_base n1)) (fun _ h_ => h_.1)); have e0 := Aside0.mk (Kd.R_lower (Kd.R_new' h2 (Kd.R_lt (by (with_reducible repeat (first | apply Kd.R_alloc | apply Kd.R_drewN | apply Kd.R_drew)); exact a5.out))) (below_size (by repeat (first | (with_reducible first | exact HB.out | apply below_alloc | apply pw_below_drewN | apply below_drew1 | refine below_set ?_ b9.out | refine below_set ?_ d1.out | refine below_set ?_ d2.out | refine below_set ?_ d4.out) | exact HB.out)))); have e8 := Aside0.mk (Kd.R_lower (Kd.R_new' n1 (Kd.R_lt (by (with_reducible repeat (first | apply Kd.R_alloc | apply Kd.R_drewN | apply Kd.R_drew)); exact a5.out))) (below_size (by repeat (first | (with_reducible first | exact HB.out | apply below_alloc | apply pw_below_drewN | apply below_drew1 | refine below_set ?_ b9.out | refine below_set ?_ d1.out | refine below_set ?_ d2.out | refine below_set ?_ d4.out) | exact HB.out)))); have f3 := Aside0.mk (blk_below (g := a6) (o := .cells #[.int .i64 a0_0, .slice A0_1 l0_1.length c0_1, .slice A0_2 l0_2.length c0_2] 25 (0, 0)) (by (with_reducible repeat (first | refine blk_drewN ?_ _ | refine blk_drew ?_ | refine blk_alloc ?_ _)); exact a0.out) hb); have f4 := Aside0.mk (blk_below (g := b0) (o := .cells #[.int .i64 a1_0, .slice A1_1 l1_1.length c1_1, .slice A1_2 l1_2.length c1_2] 25 (0, 0)) (by (with_reducible repeat (first | refine blk_drewN ?_ _ | refine blk_drew ?_ | refine blk_alloc ?_ _)); exact a1.out) hb); have f7 := Aside0.mk (blk_below (g := b2) (o := .cells #[.int .i64 d5, .slice none 0 0, .slice none 0 0] 25 (0, 0)) (by (with_reducible repeat (first | refine blk_drewN ?_ _ | refine blk_drew ?_ | refine blk_alloc ?_ _)); exact a4.out) hb); have f6 := Aside0.mk (blk_below (g := a2) (o := .cells #[.int .i64 (wrap64 (a0_0 * a1_0)), .slice (some e9) b3.length e3, d0] 25 (0, 0)) (by (with_reducible repeat (first | refine blk_drewN ?_ _ | refine blk_drew ?_ | refine blk_alloc ?_ _)); exact a3.out) hb); have f5 := Aside0.mk (below_step (by repeat (first | (with_reducible first | exact HB.out | apply below_alloc | apply pw_below_drewN | apply below_drew1 | refine below_set ?_ b9.out | refine below_set ?_ d1.out | refine below_set ?_ d2.out | refine below_set ?_ d4.out) | exact HB.out)) hb); clear e1; clear b6; clear a5; clear a0; clear a1; clear a4; clear a3; clear HB; have e1 := d8; have b6 := d9; have a5 := d7; have t7 := e0; have t9 := e8; have a0 := f3; have a1 := f4; have a4 := f7; have a3 := f6; have HB := f5; clear d8 d9 d7 e0 e8 f3 f4 f7 f6 f5; (try clear hb); (try clear v3); (try clear hk); (try clear hi); (try clear h2); (try clear n1); have aX := e2.out; have bI := d3.out; have z9 : z4.cell? ⟨a2, 0, none⟩ = some (.int .i64 (wrap64 (a0_0 * a1_0))) := (blk_cell a3.out 0).trans rfl; have x7 : z4.cell? ⟨a2, 1, none⟩ = some (.slice (some e9) b3.length e3) := (blk_cell a3.out 1).trans rfl; have v7 : z4.cell? ⟨a2, 2, none⟩ = some (d0) := (blk_cell a3.out 2).trans rfl; have z2 := blk_frozen a3.out 0; have x0 := blk_frozen a3.out 1; have x8 := blk_frozen a3.out 2; obtain ⟨ca, bT, R8⟩ := Kd.R_slice a5.out; subst R8; obtain ⟨bW, bR, M1⟩ := Kd.R_slice t7.out; subst M1; obtain ⟨bS, bY, M3⟩ := Kd.R_slice t9.out; subst M3; have z8 : z4.cell? ⟨b2, 0, none⟩ = some (.int .i64 d5) := (blk_cell a4.out 0).trans rfl; have A8 : z4.cell? ⟨b2, 1, none⟩ = some (.slice none 0 0) := (blk_cell a4.out 1).trans rfl; have x9 : z4.cell? ⟨b2, 2, none⟩ = some (.slice none 0 0) := (blk_cell a4.out 2).trans rfl; have z3 := blk_frozen a4.out 0; have v8 := blk_frozen a4.out 1; have v9 := blk_frozen a4.out 2))
             refine bodyPost_ret (results_ct rfl _ _ b2 25 #[.int .i64 0, .slice none 0 0, .slice none 0 0] (0, 0) _ rfl (by (with_reducible repeat (first | refine blk_drewN ?_ _ | refine blk_drew ?_ | refine blk_alloc ?_ _)); refine blk_put (cs := #[.int .i64 0, .slice none 0 0, .slice none 0 0]) ?_ 2 _ rfl; (with_reducible repeat (first | refine blk_drewN ?_ _ | refine blk_drew ?_ | refine blk_alloc ?_ _)); refine blk_put (cs := #[.int .i64 0, .slice none 0 0, .slice none 0 0]) ?_ 1 _ rfl; (with_reducible repeat (first | refine blk_drewN ?_ _ | refine blk_drew ?_ | refine blk_alloc ?_ _)); refine blk_put (cs := #[.int .i64 d5, .slice none 0 0, .slice none 0 0]) ?_ 0 _ rfl; (with_reducible repeat (first | refine blk_drewN ?_ _ | refine blk_drew ?_ | refine blk_alloc ?_ _)); exact a4.out) Try.underlying25 rfl (by kernel_rfl)) rfl ?_
             exact ⟨_, _, by first | rfl | (simp [errW_none, errW_some] <;> rfl) | (simp [*, errW_none, errW_some] <;> rfl), by first | exact Kd.R_nil _ _ _ _ _ | exact Kd.N_nil _ _ _ _ _ | exact Kd.V_nil _ _ _ _ _ | exact Kd.Q_nil _ _ _ _ _ | exact Kd.S_nil _ _ _ _ _, by first | exact Kd.R_nil _ _ _ _ _ | exact Kd.N_nil _ _ _ _ _ | exact Kd.V_nil _ _ _ _ _ | exact Kd.Q_nil _ _ _ _ _ | exact Kd.S_nil _ _ _ _ _, by repeat (first | (with_reducible first | exact HB.out | apply below_alloc | apply pw_below_drewN | apply below_drew1 | refine below_set ?_ b9.out | refine below_set ?_ d1.out | refine below_set ?_ d2.out | refine below_set ?_ d4.out) | exact HB.out)⟩
            ·rw [if_neg t1] at H
             have c58b0 : decide (1000000 < (wrap64 ((e7.length : Int) + (wrap64 ((a9.length : Int) * (a8.length : Int)))))) = false := decide_eq_false t1
             clear t1
             have H' := Aside0.mk H
             clear H
             have m6 : 0 ≤ (d6 : Int) := of_decide_eq_true (by first | (with_reducible assumption) | assumption)
             have m2 : d6 < (b3.length : Int) := of_decide_eq_true (by first | (with_reducible assumption) | assumption)
             obtain ⟨e9, C7, s6⟩ := Kd.at_string (Kd.R_reads' e1.out).2.2 d6 m6 m2
             cases C7
             replace m6 := eq_true m6
             replace m2 := eq_true m2
             have aC := i1.out
             have ai := i0.out
             have ax := g3.out
             have av := g6.out
             have bs := b8.out
             have aG := e6.out
             have w3 : wr.cell? ⟨a6, 0, none⟩ = some (.int .i64 a0_0) := (blk_cell a0.out 0).trans rfl
             have z1 : wr.cell? ⟨a6, 1, none⟩ = some (.slice A0_1 l0_1.length c0_1) := (blk_cell a0.out 1).trans rfl
             have z6 : wr.cell? ⟨a6, 2, none⟩ = some (.slice A0_2 l0_2.length c0_2) := (blk_cell a0.out 2).trans rfl
             have y5 := blk_frozen a0.out 0
             have y1 := blk_frozen a0.out 1
             have x6 := blk_frozen a0.out 2
             have ak := g4.out
             have bC := g1.out
             have ad := b7.out
             have ap := e5.out
             have A5 : wr.cell? ⟨b0, 0, none⟩ = some (.int .i64 a1_0) := (blk_cell a1.out 0).trans rfl
             have A6 : wr.cell? ⟨b0, 1, none⟩ = some (.slice A1_1 l1_1.length c1_1) := (blk_cell a1.out 1).trans rfl
             have y4 : wr.cell? ⟨b0, 2, none⟩ = some (.slice A1_2 l1_2.length c1_2) := (blk_cell a1.out 2).trans rfl
             have y3 := blk_frozen a1.out 0
             have x3 := blk_frozen a1.out 1
             have y0 := blk_frozen a1.out 2
             go_wp2_with (first | ((with_reducible refine gate_callee (f := 47) rfl ?_); refine goesL_ (some 57) rfl rfl Try.func47 (by kernel_rfl) rfl #[.agg #[.int .i64 a0_0, .slice A0_1 l0_1.length c0_1, .slice A0_2 l0_2.length c0_2], .agg #[.int .i64 a1_0, .slice A1_1 l1_1.length c1_1, .slice A1_2 l1_2.length c1_2], .string (rdOf ByteArray.empty b3 d6)] rfl (by (try simp only [List.map_toArray, List.map_cons, List.map_nil]); first | done | rfl | (simp only [List.length_drop, List.length_take]; rfl)) ?_; (with_reducible refine (Pxd.calls k3 a0_0 _ _ l0_1 _ _ l0_2 a1_0 _ _ l1_1 _ _ l1_2 (rdOf ByteArray.empty b3 d6) a9 a8 _ ?l9 ?m4 ?l8 ?m5 ?J7 ?J4 ?I8 ?I9 L9.out).mono ?_); (case l9 => repeat (first | exact (Kd.C_below o9.out HB.out) | (with_reducible refine Kd.C_alloc ?_ _) | (with_reducible refine Kd.C_drewN ?_ _) | (with_reducible refine Kd.C_drew ?_))); (case m4 => exact n6.out); (case l8 => repeat (first | exact (Kd.C_below u1.out HB.out) | (with_reducible refine Kd.C_alloc ?_ _) | (with_reducible refine Kd.C_drewN ?_ _) | (with_reducible refine Kd.C_drew ?_))); (case m5 => exact u2.out); (case J7 => repeat (first | exact (Kd.C_below p9.out HB.out) | (with_reducible refine Kd.C_alloc ?_ _) | (with_reducible refine Kd.C_drewN ?_ _) | (with_reducible refine Kd.C_drew ?_))); (case J4 => exact p8.out); (case I8 => repeat (first | exact (Kd.C_below B6.out HB.out) | (with_reducible refine Kd.C_alloc ?_ _) | (with_reducible refine Kd.C_drewN ?_ _) | (with_reducible refine Kd.C_drew ?_))); (case I9 => exact B5.out); rintro e H6 ⟨Q9, Q0, rfl, h2, n1, hb⟩; refine ⟨_, rfl, ?_⟩; have d8 := Aside0.mk (Kd.R_below (by (with_reducible repeat (first | apply Kd.R_alloc | apply Kd.R_drewN | apply Kd.R_drew)); exact e1.out) hb); have d9 := Aside0.mk (Kd.R_below (by (with_reducible repeat (first | apply Kd.R_alloc | apply Kd.R_drewN | apply Kd.R_drew)); exact b6.out) hb); have d7 := Aside0.mk (Kd.R_mono (Kd.R_told (Kd.R_told (Kd.R_old (by (with_reducible repeat (first | apply Kd.R_alloc | apply Kd.R_drewN | apply Kd.R_drew)); exact a5.out) hb) (Kd.R_base h2)) (Kd.R_base n1)) (fun _ h_ => h_.1)); have e0 := Aside0.mk (Kd.R_lower (Kd.R_new' h2 (Kd.R_lt (by (with_reducible repeat (first | apply Kd.R_alloc | apply Kd.R_drewN | apply Kd.R_drew)); exact a5.out))) (below_size (by repeat (first | (with_reducible first | exact HB.out | apply below_alloc | apply pw_below_drewN | apply below_drew1 | refine below_set ?_ b9.out | refine below_set ?_ d1.out | refine below_set ?_ d2.out | refine below_set ?_ d4.out) | exact HB.out)))); have e8 := Aside0.mk (Kd.R_lower (Kd.R_new' n1 (Kd.R_lt (by (with_reducible repeat (first | apply Kd.R_alloc | apply Kd.R_drewN | apply Kd.R_drew)); exact a5.out))) (below_size (by repeat (first | (with_reducible first | exact HB.out | apply below_alloc | apply pw_below_drewN | apply below_drew1 | refine below_set ?_ b9.out | refine below_set ?_ d1.out | refine below_set ?_ d2.out | refine below_set ?_ d4.out) | exact HB.out)))); have f3 := Aside0.mk (blk_below (g := a6) (o := .cells #[.int .i64 a0_0, .slice A0_1 l0_1.length c0_1, .slice A0_2 l0_2.length c0_2] 25 (0, 0)) (by (with_reducible repeat (first | refine blk_drewN ?_ _ | refine blk_drew ?_ | refine blk_alloc ?_ _)); exact a0.out) hb); have f4 := Aside0.mk (blk_below (g := b0) (o := .cells #[.int .i64 a1_0, .slice A1_1 l1_1.length c1_1, .slice A1_2 l1_2.length c1_2] 25 (0, 0)) (by (with_reducible repeat (first | refine blk_drewN ?_ _ | refine blk_drew ?_ | refine blk_alloc ?_ _)); exact a1.out) hb); have f7 := Aside0.mk (blk_below (g := b2) (o := .cells #[.int .i64 d5, .slice none 0 0, .slice none 0 0] 25 (0, 0)) (by (with_reducible repeat (first | refine blk_drewN ?_ _ | refine blk_drew ?_ | refine blk_alloc ?_ _)); exact a4.out) hb); have f6 := Aside0.mk (blk_below (g := a2) (o := .cells #[.int .i64 (wrap64 (a0_0 * a1_0)), .slice (some e9) b3.length e3, d0] 25 (0, 0)) (by (with_reducible repeat (first | refine blk_drewN ?_ _ | refine blk_drew ?_ | refine blk_alloc ?_ _)); exact a3.out) hb); have f5 := Aside0.mk (below_step (by repeat (first | (with_reducible first | exact HB.out | apply below_alloc | apply pw_below_drewN | apply below_drew1 | refine below_set ?_ b9.out | refine below_set ?_ d1.out | refine below_set ?_ d2.out | refine below_set ?_ d4.out) | exact HB.out)) hb); clear e1; clear b6; clear a5; clear a0; clear a1; clear a4; clear a3; clear HB; have e1 := d8; have b6 := d9; have a5 := d7; have t7 := e0; have t9 := e8; have a0 := f3; have a1 := f4; have a4 := f7; have a3 := f6; have HB := f5; clear d8 d9 d7 e0 e8 f3 f4 f7 f6 f5; (try clear hb); (try clear v3); (try clear hk); (try clear hi); (try clear h2); (try clear n1); have aM := e2.out; have bq := d3.out; have x5 : H6.cell? ⟨a2, 0, none⟩ = some (.int .i64 (wrap64 (a0_0 * a1_0))) := (blk_cell a3.out 0).trans rfl; have w7 : H6.cell? ⟨a2, 1, none⟩ = some (.slice (some e9) b3.length e3) := (blk_cell a3.out 1).trans rfl; have y7 : H6.cell? ⟨a2, 2, none⟩ = some (d0) := (blk_cell a3.out 2).trans rfl; have y6 := blk_frozen a3.out 0; have z5 := blk_frozen a3.out 1; have A0 := blk_frozen a3.out 2; obtain ⟨Q4, Q3, O9⟩ := Kd.R_slice a5.out; subst O9; obtain ⟨D0, i9, M2⟩ := Kd.R_slice t7.out; subst M2; obtain ⟨m7, h4, M9⟩ := Kd.R_slice t9.out; subst M9))
             go_loopg [73] k3 (fun kq Y7 w' => ∃ (a7 : Int) (h8 : List (S51)) (d0 : Value), Y7 = .int .i64 a7 ∧ Aside0 (Pxh.l1 kq d6 a8 b3 (b3.length : Int) d6 a9 (a9.length : Int) a7 a0_0 l0_1 l0_2 a1_0 l1_1 l1_2 (wrap64 (a0_0 * a1_0)) b3 h8 = some (r1, r2, r3, r4)) ∧ Aside0 (kq ≤ k3) ∧ Aside0 (Kd.R k51 51 w' w.heap.size (fun k_ => some k_ ≠ ((.slice D0 a9.length i9) : Value).ownBlock ∧ some k_ ≠ (d0 : Value).ownBlock) (.slice m7 a8.length h4) a8) ∧ Aside0 (Kd.R Kd.string 9 w' w.heap.size (fun _ => True) (.slice (some e9) b3.length e3) b3) ∧ Aside0 (Kd.R k51 51 w' w.heap.size (fun k_ => some k_ ≠ ((.slice m7 a8.length h4) : Value).ownBlock ∧ some k_ ≠ (d0 : Value).ownBlock) (.slice D0 a9.length i9) a9) ∧ Aside0 (Kd.R Kd.string 9 w' w.heap.size (fun _ => True) (.slice (some e9) b3.length e3) b3) ∧ Aside0 (Kd.R k51 51 w' w.heap.size (fun k_ => some k_ ≠ ((.slice m7 a8.length h4) : Value).ownBlock ∧ some k_ ≠ ((.slice D0 a9.length i9) : Value).ownBlock) d0 h8) ∧ Aside0 (w'.heap[a6]? = some (.cells #[.int .i64 a0_0, (.slice A0_1 l0_1.length c0_1), (.slice A0_2 l0_2.length c0_2)] 25 (0, 0))) ∧ Aside0 (w'.heap[b0]? = some (.cells #[.int .i64 a1_0, (.slice A1_1 l1_1.length c1_1), (.slice A1_2 l1_2.length c1_2)] 25 (0, 0))) ∧ Aside0 (w'.heap[b2]? = some (.cells #[.int .i64 d5, (.slice none 0 0), (.slice none 0 0)] 25 (0, 0))) ∧ Aside0 (w'.heap[a2]? = some (.cells #[.int .i64 (wrap64 (a0_0 * a1_0)), (.slice (some e9) b3.length e3), d0] 25 (0, 0))) ∧ Aside0 (Below w.heap.size w w'))
             case atStart => exact ⟨(0), (e7), (.slice Q4 e7.length Q3), (by first | rfl | (simp; done) | (simp [*]; done)), H', ⟨Nat.le_refl _⟩, ⟨by (with_reducible repeat (first | apply Kd.R_alloc | apply Kd.R_drewN | apply Kd.R_drew)); exact t9.out⟩, ⟨by (with_reducible repeat (first | apply Kd.R_alloc | apply Kd.R_drewN | apply Kd.R_drew)); exact e1.out⟩, ⟨by (with_reducible repeat (first | apply Kd.R_alloc | apply Kd.R_drewN | apply Kd.R_drew)); exact t7.out⟩, ⟨by (with_reducible repeat (first | apply Kd.R_alloc | apply Kd.R_drewN | apply Kd.R_drew)); exact b6.out⟩, ⟨by (with_reducible repeat (first | apply Kd.R_alloc | apply Kd.R_drewN | apply Kd.R_drew)); exact Kd.R_mono a5.out (fun _ hk => ⟨hk.2, hk.1.2⟩)⟩, ⟨by (with_reducible repeat (first | refine blk_drewN ?_ _ | refine blk_drew ?_ | refine blk_alloc ?_ _)); exact a0.out⟩, ⟨by (with_reducible repeat (first | refine blk_drewN ?_ _ | refine blk_drew ?_ | refine blk_alloc ?_ _)); exact a1.out⟩, ⟨by (with_reducible repeat (first | refine blk_drewN ?_ _ | refine blk_drew ?_ | refine blk_alloc ?_ _)); exact a4.out⟩, ⟨by (with_reducible repeat (first | refine blk_drewN ?_ _ | refine blk_drew ?_ | refine blk_alloc ?_ _)); exact a3.out⟩, ⟨by repeat (first | (with_reducible first | exact HB.out | apply below_alloc | apply pw_below_drewN | apply below_drew1 | refine below_set ?_ b9.out | refine below_set ?_ d1.out | refine below_set ?_ d2.out | refine below_set ?_ d4.out) | exact HB.out)⟩⟩
             case round =>
              clear H'
              try clear c1
              try clear p1
              try clear q1
              try clear V4
              try clear c2
              try clear p2
              try clear c3
              try clear c4
              try clear c5
              try clear c6
              try clear p6
              try clear c7
              try clear c8
              try clear c8b0
              try clear c8b1
              try clear c10
              try clear E7
              try clear E9
              try clear J8
              try clear K3
              try clear R7
              try clear E0
              try clear E2
              try clear E3
              try clear s8
              try clear I7
              try clear H4
              try clear G0
              try clear p4
              try clear c36b0
              try clear H2
              try clear H8
              try clear G4
              try clear G6
              try clear G5
              try clear H5
              try clear v0
              try clear K0
              try clear K9
              try clear L3
              try clear L4
              try clear K8
              try clear K7
              try clear t3
              try clear c54b0
              try clear y2
              try clear c55b0
              try clear v5
              try clear c56b0
              try clear t1
              try clear c58b0
              try clear Y8
              try clear V8
              try clear V5
              try clear X5
              try clear Z2
              try clear K6
              try clear X6
              try clear U8
              try clear W4
              try clear Z9
              try clear Z5
              try clear Z0
              try clear Z6
              try clear k1
              try clear l4
              try clear j8
              try clear j6
              try clear k7
              try clear k8
              try clear l5
              try clear j9
              try clear k9
              try clear n8
              try clear o6
              try clear n5
              try clear o5
              try clear o8
              try clear o2
              try clear o3
              try clear n4
              try clear p3
              try clear r7
              try clear q5
              try clear q7
              try clear q6
              try clear q3
              try clear q9
              try clear w9
              try clear A2
              try clear A1
              try clear w2
              try clear w8
              try clear x4
              try clear z9
              try clear x7
              try clear v7
              try clear z8
              try clear A8
              try clear x9
              try clear w3
              try clear z1
              try clear z6
              try clear A5
              try clear A6
              try clear y4
              try clear x5
              try clear w7
              try clear y7
              try clear j4
              try clear l7
              try clear k6
              try clear l3
              try clear l6
              try clear k0
              try clear k2
              try clear j5
              try clear j7
              try clear p0
              try clear n3
              try clear n9
              try clear o7
              try clear n7
              try clear n2
              try clear o4
              try clear o0
              try clear o1
              try clear q8
              try clear q4
              try clear r6
              try clear r9
              try clear r5
              try clear r8
              try clear A3
              try clear v6
              try clear A4
              try clear x2
              try clear y9
              try clear z0
              try clear z2
              try clear x0
              try clear x8
              try clear z3
              try clear v8
              try clear v9
              try clear y5
              try clear y1
              try clear x6
              try clear y3
              try clear x3
              try clear y0
              try clear y6
              try clear z5
              try clear A0
              try clear s6
              try clear m6
              try clear p2
              try clear p6
              try clear m2
              obtain ⟨a7, h8, d0, rfl, HA, y8, f8, e1, f9, b6, a5, a0, a1, a4, a3, HB⟩ := hrel
              cases gk with
              | zero => exact absurd HA.out (by simp [Pxh.l1])
              | succ k4 =>
               have H := HA.out
               clear HA
               simp only [Pxh.l1] at H
               by_cases u6 : a7 < (a9.length : Int)
               ·rw [if_pos u6] at H
                have c86b0 : decide (a7 < (a9.length : Int)) = true := decide_eq_true u6
                clear u6
                by_cases C5 : 0 ≤ a7
                ·rw [if_pos C5] at H
                 have c87b0 : decide (0 ≤ a7) = true := decide_eq_true C5
                 clear C5
                 by_cases C2 : a7 < (a9.length : Int)
                 ·rw [if_pos C2] at H
                  have c88b0 : decide (a7 < (a9.length : Int)) = true := decide_eq_true C2
                  clear C2
                  have H' := Aside0.mk H
                  clear H
                  have B9 : 0 ≤ (a7 : Int) := of_decide_eq_true (by first | (with_reducible assumption) | assumption)
                  have B8 : a7 < (a9.length : Int) := of_decide_eq_true (by first | (with_reducible assumption) | assumption)
                  obtain ⟨m1, Q5, F8, F5, F3⟩ := at_T51 (Kd.R_reads' f9.out).2.2 a7 B9 B8
                  cases Q5
                  replace B9 := eq_true B9
                  replace B8 := eq_true B8
                  go_wp2_with (first | ((with_reducible refine gate_dst (N := 12) rfl ?_); (try (refine gate_guard (by rfl) ?_; dsimp only)); refine box_event ?hg (N := 12) ?hd (cs := #[.int .i64 0, .int .i64 0, .int .i64 0]) (t := 51) ?hr ?_; (case hd => rfl); (case hg => rfl); (case hr => first | (go_simp; done) | (go_simp; rfl)); intro b5 hg F9 hbox hb; have d8 := Aside0.mk (Kd.R_below (Kd.R_elderB (by (with_reducible repeat (first | apply Kd.R_alloc | apply Kd.R_drewN | apply Kd.R_drew)); exact f8.out) b5 (Nat.le_of_eq hg.symm)) hb); have d9 := Aside0.mk (Kd.R_below (by (with_reducible repeat (first | apply Kd.R_alloc | apply Kd.R_drewN | apply Kd.R_drew)); exact e1.out) hb); have d7 := Aside0.mk (Kd.R_below (Kd.R_elderB (by (with_reducible repeat (first | apply Kd.R_alloc | apply Kd.R_drewN | apply Kd.R_drew)); exact f9.out) b5 (Nat.le_of_eq hg.symm)) hb); have e0 := Aside0.mk (Kd.R_below (by (with_reducible repeat (first | apply Kd.R_alloc | apply Kd.R_drewN | apply Kd.R_drew)); exact b6.out) hb); have e8 := Aside0.mk (Kd.R_below (Kd.R_elderB (by (with_reducible repeat (first | apply Kd.R_alloc | apply Kd.R_drewN | apply Kd.R_drew)); exact a5.out) b5 (Nat.le_of_eq hg.symm)) hb); have f3 := Aside0.mk (blk_below (g := a6) (o := .cells #[.int .i64 a0_0, .slice A0_1 l0_1.length c0_1, .slice A0_2 l0_2.length c0_2] 25 (0, 0)) (by (with_reducible repeat (first | refine blk_drewN ?_ _ | refine blk_drew ?_ | refine blk_alloc ?_ _)); exact a0.out) hb); have f4 := Aside0.mk (blk_below (g := b0) (o := .cells #[.int .i64 a1_0, .slice A1_1 l1_1.length c1_1, .slice A1_2 l1_2.length c1_2] 25 (0, 0)) (by (with_reducible repeat (first | refine blk_drewN ?_ _ | refine blk_drew ?_ | refine blk_alloc ?_ _)); exact a1.out) hb); have f7 := Aside0.mk (blk_below (g := b2) (o := .cells #[.int .i64 d5, .slice none 0 0, .slice none 0 0] 25 (0, 0)) (by (with_reducible repeat (first | refine blk_drewN ?_ _ | refine blk_drew ?_ | refine blk_alloc ?_ _)); exact a4.out) hb); have f6 := Aside0.mk (blk_below (g := a2) (o := .cells #[.int .i64 (wrap64 (a0_0 * a1_0)), .slice (some e9) b3.length e3, d0] 25 (0, 0)) (by (with_reducible repeat (first | refine blk_drewN ?_ _ | refine blk_drew ?_ | refine blk_alloc ?_ _)); exact a3.out) hb); have f5 := Aside0.mk (below_step (by repeat (first | (with_reducible first | exact HB.out | apply below_alloc | apply pw_below_drewN | apply below_drew1 | refine below_set ?_ b9.out | refine below_set ?_ d1.out | refine below_set ?_ d2.out | refine below_set ?_ d4.out) | exact HB.out)) hb); have g0 := Aside0.mk (hbox); have g2 := Aside0.mk ((by rw [hg]; exact (below_size (by repeat (first | (with_reducible first | exact HB.out | apply below_alloc | apply pw_below_drewN | apply below_drew1 | refine below_set ?_ b9.out | refine below_set ?_ d1.out | refine below_set ?_ d2.out | refine below_set ?_ d4.out) | exact HB.out))) : w.heap.size ≤ b5)); have g8 := Aside0.mk ((by rw [hg]; exact (below_size (by repeat (first | (with_reducible first | exact HB.out | apply below_alloc | apply pw_below_drewN | apply below_drew1 | refine below_set ?_ b9.out | refine below_set ?_ d1.out | refine below_set ?_ d2.out | refine below_set ?_ d4.out) | exact HB.out))) : w.heap.size ≤ b5)); have i3 := Aside0.mk ((by rw [hg]; exact Nat.ne_of_lt (blk_lt (g := a6) (o := .cells #[.int .i64 a0_0, .slice A0_1 l0_1.length c0_1, .slice A0_2 l0_2.length c0_2] 25 (0, 0)) (by (with_reducible repeat (first | refine blk_drewN ?_ _ | refine blk_drew ?_ | refine blk_alloc ?_ _)); exact a0.out)) : a6 ≠ b5)); have v1 := Aside0.mk ((by rw [hg]; exact Nat.ne_of_gt (blk_lt (g := a6) (o := .cells #[.int .i64 a0_0, .slice A0_1 l0_1.length c0_1, .slice A0_2 l0_2.length c0_2] 25 (0, 0)) (by (with_reducible repeat (first | refine blk_drewN ?_ _ | refine blk_drew ?_ | refine blk_alloc ?_ _)); exact a0.out)) : b5 ≠ a6)); have u7 := Aside0.mk ((by rw [hg]; exact Nat.ne_of_lt (blk_lt (g := b0) (o := .cells #[.int .i64 a1_0, .slice A1_1 l1_1.length c1_1, .slice A1_2 l1_2.length c1_2] 25 (0, 0)) (by (with_reducible repeat (first | refine blk_drewN ?_ _ | refine blk_drew ?_ | refine blk_alloc ?_ _)); exact a1.out)) : b0 ≠ b5)); have u9 := Aside0.mk ((by rw [hg]; exact Nat.ne_of_gt (blk_lt (g := b0) (o := .cells #[.int .i64 a1_0, .slice A1_1 l1_1.length c1_1, .slice A1_2 l1_2.length c1_2] 25 (0, 0)) (by (with_reducible repeat (first | refine blk_drewN ?_ _ | refine blk_drew ?_ | refine blk_alloc ?_ _)); exact a1.out)) : b5 ≠ b0)); have v2 := Aside0.mk ((by rw [hg]; exact Nat.ne_of_lt (blk_lt (g := b2) (o := .cells #[.int .i64 d5, .slice none 0 0, .slice none 0 0] 25 (0, 0)) (by (with_reducible repeat (first | refine blk_drewN ?_ _ | refine blk_drew ?_ | refine blk_alloc ?_ _)); exact a4.out)) : b2 ≠ b5)); have u4 := Aside0.mk ((by rw [hg]; exact Nat.ne_of_gt (blk_lt (g := b2) (o := .cells #[.int .i64 d5, .slice none 0 0, .slice none 0 0] 25 (0, 0)) (by (with_reducible repeat (first | refine blk_drewN ?_ _ | refine blk_drew ?_ | refine blk_alloc ?_ _)); exact a4.out)) : b5 ≠ b2)); have u5 := Aside0.mk ((by rw [hg]; exact Nat.ne_of_lt (blk_lt (g := a2) (o := .cells #[.int .i64 (wrap64 (a0_0 * a1_0)), .slice (some e9) b3.length e3, d0] 25 (0, 0)) (by (with_reducible repeat (first | refine blk_drewN ?_ _ | refine blk_drew ?_ | refine blk_alloc ?_ _)); exact a3.out)) : a2 ≠ b5)); have v4 := Aside0.mk ((by rw [hg]; exact Nat.ne_of_gt (blk_lt (g := a2) (o := .cells #[.int .i64 (wrap64 (a0_0 * a1_0)), .slice (some e9) b3.length e3, d0] 25 (0, 0)) (by (with_reducible repeat (first | refine blk_drewN ?_ _ | refine blk_drew ?_ | refine blk_alloc ?_ _)); exact a3.out)) : b5 ≠ a2)); clear f8; clear e1; clear f9; clear b6; clear a5; clear a0; clear a1; clear a4; clear a3; clear HB; have f8 := d8; have e1 := d9; have f9 := d7; have b6 := e0; have a5 := e8; have a0 := f3; have a1 := f4; have a4 := f7; have a3 := f6; have HB := f5; have e4 := g0; have bh := g2; have i7 := g8; have h6 := i3; have t2 := v1; have h9 := u7; have s9 := u9; have h5 := v2; have t4 := u4; have h7 := u5; have n0 := v4; clear d8 d9 d7 e0 e8 f3 f4 f7 f6 f5 g0 g2 g8 i3 v1 u7 u9 v2 u4 u5 v4; clear hb hbox hg; have br := t2.out; have aq := h6.out; have az := s9.out; have ag := h9.out; have be := t4.out; have bn := h5.out; have ao := n0.out; have ah := h7.out; have F1 : F9.cell? ⟨b5, 0, none⟩ = some (.int .i64 0) := (blk_cell e4.out 0).trans rfl; have F4 : F9.cell? ⟨b5, 1, none⟩ = some (.int .i64 0) := (blk_cell e4.out 1).trans rfl; have F7 : F9.cell? ⟨b5, 2, none⟩ = some (.int .i64 0) := (blk_cell e4.out 2).trans rfl; have F6 := blk_frozen e4.out 0; have F0 := blk_frozen e4.out 1; have F2 := blk_frozen e4.out 2))
                  go_loopg [79] k4 (fun kq Y6 w' => ∃ (b1 : Int) (g7 : List (S51)) (d0 : Value), Y6 = .int .i64 b1 ∧ Aside0 (Pxh.l2 kq d6 a8 b3 (b3.length : Int) d6 a9 (a9.length : Int) a7 a8 (a8.length : Int) b1 a0_0 l0_1 l0_2 a1_0 l1_1 l1_2 (wrap64 (a0_0 * a1_0)) b3 g7 ((rd_T51 a9 a7).f0) ((rd_T51 a9 a7).f1) ((rd_T51 a9 a7).f2) = some (r1, r2, r3, r4)) ∧ Aside0 (kq ≤ k4) ∧ Aside0 (Kd.R k51 51 w' w.heap.size (fun k_ => some k_ ≠ ((.slice (some m1) a9.length i9) : Value).ownBlock ∧ some k_ ≠ (d0 : Value).ownBlock ∧ k_ ≠ b5) (.slice m7 a8.length h4) a8) ∧ Aside0 (Kd.R Kd.string 9 w' w.heap.size (fun _ => True) (.slice (some e9) b3.length e3) b3) ∧ Aside0 (Kd.R k51 51 w' w.heap.size (fun k_ => some k_ ≠ ((.slice m7 a8.length h4) : Value).ownBlock ∧ some k_ ≠ ((.slice m7 a8.length h4) : Value).ownBlock ∧ some k_ ≠ (d0 : Value).ownBlock ∧ k_ ≠ b5) (.slice (some m1) a9.length i9) a9) ∧ Aside0 (Kd.R k51 51 w' w.heap.size (fun k_ => some k_ ≠ ((.slice (some m1) a9.length i9) : Value).ownBlock ∧ some k_ ≠ (d0 : Value).ownBlock ∧ k_ ≠ b5) (.slice m7 a8.length h4) a8) ∧ Aside0 (Kd.R Kd.string 9 w' w.heap.size (fun _ => True) (.slice (some e9) b3.length e3) b3) ∧ Aside0 (Kd.R k51 51 w' w.heap.size (fun k_ => some k_ ≠ ((.slice m7 a8.length h4) : Value).ownBlock ∧ some k_ ≠ ((.slice (some m1) a9.length i9) : Value).ownBlock ∧ some k_ ≠ ((.slice m7 a8.length h4) : Value).ownBlock ∧ k_ ≠ b5) d0 g7) ∧ Aside0 (w'.heap[a6]? = some (.cells #[.int .i64 a0_0, (.slice A0_1 l0_1.length c0_1), (.slice A0_2 l0_2.length c0_2)] 25 (0, 0))) ∧ Aside0 (w'.heap[b0]? = some (.cells #[.int .i64 a1_0, (.slice A1_1 l1_1.length c1_1), (.slice A1_2 l1_2.length c1_2)] 25 (0, 0))) ∧ Aside0 (w'.heap[b2]? = some (.cells #[.int .i64 d5, (.slice none 0 0), (.slice none 0 0)] 25 (0, 0))) ∧ Aside0 (w'.heap[a2]? = some (.cells #[.int .i64 (wrap64 (a0_0 * a1_0)), (.slice (some e9) b3.length e3), d0] 25 (0, 0))) ∧ Aside0 (w'.heap[b5]? = some (.cells #[.int .i64 ((rd_T51 a9 a7).f0), .int .i64 ((rd_T51 a9 a7).f1), .int .i64 ((rd_T51 a9 a7).f2)] 51 (0, 0))) ∧ Aside0 (Below w.heap.size w w'))
                  case atStart => exact ⟨(0), (h8), (d0), (by first | rfl | (simp; done) | (simp [*]; done)), H', ⟨Nat.le_refl _⟩, ⟨by (with_reducible repeat (first | apply Kd.R_alloc | apply Kd.R_drewN | apply Kd.R_drew)); exact Kd.R_mono (Kd.R_far (p := ⟨b5, 2, none⟩) (Kd.R_far (p := ⟨b5, 1, none⟩) (Kd.R_far (p := ⟨b5, 0, none⟩) (Kd.R_mono f8.out (fun k_ hk => (⟨hk, hk.2⟩ : _ ∧ k_ ≠ b5))) (fun _ hk => hk.2) (.int .i64 ((rd_T51 a9 a7).f0))) (fun _ hk => hk.2) (.int .i64 ((rd_T51 a9 a7).f1))) (fun _ hk => hk.2) (.int .i64 ((rd_T51 a9 a7).f2))) (fun _ hk => ⟨hk.1.1.1, ⟨hk.1.1.2, hk.1.2⟩⟩)⟩, ⟨by (with_reducible repeat (first | apply Kd.R_alloc | apply Kd.R_drewN | apply Kd.R_drew)); exact Kd.R_mono (Kd.R_far (p := ⟨b5, 2, none⟩) (Kd.R_far (p := ⟨b5, 1, none⟩) (Kd.R_far (p := ⟨b5, 0, none⟩) (Kd.R_types e1.out e4.out (by decide)) (fun _ hk => hk.2) (.int .i64 ((rd_T51 a9 a7).f0))) (fun _ hk => hk.2) (.int .i64 ((rd_T51 a9 a7).f1))) (fun _ hk => hk.2) (.int .i64 ((rd_T51 a9 a7).f2))) (fun _ hk => trivial)⟩, ⟨by (with_reducible repeat (first | apply Kd.R_alloc | apply Kd.R_drewN | apply Kd.R_drew)); exact Kd.R_mono (Kd.R_far (p := ⟨b5, 2, none⟩) (Kd.R_far (p := ⟨b5, 1, none⟩) (Kd.R_far (p := ⟨b5, 0, none⟩) (Kd.R_mono f9.out (fun k_ hk => (⟨hk, hk.2⟩ : _ ∧ k_ ≠ b5))) (fun _ hk => hk.2) (.int .i64 ((rd_T51 a9 a7).f0))) (fun _ hk => hk.2) (.int .i64 ((rd_T51 a9 a7).f1))) (fun _ hk => hk.2) (.int .i64 ((rd_T51 a9 a7).f2))) (fun _ hk => ⟨hk.1.1.1, ⟨hk.1.1.1, ⟨hk.1.1.2, hk.1.2⟩⟩⟩)⟩, ⟨by (with_reducible repeat (first | apply Kd.R_alloc | apply Kd.R_drewN | apply Kd.R_drew)); exact Kd.R_mono (Kd.R_far (p := ⟨b5, 2, none⟩) (Kd.R_far (p := ⟨b5, 1, none⟩) (Kd.R_far (p := ⟨b5, 0, none⟩) (Kd.R_mono f8.out (fun k_ hk => (⟨hk, hk.2⟩ : _ ∧ k_ ≠ b5))) (fun _ hk => hk.2) (.int .i64 ((rd_T51 a9 a7).f0))) (fun _ hk => hk.2) (.int .i64 ((rd_T51 a9 a7).f1))) (fun _ hk => hk.2) (.int .i64 ((rd_T51 a9 a7).f2))) (fun _ hk => ⟨hk.1.1.1, ⟨hk.1.1.2, hk.1.2⟩⟩)⟩, ⟨by (with_reducible repeat (first | apply Kd.R_alloc | apply Kd.R_drewN | apply Kd.R_drew)); exact Kd.R_mono (Kd.R_far (p := ⟨b5, 2, none⟩) (Kd.R_far (p := ⟨b5, 1, none⟩) (Kd.R_far (p := ⟨b5, 0, none⟩) (Kd.R_types b6.out e4.out (by decide)) (fun _ hk => hk.2) (.int .i64 ((rd_T51 a9 a7).f0))) (fun _ hk => hk.2) (.int .i64 ((rd_T51 a9 a7).f1))) (fun _ hk => hk.2) (.int .i64 ((rd_T51 a9 a7).f2))) (fun _ hk => trivial)⟩, ⟨by (with_reducible repeat (first | apply Kd.R_alloc | apply Kd.R_drewN | apply Kd.R_drew)); exact Kd.R_mono (Kd.R_far (p := ⟨b5, 2, none⟩) (Kd.R_far (p := ⟨b5, 1, none⟩) (Kd.R_far (p := ⟨b5, 0, none⟩) (Kd.R_mono a5.out (fun k_ hk => (⟨hk, hk.2⟩ : _ ∧ k_ ≠ b5))) (fun _ hk => hk.2) (.int .i64 ((rd_T51 a9 a7).f0))) (fun _ hk => hk.2) (.int .i64 ((rd_T51 a9 a7).f1))) (fun _ hk => hk.2) (.int .i64 ((rd_T51 a9 a7).f2))) (fun _ hk => ⟨hk.1.1.1, ⟨hk.1.1.2, ⟨hk.1.1.1, hk.1.2⟩⟩⟩)⟩, ⟨by (with_reducible repeat (first | refine blk_drewN ?_ _ | refine blk_drew ?_ | refine blk_alloc ?_ _)); refine blk_far ?_ h6.out _; (with_reducible repeat (first | refine blk_drewN ?_ _ | refine blk_drew ?_ | refine blk_alloc ?_ _)); refine blk_far ?_ h6.out _; (with_reducible repeat (first | refine blk_drewN ?_ _ | refine blk_drew ?_ | refine blk_alloc ?_ _)); refine blk_far ?_ h6.out _; (with_reducible repeat (first | refine blk_drewN ?_ _ | refine blk_drew ?_ | refine blk_alloc ?_ _)); exact a0.out⟩, ⟨by (with_reducible repeat (first | refine blk_drewN ?_ _ | refine blk_drew ?_ | refine blk_alloc ?_ _)); refine blk_far ?_ h9.out _; (with_reducible repeat (first | refine blk_drewN ?_ _ | refine blk_drew ?_ | refine blk_alloc ?_ _)); refine blk_far ?_ h9.out _; (with_reducible repeat (first | refine blk_drewN ?_ _ | refine blk_drew ?_ | refine blk_alloc ?_ _)); refine blk_far ?_ h9.out _; (with_reducible repeat (first | refine blk_drewN ?_ _ | refine blk_drew ?_ | refine blk_alloc ?_ _)); exact a1.out⟩, ⟨by (with_reducible repeat (first | refine blk_drewN ?_ _ | refine blk_drew ?_ | refine blk_alloc ?_ _)); refine blk_far ?_ h5.out _; (with_reducible repeat (first | refine blk_drewN ?_ _ | refine blk_drew ?_ | refine blk_alloc ?_ _)); refine blk_far ?_ h5.out _; (with_reducible repeat (first | refine blk_drewN ?_ _ | refine blk_drew ?_ | refine blk_alloc ?_ _)); refine blk_far ?_ h5.out _; (with_reducible repeat (first | refine blk_drewN ?_ _ | refine blk_drew ?_ | refine blk_alloc ?_ _)); exact a4.out⟩, ⟨by (with_reducible repeat (first | refine blk_drewN ?_ _ | refine blk_drew ?_ | refine blk_alloc ?_ _)); refine blk_far ?_ h7.out _; (with_reducible repeat (first | refine blk_drewN ?_ _ | refine blk_drew ?_ | refine blk_alloc ?_ _)); refine blk_far ?_ h7.out _; (with_reducible repeat (first | refine blk_drewN ?_ _ | refine blk_drew ?_ | refine blk_alloc ?_ _)); refine blk_far ?_ h7.out _; (with_reducible repeat (first | refine blk_drewN ?_ _ | refine blk_drew ?_ | refine blk_alloc ?_ _)); exact a3.out⟩, ⟨by (with_reducible repeat (first | refine blk_drewN ?_ _ | refine blk_drew ?_ | refine blk_alloc ?_ _)); refine blk_put (cs := #[.int .i64 ((rd_T51 a9 a7).f0), .int .i64 ((rd_T51 a9 a7).f1), .int .i64 0]) ?_ 2 _ rfl; (with_reducible repeat (first | refine blk_drewN ?_ _ | refine blk_drew ?_ | refine blk_alloc ?_ _)); refine blk_put (cs := #[.int .i64 ((rd_T51 a9 a7).f0), .int .i64 0, .int .i64 0]) ?_ 1 _ rfl; (with_reducible repeat (first | refine blk_drewN ?_ _ | refine blk_drew ?_ | refine blk_alloc ?_ _)); refine blk_put (cs := #[.int .i64 0, .int .i64 0, .int .i64 0]) ?_ 0 _ rfl; (with_reducible repeat (first | refine blk_drewN ?_ _ | refine blk_drew ?_ | refine blk_alloc ?_ _)); exact e4.out⟩, ⟨by repeat (first | (with_reducible first | exact HB.out | apply below_alloc | apply pw_below_drewN | apply below_drew1 | refine below_set ?_ b9.out | refine below_set ?_ d1.out | refine below_set ?_ d2.out | refine below_set ?_ d4.out | refine below_set ?_ i7.out) | exact HB.out)⟩⟩
                  case round =>
                   clear H'
                   try clear c1
                   try clear p1
                   try clear q1
                   try clear V4
                   try clear c2
                   try clear p2
                   try clear c3
                   try clear c4
                   try clear c5
                   try clear c6
                   try clear p6
                   try clear c7
                   try clear c8
                   try clear c8b0
                   try clear c8b1
                   try clear c9
                   try clear c10
                   try clear E7
                   try clear E9
                   try clear J8
                   try clear K3
                   try clear R7
                   try clear cb
                   try clear ci
                   try clear bP
                   try clear E0
                   try clear E2
                   try clear E3
                   try clear s8
                   try clear I7
                   try clear H4
                   try clear G0
                   try clear p4
                   try clear c36b0
                   try clear H2
                   try clear H8
                   try clear G4
                   try clear G6
                   try clear G5
                   try clear H5
                   try clear v0
                   try clear K0
                   try clear K9
                   try clear L3
                   try clear L4
                   try clear K8
                   try clear K7
                   try clear t3
                   try clear c54b0
                   try clear y2
                   try clear c55b0
                   try clear v5
                   try clear c56b0
                   try clear t1
                   try clear c58b0
                   try clear Y8
                   try clear V8
                   try clear V5
                   try clear X5
                   try clear Z2
                   try clear K6
                   try clear X6
                   try clear U8
                   try clear W4
                   try clear Z9
                   try clear Z5
                   try clear Z0
                   try clear Z6
                   try clear u6
                   try clear c86b0
                   try clear C5
                   try clear c87b0
                   try clear C2
                   try clear c88b0
                   try clear ce
                   try clear cg
                   try clear ck
                   try clear cf
                   try clear k1
                   try clear l4
                   try clear j8
                   try clear j6
                   try clear k7
                   try clear k8
                   try clear l5
                   try clear j9
                   try clear k9
                   try clear n8
                   try clear o6
                   try clear n5
                   try clear o5
                   try clear o8
                   try clear o2
                   try clear o3
                   try clear n4
                   try clear p3
                   try clear r7
                   try clear q5
                   try clear q7
                   try clear q6
                   try clear q3
                   try clear q9
                   try clear w9
                   try clear A2
                   try clear A1
                   try clear w2
                   try clear w8
                   try clear x4
                   try clear z9
                   try clear x7
                   try clear v7
                   try clear z8
                   try clear A8
                   try clear x9
                   try clear w3
                   try clear z1
                   try clear z6
                   try clear A5
                   try clear A6
                   try clear y4
                   try clear x5
                   try clear w7
                   try clear y7
                   try clear F1
                   try clear F4
                   try clear F7
                   try clear j4
                   try clear l7
                   try clear k6
                   try clear l3
                   try clear l6
                   try clear k0
                   try clear k2
                   try clear j5
                   try clear j7
                   try clear p0
                   try clear n3
                   try clear n9
                   try clear o7
                   try clear n7
                   try clear n2
                   try clear o4
                   try clear o0
                   try clear o1
                   try clear q8
                   try clear q4
                   try clear r6
                   try clear r9
                   try clear r5
                   try clear r8
                   try clear A3
                   try clear v6
                   try clear A4
                   try clear x2
                   try clear y9
                   try clear z0
                   try clear z2
                   try clear x0
                   try clear x8
                   try clear z3
                   try clear v8
                   try clear v9
                   try clear y5
                   try clear y1
                   try clear x6
                   try clear y3
                   try clear x3
                   try clear y0
                   try clear y6
                   try clear z5
                   try clear A0
                   try clear F6
                   try clear F0
                   try clear F2
                   try clear s6
                   try clear F8
                   try clear F5
                   try clear F3
                   try clear p1
                   try clear J8
                   try clear m6
                   try clear B9
                   try clear p2
                   try clear p6
                   try clear K6
                   try clear q1
                   try clear K3
                   try clear m2
                   try clear B8
                   obtain ⟨b1, g7, d0, rfl, HA, E4, f8, e1, f9, i2, b6, a5, a0, a1, a4, a3, e4, HB⟩ := hrel
                   cases gk with
                   | zero => exact absurd HA.out (by simp [Pxh.l2])
                   | succ k5 =>
                    have H := HA.out
                    clear HA
                    simp only [Pxh.l2] at H
                    by_cases z7 : b1 < (a8.length : Int)
                    ·rw [if_pos z7] at H
                     have c95b0 : decide (b1 < (a8.length : Int)) = true := decide_eq_true z7
                     clear z7
                     by_cases D7 : 0 ≤ b1
                     ·rw [if_pos D7] at H
                      have c96b0 : decide (0 ≤ b1) = true := decide_eq_true D7
                      clear D7
                      by_cases E8 : b1 < (a8.length : Int)
                      ·rw [if_pos E8] at H
                       have c97b0 : decide (b1 < (a8.length : Int)) = true := decide_eq_true E8
                       clear E8
                       by_cases D8 : g7.length < 5864062014805
                       ·rw [if_pos D8] at H
                        have J6 := Aside0.mk D8
                        clear D8
                        obtain ⟨m3, q0⟩ : ∃ y_ : List (S51), y_ = (g7 ++ [(⟨wrap64 ((wrap64 (((rd_T51 a9 a7).f0) * a1_0)) + ((rd_T51 a8 b1).f0)), d6, wrap64 ((wrap64 (((rd_T51 a9 a7).f2) * a1_0)) + ((rd_T51 a8 b1).f2))⟩ : S51)]) := ⟨_, rfl⟩
                        replace H : (Pxh.l2 k5 d6 a8 b3 (b3.length : Int) d6 a9 (a9.length : Int) a7 a8 (a8.length : Int) (wrap64 (b1 + 1)) a0_0 l0_1 l0_2 a1_0 l1_1 l1_2 (wrap64 (a0_0 * a1_0)) b3 m3 ((rd_T51 a9 a7).f0) ((rd_T51 a9 a7).f1) ((rd_T51 a9 a7).f2)) = some (r1, r2, r3, r4) := by first | (rw [q0]; with_reducible exact H) | (have G1 := (Option.bind_some _ _).symm.trans H; rw [q0]; with_reducible exact G1) | (have G1 := (Option.bind_some _ _).symm.trans H; with_reducible exact G1) | with_reducible exact H | (rw [q0]; exact H) | exact H
                        have J1 := Aside0.mk q0
                        clear q0
                        have H' := Aside0.mk H
                        clear H
                        have D3 : 0 ≤ (b1 : Int) := of_decide_eq_true (by first | (with_reducible assumption) | assumption)
                        have C8 : b1 < (a8.length : Int) := of_decide_eq_true (by first | (with_reducible assumption) | assumption)
                        obtain ⟨t8, N8, S4, S1, T8⟩ := at_T51 (Kd.R_reads' i2.out).2.2 b1 D3 C8
                        cases N8
                        replace D3 := eq_true D3
                        replace C8 := eq_true C8
                        go_wp2_with (first | ((with_reducible refine gate_dst (N := 14) rfl ?_); (try (refine gate_guard (by rfl) ?_; dsimp only)); refine box_event ?hg (N := 14) ?hd (cs := #[.int .i64 0, .int .i64 0, .int .i64 0]) (t := 51) ?hr ?_; (case hd => rfl); (case hg => rfl); (case hr => first | (go_simp; done) | (go_simp; rfl)); intro b4 hg m9 hbox hb; have d8 := Aside0.mk (Kd.R_below (Kd.R_elderB (by (with_reducible repeat (first | apply Kd.R_alloc | apply Kd.R_drewN | apply Kd.R_drew)); exact f8.out) b4 (Nat.le_of_eq hg.symm)) hb); have d9 := Aside0.mk (Kd.R_below (by (with_reducible repeat (first | apply Kd.R_alloc | apply Kd.R_drewN | apply Kd.R_drew)); exact e1.out) hb); have d7 := Aside0.mk (Kd.R_below (Kd.R_elderB (by (with_reducible repeat (first | apply Kd.R_alloc | apply Kd.R_drewN | apply Kd.R_drew)); exact f9.out) b4 (Nat.le_of_eq hg.symm)) hb); have e0 := Aside0.mk (Kd.R_below (Kd.R_elderB (by (with_reducible repeat (first | apply Kd.R_alloc | apply Kd.R_drewN | apply Kd.R_drew)); exact i2.out) b4 (Nat.le_of_eq hg.symm)) hb); have e8 := Aside0.mk (Kd.R_below (by (with_reducible repeat (first | apply Kd.R_alloc | apply Kd.R_drewN | apply Kd.R_drew)); exact b6.out) hb); have f3 := Aside0.mk (Kd.R_below (Kd.R_elderB (by (with_reducible repeat (first | apply Kd.R_alloc | apply Kd.R_drewN | apply Kd.R_drew)); exact a5.out) b4 (Nat.le_of_eq hg.symm)) hb); have f4 := Aside0.mk (blk_below (g := a6) (o := .cells #[.int .i64 a0_0, .slice A0_1 l0_1.length c0_1, .slice A0_2 l0_2.length c0_2] 25 (0, 0)) (by (with_reducible repeat (first | refine blk_drewN ?_ _ | refine blk_drew ?_ | refine blk_alloc ?_ _)); exact a0.out) hb); have f7 := Aside0.mk (blk_below (g := b0) (o := .cells #[.int .i64 a1_0, .slice A1_1 l1_1.length c1_1, .slice A1_2 l1_2.length c1_2] 25 (0, 0)) (by (with_reducible repeat (first | refine blk_drewN ?_ _ | refine blk_drew ?_ | refine blk_alloc ?_ _)); exact a1.out) hb); have f6 := Aside0.mk (blk_below (g := b2) (o := .cells #[.int .i64 d5, .slice none 0 0, .slice none 0 0] 25 (0, 0)) (by (with_reducible repeat (first | refine blk_drewN ?_ _ | refine blk_drew ?_ | refine blk_alloc ?_ _)); exact a4.out) hb); have f5 := Aside0.mk (blk_below (g := a2) (o := .cells #[.int .i64 (wrap64 (a0_0 * a1_0)), .slice (some e9) b3.length e3, d0] 25 (0, 0)) (by (with_reducible repeat (first | refine blk_drewN ?_ _ | refine blk_drew ?_ | refine blk_alloc ?_ _)); exact a3.out) hb); have g0 := Aside0.mk (blk_below (g := b5) (o := .cells #[.int .i64 ((rd_T51 a9 a7).f0), .int .i64 ((rd_T51 a9 a7).f1), .int .i64 ((rd_T51 a9 a7).f2)] 51 (0, 0)) (by (with_reducible repeat (first | refine blk_drewN ?_ _ | refine blk_drew ?_ | refine blk_alloc ?_ _)); exact e4.out) hb); have g2 := Aside0.mk (below_step (by repeat (first | (with_reducible first | exact HB.out | apply below_alloc | apply pw_below_drewN | apply below_drew1 | refine below_set ?_ b9.out | refine below_set ?_ d1.out | refine below_set ?_ d2.out | refine below_set ?_ d4.out | refine below_set ?_ i7.out) | exact HB.out)) hb); have g8 := Aside0.mk (hbox); have i3 := Aside0.mk ((by rw [hg]; exact (below_size (by repeat (first | (with_reducible first | exact HB.out | apply below_alloc | apply pw_below_drewN | apply below_drew1 | refine below_set ?_ b9.out | refine below_set ?_ d1.out | refine below_set ?_ d2.out | refine below_set ?_ d4.out | refine below_set ?_ i7.out) | exact HB.out))) : w.heap.size ≤ b4)); have v1 := Aside0.mk ((by rw [hg]; exact (below_size (by repeat (first | (with_reducible first | exact HB.out | apply below_alloc | apply pw_below_drewN | apply below_drew1 | refine below_set ?_ b9.out | refine below_set ?_ d1.out | refine below_set ?_ d2.out | refine below_set ?_ d4.out | refine below_set ?_ i7.out) | exact HB.out))) : w.heap.size ≤ b4)); have u7 := Aside0.mk ((by rw [hg]; exact Nat.ne_of_lt (blk_lt (g := a6) (o := .cells #[.int .i64 a0_0, .slice A0_1 l0_1.length c0_1, .slice A0_2 l0_2.length c0_2] 25 (0, 0)) (by (with_reducible repeat (first | refine blk_drewN ?_ _ | refine blk_drew ?_ | refine blk_alloc ?_ _)); exact a0.out)) : a6 ≠ b4)); have u9 := Aside0.mk ((by rw [hg]; exact Nat.ne_of_gt (blk_lt (g := a6) (o := .cells #[.int .i64 a0_0, .slice A0_1 l0_1.length c0_1, .slice A0_2 l0_2.length c0_2] 25 (0, 0)) (by (with_reducible repeat (first | refine blk_drewN ?_ _ | refine blk_drew ?_ | refine blk_alloc ?_ _)); exact a0.out)) : b4 ≠ a6)); have v2 := Aside0.mk ((by rw [hg]; exact Nat.ne_of_lt (blk_lt (g := b0) (o := .cells #[.int .i64 a1_0, .slice A1_1 l1_1.length c1_1, .slice A1_2 l1_2.length c1_2] 25 (0, 0)) (by (with_reducible repeat (first | refine blk_drewN ?_ _ | refine blk_drew ?_ | refine blk_alloc ?_ _)); exact a1.out)) : b0 ≠ b4)); have u4 := Aside0.mk ((by rw [hg]; exact Nat.ne_of_gt (blk_lt (g := b0) (o := .cells #[.int .i64 a1_0, .slice A1_1 l1_1.length c1_1, .slice A1_2 l1_2.length c1_2] 25 (0, 0)) (by (with_reducible repeat (first | refine blk_drewN ?_ _ | refine blk_drew ?_ | refine blk_alloc ?_ _)); exact a1.out)) : b4 ≠ b0)); have u5 := Aside0.mk ((by rw [hg]; exact Nat.ne_of_lt (blk_lt (g := b2) (o := .cells #[.int .i64 d5, .slice none 0 0, .slice none 0 0] 25 (0, 0)) (by (with_reducible repeat (first | refine blk_drewN ?_ _ | refine blk_drew ?_ | refine blk_alloc ?_ _)); exact a4.out)) : b2 ≠ b4)); have v4 := Aside0.mk ((by rw [hg]; exact Nat.ne_of_gt (blk_lt (g := b2) (o := .cells #[.int .i64 d5, .slice none 0 0, .slice none 0 0] 25 (0, 0)) (by (with_reducible repeat (first | refine blk_drewN ?_ _ | refine blk_drew ?_ | refine blk_alloc ?_ _)); exact a4.out)) : b4 ≠ b2)); have G9 := Aside0.mk ((by rw [hg]; exact Nat.ne_of_lt (blk_lt (g := a2) (o := .cells #[.int .i64 (wrap64 (a0_0 * a1_0)), .slice (some e9) b3.length e3, d0] 25 (0, 0)) (by (with_reducible repeat (first | refine blk_drewN ?_ _ | refine blk_drew ?_ | refine blk_alloc ?_ _)); exact a3.out)) : a2 ≠ b4)); have I0 := Aside0.mk ((by rw [hg]; exact Nat.ne_of_gt (blk_lt (g := a2) (o := .cells #[.int .i64 (wrap64 (a0_0 * a1_0)), .slice (some e9) b3.length e3, d0] 25 (0, 0)) (by (with_reducible repeat (first | refine blk_drewN ?_ _ | refine blk_drew ?_ | refine blk_alloc ?_ _)); exact a3.out)) : b4 ≠ a2)); have I2 := Aside0.mk ((by rw [hg]; exact Nat.ne_of_lt (blk_lt (g := b5) (o := .cells #[.int .i64 ((rd_T51 a9 a7).f0), .int .i64 ((rd_T51 a9 a7).f1), .int .i64 ((rd_T51 a9 a7).f2)] 51 (0, 0)) (by (with_reducible repeat (first | refine blk_drewN ?_ _ | refine blk_drew ?_ | refine blk_alloc ?_ _)); exact e4.out)) : b5 ≠ b4)); have I4 := Aside0.mk ((by rw [hg]; exact Nat.ne_of_gt (blk_lt (g := b5) (o := .cells #[.int .i64 ((rd_T51 a9 a7).f0), .int .i64 ((rd_T51 a9 a7).f1), .int .i64 ((rd_T51 a9 a7).f2)] 51 (0, 0)) (by (with_reducible repeat (first | refine blk_drewN ?_ _ | refine blk_drew ?_ | refine blk_alloc ?_ _)); exact e4.out)) : b4 ≠ b5)); clear f8; clear e1; clear f9; clear i2; clear b6; clear a5; clear a0; clear a1; clear a4; clear a3; clear e4; clear HB; have f8 := d8; have e1 := d9; have f9 := d7; have i2 := e0; have b6 := e8; have a5 := f3; have a0 := f4; have a1 := f7; have a4 := f6; have a3 := f5; have e4 := g0; have HB := g2; have h0 := g8; have aU := i3; have B2 := v1; have i8 := u7; have C1 := u9; have i5 := v2; have C6 := u4; have i4 := u5; have C0 := v4; have i6 := G9; have C4 := I0; have g5 := I2; have C3 := I4; clear d8 d9 d7 e0 e8 f3 f4 f7 f6 f5 g0 g2 g8 i3 v1 u7 u9 v2 u4 u5 v4 G9 I0 I2 I4; clear hb hbox hg; have W9 := C1.out; have Z3 := i8.out; have V2 := C6.out; have Z1 := i5.out; have W7 := C0.out; have ab := i4.out; have aa := C4.out; have X7 := i6.out; have W5 := C3.out; have V6 := g5.out; have N3 : m9.cell? ⟨b4, 0, none⟩ = some (.int .i64 0) := (blk_cell h0.out 0).trans rfl; have R0 : m9.cell? ⟨b4, 1, none⟩ = some (.int .i64 0) := (blk_cell h0.out 1).trans rfl; have Q1 : m9.cell? ⟨b4, 2, none⟩ = some (.int .i64 0) := (blk_cell h0.out 2).trans rfl; have M5 := blk_frozen h0.out 0; have O4 := blk_frozen h0.out 1; have R4 := blk_frozen h0.out 2; have U9 := e6.out; have Z8 := b8.out; have X0 := e5.out; have V3 := b7.out; have V7 := e2.out; have Y0 := d3.out; have W0 := h7.out; have Y9 := n0.out; have P6 : m9.cell? ⟨a2, 0, none⟩ = some (.int .i64 (wrap64 (a0_0 * a1_0))) := (blk_cell a3.out 0).trans rfl; have O0 : m9.cell? ⟨a2, 1, none⟩ = some (.slice (some e9) b3.length e3) := (blk_cell a3.out 1).trans rfl; have P8 : m9.cell? ⟨a2, 2, none⟩ = some (d0) := (blk_cell a3.out 2).trans rfl; have N0 := blk_frozen a3.out 0; have P3 := blk_frozen a3.out 1; have N1 := blk_frozen a3.out 2; have Y3 := t2.out; have X3 := h6.out; have Z7 := s9.out; have Y2 := h9.out; have Y5 := t4.out; have W1 := h5.out; have P1 : m9.cell? ⟨b5, 0, none⟩ = some (.int .i64 ((rd_T51 a9 a7).f0)) := (blk_cell e4.out 0).trans rfl; have Q2 : m9.cell? ⟨b5, 1, none⟩ = some (.int .i64 ((rd_T51 a9 a7).f1)) := (blk_cell e4.out 1).trans rfl; have M8 : m9.cell? ⟨b5, 2, none⟩ = some (.int .i64 ((rd_T51 a9 a7).f2)) := (blk_cell e4.out 2).trans rfl; have N2 := blk_frozen e4.out 0; have R3 := blk_frozen e4.out 1; have R6 := blk_frozen e4.out 2; have U6 := i0.out; have U7 := i1.out; have W6 := g4.out; have Z4 := g1.out; have O5 : m9.cell? ⟨b0, 0, none⟩ = some (.int .i64 a1_0) := (blk_cell a1.out 0).trans rfl; have N9 : m9.cell? ⟨b0, 1, none⟩ = some (.slice A1_1 l1_1.length c1_1) := (blk_cell a1.out 1).trans rfl; have S0 : m9.cell? ⟨b0, 2, none⟩ = some (.slice A1_2 l1_2.length c1_2) := (blk_cell a1.out 2).trans rfl; have N4 := blk_frozen a1.out 0; have O2 := blk_frozen a1.out 1; have M6 := blk_frozen a1.out 2) | ((with_reducible refine gate_builtin (b := .append) (xs := #[.tmp 84, .tmp 103]) rfl ?_); (try (refine gate_guard (by rfl) ?_; dsimp only)); at_builtin; refine Kd.R_append k51 (w0 := w) w.heap.size rfl (.tmp 84) (.tmp 103) 23 51 (.agg #[(.int .i64 0), (.int .i64 0), (.int .i64 0)]) 24 rfl Try.underlying23 info51 rfl (by decide) (by omega) d0 g7 (⟨wrap64 ((wrap64 (((rd_T51 a9 a7).f0) * a1_0)) + ((rd_T51 a8 b1).f0)), d6, wrap64 ((wrap64 (((rd_T51 a9 a7).f2) * a1_0)) + ((rd_T51 a8 b1).f2))⟩ : S51) [.int .i64 (wrap64 ((wrap64 (((rd_T51 a9 a7).f0) * a1_0)) + ((rd_T51 a8 b1).f0))), .int .i64 d6, .int .i64 (wrap64 ((wrap64 (((rd_T51 a9 a7).f2) * a1_0)) + ((rd_T51 a8 b1).f2)))] (fun k_ => some k_ ≠ (.slice (some t8) a8.length h4 : Value).ownBlock ∧ some k_ ≠ (.slice (some m1) a9.length i9 : Value).ownBlock ∧ some k_ ≠ (.slice (some t8) a8.length h4 : Value).ownBlock ∧ k_ ≠ b5 ∧ k_ ≠ b4) (fun _ => False) rfl (by first | (go_simp; done) | (go_simp; rfl)) ?aP (fun _ hk => hk.elim) ?aF ?aO ?aB ?aS ?aL ?_; (case aP => exact k51_mkM _ _ _ (⟨wrap64 ((wrap64 (((rd_T51 a9 a7).f0) * a1_0)) + ((rd_T51 a8 b1).f0)), d6, wrap64 ((wrap64 (((rd_T51 a9 a7).f2) * a1_0)) + ((rd_T51 a8 b1).f2))⟩ : S51)); (case aB => exact (by repeat (first | (with_reducible first | exact HB.out | apply below_alloc | apply pw_below_drewN | apply below_drew1 | refine below_set ?_ b9.out | refine below_set ?_ d1.out | refine below_set ?_ d2.out | refine below_set ?_ d4.out | refine below_set ?_ i7.out | refine below_set ?_ B2.out) | exact HB.out))); (case aF => exact (fun k_ hk => ⟨Kd.fresh' (Kd.R_lt (by (with_reducible repeat (first | apply Kd.R_alloc | apply Kd.R_drewN | apply Kd.R_drew)); exact (Kd.R_mono (Kd.R_far (p := ⟨b4, 2, none⟩) (Kd.R_far (p := ⟨b4, 1, none⟩) (Kd.R_far (p := ⟨b4, 0, none⟩) (Kd.R_mono f8.out (fun k_ hk => (⟨hk, hk.2⟩ : _ ∧ k_ ≠ b4))) (fun _ hk => hk.2) (.int .i64 ((rd_T51 a8 b1).f0))) (fun _ hk => hk.2) (.int .i64 ((rd_T51 a8 b1).f1))) (fun _ hk => hk.2) (.int .i64 ((rd_T51 a8 b1).f2))) (fun _ h_ => h_.1)))) k_ hk, Kd.fresh' (Kd.R_lt (by (with_reducible repeat (first | apply Kd.R_alloc | apply Kd.R_drewN | apply Kd.R_drew)); exact (Kd.R_mono (Kd.R_far (p := ⟨b4, 2, none⟩) (Kd.R_far (p := ⟨b4, 1, none⟩) (Kd.R_far (p := ⟨b4, 0, none⟩) (Kd.R_mono f9.out (fun k_ hk => (⟨hk, hk.2⟩ : _ ∧ k_ ≠ b4))) (fun _ hk => hk.2) (.int .i64 ((rd_T51 a8 b1).f0))) (fun _ hk => hk.2) (.int .i64 ((rd_T51 a8 b1).f1))) (fun _ hk => hk.2) (.int .i64 ((rd_T51 a8 b1).f2))) (fun _ h_ => h_.1)))) k_ hk, Kd.fresh' (Kd.R_lt (by (with_reducible repeat (first | apply Kd.R_alloc | apply Kd.R_drewN | apply Kd.R_drew)); exact (Kd.R_mono (Kd.R_far (p := ⟨b4, 2, none⟩) (Kd.R_far (p := ⟨b4, 1, none⟩) (Kd.R_far (p := ⟨b4, 0, none⟩) (Kd.R_mono i2.out (fun k_ hk => (⟨hk, hk.2⟩ : _ ∧ k_ ≠ b4))) (fun _ hk => hk.2) (.int .i64 ((rd_T51 a8 b1).f0))) (fun _ hk => hk.2) (.int .i64 ((rd_T51 a8 b1).f1))) (fun _ hk => hk.2) (.int .i64 ((rd_T51 a8 b1).f2))) (fun _ h_ => h_.1)))) k_ hk, Kd.freshB (g := b5) (o := .cells #[.int .i64 ((rd_T51 a9 a7).f0), .int .i64 ((rd_T51 a9 a7).f1), .int .i64 ((rd_T51 a9 a7).f2)] 51 (0, 0)) (by (with_reducible repeat (first | refine blk_drewN ?_ _ | refine blk_drew ?_ | refine blk_alloc ?_ _)); refine blk_far ?_ g5.out _; (with_reducible repeat (first | refine blk_drewN ?_ _ | refine blk_drew ?_ | refine blk_alloc ?_ _)); refine blk_far ?_ g5.out _; (with_reducible repeat (first | refine blk_drewN ?_ _ | refine blk_drew ?_ | refine blk_alloc ?_ _)); refine blk_far ?_ g5.out _; (with_reducible repeat (first | refine blk_drewN ?_ _ | refine blk_drew ?_ | refine blk_alloc ?_ _)); exact e4.out) k_ hk, Kd.freshB (g := b4) (o := .cells #[.int .i64 ((rd_T51 a8 b1).f0), .int .i64 ((rd_T51 a8 b1).f1), .int .i64 ((rd_T51 a8 b1).f2)] 51 (0, 0)) (by (with_reducible repeat (first | refine blk_drewN ?_ _ | refine blk_drew ?_ | refine blk_alloc ?_ _)); refine blk_put (cs := #[.int .i64 ((rd_T51 a8 b1).f0), .int .i64 ((rd_T51 a8 b1).f1), .int .i64 0]) ?_ 2 _ rfl; (with_reducible repeat (first | refine blk_drewN ?_ _ | refine blk_drew ?_ | refine blk_alloc ?_ _)); refine blk_put (cs := #[.int .i64 ((rd_T51 a8 b1).f0), .int .i64 0, .int .i64 0]) ?_ 1 _ rfl; (with_reducible repeat (first | refine blk_drewN ?_ _ | refine blk_drew ?_ | refine blk_alloc ?_ _)); refine blk_put (cs := #[.int .i64 0, .int .i64 0, .int .i64 0]) ?_ 0 _ rfl; (with_reducible repeat (first | refine blk_drewN ?_ _ | refine blk_drew ?_ | refine blk_alloc ?_ _)); exact h0.out) k_ hk⟩)); (case aO => exact (by (with_reducible repeat (first | apply Kd.R_alloc | apply Kd.R_drewN | apply Kd.R_drew)); exact Kd.R_mono (Kd.R_far (p := ⟨b4, 2, none⟩) (Kd.R_far (p := ⟨b4, 1, none⟩) (Kd.R_far (p := ⟨b4, 0, none⟩) (Kd.R_mono a5.out (fun k_ hk => (⟨hk, hk.2⟩ : _ ∧ k_ ≠ b4))) (fun _ hk => hk.2) (.int .i64 ((rd_T51 a8 b1).f0))) (fun _ hk => hk.2) (.int .i64 ((rd_T51 a8 b1).f1))) (fun _ hk => hk.2) (.int .i64 ((rd_T51 a8 b1).f2))) (fun _ hk => ⟨hk.1.1.1, ⟨hk.1.1.2.1, ⟨hk.1.1.2.2.1, ⟨hk.1.1.2.2.2, hk.1.2⟩⟩⟩⟩))); (case aS => exact (below_size (by repeat (first | (with_reducible first | exact HB.out | apply below_alloc | apply pw_below_drewN | apply below_drew1 | refine below_set ?_ b9.out | refine below_set ?_ d1.out | refine below_set ?_ d2.out | refine below_set ?_ d4.out | refine below_set ?_ i7.out | refine below_set ?_ B2.out) | exact HB.out)))); (case aL => have := J6.out; omega); intro bN D4 ho hb hg hat; rw [← J1.out] at ho; have d8 := Aside0.mk (Kd.R_after (ok := (fun k_ => some k_ ≠ (.slice (some m1) a9.length i9 : Value).ownBlock ∧ k_ ≠ b5 ∧ k_ ≠ b4)) (by (with_reducible repeat (first | apply Kd.R_alloc | apply Kd.R_drewN | apply Kd.R_drew)); exact Kd.R_mono (Kd.R_far (p := ⟨b4, 2, none⟩) (Kd.R_far (p := ⟨b4, 1, none⟩) (Kd.R_far (p := ⟨b4, 0, none⟩) (Kd.R_mono f8.out (fun k_ hk => (⟨hk, hk.2⟩ : _ ∧ k_ ≠ b4))) (fun _ hk => hk.2) (.int .i64 ((rd_T51 a8 b1).f0))) (fun _ hk => hk.2) (.int .i64 ((rd_T51 a8 b1).f1))) (fun _ hk => hk.2) (.int .i64 ((rd_T51 a8 b1).f2))) (fun _ hk => ⟨⟨hk.1.1.1, ⟨hk.1.1.2.2, hk.1.2⟩⟩, hk.1.1.2.1⟩)) hg hat); have d9 := Aside0.mk (Kd.R_over' (by (with_reducible repeat (first | apply Kd.R_alloc | apply Kd.R_drewN | apply Kd.R_drew)); exact (Kd.R_mono (Kd.R_far (p := ⟨b4, 2, none⟩) (Kd.R_far (p := ⟨b4, 1, none⟩) (Kd.R_far (p := ⟨b4, 0, none⟩) (Kd.R_types e1.out h0.out (by decide)) (fun _ hk => hk.2) (.int .i64 ((rd_T51 a8 b1).f0))) (fun _ hk => hk.2) (.int .i64 ((rd_T51 a8 b1).f1))) (fun _ hk => hk.2) (.int .i64 ((rd_T51 a8 b1).f2))) (fun _ h_ => h_.1))) (Kd.R_typed (by (with_reducible repeat (first | apply Kd.R_alloc | apply Kd.R_drewN | apply Kd.R_drew)); exact (Kd.R_mono (Kd.R_far (p := ⟨b4, 2, none⟩) (Kd.R_far (p := ⟨b4, 1, none⟩) (Kd.R_far (p := ⟨b4, 0, none⟩) (Kd.R_mono a5.out (fun k_ hk => (⟨hk, hk.2⟩ : _ ∧ k_ ≠ b4))) (fun _ hk => hk.2) (.int .i64 ((rd_T51 a8 b1).f0))) (fun _ hk => hk.2) (.int .i64 ((rd_T51 a8 b1).f1))) (fun _ hk => hk.2) (.int .i64 ((rd_T51 a8 b1).f2))) (fun _ h_ => h_.1)))) (by decide) hg); have d7 := Aside0.mk (Kd.R_after (ok := (fun k_ => some k_ ≠ (.slice (some t8) a8.length h4 : Value).ownBlock ∧ some k_ ≠ (.slice (some t8) a8.length h4 : Value).ownBlock ∧ k_ ≠ b5 ∧ k_ ≠ b4)) (by (with_reducible repeat (first | apply Kd.R_alloc | apply Kd.R_drewN | apply Kd.R_drew)); exact Kd.R_mono (Kd.R_far (p := ⟨b4, 2, none⟩) (Kd.R_far (p := ⟨b4, 1, none⟩) (Kd.R_far (p := ⟨b4, 0, none⟩) (Kd.R_mono f9.out (fun k_ hk => (⟨hk, hk.2⟩ : _ ∧ k_ ≠ b4))) (fun _ hk => hk.2) (.int .i64 ((rd_T51 a8 b1).f0))) (fun _ hk => hk.2) (.int .i64 ((rd_T51 a8 b1).f1))) (fun _ hk => hk.2) (.int .i64 ((rd_T51 a8 b1).f2))) (fun _ hk => ⟨⟨hk.1.1.1, ⟨hk.1.1.2.1, ⟨hk.1.1.2.2.2, hk.1.2⟩⟩⟩, hk.1.1.2.2.1⟩)) hg hat); have e0 := Aside0.mk (Kd.R_after (ok := (fun k_ => some k_ ≠ (.slice (some m1) a9.length i9 : Value).ownBlock ∧ k_ ≠ b5 ∧ k_ ≠ b4)) (by (with_reducible repeat (first | apply Kd.R_alloc | apply Kd.R_drewN | apply Kd.R_drew)); exact Kd.R_mono (Kd.R_far (p := ⟨b4, 2, none⟩) (Kd.R_far (p := ⟨b4, 1, none⟩) (Kd.R_far (p := ⟨b4, 0, none⟩) (Kd.R_mono i2.out (fun k_ hk => (⟨hk, hk.2⟩ : _ ∧ k_ ≠ b4))) (fun _ hk => hk.2) (.int .i64 ((rd_T51 a8 b1).f0))) (fun _ hk => hk.2) (.int .i64 ((rd_T51 a8 b1).f1))) (fun _ hk => hk.2) (.int .i64 ((rd_T51 a8 b1).f2))) (fun _ hk => ⟨⟨hk.1.1.1, ⟨hk.1.1.2.2, hk.1.2⟩⟩, hk.1.1.2.1⟩)) hg hat); have e8 := Aside0.mk (Kd.R_over' (by (with_reducible repeat (first | apply Kd.R_alloc | apply Kd.R_drewN | apply Kd.R_drew)); exact (Kd.R_mono (Kd.R_far (p := ⟨b4, 2, none⟩) (Kd.R_far (p := ⟨b4, 1, none⟩) (Kd.R_far (p := ⟨b4, 0, none⟩) (Kd.R_types b6.out h0.out (by decide)) (fun _ hk => hk.2) (.int .i64 ((rd_T51 a8 b1).f0))) (fun _ hk => hk.2) (.int .i64 ((rd_T51 a8 b1).f1))) (fun _ hk => hk.2) (.int .i64 ((rd_T51 a8 b1).f2))) (fun _ h_ => h_.1))) (Kd.R_typed (by (with_reducible repeat (first | apply Kd.R_alloc | apply Kd.R_drewN | apply Kd.R_drew)); exact (Kd.R_mono (Kd.R_far (p := ⟨b4, 2, none⟩) (Kd.R_far (p := ⟨b4, 1, none⟩) (Kd.R_far (p := ⟨b4, 0, none⟩) (Kd.R_mono a5.out (fun k_ hk => (⟨hk, hk.2⟩ : _ ∧ k_ ≠ b4))) (fun _ hk => hk.2) (.int .i64 ((rd_T51 a8 b1).f0))) (fun _ hk => hk.2) (.int .i64 ((rd_T51 a8 b1).f1))) (fun _ hk => hk.2) (.int .i64 ((rd_T51 a8 b1).f2))) (fun _ h_ => h_.1)))) (by decide) hg); have f3 := Aside0.mk (blk_grown (g := a6) (o := .cells #[.int .i64 a0_0, .slice A0_1 l0_1.length c0_1, .slice A0_2 l0_2.length c0_2] 25 (0, 0)) (by (with_reducible repeat (first | refine blk_drewN ?_ _ | refine blk_drew ?_ | refine blk_alloc ?_ _)); refine blk_far ?_ i8.out _; (with_reducible repeat (first | refine blk_drewN ?_ _ | refine blk_drew ?_ | refine blk_alloc ?_ _)); refine blk_far ?_ i8.out _; (with_reducible repeat (first | refine blk_drewN ?_ _ | refine blk_drew ?_ | refine blk_alloc ?_ _)); refine blk_far ?_ i8.out _; (with_reducible repeat (first | refine blk_drewN ?_ _ | refine blk_drew ?_ | refine blk_alloc ?_ _)); exact a0.out) hg (Kd.R_ne a5.out a0.out (by decide))); have f4 := Aside0.mk (blk_grown (g := b0) (o := .cells #[.int .i64 a1_0, .slice A1_1 l1_1.length c1_1, .slice A1_2 l1_2.length c1_2] 25 (0, 0)) (by (with_reducible repeat (first | refine blk_drewN ?_ _ | refine blk_drew ?_ | refine blk_alloc ?_ _)); refine blk_far ?_ i5.out _; (with_reducible repeat (first | refine blk_drewN ?_ _ | refine blk_drew ?_ | refine blk_alloc ?_ _)); refine blk_far ?_ i5.out _; (with_reducible repeat (first | refine blk_drewN ?_ _ | refine blk_drew ?_ | refine blk_alloc ?_ _)); refine blk_far ?_ i5.out _; (with_reducible repeat (first | refine blk_drewN ?_ _ | refine blk_drew ?_ | refine blk_alloc ?_ _)); exact a1.out) hg (Kd.R_ne a5.out a1.out (by decide))); have f7 := Aside0.mk (blk_grown (g := b2) (o := .cells #[.int .i64 d5, .slice none 0 0, .slice none 0 0] 25 (0, 0)) (by (with_reducible repeat (first | refine blk_drewN ?_ _ | refine blk_drew ?_ | refine blk_alloc ?_ _)); refine blk_far ?_ i4.out _; (with_reducible repeat (first | refine blk_drewN ?_ _ | refine blk_drew ?_ | refine blk_alloc ?_ _)); refine blk_far ?_ i4.out _; (with_reducible repeat (first | refine blk_drewN ?_ _ | refine blk_drew ?_ | refine blk_alloc ?_ _)); refine blk_far ?_ i4.out _; (with_reducible repeat (first | refine blk_drewN ?_ _ | refine blk_drew ?_ | refine blk_alloc ?_ _)); exact a4.out) hg (Kd.R_ne a5.out a4.out (by decide))); have f6 := Aside0.mk (blk_grown (g := a2) (o := .cells #[.int .i64 (wrap64 (a0_0 * a1_0)), .slice (some e9) b3.length e3, d0] 25 (0, 0)) (by (with_reducible repeat (first | refine blk_drewN ?_ _ | refine blk_drew ?_ | refine blk_alloc ?_ _)); refine blk_far ?_ i6.out _; (with_reducible repeat (first | refine blk_drewN ?_ _ | refine blk_drew ?_ | refine blk_alloc ?_ _)); refine blk_far ?_ i6.out _; (with_reducible repeat (first | refine blk_drewN ?_ _ | refine blk_drew ?_ | refine blk_alloc ?_ _)); refine blk_far ?_ i6.out _; (with_reducible repeat (first | refine blk_drewN ?_ _ | refine blk_drew ?_ | refine blk_alloc ?_ _)); exact a3.out) hg (Kd.R_ne a5.out a3.out (by decide))); have f5 := Aside0.mk (blk_grown (g := b5) (o := .cells #[.int .i64 ((rd_T51 a9 a7).f0), .int .i64 ((rd_T51 a9 a7).f1), .int .i64 ((rd_T51 a9 a7).f2)] 51 (0, 0)) (by (with_reducible repeat (first | refine blk_drewN ?_ _ | refine blk_drew ?_ | refine blk_alloc ?_ _)); refine blk_far ?_ g5.out _; (with_reducible repeat (first | refine blk_drewN ?_ _ | refine blk_drew ?_ | refine blk_alloc ?_ _)); refine blk_far ?_ g5.out _; (with_reducible repeat (first | refine blk_drewN ?_ _ | refine blk_drew ?_ | refine blk_alloc ?_ _)); refine blk_far ?_ g5.out _; (with_reducible repeat (first | refine blk_drewN ?_ _ | refine blk_drew ?_ | refine blk_alloc ?_ _)); exact e4.out) hg (Kd.R_away a5.out (fun _ hk => hk.1.2.2.2))); have g0 := Aside0.mk (blk_grown (g := b4) (o := .cells #[.int .i64 ((rd_T51 a8 b1).f0), .int .i64 ((rd_T51 a8 b1).f1), .int .i64 ((rd_T51 a8 b1).f2)] 51 (0, 0)) (by (with_reducible repeat (first | refine blk_drewN ?_ _ | refine blk_drew ?_ | refine blk_alloc ?_ _)); refine blk_put (cs := #[.int .i64 ((rd_T51 a8 b1).f0), .int .i64 ((rd_T51 a8 b1).f1), .int .i64 0]) ?_ 2 _ rfl; (with_reducible repeat (first | refine blk_drewN ?_ _ | refine blk_drew ?_ | refine blk_alloc ?_ _)); refine blk_put (cs := #[.int .i64 ((rd_T51 a8 b1).f0), .int .i64 0, .int .i64 0]) ?_ 1 _ rfl; (with_reducible repeat (first | refine blk_drewN ?_ _ | refine blk_drew ?_ | refine blk_alloc ?_ _)); refine blk_put (cs := #[.int .i64 0, .int .i64 0, .int .i64 0]) ?_ 0 _ rfl; (with_reducible repeat (first | refine blk_drewN ?_ _ | refine blk_drew ?_ | refine blk_alloc ?_ _)); exact h0.out) hg (Kd.R_away a5.out (fun _ hk => hk.2))); have g2 := Aside0.mk (hb); have g8 := Aside0.mk (ho); clear f8; clear e1; clear f9; clear i2; clear b6; clear a0; clear a1; clear a4; clear a3; clear e4; clear h0; clear HB; clear a5; have f8 := d8; have e1 := d9; have f9 := d7; have i2 := e0; have b6 := e8; have a0 := f3; have a1 := f4; have a4 := f7; have a3 := f6; have e4 := f5; have h0 := g0; have HB := g2; have E1 := g8; clear d8 d9 d7 e0 e8 f3 f4 f7 f6 f5 g0 g2 g8; clear ho hb hg hat; obtain ⟨m0, m8, J2⟩ := Kd.R_slice E1.out; subst J2; have R5 : D4.cell? ⟨a2, 0, none⟩ = some (.int .i64 (wrap64 (a0_0 * a1_0))) := (blk_cell a3.out 0).trans rfl; have O8 : D4.cell? ⟨a2, 1, none⟩ = some (.slice (some e9) b3.length e3) := (blk_cell a3.out 1).trans rfl; have O3 : D4.cell? ⟨a2, 2, none⟩ = some (d0) := (blk_cell a3.out 2).trans rfl; have R9 := blk_frozen a3.out 0; have N5 := blk_frozen a3.out 1; have N7 := blk_frozen a3.out 2))
                        go_roundg k5
                        case measure => have := t0.out; have := s7.out; have := x1.out; have := y8.out; have := E4.out; omega
                        case rel => exact ⟨(wrap64 (b1 + 1)), (m3), (.slice m0 m3.length m8), (by first | rfl | (simp; done) | (simp [*]; done)), H', ⟨by have := t0.out; have := s7.out; have := x1.out; have := y8.out; have := E4.out; omega⟩, ⟨by (with_reducible repeat (first | apply Kd.R_alloc | apply Kd.R_drewN | apply Kd.R_drew)); exact Kd.R_mono (Kd.R_far (p := ⟨a2, 2, none⟩) (Kd.R_types f8.out a3.out (by decide)) (fun _ hk => hk.2) (.slice m0 m3.length m8)) (fun _ hk => ⟨hk.1.1.1, ⟨hk.1.2, hk.1.1.2.1⟩⟩)⟩, ⟨by (with_reducible repeat (first | apply Kd.R_alloc | apply Kd.R_drewN | apply Kd.R_drew)); exact Kd.R_mono (Kd.R_far (p := ⟨a2, 2, none⟩) (Kd.R_types e1.out a3.out (by decide)) (fun _ hk => hk.2) (.slice m0 m3.length m8)) (fun _ hk => trivial)⟩, ⟨by (with_reducible repeat (first | apply Kd.R_alloc | apply Kd.R_drewN | apply Kd.R_drew)); exact Kd.R_mono (Kd.R_far (p := ⟨a2, 2, none⟩) (Kd.R_types f9.out a3.out (by decide)) (fun _ hk => hk.2) (.slice m0 m3.length m8)) (fun _ hk => ⟨hk.1.1.1, ⟨hk.1.1.2.1, ⟨hk.1.2, hk.1.1.2.2.1⟩⟩⟩)⟩, ⟨by (with_reducible repeat (first | apply Kd.R_alloc | apply Kd.R_drewN | apply Kd.R_drew)); exact Kd.R_mono (Kd.R_far (p := ⟨a2, 2, none⟩) (Kd.R_types i2.out a3.out (by decide)) (fun _ hk => hk.2) (.slice m0 m3.length m8)) (fun _ hk => ⟨hk.1.1.1, ⟨hk.1.2, hk.1.1.2.1⟩⟩)⟩, ⟨by (with_reducible repeat (first | apply Kd.R_alloc | apply Kd.R_drewN | apply Kd.R_drew)); exact Kd.R_mono (Kd.R_far (p := ⟨a2, 2, none⟩) (Kd.R_types b6.out a3.out (by decide)) (fun _ hk => hk.2) (.slice m0 m3.length m8)) (fun _ hk => trivial)⟩, ⟨by (with_reducible repeat (first | apply Kd.R_alloc | apply Kd.R_drewN | apply Kd.R_drew)); exact Kd.R_mono (Kd.R_far (p := ⟨a2, 2, none⟩) (Kd.R_types E1.out a3.out (by decide)) (fun _ hk => hk.2) (.slice m0 m3.length m8)) (fun _ hk => ⟨hk.1.1, ⟨hk.1.2.1, ⟨hk.1.2.2.1, hk.1.2.2.2.1⟩⟩⟩)⟩, ⟨by (with_reducible repeat (first | refine blk_drewN ?_ _ | refine blk_drew ?_ | refine blk_alloc ?_ _)); refine blk_far ?_ b8.out _; (with_reducible repeat (first | refine blk_drewN ?_ _ | refine blk_drew ?_ | refine blk_alloc ?_ _)); exact a0.out⟩, ⟨by (with_reducible repeat (first | refine blk_drewN ?_ _ | refine blk_drew ?_ | refine blk_alloc ?_ _)); refine blk_far ?_ b7.out _; (with_reducible repeat (first | refine blk_drewN ?_ _ | refine blk_drew ?_ | refine blk_alloc ?_ _)); exact a1.out⟩, ⟨by (with_reducible repeat (first | refine blk_drewN ?_ _ | refine blk_drew ?_ | refine blk_alloc ?_ _)); refine blk_far ?_ d3.out _; (with_reducible repeat (first | refine blk_drewN ?_ _ | refine blk_drew ?_ | refine blk_alloc ?_ _)); exact a4.out⟩, ⟨by (with_reducible repeat (first | refine blk_drewN ?_ _ | refine blk_drew ?_ | refine blk_alloc ?_ _)); refine blk_put (cs := #[.int .i64 (wrap64 (a0_0 * a1_0)), .slice (some e9) b3.length e3, d0]) ?_ 2 _ rfl; (with_reducible repeat (first | refine blk_drewN ?_ _ | refine blk_drew ?_ | refine blk_alloc ?_ _)); exact a3.out⟩, ⟨by (with_reducible repeat (first | refine blk_drewN ?_ _ | refine blk_drew ?_ | refine blk_alloc ?_ _)); refine blk_far ?_ n0.out _; (with_reducible repeat (first | refine blk_drewN ?_ _ | refine blk_drew ?_ | refine blk_alloc ?_ _)); exact e4.out⟩, ⟨by repeat (first | (with_reducible first | exact HB.out | apply below_alloc | apply pw_below_drewN | apply below_drew1 | refine below_set ?_ b9.out | refine below_set ?_ d1.out | refine below_set ?_ d2.out | refine below_set ?_ d4.out | refine below_set ?_ i7.out | refine below_set ?_ B2.out) | exact HB.out)⟩⟩
                       ·rw [if_neg D8] at H
                        exact absurd H (by simp)
                      ·rw [if_neg E8] at H
                       exact absurd H (by simp)
                     ·rw [if_neg D7] at H
                      exact absurd H (by simp)
                    ·rw [if_neg z7] at H
                     have c95b0 : decide (b1 < (a8.length : Int)) = false := decide_eq_false z7
                     clear z7
                     have H' := Aside0.mk H
                     clear H
                     go_wp2
                     go_roundg k5
                     case measure => have := t0.out; have := s7.out; have := x1.out; have := y8.out; have := E4.out; omega
                     case rel => exact ⟨(wrap64 (a7 + 1)), (g7), (d0), (by first | rfl | (simp; done) | (simp [*]; done)), H', ⟨by have := t0.out; have := s7.out; have := x1.out; have := y8.out; have := E4.out; omega⟩, ⟨by (with_reducible repeat (first | apply Kd.R_alloc | apply Kd.R_drewN | apply Kd.R_drew)); exact Kd.R_mono f8.out (fun _ hk => ⟨hk.1, hk.2.1⟩)⟩, ⟨by (with_reducible repeat (first | apply Kd.R_alloc | apply Kd.R_drewN | apply Kd.R_drew)); exact e1.out⟩, ⟨by (with_reducible repeat (first | apply Kd.R_alloc | apply Kd.R_drewN | apply Kd.R_drew)); exact Kd.R_mono f9.out (fun _ hk => ⟨hk.1, hk.2.2.1⟩)⟩, ⟨by (with_reducible repeat (first | apply Kd.R_alloc | apply Kd.R_drewN | apply Kd.R_drew)); exact b6.out⟩, ⟨by (with_reducible repeat (first | apply Kd.R_alloc | apply Kd.R_drewN | apply Kd.R_drew)); exact Kd.R_mono a5.out (fun _ hk => ⟨hk.1, hk.2.1⟩)⟩, ⟨by (with_reducible repeat (first | refine blk_drewN ?_ _ | refine blk_drew ?_ | refine blk_alloc ?_ _)); exact a0.out⟩, ⟨by (with_reducible repeat (first | refine blk_drewN ?_ _ | refine blk_drew ?_ | refine blk_alloc ?_ _)); exact a1.out⟩, ⟨by (with_reducible repeat (first | refine blk_drewN ?_ _ | refine blk_drew ?_ | refine blk_alloc ?_ _)); exact a4.out⟩, ⟨by (with_reducible repeat (first | refine blk_drewN ?_ _ | refine blk_drew ?_ | refine blk_alloc ?_ _)); exact a3.out⟩, ⟨by repeat (first | (with_reducible first | exact HB.out | apply below_alloc | apply pw_below_drewN | apply below_drew1 | refine below_set ?_ b9.out | refine below_set ?_ d1.out | refine below_set ?_ d2.out | refine below_set ?_ d4.out | refine below_set ?_ i7.out) | exact HB.out)⟩⟩
                 ·rw [if_neg C2] at H
                  exact absurd H (by simp)
                ·rw [if_neg C5] at H
                 exact absurd H (by simp)
               ·rw [if_neg u6] at H
                have c86b0 : decide (a7 < (a9.length : Int)) = false := decide_eq_false u6
                clear u6
                have H' := Aside0.mk H
                clear H
                go_wp2
                go_roundg k4
                case measure => have := t0.out; have := s7.out; have := x1.out; have := y8.out; omega
                case rel => exact ⟨(wrap64 (d6 + 1)), (d5), (h8), (d0), (by first | rfl | (simp; done) | (simp [*]; done)), H', ⟨by have := t0.out; have := s7.out; have := x1.out; have := y8.out; omega⟩, ⟨by (with_reducible repeat (first | apply Kd.R_alloc | apply Kd.R_drewN | apply Kd.R_drew)); exact e1.out⟩, ⟨by (with_reducible repeat (first | apply Kd.R_alloc | apply Kd.R_drewN | apply Kd.R_drew)); exact b6.out⟩, ⟨by (with_reducible repeat (first | apply Kd.R_alloc | apply Kd.R_drewN | apply Kd.R_drew)); exact Kd.R_mono a5.out (fun _ hk => trivial)⟩, ⟨by (with_reducible repeat (first | refine blk_drewN ?_ _ | refine blk_drew ?_ | refine blk_alloc ?_ _)); exact a0.out⟩, ⟨by (with_reducible repeat (first | refine blk_drewN ?_ _ | refine blk_drew ?_ | refine blk_alloc ?_ _)); exact a1.out⟩, ⟨by (with_reducible repeat (first | refine blk_drewN ?_ _ | refine blk_drew ?_ | refine blk_alloc ?_ _)); exact a4.out⟩, ⟨by (with_reducible repeat (first | refine blk_drewN ?_ _ | refine blk_drew ?_ | refine blk_alloc ?_ _)); exact a3.out⟩, ⟨by repeat (first | (with_reducible first | exact HB.out | apply below_alloc | apply pw_below_drewN | apply below_drew1 | refine below_set ?_ b9.out | refine below_set ?_ d1.out | refine below_set ?_ d2.out | refine below_set ?_ d4.out) | exact HB.out)⟩⟩
           ·rw [if_neg v5] at H
            exact absurd H (by simp)
          ·rw [if_neg y2] at H
           exact absurd H (by simp)
         ·rw [if_neg t3] at H
          have c54b0 : decide (d6 < (b3.length : Int)) = false := decide_eq_false t3
          clear t3
          replace H := Option.bind_eq_some_iff.mp H
          obtain ⟨⟨p5, r0, u8, G8⟩, E6, H⟩ := H
          replace H : (some (p5, r0, u8, G8)) = some (r1, r2, r3, r4) := H
          have O7 := Aside0.mk E6
          clear E6
          simp only [Option.some.injEq, Prod.mk.injEq] at H
          obtain ⟨rfl, rfl, rfl, rfl⟩ := H
          have Y1 := e6.out
          have V1 := b8.out
          have X1 := e5.out
          have U5 := b7.out
          have X2 := e2.out
          have V9 := d3.out
          have P0 : wr.cell? ⟨a2, 0, none⟩ = some (.int .i64 (wrap64 (a0_0 * a1_0))) := (blk_cell a3.out 0).trans rfl
          have Q7 : wr.cell? ⟨a2, 1, none⟩ = some (.slice h3 b3.length e3) := (blk_cell a3.out 1).trans rfl
          have O1 : wr.cell? ⟨a2, 2, none⟩ = some (d0) := (blk_cell a3.out 2).trans rfl
          have P2 := blk_frozen a3.out 0
          have P7 := blk_frozen a3.out 1
          have P4 := blk_frozen a3.out 2
          obtain ⟨D6, D9, J0⟩ := Kd.R_slice a5.out
          subst J0
          go_wp2_with (first | ((with_reducible refine gate_callee (f := 25) rfl ?_); refine goesL_ (some 110) rfl rfl Try.func25 (by kernel_rfl) rfl #[.agg #[.int .i64 (wrap64 (a0_0 * a1_0)), .slice h3 b3.length e3, .slice D6 e7.length D9]] rfl (by (try simp only [List.map_toArray, List.map_cons, List.map_nil]); first | done | rfl | (simp only [List.length_drop, List.length_take]; rfl)) ?_; (with_reducible refine (Pxj.calls (wrap64 (a0_0 * a1_0)) _ _ b3 _ _ e7 p5 r0 u8 G8 _ ?l9 ?m4 ?l8 ?m5 O7.out).mono ?_); (case l9 => repeat (first | exact (Kd.R_reads' b6.out).2.2 | (with_reducible refine Kd.C_alloc ?_ _) | (with_reducible refine Kd.C_drewN ?_ _) | (with_reducible refine Kd.C_drew ?_))); (case m4 => exact (Kd.R_reads' b6.out).2.1); (case l8 => repeat (first | exact (Kd.R_reads' a5.out).2.2 | (with_reducible refine Kd.C_alloc ?_ _) | (with_reducible refine Kd.C_drewN ?_ _) | (with_reducible refine Kd.C_drew ?_))); (case m5 => exact (Kd.R_reads' a5.out).2.1); rintro e D1 ⟨bM, bQ, rfl, h2, n1, hb⟩; refine ⟨_, rfl, ?_⟩; have d8 := Aside0.mk (Kd.R_elder' (by (with_reducible repeat (first | apply Kd.R_alloc | apply Kd.R_drewN | apply Kd.R_drew)); exact e1.out) (Kd.R_base h2) hb); have d9 := Aside0.mk (Kd.R_elder' (by (with_reducible repeat (first | apply Kd.R_alloc | apply Kd.R_drewN | apply Kd.R_drew)); exact b6.out) (Kd.R_base h2) hb); have d7 := Aside0.mk (Kd.R_elder' (by (with_reducible repeat (first | apply Kd.R_alloc | apply Kd.R_drewN | apply Kd.R_drew)); exact a5.out) (Kd.R_base n1) hb); have e0 := Aside0.mk (Kd.R_lower (Kd.R_new' (Kd.R_new' h2 (Kd.R_lt (by (with_reducible repeat (first | apply Kd.R_alloc | apply Kd.R_drewN | apply Kd.R_drew)); exact e1.out))) (Kd.R_lt (by (with_reducible repeat (first | apply Kd.R_alloc | apply Kd.R_drewN | apply Kd.R_drew)); exact b6.out))) (below_size (by repeat (first | (with_reducible first | exact HB.out | apply below_alloc | apply pw_below_drewN | apply below_drew1 | refine below_set ?_ b9.out | refine below_set ?_ d1.out | refine below_set ?_ d2.out | refine below_set ?_ d4.out) | exact HB.out)))); have e8 := Aside0.mk (Kd.R_lower (Kd.R_new' n1 (Kd.R_lt (by (with_reducible repeat (first | apply Kd.R_alloc | apply Kd.R_drewN | apply Kd.R_drew)); exact a5.out))) (below_size (by repeat (first | (with_reducible first | exact HB.out | apply below_alloc | apply pw_below_drewN | apply below_drew1 | refine below_set ?_ b9.out | refine below_set ?_ d1.out | refine below_set ?_ d2.out | refine below_set ?_ d4.out) | exact HB.out)))); have f3 := Aside0.mk (blk_below (g := a6) (o := .cells #[.int .i64 a0_0, .slice A0_1 l0_1.length c0_1, .slice A0_2 l0_2.length c0_2] 25 (0, 0)) (by (with_reducible repeat (first | refine blk_drewN ?_ _ | refine blk_drew ?_ | refine blk_alloc ?_ _)); exact a0.out) hb); have f4 := Aside0.mk (blk_below (g := b0) (o := .cells #[.int .i64 a1_0, .slice A1_1 l1_1.length c1_1, .slice A1_2 l1_2.length c1_2] 25 (0, 0)) (by (with_reducible repeat (first | refine blk_drewN ?_ _ | refine blk_drew ?_ | refine blk_alloc ?_ _)); exact a1.out) hb); have f7 := Aside0.mk (blk_below (g := b2) (o := .cells #[.int .i64 d5, .slice none 0 0, .slice none 0 0] 25 (0, 0)) (by (with_reducible repeat (first | refine blk_drewN ?_ _ | refine blk_drew ?_ | refine blk_alloc ?_ _)); exact a4.out) hb); have f6 := Aside0.mk (blk_below (g := a2) (o := .cells #[.int .i64 (wrap64 (a0_0 * a1_0)), .slice h3 b3.length e3, .slice D6 e7.length D9] 25 (0, 0)) (by (with_reducible repeat (first | refine blk_drewN ?_ _ | refine blk_drew ?_ | refine blk_alloc ?_ _)); exact a3.out) hb); have f5 := Aside0.mk (below_step (by repeat (first | (with_reducible first | exact HB.out | apply below_alloc | apply pw_below_drewN | apply below_drew1 | refine below_set ?_ b9.out | refine below_set ?_ d1.out | refine below_set ?_ d2.out | refine below_set ?_ d4.out) | exact HB.out)) hb); clear e1; clear b6; clear a5; clear a0; clear a1; clear a4; clear a3; clear HB; have e1 := d8; have b6 := d9; have a5 := d7; have D5 := e0; have E5 := e8; have a0 := f3; have a1 := f4; have a4 := f7; have a3 := f6; have HB := f5; clear d8 d9 d7 e0 e8 f3 f4 f7 f6 f5; (try clear hb); (try clear v3); (try clear hk); (try clear hi); (try clear h2); (try clear n1); have W8 := g6.out; have X4 := g3.out; have V0 := g1.out; have X9 := g4.out; have M4 : D1.cell? ⟨b2, 0, none⟩ = some (.int .i64 d5) := (blk_cell a4.out 0).trans rfl; have Q6 : D1.cell? ⟨b2, 1, none⟩ = some (.slice none 0 0) := (blk_cell a4.out 1).trans rfl; have N6 : D1.cell? ⟨b2, 2, none⟩ = some (.slice none 0 0) := (blk_cell a4.out 2).trans rfl; have R1 := blk_frozen a4.out 0; have O6 := blk_frozen a4.out 1; have P5 := blk_frozen a4.out 2; obtain ⟨u3, t5, J5⟩ := Kd.R_slice D5.out; subst J5; obtain ⟨B4, B0, J3⟩ := Kd.R_slice E5.out; subst J3))
          refine bodyPost_ret (results_ct rfl _ _ b2 25 #[.int .i64 p5, .slice u3 r0.length t5, .slice B4 u8.length B0] (0, 0) _ rfl (by (with_reducible repeat (first | refine blk_drewN ?_ _ | refine blk_drew ?_ | refine blk_alloc ?_ _)); refine blk_put (cs := #[.int .i64 p5, .slice u3 r0.length t5, .slice none 0 0]) ?_ 2 _ rfl; (with_reducible repeat (first | refine blk_drewN ?_ _ | refine blk_drew ?_ | refine blk_alloc ?_ _)); refine blk_put (cs := #[.int .i64 p5, .slice none 0 0, .slice none 0 0]) ?_ 1 _ rfl; (with_reducible repeat (first | refine blk_drewN ?_ _ | refine blk_drew ?_ | refine blk_alloc ?_ _)); refine blk_put (cs := #[.int .i64 d5, .slice none 0 0, .slice none 0 0]) ?_ 0 _ rfl; (with_reducible repeat (first | refine blk_drewN ?_ _ | refine blk_drew ?_ | refine blk_alloc ?_ _)); exact a4.out) Try.underlying25 rfl (by kernel_rfl)) rfl ?_
          exact ⟨_, _, by first | rfl | (simp [errW_none, errW_some] <;> rfl) | (simp [*, errW_none, errW_some] <;> rfl), by (with_reducible repeat (first | apply Kd.R_alloc | apply Kd.R_drewN | apply Kd.R_drew)); exact Kd.R_mono (Kd.R_far (p := ⟨b2, 2, none⟩) (Kd.R_far (p := ⟨b2, 1, none⟩) (Kd.R_far (p := ⟨b2, 0, none⟩) (Kd.R_types D5.out a4.out (by decide)) (fun _ hk => hk.2) (.int .i64 p5)) (fun _ hk => hk.2) (.slice u3 r0.length t5)) (fun _ hk => hk.2) (.slice B4 u8.length B0)) (fun _ hk => trivial), by (with_reducible repeat (first | apply Kd.R_alloc | apply Kd.R_drewN | apply Kd.R_drew)); exact Kd.R_mono (Kd.R_far (p := ⟨b2, 2, none⟩) (Kd.R_far (p := ⟨b2, 1, none⟩) (Kd.R_far (p := ⟨b2, 0, none⟩) (Kd.R_types E5.out a4.out (by decide)) (fun _ hk => hk.2) (.int .i64 p5)) (fun _ hk => hk.2) (.slice u3 r0.length t5)) (fun _ hk => hk.2) (.slice B4 u8.length B0)) (fun _ hk => trivial), by repeat (first | (with_reducible first | exact HB.out | apply below_alloc | apply pw_below_drewN | apply below_drew1 | refine below_set ?_ b9.out | refine below_set ?_ d1.out | refine below_set ?_ d2.out | refine below_set ?_ d4.out) | exact HB.out)⟩
end Go.Proofs.Ythaaockbapbooaa.Pr
